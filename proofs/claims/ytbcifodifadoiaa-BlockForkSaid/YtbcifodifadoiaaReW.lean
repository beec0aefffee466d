/- The walks of relations that only read them: fits, Len, Has, Alike, Before, Group. -/
import Derived.Test.YtbcifodifadoiaaMkW6
import Derived.Test.YtbcifodifadoiaaMp
import Derived.Test.YtbcifodifadoiaaRe
namespace Go.Proofs.Ytbcifodifadoiaa.reW
open Go Go.RowKit Go.Par Go.Kit Go.Proofs.Ytbcifodifadoiaa.Mk Go.Proofs.Ytbcifodifadoiaa.mkW Go.Proofs.Ytbcifodifadoiaa.Re

abbrev TR : TypeId := 53
abbrev TM : TypeId := 51
theorem zeroP (w : World) : (zeroValue 54).run Try.prog w = .ok (.pointer none) w := by kernel_rfl
/-- what a map value holds, by keys: a map, or nil -/
def LookP (w : World) (mv : Value) (F : Int → Option Nat) : Prop :=
  (∃ b n, mv = .map (some b) ∧ MapP w Try.prog 3 b n F) ∨ (mv = .map none ∧ F = fun _ => none)
theorem LookP.grow {w w' : World} {mv : Value} {F : Int → Option Nat} (h : LookP w mv F) (hg : Grow w w') : LookP w' mv F := by
  rcases h with ⟨b, n, e, h⟩ | h
  · exact .inl ⟨b, n, e, h.grow hg⟩
  · exact .inr h
theorem LookP.run {w : World} {mv : Value} {F : Int → Option Nat} (h : LookP w mv F) {i : Int} (h0 : -9223372036854775808 ≤ i) (h1 : i ≤ 9223372036854775807) :
    (Instr.lookup TM mv (.int .i64 i) false).run Try.prog w = .ok (pv (F i)) w := by
  have hi : wf64 i := by simp [wf64, Lit.wf, IntKind.min, IntKind.max, IntKind.signed, IntKind.bits]; omega
  rcases h with ⟨b, n, rfl, h⟩ | ⟨rfl, rfl⟩
  · exact h.lookup Try.underlying3 Try.underlying51 (zeroP w) hi
  · exact Maps.look_nil false (Maps.int_keyed Try.underlying3) Try.underlying51 (zeroP w) (Maps.keyOf_int_mk Try.underlying3 hi)
/-- what the map holds is what leads from each thing -/
structure SetsP (w : World) (F : Int → Option Nat) (n : Nat) (R : Nat → Nat → Bool) : Prop where
  some_ : ∀ (i : Int) (g : Nat), F i = some g → 0 ≤ i ∧ ∃ h, MS w g h n (R i.toNat)
  none_ : ∀ i : Int, F i = none → 0 ≤ i → ∀ j, R i.toNat j = false
theorem SetsP.grow {w w' : World} {F : Int → Option Nat} {n : Nat} {R : Nat → Nat → Bool} (h : SetsP w F n R) (hg : Grow w w') : SetsP w' F n R :=
  ⟨fun i g e => let ⟨h0, k, m⟩ := h.some_ i g e; ⟨h0, k, m.grow hg⟩, h.none_⟩
/-- A relation: of n things, R leads. -/
def RelP (w : World) (gr n : Nat) (R : Nat → Nat → Bool) : Prop :=
  n ≤ 65536 ∧ ∃ mv F, Blk w gr TR [.int .i64 (n : Int), mv] ∧ LookP w mv F ∧ SetsP w F n R
theorem RelP.grow {w w' : World} {gr n : Nat} {R : Nat → Nat → Bool} (h : RelP w gr n R) (hg : Grow w w') : RelP w' gr n R := by
  obtain ⟨h0, mv, F, h1, h2, h3⟩ := h
  exact ⟨h0, mv, F, h1.grow hg, h2.grow hg, h3.grow hg⟩
/-- does it lead, of any numbers -/
def leadI (R : Nat → Nat → Bool) (i j : Int) : Bool := decide (0 ≤ i) && (decide (0 ≤ j) && R i.toNat j.toNat)
theorem relHas {w : World} {F : Int → Option Nat} {n : Nat} {R : Nat → Nat → Bool} (h : SetsP w F n R) (i j : Int) :
    Calls Try.prog 25 #[pv (F i), .int .i64 j] w fun e w' => e = .returned (.bool (leadI R i j)) ∧ w = w' := by
  cases e : F i with
  | none =>
    have := has_nil w j
    rw [show leadI R i j = false by
      unfold leadI
      by_cases h0 : 0 ≤ i
      · rw [h.none_ i e h0]; simp
      · simp [h0]]
    exact this
  | some g =>
    obtain ⟨h0, k, m⟩ := h.some_ i g e
    rw [show leadI R i j = memI (R i.toNat) j by unfold leadI memI; simp [h0]]
    exact has_any w g k n _ m j
theorem relNext {w : World} {F : Int → Option Nat} {n : Nat} {R : Nat → Nat → Bool} (h : SetsP w F n R) {i : Int} (hi : 0 ≤ i) (a : Int) (ha : a ≤ 9223372036854775807) :
    Calls Try.prog 43 #[pv (F i), .int .i64 a] w fun e w' => e = .returned (.int .i64 (nextN n (R i.toNat) a)) ∧ w = w' := by
  cases e : F i with
  | none =>
    have := next_nil w a
    rw [show nextN n (R i.toNat) a = -1 by
      unfold nextN
      rw [List.find?_eq_none.2 fun x _ => by rw [h.none_ i e hi]; simp]]
    exact this
  | some g =>
    obtain ⟨h0, k, m⟩ := h.some_ i g e
    exact next_any w g k n _ m a ha

theorem fits_any (w : World) (i n : Int) : Calls Try.prog 22 #[.int .i64 i, .int .i64 n] w fun e w' => e = .returned (.bool (decide (0 ≤ i) && decide (i < n))) ∧ w = w' := by
  by_cases h0 : 0 ≤ i
  · obtain ⟨r, hr⟩ : ∃ r, r = decide (i < n) := ⟨_, rfl⟩
    have t0 : decide (0 ≤ i) = true := decide_eq_true h0
    rw [t0, ← hr, Bool.true_and]
    have HE := Lib.hid hr
    clear hr
    go_enter Try.func22, Try.ntmps22
    go_wp2_with fail
    go_ret
    exact ⟨by rw [HE.out]; rfl, rfl⟩
  · have t0 : decide (0 ≤ i) = false := decide_eq_false h0
    rw [t0, Bool.false_and]
    go_enter Try.func22, Try.ntmps22
    go_wp2_with fail
    go_ret
    exact ⟨rfl, rfl⟩
theorem len_any (w : World) (gr n : Nat) (R : Nat → Nat → Bool) (h : RelP w gr n R) : Calls Try.prog 33 #[.pointer (some ⟨gr, 0, none⟩)] w fun e w' => e = .returned (.int .i64 (n : Int)) ∧ w = w' := by
  obtain ⟨h0, mv, F, h1, h2⟩ := h
  have c0 := h1.cell (i := 0) rfl
  clear h0 h1 h2
  go_enter Try.func33, Try.ntmps33
  go_wp2_with fail
  go_ret
  exact ⟨rfl, rfl⟩
theorem len_nil (w : World) : Calls Try.prog 33 #[.pointer none] w fun e w' => e = .returned (.int .i64 0) ∧ w = w' := by
  go_enter Try.func33, Try.ntmps33
  go_wp2_with fail
  go_ret
  exact ⟨rfl, rfl⟩
theorem hasr_any (w : World) (gr n : Nat) (R : Nat → Nat → Bool) (h : RelP w gr n R) (i j : Int) (hi0 : -9223372036854775808 ≤ i) (hi1 : i ≤ 9223372036854775807) :
    Calls Try.prog 31 #[.pointer (some ⟨gr, 0, none⟩), .int .i64 i, .int .i64 j] w fun e w' => e = .returned (.bool (leadI R i j)) ∧ w = w' := by
  obtain ⟨h0, mv, F, h1, h2, h3⟩ := h
  have c1 := h1.cell (i := 1) rfl
  have hl := h2.run hi0 hi1
  have hh := relHas h3 i j
  obtain ⟨q, hq⟩ : ∃ q, q = pv (F i) := ⟨_, rfl⟩
  obtain ⟨r, hr⟩ : ∃ r, r = leadI R i j := ⟨_, rfl⟩
  rw [← hq] at hl hh
  rw [← hr] at hh ⊢
  have HH := Lib.hid hh
  clear h0 h1 h2 h3 hq hr hh hi0 hi1
  go_enter Try.func31, Try.ntmps31
  go_wp2_with fail
  refine HH.out.mono ?_
  rintro e w' ⟨rfl, rfl⟩
  go_wp2_with fail
  go_ret
  exact ⟨rfl, rfl⟩
theorem hasr_nil (w : World) (i j : Int) : Calls Try.prog 31 #[.pointer none, .int .i64 i, .int .i64 j] w fun e w' => e = .returned (.bool false) ∧ w = w' := by
  go_enter Try.func31, Try.ntmps31
  go_wp2_with fail
  go_ret
  exact ⟨rfl, rfl⟩
/-- alike, ahead: of any numbers -/
def alikeI (n : Nat) (R : Nat → Nat → Bool) (i j : Int) : Bool := (decide (0 ≤ i) && decide (i < (n : Int))) && (i == j || (leadI R i j && leadI R j i))
def aheadI (R : Nat → Nat → Bool) (i j : Int) : Bool := leadI R i j && !leadI R j i
def groupI (n : Nat) (R : Nat → Nat → Bool) (i : Int) : Int := if (decide (0 ≤ i) && decide (i < (n : Int))) then (groupN R i.toNat : Int) else -1
theorem before_any (w : World) (gr n : Nat) (R : Nat → Nat → Bool) (h : RelP w gr n R) (i j : Int) (hi0 : -9223372036854775808 ≤ i) (hi1 : i ≤ 9223372036854775807) (hj0 : -9223372036854775808 ≤ j) (hj1 : j ≤ 9223372036854775807) :
    Calls Try.prog 18 #[.pointer (some ⟨gr, 0, none⟩), .int .i64 i, .int .i64 j] w fun e w' => e = .returned (.bool (aheadI R i j)) ∧ w = w' := by
  have HA := Lib.hid (hasr_any w gr n R h i j hi0 hi1)
  have HB := Lib.hid (hasr_any w gr n R h j i hj0 hj1)
  obtain ⟨a, ha⟩ : ∃ a, a = leadI R i j := ⟨_, rfl⟩
  obtain ⟨b, hb⟩ : ∃ b, b = leadI R j i := ⟨_, rfl⟩
  unfold aheadI
  rw [← ha] at HA ⊢
  rw [← hb] at HB ⊢
  clear h ha hb hi0 hi1 hj0 hj1
  cases a
  · go_enter Try.func18, Try.ntmps18
    go_wp2_with fail
    refine HA.out.mono ?_
    rintro e w' ⟨rfl, rfl⟩
    go_wp2_with fail
    go_ret
    exact ⟨rfl, rfl⟩
  · go_enter Try.func18, Try.ntmps18
    go_wp2_with fail
    refine HA.out.mono ?_
    rintro e w' ⟨rfl, rfl⟩
    go_wp2_with fail
    refine HB.out.mono ?_
    rintro e w' ⟨rfl, rfl⟩
    go_wp2_with fail
    go_ret
    exact ⟨by cases b <;> rfl, rfl⟩
theorem before_nil (w : World) (i j : Int) : Calls Try.prog 18 #[.pointer none, .int .i64 i, .int .i64 j] w fun e w' => e = .returned (.bool false) ∧ w = w' := by
  have HA := Lib.hid (hasr_nil w i j)
  go_enter Try.func18, Try.ntmps18
  go_wp2_with fail
  refine HA.out.mono ?_
  rintro e w' ⟨rfl, rfl⟩
  go_wp2_with fail
  go_ret
  exact ⟨rfl, rfl⟩
end Go.Proofs.Ytbcifodifadoiaa.reW
