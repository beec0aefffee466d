/- The walks of sets: Room, fits, Has. -/
import Derived.Test.YtbcifodifadoiaaMk
import Derived.Test.YtbcifodifadoiaaBtA
import Derived.Test.YtbcifodifadoiaaMut
import Derived.Test.YtbcifodifadoiaaOwnP
import Derived.Laws.BitsLemmas
namespace Go.Proofs.Ytbcifodifadoiaa.mkW
open Go Go.RowKit Go.Par Go.Kit Go.Proofs.Ytbcifodifadoiaa.Mk

abbrev TS : TypeId := 72
def b64 (x : BitVec 64) : Value := .int .u64 (x.toNat : Int)
/-- A set: its block g, its words' block h, its room n, its numbers S. -/
def MS (w : World) (g : Nat) (h : Option Nat) (n : Nat) (S : Nat → Bool) : Prop :=
  ∃ (A : Option Addr) (c : Nat) (ws : List (BitVec 64)), Blk w g TS [.int .i64 (n : Int), .slice A ws.length c] ∧ w.ownsRow 0 73 1 (.slice A ws.length c) ws.length (ws.map b64) ∧ (Value.slice A ws.length c).ownBlock = h ∧ (∀ k, h = some k → k ≠ g) ∧ GoodW n ws S
theorem MS.grow {w w' : World} {g : Nat} {h : Option Nat} {n : Nat} {S : Nat → Bool} (m : MS w g h n S) (hg : Grow w w') : MS w' g h n S := by
  obtain ⟨A, c, ws, h1, h2, h3⟩ := m
  exact ⟨A, c, ws, h1.grow hg, own_grow h2 hg, h3⟩
theorem MS.lt {w : World} {g : Nat} {h : Option Nat} {n : Nat} {S : Nat → Bool} (m : MS w g h n S) : g < w.heap.size ∧ ∀ k, h = some k → k < w.heap.size ∧ k ≠ g := by
  obtain ⟨A, c, ws, h1, h2, h3, h4, _⟩ := m
  exact ⟨h1.lt, fun k hk => ⟨(h2.lt k (h3.trans hk)).2, h4 k hk⟩⟩
/-- where an object may be written: from B on, and in no block of K -/
structure Free (B : Nat) (K : Nat → Prop) (g : Nat) (h : Option Nat) : Prop where
  g : B ≤ g ∧ ¬ K g
  h : ∀ k, h = some k → B ≤ k ∧ ¬ K k
theorem MS.keep {w w' : World} {B : Nat} {K : Nat → Prop} {g : Nat} {h : Option Nat} {n : Nat} {S : Nat → Bool} (m : MS w g h n S) (hk : Keep B K w w') (hg : g < B ∨ K g) (hh : ∀ k, h = some k → k < B ∨ K k) : MS w' g h n S := by
  have hlt := m.lt
  obtain ⟨A, c, ws, h1, h2, h3, h4, h5⟩ := m
  have hb : ∀ k, (k < B ∨ K k) → k < w.heap.size → w'.heap[k]? = w.heap[k]? := fun k h0 hl => by
    rcases h0 with h0 | h0
    · exact hk.1.block k h0
    · exact hk.2 k h0 hl
  refine ⟨A, c, ws, (hb g hg hlt.1).trans h1, ?_, h3, h4, h5⟩
  have hl2 := h2.lt
  obtain ⟨q1, q2⟩ := h2
  refine ⟨q1, ?_⟩
  rcases q2 with q2 | ⟨g', cap, cur, hv, q3, q4, q5⟩
  · exact .inl q2
  · have hgk : (Value.slice A ws.length c).ownBlock = some g' := by rw [hv]; rfl
    exact .inr ⟨g', cap, cur, hv, q3, (hb g' (hh g' (h3.symm.trans hgk)) (hl2 g' hgk).2).trans q4, q5⟩
theorem MS.good {w : World} {g : Nat} {h : Option Nat} {n : Nat} {S : Nat → Bool} (m : MS w g h n S) : n ≤ 65536 ∧ ∀ j, S j = true → j < n := by
  obtain ⟨A, c, ws, h1, h2, h3, h4, h5⟩ := m
  exact ⟨h5.1, h5.2.2.2⟩
theorem MS.ext {w : World} {g : Nat} {h : Option Nat} {n : Nat} {S T : Nat → Bool} (m : MS w g h n S) (e : ∀ j, S j = T j) : MS w g h n T := by
  have : S = T := funext e
  rwa [← this]
/-- the words at an index -/
theorem own64_at {w : World} {A : Option Addr} {c : Nat} {ws : List (BitVec 64)} (h : w.ownsRow 0 73 1 (.slice A ws.length c) ws.length (ws.map b64)) {k : Nat} {x : BitVec 64} (hx : ws[k]? = some x) :
    ∃ g, A = some ⟨g, 0, none⟩ ∧ (Value.slice A ws.length c).ownBlock = some g ∧ w.cell? ⟨g, k, none⟩ = some (.int .u64 (x.toNat : Int)) ∧ w.frozen? ⟨g, k, none⟩ = false ∧ ws.length ≤ c := by
  have hk := (List.getElem?_eq_some_iff.1 hx).1
  obtain ⟨g, cap, hv, _⟩ := h.form (by omega)
  injection hv with e1 e2 e3
  subst e1; subst e3
  have hc := h.cellAt k (by omega)
  obtain ⟨A', c', e', b1, _⟩ := own_form h
  injection e' with e1 e2 e3
  subst e3
  exact ⟨g, rfl, rfl, by rw [hc]; simp [hx, b64], h.frozenAt k, b1⟩

theorem i64_and63 (k : Nat) : bits .and .i64 (k : Int) 63 = ((k % 64 : Nat) : Int) := by
  have h127 : (BitVec.ofInt 64 63).toNat = 2 ^ 6 - 1 := by decide
  have key : (BitVec.ofInt 64 (k : Int) &&& BitVec.ofInt 64 63).toNat = ((k : Int) % ((2 ^ 64 : Nat) : Int)).toNat % 2 ^ 6 := by
    rw [BitVec.toNat_and, BitVec.toNat_ofInt, h127, Nat.and_two_pow_sub_one_eq_mod]
  show IntKind.i64.wrap ((BitVec.ofInt 64 (k : Int) &&& BitVec.ofInt 64 63).toNat : Nat) = _
  rw [key, IntKind.wrap_i64]
  omega
theorem bit_test64 (x : BitVec 64) (k : Nat) : (bits .and .u64 ((x.toNat : Int) / 2 ^ k) 1 == 1) = x.getLsbD k := by
  have e : bits .and .u64 ((x.toNat : Int) / 2 ^ k) 1 = ((x >>> k &&& 1#64).toNat : Int) := and64 (shr64 x k).symm rfl
  have h2 : x >>> k &&& 1#64 = if x.getLsbD k then 1#64 else 0#64 := by
    apply BitVec.eq_of_getLsbD_eq
    intro i hi
    rw [BitVec.getLsbD_and, BitVec.getLsbD_ushiftRight]
    rcases Nat.eq_zero_or_pos i with h | h
    · subst h
      cases x.getLsbD k <;> simp
    · have : (1#64).getLsbD i = false := by simp [BitVec.getLsbD_one]; omega
      rw [this]
      cases x.getLsbD k <;> simp <;> omega
  rw [e, h2]
  cases x.getLsbD k <;> rfl
theorem room_any (w : World) (g : Nat) (h : Option Nat) (n : Nat) (S : Nat → Bool) (m : MS w g h n S) :
    Calls Try.prog 37 #[.pointer (some ⟨g, 0, none⟩)] w fun e w' => e = .returned (.int .i64 (n : Int)) ∧ w = w' := by
  obtain ⟨A, c, ws, h1, h2, h3⟩ := m
  have c0 := h1.cell (i := 0) rfl
  clear h1 h2 h3
  go_enter Try.func37, Try.ntmps37
  go_wp2_with fail
  go_ret
  exact ⟨rfl, rfl⟩
theorem room_nil (w : World) : Calls Try.prog 37 #[.pointer none] w fun e w' => e = .returned (.int .i64 0) ∧ w = w' := by
  go_enter Try.func37, Try.ntmps37
  go_wp2_with fail
  go_ret
  exact ⟨rfl, rfl⟩
/-- within the room? -/
def fitB (n : Nat) (i : Int) : Bool := decide (0 ≤ i) && decide (i < (n : Int))
theorem fits_any (w : World) (g : Nat) (h : Option Nat) (n : Nat) (S : Nat → Bool) (m : MS w g h n S) (i : Int) :
    Calls Try.prog 36 #[.pointer (some ⟨g, 0, none⟩), .int .i64 i] w fun e w' => e = .returned (.bool (fitB n i)) ∧ w = w' := by
  obtain ⟨r, hr⟩ : ∃ r, r = fitB n i := ⟨_, rfl⟩
  rw [← hr]
  have HR := Lib.hid (room_any w g h n S m)
  unfold fitB at hr
  clear m
  by_cases h0 : 0 ≤ i
  · rw [decide_eq_true h0, Bool.true_and] at hr
    have t0 : decide (0 ≤ i) = true := decide_eq_true h0
    have HE := Lib.hid hr
    clear hr
    go_enter Try.func36, Try.ntmps36
    go_wp2_with fail
    refine HR.out.mono ?_
    rintro e w' ⟨rfl, rfl⟩
    go_wp2_with fail
    go_ret
    exact ⟨by rw [HE.out]; rfl, rfl⟩
  · rw [decide_eq_false h0, Bool.false_and] at hr
    have t0 : decide (0 ≤ i) = false := decide_eq_false h0
    have HE := Lib.hid hr
    clear hr
    go_enter Try.func36, Try.ntmps36
    go_wp2_with fail
    go_ret
    exact ⟨by rw [HE.out]; rfl, rfl⟩
theorem fits_nil (w : World) (i : Int) :
    Calls Try.prog 36 #[.pointer none, .int .i64 i] w fun e w' => e = .returned (.bool false) ∧ w = w' := by
  by_cases h0 : 0 ≤ i
  · have t0 : decide (0 ≤ i) = true := decide_eq_true h0
    have t1 : decide (i < 0) = false := decide_eq_false (by omega)
    go_enter Try.func36, Try.ntmps36
    go_wp2_with fail
    refine (room_nil w).mono ?_
    rintro e w' ⟨rfl, rfl⟩
    go_wp2_with fail
    go_ret
    exact ⟨rfl, rfl⟩
  · have t0 : decide (0 ≤ i) = false := decide_eq_false h0
    go_enter Try.func36, Try.ntmps36
    go_wp2_with fail
    go_ret
    exact ⟨rfl, rfl⟩
/-- is a number there? -/
def memI (S : Nat → Bool) (i : Int) : Bool := decide (0 ≤ i) && S i.toNat
theorem has_any (w : World) (g : Nat) (h : Option Nat) (n : Nat) (S : Nat → Bool) (m : MS w g h n S) (i : Int) :
    Calls Try.prog 25 #[.pointer (some ⟨g, 0, none⟩), .int .i64 i] w fun e w' => e = .returned (.bool (memI S i)) ∧ w = w' := by
  obtain ⟨r, hr⟩ : ∃ r, r = memI S i := ⟨_, rfl⟩
  rw [← hr]
  have hfi := fits_any w g h n S m i
  obtain ⟨hn, hlt⟩ := m.good
  by_cases hf : 0 ≤ i ∧ i < (n : Int)
  · rw [show fitB n i = true by unfold fitB; rw [decide_eq_true hf.1, decide_eq_true hf.2]; rfl] at hfi
    obtain ⟨k, rfl⟩ : ∃ k : Nat, i = k := ⟨i.toNat, by omega⟩
    rw [show memI S (k : Int) = S k by unfold memI; rw [decide_eq_true (by omega)]; rfl] at hr
    have hkn : k < n := by omega
    obtain ⟨A, c, ws, h1, h2, h3, h4, h5⟩ := m
    have hl := h5.lt hkn
    have hx : ws[k / 64]? = some ws[k / 64] := List.getElem?_eq_getElem hl
    have hb := bit_at hx
    rw [h5.2.2.1 k, ← hr] at hb
    obtain ⟨gw, rfl, hob, hcell, hfr, hcap⟩ := own64_at h2 hx
    generalize ws[k / 64] = x at hx hb hcell
    have c0 := h1.cell (i := 0) rfl
    have c1 := h1.cell (i := 1) rfl
    have HF := Lib.hid hfi
    have e63 := i64_and63 k
    obtain ⟨b, hbk⟩ : ∃ b, b = k % 64 := ⟨_, rfl⟩
    rw [← hbk] at e63 hb
    have hb64 : b < 64 := by omega
    have hmin : min b 64 = b := by omega
    have ht := bit_test64 x b
    rw [← hb] at ht
    clear h1 h2 h3 h4 h5 hr hx hb hfi hob hf hlt hbk
    go_enter Try.func25, Try.ntmps25
    go_wp2_with fail
    refine HF.out.mono ?_
    rintro e w' ⟨rfl, rfl⟩
    go_wp2_with fail
    go_ret
    exact ⟨rfl, rfl⟩
  · rw [show fitB n i = false by unfold fitB; rcases Decidable.em (0 ≤ i) with h0 | h0 <;> simp [h0] <;> omega] at hfi
    rw [show memI S i = false by unfold memI; rcases Decidable.em (0 ≤ i) with h0 | h0 <;> simp [h0]; rcases hS : S i.toNat with _ | _; rfl; have := hlt _ hS; omega] at hr
    have HE := Lib.hid hr
    have HF := Lib.hid hfi
    clear hr hfi m hlt
    go_enter Try.func25, Try.ntmps25
    go_wp2_with fail
    refine HF.out.mono ?_
    rintro e w' ⟨rfl, rfl⟩
    go_wp2_with fail
    go_ret
    exact ⟨by rw [HE.out]; rfl, rfl⟩
end Go.Proofs.Ytbcifodifadoiaa.mkW
