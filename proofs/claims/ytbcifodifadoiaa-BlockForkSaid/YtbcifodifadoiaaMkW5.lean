/- The walks of sets: List, Within, Same, Copy; Or, And of two sets, of nil. -/
import Derived.Test.YtbcifodifadoiaaMkW4
namespace Go.Proofs.Ytbcifodifadoiaa.mkW
open Go Go.RowKit Go.Par Go.Kit Go.Proofs.Ytbcifodifadoiaa.Mk

theorem infoI : (Try.prog.info? 3).isSome = true := by kernel_rfl
theorem iI : Try.prog.info? 3 = some ((Try.prog.info? 3).get infoI) := by simp
theorem iIs : ((Try.prog.info? 3).get infoI).size = 1 := by kernel_rfl
theorem iIz : ((Try.prog.info? 3).get infoI).zero = some (.int .i64 0) := by kernel_rfl
theorem iIb : ((Try.prog.info? 3).get infoI).bytes = 8 := by kernel_rfl
/-- how much is left behind the number z -/
def mz (n : Nat) (z : Int) : Nat := if z < 0 then 0 else n + 1 - z.toNat
theorem mz_neg {n j : Nat} (h : j < n) : mz n (-1) < mz n (j : Int) := by unfold mz; rw [if_pos (by decide), if_neg (by omega)]; omega
theorem mz_step {n j k : Nat} (h : j < k) (hk : k < n) : mz n (k : Int) < mz n (j : Int) := by unfold mz; rw [if_neg (by omega), if_neg (by omega)]; omega
def nv (n : Nat) : Value := .int .i64 (n : Int)
/-- the first k numbers' -/
def elemsTo (S : Nat → Bool) (k : Nat) : List Nat := (List.range k).filter S
theorem elemsTo_len (S : Nat → Bool) (k : Nat) : (elemsTo S k).length ≤ k := by
  have := List.length_filter_le S (List.range k)
  simpa [elemsTo] using this
theorem elemsTo_succ {S : Nat → Bool} {k : Nat} (h : S k = true) : elemsTo S (k + 1) = elemsTo S k ++ [k] := by
  unfold elemsTo; rw [List.range_succ, List.filter_append]; simp [h]
theorem elemsTo_no {S : Nat → Bool} {k : Nat} (h : S k = false) : elemsTo S (k + 1) = elemsTo S k := by
  unfold elemsTo; rw [List.range_succ, List.filter_append]; simp [h]
theorem elemsTo_skip {S : Nat → Bool} {a : Nat} : ∀ d, (∀ i, a ≤ i → i < a + d → S i = false) → elemsTo S (a + d) = elemsTo S a
  | 0, _ => rfl
  | d + 1, h => by
    rw [← Nat.add_assoc, elemsTo_no (h (a + d) (by omega) (by omega)), elemsTo_skip d fun i h1 h2 => h i h1 (by omega)]
/-- where a walk by Next stands: behind all below a -/
theorem next_step (n : Nat) (S : Nat → Bool) (a : Nat) (hl : ∀ j, S j = true → j < n) : (nextN n S (a : Int) = -1 ∧ elemsTo S a = elems n S) ∨ ∃ j : Nat, nextN n S (a : Int) = (j : Int) ∧ a ≤ j ∧ j < n ∧ S j = true ∧ elemsTo S (j + 1) = elemsTo S a ++ [j] := by
  rcases nextN_cases n S (a : Int) with ⟨h1, h2⟩ | ⟨j, h1, h2, h3, h4, h5⟩
  · left
    refine ⟨h1, ?_⟩
    have e : elems n S = elemsTo S n := rfl
    rw [e]
    by_cases han : a ≤ n
    · have := elemsTo_skip (S := S) (a := a) (n - a) (fun i h3 h4 => h2 i (by omega) (by omega))
      rw [show a + (n - a) = n by omega] at this
      exact this.symm
    · have := elemsTo_skip (S := S) (a := n) (a - n) (fun i h3 h4 => by
        rcases hS : S i with _ | _
        · rfl
        · have := hl i hS; omega)
      rw [show n + (a - n) = a by omega] at this
      exact this
  · right
    refine ⟨j, h1, by omega, h2, h4, ?_⟩
    rw [elemsTo_succ h4]
    congr 1
    have := elemsTo_skip (S := S) (a := a) (j - a) (fun i h6 h7 => h5 i (by omega) (by omega))
    rw [show a + (j - a) = j by omega] at this
    exact this

/-- has T all of S? -/
def allIn (n : Nat) (S T : Nat → Bool) : Bool := (elems n S).all T
theorem allIn_of {n : Nat} {S T : Nat → Bool} (h : ∀ j, S j = true → T j = true) : allIn n S T = true := by
  unfold allIn elems
  rw [List.all_eq_true]
  intro j hj
  rw [List.mem_filter] at hj
  exact h j hj.2
theorem allIn_not {n : Nat} {S T : Nat → Bool} {j : Nat} (hj : j < n) (h1 : S j = true) (h2 : T j = false) : allIn n S T = false := by
  rw [Bool.eq_false_iff]
  intro h
  unfold allIn elems at h
  rw [List.all_eq_true] at h
  have := h j (by rw [List.mem_filter]; exact ⟨List.mem_range.2 hj, h1⟩)
  rw [h2] at this
  cases this
theorem allIn_get {n : Nat} {S T : Nat → Bool} (hl : ∀ j, S j = true → j < n) (h : allIn n S T = true) : ∀ j, S j = true → T j = true := by
  intro j hj
  rcases hT : T j with _ | _
  · rw [allIn_not (hl j hj) hj hT] at h; cases h
  · rfl

set_option maxRecDepth 100000 in
set_option maxHeartbeats 1000000 in
theorem within_gen (w : World) (av bv : Value) (n : Nat) (S T : Nat → Bool) (hn : n ≤ 65536) (hl : ∀ j, S j = true → j < n)
    (HN : ∀ a : Int, a ≤ 9223372036854775807 → Calls Try.prog 43 #[av, .int .i64 a] w fun e w' => e = .returned (.int .i64 (nextN n S a)) ∧ w = w')
    (HH : ∀ a : Int, Calls Try.prog 25 #[bv, .int .i64 a] w fun e w' => e = .returned (.bool (memI T a)) ∧ w = w') :
    Calls Try.prog 35 #[av, bv] w fun e w' => e = .returned (.bool (allIn n S T)) ∧ w = w' := by
  have H0 := Lib.hid (HN 0 (by decide))
  have hst := next_step n S 0 hl
  obtain ⟨r, hr⟩ : ∃ r, r = allIn n S T := ⟨_, rfl⟩
  rw [← hr]
  have HR := Lib.hid hr
  have HL := Lib.hid hl
  have HNX := Lib.hid HN
  have HHS := Lib.hid HH
  have h0 : (nextN n S 0 = -1 ∧ ∀ i, S i = false) ∨ ∃ j : Nat, nextN n S 0 = (j : Int) ∧ j < n ∧ S j = true ∧ ∀ i, i < j → S i = false := by
    rcases nextN_cases n S 0 with ⟨h1, h2⟩ | ⟨j, h1, h2, h3, h4, h5⟩
    · exact .inl ⟨h1, fun i => by
        rcases hS : S i with _ | _
        · rfl
        · rw [h2 i (hl i hS) (by omega)] at hS; cases hS⟩
    · exact .inr ⟨j, h1, h2, h4, fun i hi => h5 i hi (by omega)⟩
  clear hst hr hl HN HH
  go_enter Try.func35, Try.ntmps35
  go_wp2_with fail
  refine H0.out.mono ?_
  rintro e w' ⟨rfl, rfl⟩
  go_wp2_with fail
  go_loop [5] (fun i => ∃ z : Int, i = .int .i64 z ∧ ((z = -1 ∧ Hid (∀ i, S i = true → T i = true)) ∨ ∃ j : Nat, z = (j : Int) ∧ j < n ∧ Hid (S j = true) ∧ Hid (∀ i, i < j → S i = true → T i = true))) (fun i => mz n (intOf i))
  case atStart =>
    rcases h0 with ⟨h1, h2⟩ | ⟨j, h1, h2, h3, h4⟩
    · exact ⟨_, rfl, .inl ⟨h1, Lib.hid fun i hi => by rw [h2 i] at hi; cases hi⟩⟩
    · exact ⟨_, rfl, .inr ⟨j, h1, h2, Lib.hid h3, Lib.hid fun i hi hS => by rw [h4 i hi] at hS; cases hS⟩⟩
  case round =>
    clear h0
    obtain ⟨z, rfl, hcs⟩ := hrel
    rcases hcs with ⟨rfl, hall⟩ | ⟨j, rfl, hjn, hS, hall⟩
    · have hr1 : r = true := by rw [HR.out]; exact allIn_of hall.out
      have HR1 := Lib.hid hr1
      clear hr1 hall
      go_wp2_with fail
      go_ret
      exact ⟨by rw [HR1.out]; rfl, rfl⟩
    · have hh := HHS.out (j : Int)
      rw [show memI T (j : Int) = T j by unfold memI; rw [decide_eq_true (by omega)]; rfl] at hh
      cases hT : T j
      · rw [hT] at hh
        have hr1 : r = false := by rw [HR.out]; exact allIn_not hjn hS.out hT
        have HR1 := Lib.hid hr1
        have H1 := Lib.hid hh
        clear hr1 hall hh hT hS
        go_wp2_with fail
        refine H1.out.mono ?_
        rintro e w' ⟨rfl, rfl⟩
        go_wp2_with fail
        go_ret
        exact ⟨by rw [HR1.out]; rfl, rfl⟩
      · rw [hT] at hh
        have H1 := Lib.hid hh
        have H2 := Lib.hid (HNX.out ((j : Int) + 1) (by omega))
        have hcs : (nextN n S ((j : Int) + 1) = -1 ∧ ∀ i, S i = true → T i = true) ∨ ∃ j2 : Nat, nextN n S ((j : Int) + 1) = (j2 : Int) ∧ j < j2 ∧ j2 < n ∧ S j2 = true ∧ ∀ i, i < j2 → S i = true → T i = true := by
          have key : ∀ i, i < j + 1 → S i = true → T i = true := fun i hi hs => by
            by_cases hij : i < j
            · exact hall.out i hij hs
            · obtain rfl : i = j := by omega
              exact hT
          rcases nextN_cases n S ((j : Int) + 1) with ⟨h1, h2⟩ | ⟨j2, h1, h2, h3, h4, h5⟩
          · refine .inl ⟨h1, fun i hi => ?_⟩
            by_cases hij : i < j + 1
            · exact key i hij hi
            · rw [h2 i (HL.out i hi) (by omega)] at hi; cases hi
          · refine .inr ⟨j2, h1, by omega, h2, h4, fun i hi hs => ?_⟩
            by_cases hij : i < j + 1
            · exact key i hij hs
            · rw [h5 i hi (by omega)] at hs; cases hs
        have HCS := Lib.hid hcs
        clear hh hT hS hall hcs
        go_wp2_with fail
        refine H1.out.mono ?_
        rintro e w' ⟨rfl, rfl⟩
        go_wp2_with fail
        refine H2.out.mono ?_
        rintro e w' ⟨rfl, rfl⟩
        go_wp2_with fail
        go_round
        case rel =>
          refine ⟨_, rfl, ?_⟩
          rcases HCS.out with ⟨h1, h2⟩ | ⟨j2, h1, h2, h3, h4, h5⟩
          · exact .inl ⟨h1, Lib.hid h2⟩
          · exact .inr ⟨j2, h1, h3, Lib.hid h4, Lib.hid h5⟩
        case measure =>
          rcases HCS.out with ⟨h1, _⟩ | ⟨j2, h1, h2, h3, _⟩
          · rw [h1]; exact mz_neg hjn
          · rw [h1]; exact mz_step h2 h3
end Go.Proofs.Ytbcifodifadoiaa.mkW
