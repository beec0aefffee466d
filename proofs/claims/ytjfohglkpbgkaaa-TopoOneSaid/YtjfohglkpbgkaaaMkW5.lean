/- The walks of sets: List, Within, Same, Copy; Or, And of two sets, of nil. -/
import Derived.Test.YtjfohglkpbgkaaaMkW4
namespace Go.Proofs.Ytjfohglkpbgkaaa.mkW
open Go Go.RowKit Go.Par Go.Kit Go.Proofs.Ytjfohglkpbgkaaa.Mk

theorem infoI : (Try.prog.info? 3).isSome = true := by kernel_rfl
theorem iI : Try.prog.info? 3 = some ((Try.prog.info? 3).get infoI) := by simp
theorem iIs : ((Try.prog.info? 3).get infoI).size = 1 := by kernel_rfl
theorem iIz : ((Try.prog.info? 3).get infoI).zero = some (.int .i64 0) := by kernel_rfl
theorem iIb : ((Try.prog.info? 3).get infoI).bytes = 8 := by kernel_rfl
/-- how much is left behind the number z -/
def mz (n : Nat) (z : Int) : Nat := if z < 0 then 0 else n + 1 - z.toNat
theorem mz_neg {n j : Nat} (h : j < n) : mz n (-1) < mz n (j : Int) := by unfold mz; rw [if_pos (by decide), if_neg (by omega)]; omega
theorem mz_step {n j k : Nat} (h : j < k) (hk : k < n) : mz n (k : Int) < mz n (j : Int) := by unfold mz; rw [if_neg (by omega), if_neg (by omega)]; omega
def nv (n : Nat) : Value := .int .i64 (n : Int)
/-- the first k numbers' -/
def elemsTo (S : Nat → Bool) (k : Nat) : List Nat := (List.range k).filter S
theorem elemsTo_len (S : Nat → Bool) (k : Nat) : (elemsTo S k).length ≤ k := by
  have := List.length_filter_le S (List.range k)
  simpa [elemsTo] using this
theorem elemsTo_succ {S : Nat → Bool} {k : Nat} (h : S k = true) : elemsTo S (k + 1) = elemsTo S k ++ [k] := by
  unfold elemsTo; rw [List.range_succ, List.filter_append]; simp [h]
theorem elemsTo_no {S : Nat → Bool} {k : Nat} (h : S k = false) : elemsTo S (k + 1) = elemsTo S k := by
  unfold elemsTo; rw [List.range_succ, List.filter_append]; simp [h]
theorem elemsTo_skip {S : Nat → Bool} {a : Nat} : ∀ d, (∀ i, a ≤ i → i < a + d → S i = false) → elemsTo S (a + d) = elemsTo S a
  | 0, _ => rfl
  | d + 1, h => by
    rw [← Nat.add_assoc, elemsTo_no (h (a + d) (by omega) (by omega)), elemsTo_skip d fun i h1 h2 => h i h1 (by omega)]
/-- where a walk by Next stands: behind all below a -/
theorem next_step (n : Nat) (S : Nat → Bool) (a : Nat) (hl : ∀ j, S j = true → j < n) : (nextN n S (a : Int) = -1 ∧ elemsTo S a = elems n S) ∨ ∃ j : Nat, nextN n S (a : Int) = (j : Int) ∧ a ≤ j ∧ j < n ∧ S j = true ∧ elemsTo S (j + 1) = elemsTo S a ++ [j] := by
  rcases nextN_cases n S (a : Int) with ⟨h1, h2⟩ | ⟨j, h1, h2, h3, h4, h5⟩
  · left
    refine ⟨h1, ?_⟩
    have e : elems n S = elemsTo S n := rfl
    rw [e]
    by_cases han : a ≤ n
    · have := elemsTo_skip (S := S) (a := a) (n - a) (fun i h3 h4 => h2 i (by omega) (by omega))
      rw [show a + (n - a) = n by omega] at this
      exact this.symm
    · have := elemsTo_skip (S := S) (a := n) (a - n) (fun i h3 h4 => by
        rcases hS : S i with _ | _
        · rfl
        · have := hl i hS; omega)
      rw [show n + (a - n) = a by omega] at this
      exact this
  · right
    refine ⟨j, h1, by omega, h2, h4, ?_⟩
    rw [elemsTo_succ h4]
    congr 1
    have := elemsTo_skip (S := S) (a := a) (j - a) (fun i h6 h7 => h5 i (by omega) (by omega))
    rw [show a + (j - a) = j by omega] at this
    exact this

set_option maxRecDepth 100000 in
set_option maxHeartbeats 1000000 in
theorem list_any (w : World) (g : Nat) (h : Option Nat) (n : Nat) (S : Nat → Bool) (m : MS w g h n S) :
    Calls Try.prog 34 #[.pointer (some ⟨g, 0, none⟩)] w fun e w' => ∃ v, e = .returned v ∧ w'.ownsRow w.heap.size 3 1 v (elems n S).length ((elems n S).map nv) ∧ Grow w w' := by
  obtain ⟨hn65, hl⟩ := m.good
  have HM := Lib.hid m
  have HL := Lib.hid hl
  obtain ⟨E, hE⟩ : ∃ E, E = elems n S := ⟨_, rfl⟩
  rw [← hE]
  have HE := Lib.hid hE
  have H0 := Lib.hid (next_any w g h n S m 0 (by decide))
  have hst := next_step n S 0 hl
  clear m hl hE
  go_enter Try.func34, Try.ntmps34
  go_wp2_with fail
  refine H0.out.mono ?_
  rintro e w' ⟨rfl, rfl⟩
  go_wp2_with fail
  go_loopw [3, 4] (fun v i wr => ∃ z : Int, i = .int .i64 z ∧ Grow w wr ∧ ((z = -1 ∧ wr.ownsRow w.heap.size 3 1 v E.length (E.map nv)) ∨ ∃ j a : Nat, z = (j : Int) ∧ a ≤ j ∧ j < n ∧ Hid (elemsTo S (j + 1) = elemsTo S a ++ [j]) ∧ wr.ownsRow w.heap.size 3 1 v (elemsTo S a).length ((elemsTo S a).map nv))) (fun _ i _ => mz n (intOf i))
  case atStart =>
    rcases hst with ⟨h1, h2⟩ | ⟨j, h1, h2, h3, h4, h5⟩
    · refine ⟨_, rfl, Grow.refl _, .inl ⟨h1, ?_⟩⟩
      have hn : E = [] := by rw [HE.out, ← h2]; rfl
      rw [hn]; exact World.ownsRow_nil _ _ _ _
    · exact ⟨_, rfl, Grow.refl _, .inr ⟨j, 0, h1, by omega, h3, Lib.hid h5, World.ownsRow_nil _ _ _ _⟩⟩
  case round =>
    clear hst
    obtain ⟨z, rfl, hg, hcs⟩ := hrel
    rcases hcs with ⟨rfl, ho⟩ | ⟨j, a, rfl, haj, hjn, hst, ho⟩
    · obtain ⟨A, c, rfl, -, -, -⟩ := own_form ho
      have HO := Lib.hid ho
      clear ho
      go_wp2_with fail
      go_ret
      exact ⟨_, rfl, HO.out, hg⟩
    · have HNX := Lib.hid (fun W hg => next_any W g h n S (HM.out.grow hg) ((j : Int) + 1) (by omega))
      have hs2 := next_step n S (j + 1) HL.out
      have hle := elemsTo_len S a
      obtain ⟨La, hLa⟩ : ∃ La, La = elemsTo S a := ⟨_, rfl⟩
      rw [← hLa] at ho hle hst
      have hsz : w.heap.size ≤ wr.heap.size := hg.size
      have HG := Lib.hid hg
      have HS2 := Lib.hid hs2
      have hlim : La.length + 1 ≤ maxLen := by unfold maxLen; omega
      have hlim2 : (La.length + 1) * 8 ≤ 140737488355328 := by omega
      have hown := ho
      clear ho hLa hs2 hg H0
      go_wp2_with (at_builtin; refine append_fresh 8 Try.underlying22 iI iIz iIs iIb rfl rfl _ _ rfl w.heap.size _ _ _ hown rfl rfl rfl hlim hlim2 hsz ?_; intro v1 w1 hown1 hgb1 hh1)
      have hg1 := grow_by (HG.out.trans (Grow.alloc wr _)) hgb1 (own_base hown)
      have ho2 : w1.ownsRow w.heap.size 3 1 v1 (elemsTo S (j + 1)).length ((elemsTo S (j + 1)).map nv) := by
        rw [hst.out]; simpa [nv] using hown1
      obtain ⟨A1, c1, rfl, -, -, -⟩ := own_form hown1
      have HG1 := Lib.hid hg1
      have HO2 := Lib.hid ho2
      have HZ : Hid (((j : Int) + 1) = ((j + 1 : Nat) : Int)) := Lib.hid (by omega)
      clear hg1 ho2 hown1 hgb1 hh1 hown hst
      refine (HNX.out w1 HG1.out).mono ?_
      rintro e w' ⟨rfl, rfl⟩
      go_wp2_with fail
      go_roundw
      case rel =>
        refine ⟨_, rfl, HG1.out, ?_⟩
        rcases HS2.out with ⟨h1, h2⟩ | ⟨j2, h1, h2, h3, h4, h5⟩
        · exact .inl ⟨by rw [HZ.out]; exact h1, by rw [HE.out, ← h2]; exact HO2.out⟩
        · exact .inr ⟨j2, j + 1, by rw [HZ.out]; exact h1, by omega, h3, Lib.hid h5, HO2.out⟩
      case measure =>
        rcases HS2.out with ⟨h1, _⟩ | ⟨j2, h1, h2, h3, _⟩
        · rw [HZ.out, h1]; exact mz_neg hjn
        · rw [HZ.out, h1]; exact mz_step (by omega) h3

/-- has T all of S? -/
def allIn (n : Nat) (S T : Nat → Bool) : Bool := (elems n S).all T
theorem allIn_of {n : Nat} {S T : Nat → Bool} (h : ∀ j, S j = true → T j = true) : allIn n S T = true := by
  unfold allIn elems
  rw [List.all_eq_true]
  intro j hj
  rw [List.mem_filter] at hj
  exact h j hj.2
theorem allIn_not {n : Nat} {S T : Nat → Bool} {j : Nat} (hj : j < n) (h1 : S j = true) (h2 : T j = false) : allIn n S T = false := by
  rw [Bool.eq_false_iff]
  intro h
  unfold allIn elems at h
  rw [List.all_eq_true] at h
  have := h j (by rw [List.mem_filter]; exact ⟨List.mem_range.2 hj, h1⟩)
  rw [h2] at this
  cases this
theorem allIn_get {n : Nat} {S T : Nat → Bool} (hl : ∀ j, S j = true → j < n) (h : allIn n S T = true) : ∀ j, S j = true → T j = true := by
  intro j hj
  rcases hT : T j with _ | _
  · rw [allIn_not (hl j hj) hj hT] at h; cases h
  · rfl

set_option maxRecDepth 100000 in
set_option maxHeartbeats 1000000 in
theorem within_gen (w : World) (av bv : Value) (n : Nat) (S T : Nat → Bool) (hn : n ≤ 65536) (hl : ∀ j, S j = true → j < n)
    (HN : ∀ a : Int, a ≤ 9223372036854775807 → Calls Try.prog 30 #[av, .int .i64 a] w fun e w' => e = .returned (.int .i64 (nextN n S a)) ∧ w = w')
    (HH : ∀ a : Int, Calls Try.prog 28 #[bv, .int .i64 a] w fun e w' => e = .returned (.bool (memI T a)) ∧ w = w') :
    Calls Try.prog 18 #[av, bv] w fun e w' => e = .returned (.bool (allIn n S T)) ∧ w = w' := by
  have H0 := Lib.hid (HN 0 (by decide))
  have hst := next_step n S 0 hl
  obtain ⟨r, hr⟩ : ∃ r, r = allIn n S T := ⟨_, rfl⟩
  rw [← hr]
  have HR := Lib.hid hr
  have HL := Lib.hid hl
  have HNX := Lib.hid HN
  have HHS := Lib.hid HH
  have h0 : (nextN n S 0 = -1 ∧ ∀ i, S i = false) ∨ ∃ j : Nat, nextN n S 0 = (j : Int) ∧ j < n ∧ S j = true ∧ ∀ i, i < j → S i = false := by
    rcases nextN_cases n S 0 with ⟨h1, h2⟩ | ⟨j, h1, h2, h3, h4, h5⟩
    · exact .inl ⟨h1, fun i => by
        rcases hS : S i with _ | _
        · rfl
        · rw [h2 i (hl i hS) (by omega)] at hS; cases hS⟩
    · exact .inr ⟨j, h1, h2, h4, fun i hi => h5 i hi (by omega)⟩
  clear hst hr hl HN HH
  go_enter Try.func18, Try.ntmps18
  go_wp2_with fail
  refine H0.out.mono ?_
  rintro e w' ⟨rfl, rfl⟩
  go_wp2_with fail
  go_loop [5] (fun i => ∃ z : Int, i = .int .i64 z ∧ ((z = -1 ∧ Hid (∀ i, S i = true → T i = true)) ∨ ∃ j : Nat, z = (j : Int) ∧ j < n ∧ Hid (S j = true) ∧ Hid (∀ i, i < j → S i = true → T i = true))) (fun i => mz n (intOf i))
  case atStart =>
    rcases h0 with ⟨h1, h2⟩ | ⟨j, h1, h2, h3, h4⟩
    · exact ⟨_, rfl, .inl ⟨h1, Lib.hid fun i hi => by rw [h2 i] at hi; cases hi⟩⟩
    · exact ⟨_, rfl, .inr ⟨j, h1, h2, Lib.hid h3, Lib.hid fun i hi hS => by rw [h4 i hi] at hS; cases hS⟩⟩
  case round =>
    clear h0
    obtain ⟨z, rfl, hcs⟩ := hrel
    rcases hcs with ⟨rfl, hall⟩ | ⟨j, rfl, hjn, hS, hall⟩
    · have hr1 : r = true := by rw [HR.out]; exact allIn_of hall.out
      have HR1 := Lib.hid hr1
      clear hr1 hall
      go_wp2_with fail
      go_ret
      exact ⟨by rw [HR1.out]; rfl, rfl⟩
    · have hh := HHS.out (j : Int)
      rw [show memI T (j : Int) = T j by unfold memI; rw [decide_eq_true (by omega)]; rfl] at hh
      cases hT : T j
      · rw [hT] at hh
        have hr1 : r = false := by rw [HR.out]; exact allIn_not hjn hS.out hT
        have HR1 := Lib.hid hr1
        have H1 := Lib.hid hh
        clear hr1 hall hh hT hS
        go_wp2_with fail
        refine H1.out.mono ?_
        rintro e w' ⟨rfl, rfl⟩
        go_wp2_with fail
        go_ret
        exact ⟨by rw [HR1.out]; rfl, rfl⟩
      · rw [hT] at hh
        have H1 := Lib.hid hh
        have H2 := Lib.hid (HNX.out ((j : Int) + 1) (by omega))
        have hcs : (nextN n S ((j : Int) + 1) = -1 ∧ ∀ i, S i = true → T i = true) ∨ ∃ j2 : Nat, nextN n S ((j : Int) + 1) = (j2 : Int) ∧ j < j2 ∧ j2 < n ∧ S j2 = true ∧ ∀ i, i < j2 → S i = true → T i = true := by
          have key : ∀ i, i < j + 1 → S i = true → T i = true := fun i hi hs => by
            by_cases hij : i < j
            · exact hall.out i hij hs
            · obtain rfl : i = j := by omega
              exact hT
          rcases nextN_cases n S ((j : Int) + 1) with ⟨h1, h2⟩ | ⟨j2, h1, h2, h3, h4, h5⟩
          · refine .inl ⟨h1, fun i hi => ?_⟩
            by_cases hij : i < j + 1
            · exact key i hij hi
            · rw [h2 i (HL.out i hi) (by omega)] at hi; cases hi
          · refine .inr ⟨j2, h1, by omega, h2, h4, fun i hi hs => ?_⟩
            by_cases hij : i < j + 1
            · exact key i hij hs
            · rw [h5 i hi (by omega)] at hs; cases hs
        have HCS := Lib.hid hcs
        clear hh hT hS hall hcs
        go_wp2_with fail
        refine H1.out.mono ?_
        rintro e w' ⟨rfl, rfl⟩
        go_wp2_with fail
        refine H2.out.mono ?_
        rintro e w' ⟨rfl, rfl⟩
        go_wp2_with fail
        go_round
        case rel =>
          refine ⟨_, rfl, ?_⟩
          rcases HCS.out with ⟨h1, h2⟩ | ⟨j2, h1, h2, h3, h4, h5⟩
          · exact .inl ⟨h1, Lib.hid h2⟩
          · exact .inr ⟨j2, h1, h3, Lib.hid h4, Lib.hid h5⟩
        case measure =>
          rcases HCS.out with ⟨h1, _⟩ | ⟨j2, h1, h2, h3, _⟩
          · rw [h1]; exact mz_neg hjn
          · rw [h1]; exact mz_step h2 h3
theorem same_gen (w : World) (av bv : Value) (r1 r2 : Bool)
    (H1 : Calls Try.prog 18 #[av, bv] w fun e w' => e = .returned (.bool r1) ∧ w = w')
    (H2 : Calls Try.prog 18 #[bv, av] w fun e w' => e = .returned (.bool r2) ∧ w = w') :
    Calls Try.prog 17 #[av, bv] w fun e w' => e = .returned (.bool (r1 && r2)) ∧ w = w' := by
  have A1 := Lib.hid H1
  have A2 := Lib.hid H2
  clear H1 H2
  cases r1
  · go_enter Try.func17, Try.ntmps17
    go_wp2_with fail
    refine A1.out.mono ?_
    rintro e w' ⟨rfl, rfl⟩
    go_wp2_with fail
    go_ret
    exact ⟨rfl, rfl⟩
  · go_enter Try.func17, Try.ntmps17
    go_wp2_with fail
    refine A1.out.mono ?_
    rintro e w' ⟨rfl, rfl⟩
    go_wp2_with fail
    refine A2.out.mono ?_
    rintro e w' ⟨rfl, rfl⟩
    go_wp2_with fail
    go_ret
    exact ⟨rfl, rfl⟩
end Go.Proofs.Ytjfohglkpbgkaaa.mkW
