/- The statements of the numbers in bytes: the walks of the laws. -/
import Derived.Test.YtfmaicjgndbffaaViR2
import Derived.Test.YtfmaicjgndbffaaPar
namespace Go.Proofs.Ytfmaicjgndbffaa.viL
open Go Go.RowKit Go.Par Go.Kit Vi viW

/-- a value that is a slice of just these bytes -/
def IsB (l : List UInt8) : Value → World → Prop := fun u w => ∃ A c, u = .slice A l.length c ∧ l.length ≤ c ∧ c ≤ maxLen ∧ Bytes w A l.length l
theorem IsB.mono {l : List UInt8} : Mono Grow (IsB l) := fun _ _ _ h hg => let ⟨A, c, e, h1, h2, h3⟩ := h; ⟨A, c, e, h1, h2, h3.grow hg⟩

theorem read_as {A : Option Addr} {n c : Nat} {l : List UInt8} {w : World} (hr : Bytes w A n l) (hc : n ≤ c) (hn : n ≤ maxLen) {a b d : Nat} (h : rd l = (a, b, d)) :
    Calls Try.prog 18 #[.slice A n c] w fun e w' => e = .returned (.tuple #[.int .u64 (a : Int), .int .i64 (b : Int), .int .i64 (d : Int)]) ∧ w = w' := by
  refine (read_any A n c l w hr hc hn).mono ?_
  rintro e w' ⟨rfl, rfl⟩
  exact ⟨by rw [rdE, h], rfl⟩
theorem ref_read_as {A : Option Addr} {n c : Nat} {l : List UInt8} {w : World} (hr : Bytes w A n l) (hn : n ≤ maxLen) {a b d : Nat} (h : rd l = (a, b, d)) :
    Calls Try.prog 19 #[.slice A n c] w fun e w' => e = .returned (.tuple #[.int .u64 (a : Int), .int .i64 (b : Int), .int .i64 (d : Int)]) ∧ w = w' := by
  refine (ref_read_any A n c l w hr hn).mono ?_
  rintro e w' ⟨rfl, rfl⟩
  exact ⟨by rw [rdE, h], rfl⟩
theorem bytes300 (w : World) : Calls Try.prog 15 #[.int .u64 300] w fun e w' => ∃ A c, e = .returned (.slice A 2 c) ∧ 2 ≤ c ∧ c ≤ maxLen ∧ Bytes w' A 2 [172, 2] ∧ Grow w w' := bytes_any 300 (by decide) w
theorem size300 (w : World) : Calls Try.prog 16 #[.int .u64 300] w fun e w' => e = .returned (.int .i64 2) ∧ w = w' := size_any 300 (by decide) w

theorem rd_lt {l : List UInt8} {n k e : Nat} (h : rd l = (n, k, e)) : n < 18446744073709551616 := by
  unfold rd at h
  split at h
  · simp only [Prod.mk.injEq] at h; omega
  rename_i h10
  split at h
  · simp only [Prod.mk.injEq] at h; omega
  · rename_i x hx
    split at h
    · simp only [Prod.mk.injEq] at h; omega
    · rename_i hno
      have := val_fit hx (by omega) (fun hh => hno (.inr hh))
      simp only [Prod.mk.injEq] at h; omega

set_option maxHeartbeats 400000 in
theorem works_any (w : World) : Calls Try.prog 17 #[] w fun e w' => e = .returned (.bool true) ∧ Grow w w' := by
  go_enter Try.func17, Try.ntmps17
  go_wp2_with fail
  refine (read_as (n := 2) (c := 2) (l := [128, 0]) (Bytes.new w [128, 0] _ _ rfl rfl rfl) (Nat.le_refl _) (by decide) (show rd [128, 0] = (0, 0, 4) by decide)).mono ?_
  rintro e w1 ⟨rfl, rfl⟩
  go_wp2_with fail
  refine (bytes300 _).mono ?_
  rintro e w2 ⟨A, c, rfl, a1, a2, a3, a4⟩
  have hcs := conv_str (P := Try.prog) Try.underlying23 Try.underlying5 Try.underlying9 a3 c
  have hstr : str [172, 2] = ByteArray.mk #[172, 2] := rfl
  rw [hstr] at hcs
  clear hstr
  have HG := Lib.hid ((Grow.alloc w _).trans a4)
  clear a4
  go_wp2_with fail
  refine (size300 _).mono ?_
  rintro e w3 ⟨rfl, rfl⟩
  go_wp2_with fail
  go_ret
  exact ⟨rfl, HG.out⟩

set_option maxRecDepth 100000 in
set_option maxHeartbeats 1000000 in
theorem writes_walk (n : Nat) (hn : n < 18446744073709551616) (w : World) : Calls Try.prog 3 #[.int .u64 (n : Int)] w fun e w' => e = .returned (.bool true) ∧ Grow w w' := by
  have h1 := Lib.hid (ref_bytes_any n hn)
  have h2 := Lib.hid (bytes_any n hn)
  have h3 := Lib.hid (size_any n hn)
  have h10 := vb_len_le n
  generalize vb n = B at h1 h2 h3 h10
  go_enter Try.func3, Try.ntmps3
  go_wp2_with fail
  refine (h1.out _).mono ?_
  rintro e w1 ⟨A, c, rfl, hc1, hc2, hb, hg⟩
  go_wp2_with fail
  have HG := Lib.hid hg
  have d10 : decide ((B.length : Int) ≤ 10) = true := decide_eq_true (by omega)
  clear hg h10
  apply (fun (v0 v2 v3 v4 v5 v6 v7 v8 v9 v10 v11 v12 v13 v14 v15 v16 v17 v18 v19 v20 v21 : Value) mono obl tail => wp_region_par (R := Grow) (Φ := phi [veq v0, (IsB B), veq v2, veq v3, veq v4, veq v5, veq v6, veq v7, veq v8, veq v9, veq v10, veq v11, veq v12, veq v13, veq v14, veq v15, veq v16, veq v17, veq v18, veq v19, veq v20, veq v21]) (m := 22) (dls := [[], [(6, 0)], [(7, 1)], [], [(9, 3)], [(8, 2), (10, 4)], [(11, 5)], [(12, 6)], [(13, 7), (12, 6)], [(12, 6)], [(15, 9), (12, 6)], [(14, 8), (16, 10), (12, 6)], [(12, 6), (17, 11)], [(18, 12)], [(19, 13)], [(20, 14), (19, 13)], [(21, 15), (19, 13)], [(19, 13), (22, 16)], [(23, 17)], [(24, 18)], [(24, 18), (25, 19)], [(26, 20)]]) (ds := [6, 7, 8, 9, 10, 11, 12, 13, 14, 15, 16, 17, 18, 19, 20, 21, 22, 23, 24, 25, 26, 2]) (by kernel_rfl) (by kernel_rfl) (by decide) rfl (Grow.drew _) (fun _ _ _ => Grow.trans) (mono_phi mono) obl tail)
  case obl =>
    refine obls_cons (fun f w' hR hH Q hQ => ?_) ?_
    · skip
      simp only [view, List.foldl]
      repeat (first | go_guarded | go_step)
      exact hQ _ _ (Grow.refl _) rfl rfl
    refine obls_cons (fun f w' hR hH Q hQ => ?_) ?_
    · skip
      obtain ⟨h0, -⟩ := hH
      simp only [view, List.foldl, Act.put, List.setIfInBounds_toArray, List.set_cons_zero, List.set_cons_succ]
      rw [show f 0 = _ from h0]
      clear h0
      go_wp2_with (go_at_call 15; refine (h2.out _).mono ?_; rintro e w1 ⟨A1, c1, rfl, a1, a2, a3, a4⟩)
      exact hQ _ _ a4 ⟨_, _, rfl, a1, a2, a3⟩ rfl
    refine obls_cons (fun f w' hR hH Q hQ => ?_) ?_
    · skip
      obtain ⟨h1, -⟩ := hH
      simp only [view, List.foldl, Act.put, List.setIfInBounds_toArray, List.set_cons_zero, List.set_cons_succ]
      generalize f 1 = u1 at h1 ⊢
      replace h1 : (IsB B) u1 w' := h1
      obtain ⟨A1, c1, rfl, b1, b2, b3⟩ := h1
      have hcs := conv_str (P := Try.prog) Try.underlying23 Try.underlying5 Try.underlying9 b3 c1
      go_wp2_with fail
      exact hQ _ _ (Grow.refl _) rfl rfl
    refine obls_cons (fun f w' hR hH Q hQ => ?_) ?_
    · skip
      simp only [view, List.foldl]
      repeat (first | go_guarded | go_step)
      exact hQ _ _ (Grow.refl _) rfl rfl
    refine obls_cons (fun f w' hR hH Q hQ => ?_) ?_
    · skip
      obtain ⟨h3, -⟩ := hH
      simp only [view, List.foldl, Act.put, List.setIfInBounds_toArray, List.set_cons_zero, List.set_cons_succ]
      rw [show f 3 = _ from h3]
      clear h3
      have hcs := conv_str (P := Try.prog) Try.underlying23 Try.underlying5 Try.underlying9 (hb.grow hR) c
      go_wp2_with fail
      exact hQ _ _ (Grow.refl _) rfl rfl
    refine obls_cons (fun f w' hR hH Q hQ => ?_) ?_
    · skip
      obtain ⟨h2, h4, -⟩ := hH
      simp only [view, List.foldl, Act.put, List.setIfInBounds_toArray, List.set_cons_zero, List.set_cons_succ]
      rw [show f 2 = _ from h2]
      rw [show f 4 = _ from h4]
      clear h2 h4
      repeat (first | go_guarded | go_step)
      exact hQ _ _ (Grow.refl _) rfl rfl
    refine obls_cons (fun f w' hR hH Q hQ => ?_) ?_
    · skip
      obtain ⟨h5, -⟩ := hH
      simp only [view, List.foldl, Act.put, List.setIfInBounds_toArray, List.set_cons_zero, List.set_cons_succ]
      rw [show f 5 = _ from h5]
      clear h5
      repeat (first | go_guarded | go_step)
      exact hQ _ _ (Grow.refl _) rfl rfl
    refine obls_cons (fun f w' hR hH Q hQ => ?_) ?_
    · skip
      obtain ⟨h6, -⟩ := hH
      simp only [view, List.foldl, Act.put, List.setIfInBounds_toArray, List.set_cons_zero, List.set_cons_succ]
      rw [show f 6 = _ from h6]
      clear h6
      repeat (first | go_guarded | go_step)
      exact hQ _ _ (Grow.refl _) rfl rfl
    refine obls_cons (fun f w' hR hH Q hQ => ?_) ?_
    · skip
      obtain ⟨h7, h6, -⟩ := hH
      simp only [view, List.foldl, Act.put, List.setIfInBounds_toArray, List.set_cons_zero, List.set_cons_succ]
      rw [show f 7 = _ from h7]
      rw [show f 6 = _ from h6]
      clear h7 h6
      go_wp2_with (go_at_call 16; refine (h3.out _).mono ?_; rintro e w1 ⟨rfl, rfl⟩)
      exact hQ _ _ (Grow.refl _) rfl rfl
    refine obls_cons (fun f w' hR hH Q hQ => ?_) ?_
    · skip
      obtain ⟨h6, -⟩ := hH
      simp only [view, List.foldl, Act.put, List.setIfInBounds_toArray, List.set_cons_zero, List.set_cons_succ]
      rw [show f 6 = _ from h6]
      clear h6
      repeat (first | go_guarded | go_step)
      exact hQ _ _ (Grow.refl _) rfl rfl
    refine obls_cons (fun f w' hR hH Q hQ => ?_) ?_
    · skip
      obtain ⟨h9, h6, -⟩ := hH
      simp only [view, List.foldl, Act.put, List.setIfInBounds_toArray, List.set_cons_zero, List.set_cons_succ]
      rw [show f 9 = _ from h9]
      rw [show f 6 = _ from h6]
      clear h9 h6
      repeat (first | go_guarded | go_step)
      exact hQ _ _ (Grow.refl _) rfl rfl
    refine obls_cons (fun f w' hR hH Q hQ => ?_) ?_
    · skip
      obtain ⟨h8, h10, h6, -⟩ := hH
      simp only [view, List.foldl, Act.put, List.setIfInBounds_toArray, List.set_cons_zero, List.set_cons_succ]
      rw [show f 8 = _ from h8]
      rw [show f 10 = _ from h10]
      rw [show f 6 = _ from h6]
      clear h8 h10 h6
      repeat (first | go_guarded | go_step)
      exact hQ _ _ (Grow.refl _) rfl rfl
    refine obls_cons (fun f w' hR hH Q hQ => ?_) ?_
    · skip
      obtain ⟨h6, h11, -⟩ := hH
      simp only [view, List.foldl, Act.put, List.setIfInBounds_toArray, List.set_cons_zero, List.set_cons_succ]
      rw [show f 6 = _ from h6]
      rw [show f 11 = _ from h11]
      clear h6 h11
      repeat (first | go_guarded | go_step)
      exact hQ _ _ (Grow.refl _) rfl rfl
    refine obls_cons (fun f w' hR hH Q hQ => ?_) ?_
    · skip
      obtain ⟨h12, -⟩ := hH
      simp only [view, List.foldl, Act.put, List.setIfInBounds_toArray, List.set_cons_zero, List.set_cons_succ]
      rw [show f 12 = _ from h12]
      clear h12
      repeat (first | go_guarded | go_step)
      exact hQ _ _ (Grow.refl _) rfl rfl
    refine obls_cons (fun f w' hR hH Q hQ => ?_) ?_
    · skip
      obtain ⟨h13, -⟩ := hH
      simp only [view, List.foldl, Act.put, List.setIfInBounds_toArray, List.set_cons_zero, List.set_cons_succ]
      rw [show f 13 = _ from h13]
      clear h13
      repeat (first | go_guarded | go_step)
      exact hQ _ _ (Grow.refl _) rfl rfl
    refine obls_cons (fun f w' hR hH Q hQ => ?_) ?_
    · skip
      obtain ⟨h14, h13, -⟩ := hH
      simp only [view, List.foldl, Act.put, List.setIfInBounds_toArray, List.set_cons_zero, List.set_cons_succ]
      rw [show f 14 = _ from h14]
      rw [show f 13 = _ from h13]
      clear h14 h13
      repeat (first | go_guarded | go_step)
      exact hQ _ _ (Grow.refl _) rfl rfl
    refine obls_cons (fun f w' hR hH Q hQ => ?_) ?_
    · skip
      obtain ⟨h15, h13, -⟩ := hH
      simp only [view, List.foldl, Act.put, List.setIfInBounds_toArray, List.set_cons_zero, List.set_cons_succ]
      rw [show f 15 = _ from h15]
      rw [show f 13 = _ from h13]
      clear h15 h13
      repeat (first | go_guarded | go_step)
      exact hQ _ _ (Grow.refl _) rfl rfl
    refine obls_cons (fun f w' hR hH Q hQ => ?_) ?_
    · skip
      obtain ⟨h13, h16, -⟩ := hH
      simp only [view, List.foldl, Act.put, List.setIfInBounds_toArray, List.set_cons_zero, List.set_cons_succ]
      rw [show f 13 = _ from h13]
      rw [show f 16 = _ from h16]
      clear h13 h16
      repeat (first | go_guarded | go_step)
      exact hQ _ _ (Grow.refl _) rfl rfl
    refine obls_cons (fun f w' hR hH Q hQ => ?_) ?_
    · skip
      obtain ⟨h17, -⟩ := hH
      simp only [view, List.foldl, Act.put, List.setIfInBounds_toArray, List.set_cons_zero, List.set_cons_succ]
      rw [show f 17 = _ from h17]
      clear h17
      repeat (first | go_guarded | go_step)
      exact hQ _ _ (Grow.refl _) rfl rfl
    refine obls_cons (fun f w' hR hH Q hQ => ?_) ?_
    · skip
      obtain ⟨h18, -⟩ := hH
      simp only [view, List.foldl, Act.put, List.setIfInBounds_toArray, List.set_cons_zero, List.set_cons_succ]
      rw [show f 18 = _ from h18]
      clear h18
      go_wp2_with (go_at_call 17; refine (works_any _).mono ?_; rintro e w1 ⟨rfl, hg⟩)
      exact hQ _ _ hg rfl rfl
    refine obls_cons (fun f w' hR hH Q hQ => ?_) ?_
    · skip
      obtain ⟨h18, h19, -⟩ := hH
      simp only [view, List.foldl, Act.put, List.setIfInBounds_toArray, List.set_cons_zero, List.set_cons_succ]
      rw [show f 18 = _ from h18]
      rw [show f 19 = _ from h19]
      clear h18 h19
      repeat (first | go_guarded | go_step)
      exact hQ _ _ (Grow.refl _) rfl rfl
    refine obls_cons (fun f w' hR hH Q hQ => ?_) ?_
    · skip
      obtain ⟨h20, -⟩ := hH
      simp only [view, List.foldl, Act.put, List.setIfInBounds_toArray, List.set_cons_zero, List.set_cons_succ]
      rw [show f 20 = _ from h20]
      clear h20
      repeat (first | go_guarded | go_step)
      exact hQ _ _ (Grow.refl _) rfl rfl
    exact obls_nil
  case mono => exact ⟨Mono.veq _, IsB.mono, Mono.veq _, Mono.veq _, Mono.veq _, Mono.veq _, Mono.veq _, Mono.veq _, Mono.veq _, Mono.veq _, Mono.veq _, Mono.veq _, Mono.veq _, Mono.veq _, Mono.veq _, Mono.veq _, Mono.veq _, Mono.veq _, Mono.veq _, Mono.veq _, Mono.veq _, Mono.veq _, trivial⟩
  case tail =>
    intro f w' hR hH
    simp only [view, List.zipIdx, List.foldl, Act.put, List.setIfInBounds_toArray, List.set_cons_zero, List.set_cons_succ, List.drop_succ_cons, List.drop_zero]
    obtain ⟨-, -, -, -, -, -, -, -, -, -, -, -, -, -, -, -, -, -, -, -, -, q21, -⟩ := hH
    rw [show f 21 = _ from q21]
    clear q21
    generalize f 0 = x0
    generalize f 1 = x1
    generalize f 2 = x2
    generalize f 3 = x3
    generalize f 4 = x4
    generalize f 5 = x5
    generalize f 6 = x6
    generalize f 7 = x7
    generalize f 8 = x8
    generalize f 9 = x9
    generalize f 10 = x10
    generalize f 11 = x11
    generalize f 12 = x12
    generalize f 13 = x13
    generalize f 14 = x14
    generalize f 15 = x15
    generalize f 16 = x16
    generalize f 17 = x17
    generalize f 18 = x18
    generalize f 19 = x19
    generalize f 20 = x20
    go_wp2
    go_ret
    exact ⟨rfl, HG.out.trans hR⟩

set_option maxHeartbeats 400000 in
theorem reads_walk (A : Option Addr) (n c : Nat) (l : List UInt8) (w : World) (hb : Bytes w A n l) (hc : n ≤ c) (hm : c ≤ maxLen) : Calls Try.prog 4 #[.slice A n c] w fun e w' => e = .returned (.bool true) ∧ Grow w w' := by
  unfold maxLen at hm
  obtain ⟨m, hm1⟩ : ∃ m, m = min n 100 := ⟨_, rfl⟩
  have hmin := fun ts t W => run_min2 (P := Try.prog) ts t n 100 m hm1 W
  simp only [show ((100 : Nat) : Int) = 100 from rfl] at hmin
  have hs1 := slice_hi (P := Try.prog) Try.underlying23 i8 A n c m (by omega)
  have hbm := hb.take (k := m) (by omega)
  obtain ⟨a, b, d, hrd⟩ : ∃ a b d, rd (l.take m) = (a, b, d) := ⟨_, _, _, rfl⟩
  have hmc : m ≤ c := by omega
  have h1 := Lib.hid (read_as (c := c) hbm hmc (by unfold maxLen; omega) hrd)
  have h2 := Lib.hid (ref_read_as (c := c) hbm (by unfold maxLen; omega) hrd)
  clear hrd hm1 hbm hb
  go_enter Try.func4, Try.ntmps4
  go_wp2_with fail
  refine h1.out.mono ?_
  rintro e w1 ⟨rfl, rfl⟩
  go_wp2_with fail
  refine h2.out.mono ?_
  rintro e w1 ⟨rfl, rfl⟩
  go_wp2_with fail
  refine (works_any _).mono ?_
  rintro e w1 ⟨rfl, hg⟩
  go_wp2_with fail
  go_ret
  exact ⟨rfl, hg⟩

set_option maxRecDepth 100000 in
set_option maxHeartbeats 1000000 in
theorem once_walk (A : Option Addr) (n c : Nat) (l : List UInt8) (w : World) (hb : Bytes w A n l) (hc : n ≤ c) (hm : c ≤ maxLen) : Calls Try.prog 6 #[.slice A n c] w fun e w' => e = .returned (.bool true) ∧ Grow w w' := by
  unfold maxLen at hm
  obtain ⟨m, hm1⟩ : ∃ m, m = min n 100 := ⟨_, rfl⟩
  have hmin := fun ts t W => run_min2 (P := Try.prog) ts t n 100 m hm1 W
  simp only [show ((100 : Nat) : Int) = 100 from rfl] at hmin
  have hs1 := slice_hi (P := Try.prog) Try.underlying23 i8 A n c m (by omega)
  have hbm := hb.take (k := m) (by omega)
  obtain ⟨a, b, d, hrd⟩ : ∃ a b d, rd (l.take m) = (a, b, d) := ⟨_, _, _, rfl⟩
  have hmc : m ≤ c := by omega
  have h1 := Lib.hid (read_as (c := c) hbm hmc (by unfold maxLen; omega) hrd)
  by_cases hd : d = 0
  · subst hd
    obtain ⟨o1, o2, o3⟩ := rd_once hrd
    have ha := rd_lt hrd
    rw [hbm.len] at o3
    have hb2 := Lib.hid (hbm.take (k := b) o3)
    rw [← o1] at hb2
    have h2 := Lib.hid (bytes_any a ha)
    have hs2 := slice_hi (P := Try.prog) Try.underlying23 i8 A m c b (by omega)
    have d1 : decide ((1 : Int) ≤ (b : Int)) = true := decide_eq_true (by omega)
    have d2 : decide ((b : Int) ≤ (m : Int)) = true := decide_eq_true (by omega)
    have d3 : decide (b ≤ m) = true := decide_eq_true (by omega)
    have d4 : decide (1 ≤ b) = true := decide_eq_true (by omega)
    clear hrd hm1 hbm hb o1
    generalize vb a = B at h2 hb2
    go_enter Try.func6, Try.ntmps6
    go_wp2_with fail
    refine h1.out.mono ?_
    rintro e w1 ⟨rfl, rfl⟩
    go_wp2_with fail
    apply (fun (v0 v1 v2 v3 v4 v5 v6 v7 v8 v9 v11 v12 v13 v14 v15 v16 v17 v18 v19 v20 v21 : Value) mono obl tail => wp_region_par (R := Grow) (Φ := phi [veq v0, veq v1, veq v2, veq v3, veq v4, veq v5, veq v6, veq v7, veq v8, veq v9, (IsB B), veq v11, veq v12, veq v13, veq v14, veq v15, veq v16, veq v17, veq v18, veq v19, veq v20, veq v21]) (m := 22) (dls := [[], [(28, 0)], [(29, 1)], [(30, 2)], [(30, 2)], [(32, 4), (30, 2)], [(31, 3), (33, 5), (30, 2)], [(30, 2), (34, 6)], [(35, 7)], [(36, 8)], [(37, 9), (36, 8)], [(38, 10), (36, 8)], [(36, 8)], [(36, 8)], [(40, 12), (41, 13), (36, 8)], [(42, 14), (36, 8)], [(39, 11), (43, 15), (36, 8)], [(36, 8), (44, 16)], [(45, 17)], [(46, 18)], [(46, 18), (47, 19)], [(48, 20)]]) (ds := [28, 29, 30, 31, 32, 33, 34, 35, 36, 37, 38, 39, 40, 41, 42, 43, 44, 45, 46, 47, 48, 2]) (by kernel_rfl) (by kernel_rfl) (by decide) rfl (Grow.drew _) (fun _ _ _ => Grow.trans) (mono_phi mono) obl tail)
    case obl =>
      refine obls_cons (fun f w' hR hH Q hQ => ?_) ?_
      · skip
        simp only [view, List.foldl]
        repeat (first | go_guarded | go_step)
        exact hQ _ _ (Grow.refl _) rfl rfl
      refine obls_cons (fun f w' hR hH Q hQ => ?_) ?_
      · skip
        obtain ⟨h0, -⟩ := hH
        simp only [view, List.foldl, Act.put, List.setIfInBounds_toArray, List.set_cons_zero, List.set_cons_succ]
        rw [show f 0 = _ from h0]
        clear h0
        repeat (first | go_guarded | go_step)
        exact hQ _ _ (Grow.refl _) rfl rfl
      refine obls_cons (fun f w' hR hH Q hQ => ?_) ?_
      · skip
        obtain ⟨h1, -⟩ := hH
        simp only [view, List.foldl, Act.put, List.setIfInBounds_toArray, List.set_cons_zero, List.set_cons_succ]
        rw [show f 1 = _ from h1]
        clear h1
        repeat (first | go_guarded | go_step)
        exact hQ _ _ (Grow.refl _) rfl rfl
      refine obls_cons (fun f w' hR hH Q hQ => ?_) ?_
      · skip
        obtain ⟨h2, -⟩ := hH
        simp only [view, List.foldl, Act.put, List.setIfInBounds_toArray, List.set_cons_zero, List.set_cons_succ]
        rw [show f 2 = _ from h2]
        clear h2
        repeat (first | go_guarded | go_step)
        exact hQ _ _ (Grow.refl _) rfl rfl
      refine obls_cons (fun f w' hR hH Q hQ => ?_) ?_
      · skip
        obtain ⟨h2, -⟩ := hH
        simp only [view, List.foldl, Act.put, List.setIfInBounds_toArray, List.set_cons_zero, List.set_cons_succ]
        rw [show f 2 = _ from h2]
        clear h2
        repeat (first | go_guarded | go_step)
        exact hQ _ _ (Grow.refl _) rfl rfl
      refine obls_cons (fun f w' hR hH Q hQ => ?_) ?_
      · skip
        obtain ⟨h4, h2, -⟩ := hH
        simp only [view, List.foldl, Act.put, List.setIfInBounds_toArray, List.set_cons_zero, List.set_cons_succ]
        rw [show f 4 = _ from h4]
        rw [show f 2 = _ from h2]
        clear h4 h2
        repeat (first | go_guarded | go_step)
        exact hQ _ _ (Grow.refl _) rfl rfl
      refine obls_cons (fun f w' hR hH Q hQ => ?_) ?_
      · skip
        obtain ⟨h3, h5, h2, -⟩ := hH
        simp only [view, List.foldl, Act.put, List.setIfInBounds_toArray, List.set_cons_zero, List.set_cons_succ]
        rw [show f 3 = _ from h3]
        rw [show f 5 = _ from h5]
        rw [show f 2 = _ from h2]
        clear h3 h5 h2
        repeat (first | go_guarded | go_step)
        exact hQ _ _ (Grow.refl _) rfl rfl
      refine obls_cons (fun f w' hR hH Q hQ => ?_) ?_
      · skip
        obtain ⟨h2, h6, -⟩ := hH
        simp only [view, List.foldl, Act.put, List.setIfInBounds_toArray, List.set_cons_zero, List.set_cons_succ]
        rw [show f 2 = _ from h2]
        rw [show f 6 = _ from h6]
        clear h2 h6
        repeat (first | go_guarded | go_step)
        exact hQ _ _ (Grow.refl _) rfl rfl
      refine obls_cons (fun f w' hR hH Q hQ => ?_) ?_
      · skip
        obtain ⟨h7, -⟩ := hH
        simp only [view, List.foldl, Act.put, List.setIfInBounds_toArray, List.set_cons_zero, List.set_cons_succ]
        rw [show f 7 = _ from h7]
        clear h7
        repeat (first | go_guarded | go_step)
        exact hQ _ _ (Grow.refl _) rfl rfl
      refine obls_cons (fun f w' hR hH Q hQ => ?_) ?_
      · skip
        obtain ⟨h8, -⟩ := hH
        simp only [view, List.foldl, Act.put, List.setIfInBounds_toArray, List.set_cons_zero, List.set_cons_succ]
        rw [show f 8 = _ from h8]
        clear h8
        repeat (first | go_guarded | go_step)
        exact hQ _ _ (Grow.refl _) rfl rfl
      refine obls_cons (fun f w' hR hH Q hQ => ?_) ?_
      · skip
        obtain ⟨h9, h8, -⟩ := hH
        simp only [view, List.foldl, Act.put, List.setIfInBounds_toArray, List.set_cons_zero, List.set_cons_succ]
        rw [show f 9 = _ from h9]
        rw [show f 8 = _ from h8]
        clear h9 h8
        go_wp2_with (go_at_call 15; refine (h2.out _).mono ?_; rintro e w1 ⟨A1, c1, rfl, a1, a2, a3, a4⟩)
        exact hQ _ _ a4 ⟨_, _, rfl, a1, a2, a3⟩ rfl
      refine obls_cons (fun f w' hR hH Q hQ => ?_) ?_
      · skip
        obtain ⟨h10, h8, -⟩ := hH
        simp only [view, List.foldl, Act.put, List.setIfInBounds_toArray, List.set_cons_zero, List.set_cons_succ]
        generalize f 10 = u10 at h10 ⊢
        replace h10 : (IsB B) u10 w' := h10
        rw [show f 8 = _ from h8]
        clear h8
        obtain ⟨A1, c1, rfl, b1, b2, b3⟩ := h10
        have hcs := conv_str (P := Try.prog) Try.underlying23 Try.underlying5 Try.underlying9 b3 c1
        go_wp2_with fail
        exact hQ _ _ (Grow.refl _) rfl rfl
      refine obls_cons (fun f w' hR hH Q hQ => ?_) ?_
      · skip
        obtain ⟨h8, -⟩ := hH
        simp only [view, List.foldl, Act.put, List.setIfInBounds_toArray, List.set_cons_zero, List.set_cons_succ]
        rw [show f 8 = _ from h8]
        clear h8
        repeat (first | go_guarded | go_step)
        exact hQ _ _ (Grow.refl _) rfl rfl
      refine obls_cons (fun f w' hR hH Q hQ => ?_) ?_
      · skip
        obtain ⟨h8, -⟩ := hH
        simp only [view, List.foldl, Act.put, List.setIfInBounds_toArray, List.set_cons_zero, List.set_cons_succ]
        rw [show f 8 = _ from h8]
        clear h8
        repeat (first | go_guarded | go_step)
        exact hQ _ _ (Grow.refl _) rfl rfl
      refine obls_cons (fun f w' hR hH Q hQ => ?_) ?_
      · skip
        obtain ⟨h12, h13, h8, -⟩ := hH
        simp only [view, List.foldl, Act.put, List.setIfInBounds_toArray, List.set_cons_zero, List.set_cons_succ]
        rw [show f 12 = _ from h12]
        rw [show f 13 = _ from h13]
        rw [show f 8 = _ from h8]
        clear h12 h13 h8
        repeat (first | go_guarded | go_step)
        exact hQ _ _ (Grow.refl _) rfl rfl
      refine obls_cons (fun f w' hR hH Q hQ => ?_) ?_
      · skip
        obtain ⟨h14, h8, -⟩ := hH
        simp only [view, List.foldl, Act.put, List.setIfInBounds_toArray, List.set_cons_zero, List.set_cons_succ]
        rw [show f 14 = _ from h14]
        rw [show f 8 = _ from h8]
        clear h14 h8
        have hcs := conv_str (P := Try.prog) Try.underlying23 Try.underlying5 Try.underlying9 (hb2.out.grow hR) c
        go_wp2_with fail
        exact hQ _ _ (Grow.refl _) rfl rfl
      refine obls_cons (fun f w' hR hH Q hQ => ?_) ?_
      · skip
        obtain ⟨h11, h15, h8, -⟩ := hH
        simp only [view, List.foldl, Act.put, List.setIfInBounds_toArray, List.set_cons_zero, List.set_cons_succ]
        rw [show f 11 = _ from h11]
        rw [show f 15 = _ from h15]
        rw [show f 8 = _ from h8]
        clear h11 h15 h8
        repeat (first | go_guarded | go_step)
        exact hQ _ _ (Grow.refl _) rfl rfl
      refine obls_cons (fun f w' hR hH Q hQ => ?_) ?_
      · skip
        obtain ⟨h8, h16, -⟩ := hH
        simp only [view, List.foldl, Act.put, List.setIfInBounds_toArray, List.set_cons_zero, List.set_cons_succ]
        rw [show f 8 = _ from h8]
        rw [show f 16 = _ from h16]
        clear h8 h16
        repeat (first | go_guarded | go_step)
        exact hQ _ _ (Grow.refl _) rfl rfl
      refine obls_cons (fun f w' hR hH Q hQ => ?_) ?_
      · skip
        obtain ⟨h17, -⟩ := hH
        simp only [view, List.foldl, Act.put, List.setIfInBounds_toArray, List.set_cons_zero, List.set_cons_succ]
        rw [show f 17 = _ from h17]
        clear h17
        repeat (first | go_guarded | go_step)
        exact hQ _ _ (Grow.refl _) rfl rfl
      refine obls_cons (fun f w' hR hH Q hQ => ?_) ?_
      · skip
        obtain ⟨h18, -⟩ := hH
        simp only [view, List.foldl, Act.put, List.setIfInBounds_toArray, List.set_cons_zero, List.set_cons_succ]
        rw [show f 18 = _ from h18]
        clear h18
        go_wp2_with (go_at_call 17; refine (works_any _).mono ?_; rintro e w1 ⟨rfl, hg⟩)
        exact hQ _ _ hg rfl rfl
      refine obls_cons (fun f w' hR hH Q hQ => ?_) ?_
      · skip
        obtain ⟨h18, h19, -⟩ := hH
        simp only [view, List.foldl, Act.put, List.setIfInBounds_toArray, List.set_cons_zero, List.set_cons_succ]
        rw [show f 18 = _ from h18]
        rw [show f 19 = _ from h19]
        clear h18 h19
        repeat (first | go_guarded | go_step)
        exact hQ _ _ (Grow.refl _) rfl rfl
      refine obls_cons (fun f w' hR hH Q hQ => ?_) ?_
      · skip
        obtain ⟨h20, -⟩ := hH
        simp only [view, List.foldl, Act.put, List.setIfInBounds_toArray, List.set_cons_zero, List.set_cons_succ]
        rw [show f 20 = _ from h20]
        clear h20
        repeat (first | go_guarded | go_step)
        exact hQ _ _ (Grow.refl _) rfl rfl
      exact obls_nil
    case mono => exact ⟨Mono.veq _, Mono.veq _, Mono.veq _, Mono.veq _, Mono.veq _, Mono.veq _, Mono.veq _, Mono.veq _, Mono.veq _, Mono.veq _, IsB.mono, Mono.veq _, Mono.veq _, Mono.veq _, Mono.veq _, Mono.veq _, Mono.veq _, Mono.veq _, Mono.veq _, Mono.veq _, Mono.veq _, Mono.veq _, trivial⟩
    case tail =>
      intro f w' hR hH
      simp only [view, List.zipIdx, List.foldl, Act.put, List.setIfInBounds_toArray, List.set_cons_zero, List.set_cons_succ, List.drop_succ_cons, List.drop_zero]
      obtain ⟨-, -, -, -, -, -, -, -, -, -, -, -, -, -, -, -, -, -, -, -, -, q21, -⟩ := hH
      rw [show f 21 = _ from q21]
      clear q21
      generalize f 0 = x0
      generalize f 1 = x1
      generalize f 2 = x2
      generalize f 3 = x3
      generalize f 4 = x4
      generalize f 5 = x5
      generalize f 6 = x6
      generalize f 7 = x7
      generalize f 8 = x8
      generalize f 9 = x9
      generalize f 10 = x10
      generalize f 11 = x11
      generalize f 12 = x12
      generalize f 13 = x13
      generalize f 14 = x14
      generalize f 15 = x15
      generalize f 16 = x16
      generalize f 17 = x17
      generalize f 18 = x18
      generalize f 19 = x19
      generalize f 20 = x20
      go_wp2
      go_ret
      exact ⟨rfl, hR⟩
  · obtain ⟨rfl, rfl, h24⟩ := rd_bad hrd hd
    have d1 : ((d : Int) == 0) = false := beq_false_of_ne (by omega)
    have d2 : ((d : Int) != 0) = true := by simp [bne, d1]
    clear hrd hm1 hbm hb h24 hd
    go_enter Try.func6, Try.ntmps6
    go_wp2_with fail
    refine h1.out.mono ?_
    rintro e w1 ⟨rfl, rfl⟩
    go_wp2_with fail
    refine (works_any _).mono ?_
    rintro e w1 ⟨rfl, hg⟩
    go_wp2_with fail
    go_ret
    exact ⟨rfl, hg⟩
end Go.Proofs.Ytfmaicjgndbffaa.viL
