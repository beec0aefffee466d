/- The walks of the document's disk: Append, Sync, Cut, Crash. -/
import Derived.Test.YtgpcijpadelcfaaDkW2
namespace Go.Proofs.Ytgpcijpadelcfaa.dkW
open Go Go.RowKit Go.Par Go.Kit Go.Proofs.Ytgpcijpadelcfaa.cl

def rv (L : List UInt8) (s : Nat) : Value := .agg #[.string (str L), .int .i64 (s : Int)]
theorem undR : Try.prog.underlying 64 = some (.struct (Try.prog.fieldsOf 64)) := by kernel_rfl
theorem sizeR : (Try.prog.info? 64).map (·.size) = some 2 := by kernel_rfl

set_option maxHeartbeats 400000 in
theorem ref_append (L : List UInt8) (s : Nat) (A : Option Addr) (n c : Nat) (l : List UInt8) (w : World) (hb : Bytes w A n l) (hn : L.length + l.length ≤ 140737488355328) :
    Calls Try.prog 47 #[.agg #[.string (str L), .int .i64 (s : Int)], .slice A n c] w fun e w' => e = .returned (.agg #[.string (str (L ++ l)), .int .i64 (s : Int)]) ∧ Grow w w' := by
  have hcs := conv_str (P := Try.prog) Try.underlying65 Try.underlying5 Try.underlying9 (hb.grow ((Grow.alloc w (.cells #[.string (str L), .int .i64 (s : Int)] 64)).trans (Grow.alloc _ (.cells #[.string ⟨#[]⟩, .int .i64 0] 64)))) c
  have hap := str_append L l
  have hs1 := str_size L
  have hs2 := str_size l
  clear hb
  go_enter Try.func47, Try.ntmps47
  go_wp2_with fail
  refine ret_blk rfl (w.heap.size + 1) _ [.string (str (L ++ l)), .int .i64 (s : Int)] _ rfl (Blk.new _ _ _ _ rfl (by simp)) undR rfl (by rw [sizeR]; rfl) rfl ⟨rfl, (Grow.alloc _ _).trans (Grow.alloc _ _)⟩

theorem str_len (l : List UInt8) : (str l).size = l.length := str_size l
set_option maxHeartbeats 400000 in
theorem ref_sync (L : List UInt8) (s : Nat) (w : World) :
    Calls Try.prog 48 #[.agg #[.string (str L), .int .i64 (s : Int)]] w fun e w' => e = .returned (.agg #[.string (str L), .int .i64 (L.length : Int)]) ∧ Grow w w' := by
  have hl := str_size L
  go_enter Try.func48, Try.ntmps48
  go_wp2_with fail
  refine ret_blk rfl (w.heap.size + 1) _ [.string (str L), .int .i64 (L.length : Int)] _ rfl (Blk.new _ _ _ _ rfl (by simp)) undR rfl (by rw [sizeR]; rfl) rfl ⟨rfl, (Grow.alloc _ _).trans (Grow.alloc _ _)⟩

set_option maxHeartbeats 400000 in
theorem ref_cut_bad (L : List UInt8) (s : Nat) (n : Int) (hn : n < 0 ∨ (L.length : Int) < n) (w : World) :
    Calls Try.prog 49 #[.agg #[.string (str L), .int .i64 (s : Int)], .int .i64 n] w fun e w' => e = .returned (.tuple #[.agg #[.string (str L), .int .i64 (s : Int)], .int .i64 1]) ∧ Grow w w' := by
  have hl := str_size L
  by_cases h0 : n < 0
  · have d0 : decide (n < 0) = true := decide_eq_true h0
    clear hn
    go_enter Try.func49, Try.ntmps49
    go_wp2_with fail
    exact bodyPost_ret (v := .tuple #[.agg #[.string (str L), .int .i64 (s : Int)], .int .i64 1]) (by simp [results, Try.results49, go_sem]) rfl ⟨rfl, (Grow.alloc _ _).trans (Grow.alloc _ _)⟩
  · have d0 : decide (n < 0) = false := decide_eq_false h0
    have d1 : decide ((L.length : Int) < n) = true := decide_eq_true (by omega)
    clear hn h0
    go_enter Try.func49, Try.ntmps49
    go_wp2_with fail
    exact bodyPost_ret (v := .tuple #[.agg #[.string (str L), .int .i64 (s : Int)], .int .i64 1]) (by simp [results, Try.results49, go_sem]) rfl ⟨rfl, (Grow.alloc _ _).trans (Grow.alloc _ _)⟩
set_option maxHeartbeats 400000 in
theorem ref_cut (L : List UInt8) (s m : Nat) (hm : m ≤ L.length) (w : World) :
    Calls Try.prog 49 #[.agg #[.string (str L), .int .i64 (s : Int)], .int .i64 (m : Int)] w fun e w' => e = .returned (.tuple #[.agg #[.string (str (L.take m)), .int .i64 (m : Int)], .int .i64 0]) ∧ Grow w w' := by
  have hl := str_size L
  have d0 : decide ((m : Int) < 0) = false := decide_eq_false (by omega)
  have d1 : decide ((L.length : Int) < (m : Int)) = false := decide_eq_false (by omega)
  have d2 : decide (L.length < m) = false := decide_eq_false (by omega)
  have hx := str_extract L m
  go_enter Try.func49, Try.ntmps49
  go_wp2_with fail
  exact bodyPost_ret (v := .tuple #[.agg #[.string (str (L.take m)), .int .i64 (m : Int)], .int .i64 0]) (by simp [results, Try.results49, go_sem]) rfl ⟨rfl, (Grow.alloc _ _).trans (Grow.alloc _ _)⟩

set_option maxRecDepth 100000 in
set_option maxHeartbeats 1000000 in
theorem ref_crash (L : List UInt8) (s : Nat) (hs : s ≤ L.length) (hL : L.length ≤ 140737488355328) (k : Int) (w : World) :
    Calls Try.prog 50 #[.agg #[.string (str L), .int .i64 (s : Int)], .int .i64 k] w fun e w' => e = .returned (.agg #[.string (str (L.take (left L s k))), .int .i64 (left L s k : Int)]) ∧ Grow w w' := by
  obtain ⟨m, hm⟩ : ∃ m, m = left L s k := ⟨_, rfl⟩
  have hle := left_le k hs
  have hv : ∃ j : Int, (m : Int) = s + j ∧ ((k < 0 ∧ j = 0) ∨ (0 ≤ k ∧ k ≤ (L.length : Int) - s ∧ j = k) ∨ (0 ≤ k ∧ (L.length : Int) - s < k ∧ j = (L.length : Int) - s)) := by
    refine ⟨(m : Int) - s, by omega, ?_⟩
    rw [hm]; unfold left; omega
  rw [← hm] at hle ⊢
  obtain ⟨j, hj, hcs⟩ := hv
  have hx := str_extract L m
  have hl := str_size L
  have HJ := Lib.hid hj
  obtain ⟨g, hg⟩ : ∃ g, g = w.heap.size := ⟨_, rfl⟩
  have HG := Lib.hid hg
  clear hm hj hg
  rcases hcs with ⟨h0, rfl⟩ | ⟨h0, h1, rfl⟩ | ⟨h0, h1, rfl⟩
  · have hz : m = s := by have := HJ.out; omega
    subst hz
    have d1 : decide (k < 0) = true := decide_eq_true h0
    have d2 : decide ((L.length : Int) - (m : Int) < 0) = false := decide_eq_false (by omega)
    clear h0
    go_enter Try.func50, Try.ntmps50
    go_wp2_with fail
    have HADD := Lib.hid (show (m : Int) + 0 = (m : Int) by omega)
    have HB1 : Hid (Blk ((w.alloc (.cells #[.string (str L), .int .i64 (m : Int)] 64)).alloc (.cells #[.string ⟨#[]⟩, .int .i64 0] 64)) g 64 [.string (str L), .int .i64 (m : Int)]) := Lib.hid ((Blk.new w _ _ _ rfl HG.out).grow (Grow.alloc _ _))
    have HB2 : Hid (Blk ((w.alloc (.cells #[.string (str L), .int .i64 (m : Int)] 64)).alloc (.cells #[.string ⟨#[]⟩, .int .i64 0] 64)) (g + 1) 64 [.string ⟨#[]⟩, .int .i64 0]) := Lib.hid (Blk.new _ _ _ _ rfl (by rw [HG.out]; simp))
    rw [← HG.out]
    apply (fun (v0 v1 v2 v3 v4 v5 v6 v7 v8 v9 v10 v11 : Value) mono obl tail => wp_region_par (R := Grow) (Φ := phi [veq v0, veq v1, veq v2, veq v3, veq v4, veq v5, veq v6, veq v7, veq v8, veq v9, veq v10, veq v11]) (m := 12) (dls := [[], [(21, 0)], [], [(23, 2)], [], [(24, 3), (25, 4)], [(22, 1), (26, 5)], [], [(28, 7)], [], [(29, 8), (30, 9)], [(27, 6), (31, 10)]]) (ds := [21, 22, 23, 24, 25, 26, 27, 28, 29, 30, 31, 32]) (by kernel_rfl) (by kernel_rfl) (by decide) rfl (Grow.drew _) (fun _ _ _ => Grow.trans) (mono_phi mono) obl tail)
    case obl =>
      refine obls_cons (fun f w' hR hH Q hQ => ?_) ?_
      · skip
        simp only [view, List.foldl]
        repeat (first | go_guarded | go_step)
        exact hQ _ _ (Grow.refl _) rfl rfl
      refine obls_cons (fun f w' hR hH Q hQ => ?_) ?_
      · skip
        obtain ⟨h0, -⟩ := hH
        simp only [view, List.foldl, Act.put, List.setIfInBounds_toArray, List.set_cons_zero, List.set_cons_succ]
        rw [show f 0 = _ from h0]
        clear h0
        have c0 := (HB1.out.grow hR).cell (i := 0) rfl
        repeat (first | go_guarded | go_step)
        exact hQ _ _ (Grow.refl _) rfl rfl
      refine obls_cons (fun f w' hR hH Q hQ => ?_) ?_
      · skip
        simp only [view, List.foldl]
        repeat (first | go_guarded | go_step)
        exact hQ _ _ (Grow.refl _) rfl rfl
      refine obls_cons (fun f w' hR hH Q hQ => ?_) ?_
      · skip
        obtain ⟨h2, -⟩ := hH
        simp only [view, List.foldl, Act.put, List.setIfInBounds_toArray, List.set_cons_zero, List.set_cons_succ]
        rw [show f 2 = _ from h2]
        clear h2
        have c1 := (HB1.out.grow hR).cell (i := 1) rfl
        repeat (first | go_guarded | go_step)
        exact hQ _ _ (Grow.refl _) rfl rfl
      refine obls_cons (fun f w' hR hH Q hQ => ?_) ?_
      · skip
        simp only [view, List.foldl]
        repeat (first | go_guarded | go_step)
        exact hQ _ _ (Grow.refl _) rfl rfl
      refine obls_cons (fun f w' hR hH Q hQ => ?_) ?_
      · skip
        obtain ⟨h3, h4, -⟩ := hH
        simp only [view, List.foldl, Act.put, List.setIfInBounds_toArray, List.set_cons_zero, List.set_cons_succ]
        rw [show f 3 = _ from h3]
        rw [show f 4 = _ from h4]
        clear h3 h4
        have hadd := HADD.out
        repeat (first | go_guarded | go_step)
        exact hQ _ _ (Grow.refl _) rfl rfl
      refine obls_cons (fun f w' hR hH Q hQ => ?_) ?_
      · skip
        obtain ⟨h1, h5, -⟩ := hH
        simp only [view, List.foldl, Act.put, List.setIfInBounds_toArray, List.set_cons_zero, List.set_cons_succ]
        rw [show f 1 = _ from h1]
        rw [show f 5 = _ from h5]
        clear h1 h5
        repeat (first | go_guarded | go_step)
        exact hQ _ _ (Grow.refl _) rfl rfl
      refine obls_cons (fun f w' hR hH Q hQ => ?_) ?_
      · skip
        simp only [view, List.foldl]
        repeat (first | go_guarded | go_step)
        exact hQ _ _ (Grow.refl _) rfl rfl
      refine obls_cons (fun f w' hR hH Q hQ => ?_) ?_
      · skip
        obtain ⟨h7, -⟩ := hH
        simp only [view, List.foldl, Act.put, List.setIfInBounds_toArray, List.set_cons_zero, List.set_cons_succ]
        rw [show f 7 = _ from h7]
        clear h7
        have c1 := (HB1.out.grow hR).cell (i := 1) rfl
        repeat (first | go_guarded | go_step)
        exact hQ _ _ (Grow.refl _) rfl rfl
      refine obls_cons (fun f w' hR hH Q hQ => ?_) ?_
      · skip
        simp only [view, List.foldl]
        repeat (first | go_guarded | go_step)
        exact hQ _ _ (Grow.refl _) rfl rfl
      refine obls_cons (fun f w' hR hH Q hQ => ?_) ?_
      · skip
        obtain ⟨h8, h9, -⟩ := hH
        simp only [view, List.foldl, Act.put, List.setIfInBounds_toArray, List.set_cons_zero, List.set_cons_succ]
        rw [show f 8 = _ from h8]
        rw [show f 9 = _ from h9]
        clear h8 h9
        have hadd := HADD.out
        repeat (first | go_guarded | go_step)
        exact hQ _ _ (Grow.refl _) rfl rfl
      refine obls_cons (fun f w' hR hH Q hQ => ?_) ?_
      · skip
        obtain ⟨h6, h10, -⟩ := hH
        simp only [view, List.foldl, Act.put, List.setIfInBounds_toArray, List.set_cons_zero, List.set_cons_succ]
        rw [show f 6 = _ from h6]
        rw [show f 10 = _ from h10]
        clear h6 h10
        repeat (first | go_guarded | go_step)
        exact hQ _ _ (Grow.refl _) rfl rfl
      exact obls_nil
    case mono => exact ⟨Mono.veq _, Mono.veq _, Mono.veq _, Mono.veq _, Mono.veq _, Mono.veq _, Mono.veq _, Mono.veq _, Mono.veq _, Mono.veq _, Mono.veq _, Mono.veq _, trivial⟩
    case tail =>
      intro f w' hR hH
      simp only [view, List.zipIdx, List.foldl, Act.put, List.setIfInBounds_toArray, List.set_cons_zero, List.set_cons_succ, List.drop_succ_cons, List.drop_zero]
      obtain ⟨-, -, -, -, -, -, -, -, -, -, -, q11, -⟩ := hH
      rw [show f 11 = _ from q11]
      clear q11
      generalize f 0 = x0
      generalize f 1 = x1
      generalize f 2 = x2
      generalize f 3 = x3
      generalize f 4 = x4
      generalize f 5 = x5
      generalize f 6 = x6
      generalize f 7 = x7
      generalize f 8 = x8
      generalize f 9 = x9
      generalize f 10 = x10
      have HR := Lib.hid hR
      clear hR
      go_wp2_with (refine store_blk rfl _ _ _ rfl (g + 1) [.string (str (L.take m)), .int .i64 (m : Int)] rfl rfl _ _ (HB2.out.grow HR.out) (by rw [sizeR]; rfl) rfl rfl ?_)
      exact ret_blk rfl (g + 1) _ [.string (str (L.take m)), .int .i64 (m : Int)] _ rfl ((HB2.out.grow HR.out).setRow _) undR rfl (by rw [sizeR]; rfl) rfl ⟨rfl, Grow.setRow (((Grow.alloc _ _).trans (Grow.alloc _ _)).trans HR.out) (by have := HG.out; omega) _⟩
  · have d1 : decide (j < 0) = false := decide_eq_false (by omega)
    have d2 : decide ((L.length : Int) - (s : Int) < j) = false := decide_eq_false (by omega)
    have HADD := Lib.hid (show (s : Int) + j = (m : Int) by have := HJ.out; omega)
    clear h0 h1
    go_enter Try.func50, Try.ntmps50
    go_wp2_with fail
    have HB1 : Hid (Blk ((w.alloc (.cells #[.string (str L), .int .i64 (s : Int)] 64)).alloc (.cells #[.string ⟨#[]⟩, .int .i64 0] 64)) g 64 [.string (str L), .int .i64 (s : Int)]) := Lib.hid ((Blk.new w _ _ _ rfl HG.out).grow (Grow.alloc _ _))
    have HB2 : Hid (Blk ((w.alloc (.cells #[.string (str L), .int .i64 (s : Int)] 64)).alloc (.cells #[.string ⟨#[]⟩, .int .i64 0] 64)) (g + 1) 64 [.string ⟨#[]⟩, .int .i64 0]) := Lib.hid (Blk.new _ _ _ _ rfl (by rw [HG.out]; simp))
    rw [← HG.out]
    apply (fun (v0 v1 v2 v3 v4 v5 v6 v7 v8 v9 v10 v11 : Value) mono obl tail => wp_region_par (R := Grow) (Φ := phi [veq v0, veq v1, veq v2, veq v3, veq v4, veq v5, veq v6, veq v7, veq v8, veq v9, veq v10, veq v11]) (m := 12) (dls := [[], [(21, 0)], [], [(23, 2)], [], [(24, 3), (25, 4)], [(22, 1), (26, 5)], [], [(28, 7)], [], [(29, 8), (30, 9)], [(27, 6), (31, 10)]]) (ds := [21, 22, 23, 24, 25, 26, 27, 28, 29, 30, 31, 32]) (by kernel_rfl) (by kernel_rfl) (by decide) rfl (Grow.drew _) (fun _ _ _ => Grow.trans) (mono_phi mono) obl tail)
    case obl =>
      refine obls_cons (fun f w' hR hH Q hQ => ?_) ?_
      · skip
        simp only [view, List.foldl]
        repeat (first | go_guarded | go_step)
        exact hQ _ _ (Grow.refl _) rfl rfl
      refine obls_cons (fun f w' hR hH Q hQ => ?_) ?_
      · skip
        obtain ⟨h0, -⟩ := hH
        simp only [view, List.foldl, Act.put, List.setIfInBounds_toArray, List.set_cons_zero, List.set_cons_succ]
        rw [show f 0 = _ from h0]
        clear h0
        have c0 := (HB1.out.grow hR).cell (i := 0) rfl
        repeat (first | go_guarded | go_step)
        exact hQ _ _ (Grow.refl _) rfl rfl
      refine obls_cons (fun f w' hR hH Q hQ => ?_) ?_
      · skip
        simp only [view, List.foldl]
        repeat (first | go_guarded | go_step)
        exact hQ _ _ (Grow.refl _) rfl rfl
      refine obls_cons (fun f w' hR hH Q hQ => ?_) ?_
      · skip
        obtain ⟨h2, -⟩ := hH
        simp only [view, List.foldl, Act.put, List.setIfInBounds_toArray, List.set_cons_zero, List.set_cons_succ]
        rw [show f 2 = _ from h2]
        clear h2
        have c1 := (HB1.out.grow hR).cell (i := 1) rfl
        repeat (first | go_guarded | go_step)
        exact hQ _ _ (Grow.refl _) rfl rfl
      refine obls_cons (fun f w' hR hH Q hQ => ?_) ?_
      · skip
        simp only [view, List.foldl]
        repeat (first | go_guarded | go_step)
        exact hQ _ _ (Grow.refl _) rfl rfl
      refine obls_cons (fun f w' hR hH Q hQ => ?_) ?_
      · skip
        obtain ⟨h3, h4, -⟩ := hH
        simp only [view, List.foldl, Act.put, List.setIfInBounds_toArray, List.set_cons_zero, List.set_cons_succ]
        rw [show f 3 = _ from h3]
        rw [show f 4 = _ from h4]
        clear h3 h4
        have hadd := HADD.out
        repeat (first | go_guarded | go_step)
        exact hQ _ _ (Grow.refl _) rfl rfl
      refine obls_cons (fun f w' hR hH Q hQ => ?_) ?_
      · skip
        obtain ⟨h1, h5, -⟩ := hH
        simp only [view, List.foldl, Act.put, List.setIfInBounds_toArray, List.set_cons_zero, List.set_cons_succ]
        rw [show f 1 = _ from h1]
        rw [show f 5 = _ from h5]
        clear h1 h5
        repeat (first | go_guarded | go_step)
        exact hQ _ _ (Grow.refl _) rfl rfl
      refine obls_cons (fun f w' hR hH Q hQ => ?_) ?_
      · skip
        simp only [view, List.foldl]
        repeat (first | go_guarded | go_step)
        exact hQ _ _ (Grow.refl _) rfl rfl
      refine obls_cons (fun f w' hR hH Q hQ => ?_) ?_
      · skip
        obtain ⟨h7, -⟩ := hH
        simp only [view, List.foldl, Act.put, List.setIfInBounds_toArray, List.set_cons_zero, List.set_cons_succ]
        rw [show f 7 = _ from h7]
        clear h7
        have c1 := (HB1.out.grow hR).cell (i := 1) rfl
        repeat (first | go_guarded | go_step)
        exact hQ _ _ (Grow.refl _) rfl rfl
      refine obls_cons (fun f w' hR hH Q hQ => ?_) ?_
      · skip
        simp only [view, List.foldl]
        repeat (first | go_guarded | go_step)
        exact hQ _ _ (Grow.refl _) rfl rfl
      refine obls_cons (fun f w' hR hH Q hQ => ?_) ?_
      · skip
        obtain ⟨h8, h9, -⟩ := hH
        simp only [view, List.foldl, Act.put, List.setIfInBounds_toArray, List.set_cons_zero, List.set_cons_succ]
        rw [show f 8 = _ from h8]
        rw [show f 9 = _ from h9]
        clear h8 h9
        have hadd := HADD.out
        repeat (first | go_guarded | go_step)
        exact hQ _ _ (Grow.refl _) rfl rfl
      refine obls_cons (fun f w' hR hH Q hQ => ?_) ?_
      · skip
        obtain ⟨h6, h10, -⟩ := hH
        simp only [view, List.foldl, Act.put, List.setIfInBounds_toArray, List.set_cons_zero, List.set_cons_succ]
        rw [show f 6 = _ from h6]
        rw [show f 10 = _ from h10]
        clear h6 h10
        repeat (first | go_guarded | go_step)
        exact hQ _ _ (Grow.refl _) rfl rfl
      exact obls_nil
    case mono => exact ⟨Mono.veq _, Mono.veq _, Mono.veq _, Mono.veq _, Mono.veq _, Mono.veq _, Mono.veq _, Mono.veq _, Mono.veq _, Mono.veq _, Mono.veq _, Mono.veq _, trivial⟩
    case tail =>
      intro f w' hR hH
      simp only [view, List.zipIdx, List.foldl, Act.put, List.setIfInBounds_toArray, List.set_cons_zero, List.set_cons_succ, List.drop_succ_cons, List.drop_zero]
      obtain ⟨-, -, -, -, -, -, -, -, -, -, -, q11, -⟩ := hH
      rw [show f 11 = _ from q11]
      clear q11
      generalize f 0 = x0
      generalize f 1 = x1
      generalize f 2 = x2
      generalize f 3 = x3
      generalize f 4 = x4
      generalize f 5 = x5
      generalize f 6 = x6
      generalize f 7 = x7
      generalize f 8 = x8
      generalize f 9 = x9
      generalize f 10 = x10
      have HR := Lib.hid hR
      clear hR
      go_wp2_with (refine store_blk rfl _ _ _ rfl (g + 1) [.string (str (L.take m)), .int .i64 (m : Int)] rfl rfl _ _ (HB2.out.grow HR.out) (by rw [sizeR]; rfl) rfl rfl ?_)
      exact ret_blk rfl (g + 1) _ [.string (str (L.take m)), .int .i64 (m : Int)] _ rfl ((HB2.out.grow HR.out).setRow _) undR rfl (by rw [sizeR]; rfl) rfl ⟨rfl, Grow.setRow (((Grow.alloc _ _).trans (Grow.alloc _ _)).trans HR.out) (by have := HG.out; omega) _⟩
  · have hz : m = L.length := by have := HJ.out; omega
    subst hz
    rw [List.take_length] at hx
    have d1 : decide (k < 0) = false := decide_eq_false (by omega)
    have d2 : decide ((L.length : Int) - (s : Int) < k) = true := decide_eq_true (by omega)
    have HADD := Lib.hid (show (s : Int) + ((L.length : Int) - (s : Int)) = (L.length : Int) by omega)
    clear h0 h1
    go_enter Try.func50, Try.ntmps50
    go_wp2_with fail
    have HB1 : Hid (Blk ((w.alloc (.cells #[.string (str L), .int .i64 (s : Int)] 64)).alloc (.cells #[.string ⟨#[]⟩, .int .i64 0] 64)) g 64 [.string (str L), .int .i64 (s : Int)]) := Lib.hid ((Blk.new w _ _ _ rfl HG.out).grow (Grow.alloc _ _))
    have HB2 : Hid (Blk ((w.alloc (.cells #[.string (str L), .int .i64 (s : Int)] 64)).alloc (.cells #[.string ⟨#[]⟩, .int .i64 0] 64)) (g + 1) 64 [.string ⟨#[]⟩, .int .i64 0]) := Lib.hid (Blk.new _ _ _ _ rfl (by rw [HG.out]; simp))
    rw [← HG.out]
    apply (fun (v0 v1 v2 v3 v4 v5 v6 v7 v8 v9 v10 v11 : Value) mono obl tail => wp_region_par (R := Grow) (Φ := phi [veq v0, veq v1, veq v2, veq v3, veq v4, veq v5, veq v6, veq v7, veq v8, veq v9, veq v10, veq v11]) (m := 12) (dls := [[], [(21, 0)], [], [(23, 2)], [], [(24, 3), (25, 4)], [(22, 1), (26, 5)], [], [(28, 7)], [], [(29, 8), (30, 9)], [(27, 6), (31, 10)]]) (ds := [21, 22, 23, 24, 25, 26, 27, 28, 29, 30, 31, 32]) (by kernel_rfl) (by kernel_rfl) (by decide) rfl (Grow.drew _) (fun _ _ _ => Grow.trans) (mono_phi mono) obl tail)
    case obl =>
      refine obls_cons (fun f w' hR hH Q hQ => ?_) ?_
      · skip
        simp only [view, List.foldl]
        repeat (first | go_guarded | go_step)
        exact hQ _ _ (Grow.refl _) rfl rfl
      refine obls_cons (fun f w' hR hH Q hQ => ?_) ?_
      · skip
        obtain ⟨h0, -⟩ := hH
        simp only [view, List.foldl, Act.put, List.setIfInBounds_toArray, List.set_cons_zero, List.set_cons_succ]
        rw [show f 0 = _ from h0]
        clear h0
        have c0 := (HB1.out.grow hR).cell (i := 0) rfl
        repeat (first | go_guarded | go_step)
        exact hQ _ _ (Grow.refl _) rfl rfl
      refine obls_cons (fun f w' hR hH Q hQ => ?_) ?_
      · skip
        simp only [view, List.foldl]
        repeat (first | go_guarded | go_step)
        exact hQ _ _ (Grow.refl _) rfl rfl
      refine obls_cons (fun f w' hR hH Q hQ => ?_) ?_
      · skip
        obtain ⟨h2, -⟩ := hH
        simp only [view, List.foldl, Act.put, List.setIfInBounds_toArray, List.set_cons_zero, List.set_cons_succ]
        rw [show f 2 = _ from h2]
        clear h2
        have c1 := (HB1.out.grow hR).cell (i := 1) rfl
        repeat (first | go_guarded | go_step)
        exact hQ _ _ (Grow.refl _) rfl rfl
      refine obls_cons (fun f w' hR hH Q hQ => ?_) ?_
      · skip
        simp only [view, List.foldl]
        repeat (first | go_guarded | go_step)
        exact hQ _ _ (Grow.refl _) rfl rfl
      refine obls_cons (fun f w' hR hH Q hQ => ?_) ?_
      · skip
        obtain ⟨h3, h4, -⟩ := hH
        simp only [view, List.foldl, Act.put, List.setIfInBounds_toArray, List.set_cons_zero, List.set_cons_succ]
        rw [show f 3 = _ from h3]
        rw [show f 4 = _ from h4]
        clear h3 h4
        have hadd := HADD.out
        repeat (first | go_guarded | go_step)
        exact hQ _ _ (Grow.refl _) rfl rfl
      refine obls_cons (fun f w' hR hH Q hQ => ?_) ?_
      · skip
        obtain ⟨h1, h5, -⟩ := hH
        simp only [view, List.foldl, Act.put, List.setIfInBounds_toArray, List.set_cons_zero, List.set_cons_succ]
        rw [show f 1 = _ from h1]
        rw [show f 5 = _ from h5]
        clear h1 h5
        repeat (first | go_guarded | go_step)
        exact hQ _ _ (Grow.refl _) rfl rfl
      refine obls_cons (fun f w' hR hH Q hQ => ?_) ?_
      · skip
        simp only [view, List.foldl]
        repeat (first | go_guarded | go_step)
        exact hQ _ _ (Grow.refl _) rfl rfl
      refine obls_cons (fun f w' hR hH Q hQ => ?_) ?_
      · skip
        obtain ⟨h7, -⟩ := hH
        simp only [view, List.foldl, Act.put, List.setIfInBounds_toArray, List.set_cons_zero, List.set_cons_succ]
        rw [show f 7 = _ from h7]
        clear h7
        have c1 := (HB1.out.grow hR).cell (i := 1) rfl
        repeat (first | go_guarded | go_step)
        exact hQ _ _ (Grow.refl _) rfl rfl
      refine obls_cons (fun f w' hR hH Q hQ => ?_) ?_
      · skip
        simp only [view, List.foldl]
        repeat (first | go_guarded | go_step)
        exact hQ _ _ (Grow.refl _) rfl rfl
      refine obls_cons (fun f w' hR hH Q hQ => ?_) ?_
      · skip
        obtain ⟨h8, h9, -⟩ := hH
        simp only [view, List.foldl, Act.put, List.setIfInBounds_toArray, List.set_cons_zero, List.set_cons_succ]
        rw [show f 8 = _ from h8]
        rw [show f 9 = _ from h9]
        clear h8 h9
        have hadd := HADD.out
        repeat (first | go_guarded | go_step)
        exact hQ _ _ (Grow.refl _) rfl rfl
      refine obls_cons (fun f w' hR hH Q hQ => ?_) ?_
      · skip
        obtain ⟨h6, h10, -⟩ := hH
        simp only [view, List.foldl, Act.put, List.setIfInBounds_toArray, List.set_cons_zero, List.set_cons_succ]
        rw [show f 6 = _ from h6]
        rw [show f 10 = _ from h10]
        clear h6 h10
        repeat (first | go_guarded | go_step)
        exact hQ _ _ (Grow.refl _) rfl rfl
      exact obls_nil
    case mono => exact ⟨Mono.veq _, Mono.veq _, Mono.veq _, Mono.veq _, Mono.veq _, Mono.veq _, Mono.veq _, Mono.veq _, Mono.veq _, Mono.veq _, Mono.veq _, Mono.veq _, trivial⟩
    case tail =>
      intro f w' hR hH
      simp only [view, List.zipIdx, List.foldl, Act.put, List.setIfInBounds_toArray, List.set_cons_zero, List.set_cons_succ, List.drop_succ_cons, List.drop_zero]
      obtain ⟨-, -, -, -, -, -, -, -, -, -, -, q11, -⟩ := hH
      rw [show f 11 = _ from q11]
      clear q11
      generalize f 0 = x0
      generalize f 1 = x1
      generalize f 2 = x2
      generalize f 3 = x3
      generalize f 4 = x4
      generalize f 5 = x5
      generalize f 6 = x6
      generalize f 7 = x7
      generalize f 8 = x8
      generalize f 9 = x9
      generalize f 10 = x10
      have HR := Lib.hid hR
      clear hR
      go_wp2_with (refine store_blk rfl _ _ _ rfl (g + 1) [.string (str L), .int .i64 (L.length : Int)] rfl rfl _ _ (HB2.out.grow HR.out) (by rw [sizeR]; rfl) rfl rfl ?_)
      exact ret_blk rfl (g + 1) _ [.string (str L), .int .i64 (L.length : Int)] _ rfl ((HB2.out.grow HR.out).setRow _) undR rfl (by rw [sizeR]; rfl) rfl ⟨by rw [List.take_length], Grow.setRow (((Grow.alloc _ _).trans (Grow.alloc _ _)).trans HR.out) (by have := HG.out; omega) _⟩
end Go.Proofs.Ytgpcijpadelcfaa.dkW
