/- The statements of the sum: the walks of the laws. -/
import Derived.Test.YtmkbkophpmkcbaaDoorCrcW
import Derived.Lib.SlBytesConst
namespace Go.Proofs.YtmkbkophpmkcbaaDoor.crcL
open Go Go.RowKit Go.Par Go.Kit Go.Proofs.YtmkbkophpmkcbaaDoor.crcW

theorem info8 : (Tryd.prog.info? 5).isSome = true := by kernel_rfl
theorem i8 : Tryd.prog.info? 5 = some ((Tryd.prog.info? 5).get info8) := by simp
theorem i8s : ((Tryd.prog.info? 5).get info8).size = 1 := by kernel_rfl

theorem i8z : ((Tryd.prog.info? 5).get info8).zero = some (.int .u8 0) := by kernel_rfl
theorem i8b : ((Tryd.prog.info? 5).get info8).bytes = 1 := by kernel_rfl

theorem works_sum : ((sum [[49, 50, 51, 52, 53, 54, 55, 56, 57]]).toNat : Int) = 4236843288 := by decide +kernel
theorem works_any (w : World) (ht : Tab w) : Calls Tryd.prog 15 #[] w fun e w' => e = .returned (.bool true) ∧ Grow w w' := by
  have kc := fun (w : World) (C : Array Value) (n c : Nat) => Lib.run_convert_bytes_const (P := Tryd.prog) w 25 5 C n c Tryd.underlying25 Tryd.underlying5
  go_enter Tryd.func15, Tryd.ntmps15
  go_wp2_with fail
  have h1 := fun W ht' hp => sum_any (some ⟨w.heap.size + 1, 0, none⟩) 1 1 [[49, 50, 51, 52, 53, 54, 55, 56, 57]] W hp (by decide) ht'
  have h2 := fun W ht' => sum_any none 0 0 [] W (Parts.nil W none) (by decide) ht'
  rw [works_sum] at h1
  rw [show ((sum []).toNat : Int) = 0 from rfl] at h2
  refine (h1 _ ?_ ?_).mono ?_
  · exact (ht.grow (Grow.alloc w _)).grow (Grow.alloc _ _)
  · exact Parts.one _ _ (by simp) (Sl.mk (Bytes.new w _ _ _ rfl rfl rfl) (by decide) (by decide))
  rintro e w' ⟨rfl, rfl⟩
  go_wp2_with fail
  refine (h2 _ ?_).mono ?_
  · exact (ht.grow (Grow.alloc w _)).grow (Grow.alloc _ _)
  rintro e w' ⟨rfl, rfl⟩
  go_wp2_with fail
  go_ret
  exact ⟨rfl, (Grow.alloc w _).trans (Grow.alloc _ _)⟩

set_option maxRecDepth 100000 in
set_option maxHeartbeats 400000 in
theorem parts_walk (A : Option Addr) (n c : Nat) (l : List UInt8) (x : Int) (w : World) (hb : Bytes w A n l) (hc : n ≤ c) (hm : c ≤ maxLen) (hx0 : 0 ≤ x) (hx1 : x ≤ 65535) (ht : Tab w) :
    Calls Tryd.prog 4 #[.slice A n c, .int .u16 x] w fun e w' => e = .returned (.bool true) ∧ Grow w w' := by
  by_cases hn : 2000 < n
  · go_enter Tryd.func4, Tryd.ntmps4
    go_wp2_with (go_at_call 15; refine (works_any _ ht).mono ?_; rintro e w' ⟨rfl, hg⟩)
    go_ret
    exact ⟨rfl, hg⟩
  · unfold maxLen at hm
    obtain ⟨k, hk, hkn⟩ : ∃ k : Nat, x % ((n : Int) + 1) = k ∧ k ≤ n := by
      have h1 := Int.emod_nonneg x (show ((n : Int) + 1) ≠ 0 by omega)
      have h2 := Int.emod_lt_of_pos x (show 0 < ((n : Int) + 1) by omega)
      exact ⟨(x % ((n : Int) + 1)).toNat, by omega, by omega⟩
    go_enter Tryd.func4, Tryd.ntmps4
    go_wp2_with fail
    rw [hk]
    have hs1 := slice_hi (P := Tryd.prog) Tryd.underlying25 i8 A n c k (by omega)
    have hs2 := slice_lo (P := Tryd.prog) Tryd.underlying25 i8 i8s A n c k hkn
    obtain ⟨S, hS⟩ : ∃ S, sum [l] = S := ⟨_, rfl⟩
    obtain ⟨T, hT⟩ : ∃ T, sum [l.take k] = T := ⟨_, rfl⟩
    have k1 := sum_as hS
    have k2 := sum_as hT
    have k3 := sum_as (ls := [l.take k, l.drop k]) (S := S) (by rw [sum_two, List.take_append_drop, ← sum_one, hS])
    have m1 := more_as (s := T) (l := l.drop k) (S := S) (by rw [← hT, ← hS, sum_one, sum_one, ← Crc.more_append]; simp [bv])
    have m2 := more_as (s := S) (l := []) (S := S) (Crc.more_nil _)
    have hbt := hb.take hkn
    have hbd := hb.cut hkn hc
    have hk1 := Lib.hid k1
    have hk2 := Lib.hid k2
    have hk3 := Lib.hid k3
    have hm1 := Lib.hid m1
    have hm2 := Lib.hid m2
    clear hS hT k1 k2 k3 m1 m2 hk
    apply (fun (v0 v2 v3 v4 v5 v7 v8 v9 v10 v11 v12 v13 v14 v16 v17 v18 v19 v20 v21 v22 v24 v25 v26 v27 v28 v30 v31 v32 v34 v35 v36 v37 v38 v39 v40 : Value) mono obl tail => wp_region_par (R := Grow) (Φ := phi [veq v0, (IsParts [l]), veq v2, veq v3, veq v4, veq v5, (IsParts [l.take k]), veq v7, veq v8, veq v9, veq v10, veq v11, veq v12, veq v13, veq v14, (IsParts [l]), veq v16, veq v17, veq v18, veq v19, veq v20, veq v21, veq v22, (IsParts [l.take k, l.drop k]), veq v24, veq v25, veq v26, veq v27, veq v28, (IsParts [l]), veq v30, veq v31, veq v32, (IsParts [l]), veq v34, veq v35, veq v36, veq v37, veq v38, veq v39, veq v40]) (m := 41) (dls := [[], [(16, 0)], [(17, 1)], [], [], [(19, 3), (20, 4)], [(21, 5)], [(22, 6)], [], [], [(24, 8), (25, 9)], [(23, 7), (26, 10)], [(18, 2), (27, 11)], [(28, 12)], [(29, 13)], [(30, 14), (29, 13)], [(31, 15), (29, 13)], [(29, 13)], [(29, 13)], [(33, 17), (34, 18), (29, 13)], [(29, 13)], [(29, 13)], [(36, 20), (37, 21), (29, 13)], [(35, 19), (38, 22), (29, 13)], [(39, 23), (29, 13)], [(32, 16), (40, 24), (29, 13)], [(29, 13), (41, 25)], [(42, 26)], [(43, 27)], [(44, 28), (43, 27)], [(45, 29), (43, 27)], [(46, 30), (43, 27)], [(43, 27)], [(48, 32), (43, 27)], [(49, 33), (43, 27)], [(47, 31), (50, 34), (43, 27)], [(43, 27), (51, 35)], [(52, 36)], [(53, 37)], [(53, 37), (54, 38)], [(55, 39)]]) (ds := [16, 17, 18, 19, 20, 21, 22, 23, 24, 25, 26, 27, 28, 29, 30, 31, 32, 33, 34, 35, 36, 37, 38, 39, 40, 41, 42, 43, 44, 45, 46, 47, 48, 49, 50, 51, 52, 53, 54, 55, 4]) (by kernel_rfl) (by kernel_rfl) (by decide) rfl (Grow.drew _) (fun _ _ _ => Grow.trans) (mono_phi mono) obl tail)
    case obl =>
      refine obls_cons (fun f w' hR hH Q hQ => ?_) ?_
      · skip
        simp only [view, List.foldl]
        repeat (first | go_guarded | go_step)
        exact hQ _ _ (Grow.refl _) rfl rfl
      refine obls_cons (fun f w' hR hH Q hQ => ?_) ?_
      · skip
        obtain ⟨h0, -⟩ := hH
        simp only [view, List.foldl, Act.put, List.setIfInBounds_toArray, List.set_cons_zero, List.set_cons_succ]
        rw [show f 0 = _ from h0]
        clear h0
        repeat (first | go_guarded | go_step)
        exact hQ _ _ (Grow.alloc _ _) ⟨_, _, _, rfl, by decide, Parts.one _ _ rfl (Sl.mk (hb.grow hR) hc (by unfold maxLen; omega))⟩ rfl
      refine obls_cons (fun f w' hR hH Q hQ => ?_) ?_
      · skip
        obtain ⟨h1, -⟩ := hH
        simp only [view, List.foldl, Act.put, List.setIfInBounds_toArray, List.set_cons_zero, List.set_cons_succ]
        generalize f 1 = u1 at h1 ⊢
        replace h1 : (IsParts [l]) u1 w' := h1
        obtain ⟨A1, n1, c1, rfl, hn1, hp1⟩ := h1
        go_wp2_with (go_at_call 18; refine (hk1.out _ _ _ _ hp1 hn1 (ht.grow hR)).mono ?_; rintro e w1 ⟨rfl, rfl⟩)
        exact hQ _ _ (Grow.refl _) rfl rfl
      refine obls_cons (fun f w' hR hH Q hQ => ?_) ?_
      · skip
        simp only [view, List.foldl]
        repeat (first | go_guarded | go_step)
        exact hQ _ _ (Grow.refl _) rfl rfl
      refine obls_cons (fun f w' hR hH Q hQ => ?_) ?_
      · skip
        simp only [view, List.foldl]
        repeat (first | go_guarded | go_step)
        exact hQ _ _ (Grow.refl _) rfl rfl
      refine obls_cons (fun f w' hR hH Q hQ => ?_) ?_
      · skip
        obtain ⟨h3, h4, -⟩ := hH
        simp only [view, List.foldl, Act.put, List.setIfInBounds_toArray, List.set_cons_zero, List.set_cons_succ]
        rw [show f 3 = _ from h3]
        rw [show f 4 = _ from h4]
        clear h3 h4
        repeat (first | go_guarded | go_step)
        exact hQ _ _ (Grow.refl _) rfl rfl
      refine obls_cons (fun f w' hR hH Q hQ => ?_) ?_
      · skip
        obtain ⟨h5, -⟩ := hH
        simp only [view, List.foldl, Act.put, List.setIfInBounds_toArray, List.set_cons_zero, List.set_cons_succ]
        rw [show f 5 = _ from h5]
        clear h5
        repeat (first | go_guarded | go_step)
        exact hQ _ _ (Grow.alloc _ _) ⟨_, _, _, rfl, by decide, Parts.one _ _ rfl (Sl.mk (hbt.grow hR) (by omega) (by unfold maxLen; omega))⟩ rfl
      refine obls_cons (fun f w' hR hH Q hQ => ?_) ?_
      · skip
        obtain ⟨h6, -⟩ := hH
        simp only [view, List.foldl, Act.put, List.setIfInBounds_toArray, List.set_cons_zero, List.set_cons_succ]
        generalize f 6 = u6 at h6 ⊢
        replace h6 : (IsParts [l.take k]) u6 w' := h6
        obtain ⟨A1, n1, c1, rfl, hn1, hp1⟩ := h6
        go_wp2_with (go_at_call 18; refine (hk2.out _ _ _ _ hp1 hn1 (ht.grow hR)).mono ?_; rintro e w1 ⟨rfl, rfl⟩)
        exact hQ _ _ (Grow.refl _) rfl rfl
      refine obls_cons (fun f w' hR hH Q hQ => ?_) ?_
      · skip
        simp only [view, List.foldl]
        repeat (first | go_guarded | go_step)
        exact hQ _ _ (Grow.refl _) rfl rfl
      refine obls_cons (fun f w' hR hH Q hQ => ?_) ?_
      · skip
        simp only [view, List.foldl]
        repeat (first | go_guarded | go_step)
        exact hQ _ _ (Grow.refl _) rfl rfl
      refine obls_cons (fun f w' hR hH Q hQ => ?_) ?_
      · skip
        obtain ⟨h8, h9, -⟩ := hH
        simp only [view, List.foldl, Act.put, List.setIfInBounds_toArray, List.set_cons_zero, List.set_cons_succ]
        rw [show f 8 = _ from h8]
        rw [show f 9 = _ from h9]
        clear h8 h9
        repeat (first | go_guarded | go_step)
        exact hQ _ _ (Grow.refl _) rfl rfl
      refine obls_cons (fun f w' hR hH Q hQ => ?_) ?_
      · skip
        obtain ⟨h7, h10, -⟩ := hH
        simp only [view, List.foldl, Act.put, List.setIfInBounds_toArray, List.set_cons_zero, List.set_cons_succ]
        rw [show f 7 = _ from h7]
        rw [show f 10 = _ from h10]
        clear h7 h10
        go_wp2_with (go_at_call 16; refine (hm1.out _ _ _ _ (hbd.grow hR) (by unfold maxLen; omega) (ht.grow hR)).mono ?_; rintro e w1 ⟨rfl, rfl⟩)
        exact hQ _ _ (Grow.refl _) rfl rfl
      refine obls_cons (fun f w' hR hH Q hQ => ?_) ?_
      · skip
        obtain ⟨h2, h11, -⟩ := hH
        simp only [view, List.foldl, Act.put, List.setIfInBounds_toArray, List.set_cons_zero, List.set_cons_succ]
        rw [show f 2 = _ from h2]
        rw [show f 11 = _ from h11]
        clear h2 h11
        repeat (first | go_guarded | go_step)
        exact hQ _ _ (Grow.refl _) rfl rfl
      refine obls_cons (fun f w' hR hH Q hQ => ?_) ?_
      · skip
        obtain ⟨h12, -⟩ := hH
        simp only [view, List.foldl, Act.put, List.setIfInBounds_toArray, List.set_cons_zero, List.set_cons_succ]
        rw [show f 12 = _ from h12]
        clear h12
        repeat (first | go_guarded | go_step)
        exact hQ _ _ (Grow.refl _) rfl rfl
      refine obls_cons (fun f w' hR hH Q hQ => ?_) ?_
      · skip
        obtain ⟨h13, -⟩ := hH
        simp only [view, List.foldl, Act.put, List.setIfInBounds_toArray, List.set_cons_zero, List.set_cons_succ]
        rw [show f 13 = _ from h13]
        clear h13
        repeat (first | go_guarded | go_step)
        exact hQ _ _ (Grow.refl _) rfl rfl
      refine obls_cons (fun f w' hR hH Q hQ => ?_) ?_
      · skip
        obtain ⟨h14, h13, -⟩ := hH
        simp only [view, List.foldl, Act.put, List.setIfInBounds_toArray, List.set_cons_zero, List.set_cons_succ]
        rw [show f 14 = _ from h14]
        rw [show f 13 = _ from h13]
        clear h14 h13
        repeat (first | go_guarded | go_step)
        exact hQ _ _ (Grow.alloc _ _) ⟨_, _, _, rfl, by decide, Parts.one _ _ rfl (Sl.mk (hb.grow hR) hc (by unfold maxLen; omega))⟩ rfl
      refine obls_cons (fun f w' hR hH Q hQ => ?_) ?_
      · skip
        obtain ⟨h15, h13, -⟩ := hH
        simp only [view, List.foldl, Act.put, List.setIfInBounds_toArray, List.set_cons_zero, List.set_cons_succ]
        generalize f 15 = u15 at h15 ⊢
        replace h15 : (IsParts [l]) u15 w' := h15
        rw [show f 13 = _ from h13]
        clear h13
        obtain ⟨A1, n1, c1, rfl, hn1, hp1⟩ := h15
        go_wp2_with (go_at_call 18; refine (hk1.out _ _ _ _ hp1 hn1 (ht.grow hR)).mono ?_; rintro e w1 ⟨rfl, rfl⟩)
        exact hQ _ _ (Grow.refl _) rfl rfl
      refine obls_cons (fun f w' hR hH Q hQ => ?_) ?_
      · skip
        obtain ⟨h13, -⟩ := hH
        simp only [view, List.foldl, Act.put, List.setIfInBounds_toArray, List.set_cons_zero, List.set_cons_succ]
        rw [show f 13 = _ from h13]
        clear h13
        repeat (first | go_guarded | go_step)
        exact hQ _ _ (Grow.refl _) rfl rfl
      refine obls_cons (fun f w' hR hH Q hQ => ?_) ?_
      · skip
        obtain ⟨h13, -⟩ := hH
        simp only [view, List.foldl, Act.put, List.setIfInBounds_toArray, List.set_cons_zero, List.set_cons_succ]
        rw [show f 13 = _ from h13]
        clear h13
        repeat (first | go_guarded | go_step)
        exact hQ _ _ (Grow.refl _) rfl rfl
      refine obls_cons (fun f w' hR hH Q hQ => ?_) ?_
      · skip
        obtain ⟨h17, h18, h13, -⟩ := hH
        simp only [view, List.foldl, Act.put, List.setIfInBounds_toArray, List.set_cons_zero, List.set_cons_succ]
        rw [show f 17 = _ from h17]
        rw [show f 18 = _ from h18]
        rw [show f 13 = _ from h13]
        clear h17 h18 h13
        repeat (first | go_guarded | go_step)
        exact hQ _ _ (Grow.refl _) rfl rfl
      refine obls_cons (fun f w' hR hH Q hQ => ?_) ?_
      · skip
        obtain ⟨h13, -⟩ := hH
        simp only [view, List.foldl, Act.put, List.setIfInBounds_toArray, List.set_cons_zero, List.set_cons_succ]
        rw [show f 13 = _ from h13]
        clear h13
        repeat (first | go_guarded | go_step)
        exact hQ _ _ (Grow.refl _) rfl rfl
      refine obls_cons (fun f w' hR hH Q hQ => ?_) ?_
      · skip
        obtain ⟨h13, -⟩ := hH
        simp only [view, List.foldl, Act.put, List.setIfInBounds_toArray, List.set_cons_zero, List.set_cons_succ]
        rw [show f 13 = _ from h13]
        clear h13
        repeat (first | go_guarded | go_step)
        exact hQ _ _ (Grow.refl _) rfl rfl
      refine obls_cons (fun f w' hR hH Q hQ => ?_) ?_
      · skip
        obtain ⟨h20, h21, h13, -⟩ := hH
        simp only [view, List.foldl, Act.put, List.setIfInBounds_toArray, List.set_cons_zero, List.set_cons_succ]
        rw [show f 20 = _ from h20]
        rw [show f 21 = _ from h21]
        rw [show f 13 = _ from h13]
        clear h20 h21 h13
        repeat (first | go_guarded | go_step)
        exact hQ _ _ (Grow.refl _) rfl rfl
      refine obls_cons (fun f w' hR hH Q hQ => ?_) ?_
      · skip
        obtain ⟨h19, h22, h13, -⟩ := hH
        simp only [view, List.foldl, Act.put, List.setIfInBounds_toArray, List.set_cons_zero, List.set_cons_succ]
        rw [show f 19 = _ from h19]
        rw [show f 22 = _ from h22]
        rw [show f 13 = _ from h13]
        clear h19 h22 h13
        repeat (first | go_guarded | go_step)
        exact hQ _ _ (Grow.alloc _ _) ⟨_, _, _, rfl, by decide, Parts.two _ _ rfl (Sl.mk (hbt.grow hR) (by omega) (by unfold maxLen; omega)) (Sl.mk (hbd.grow hR) (by omega) (by unfold maxLen; omega))⟩ rfl
      refine obls_cons (fun f w' hR hH Q hQ => ?_) ?_
      · skip
        obtain ⟨h23, h13, -⟩ := hH
        simp only [view, List.foldl, Act.put, List.setIfInBounds_toArray, List.set_cons_zero, List.set_cons_succ]
        generalize f 23 = u23 at h23 ⊢
        replace h23 : (IsParts [l.take k, l.drop k]) u23 w' := h23
        rw [show f 13 = _ from h13]
        clear h13
        obtain ⟨A1, n1, c1, rfl, hn1, hp1⟩ := h23
        go_wp2_with (go_at_call 18; refine (hk3.out _ _ _ _ hp1 hn1 (ht.grow hR)).mono ?_; rintro e w1 ⟨rfl, rfl⟩)
        exact hQ _ _ (Grow.refl _) rfl rfl
      refine obls_cons (fun f w' hR hH Q hQ => ?_) ?_
      · skip
        obtain ⟨h16, h24, h13, -⟩ := hH
        simp only [view, List.foldl, Act.put, List.setIfInBounds_toArray, List.set_cons_zero, List.set_cons_succ]
        rw [show f 16 = _ from h16]
        rw [show f 24 = _ from h24]
        rw [show f 13 = _ from h13]
        clear h16 h24 h13
        repeat (first | go_guarded | go_step)
        exact hQ _ _ (Grow.refl _) rfl rfl
      refine obls_cons (fun f w' hR hH Q hQ => ?_) ?_
      · skip
        obtain ⟨h13, h25, -⟩ := hH
        simp only [view, List.foldl, Act.put, List.setIfInBounds_toArray, List.set_cons_zero, List.set_cons_succ]
        rw [show f 13 = _ from h13]
        rw [show f 25 = _ from h25]
        clear h13 h25
        repeat (first | go_guarded | go_step)
        exact hQ _ _ (Grow.refl _) rfl rfl
      refine obls_cons (fun f w' hR hH Q hQ => ?_) ?_
      · skip
        obtain ⟨h26, -⟩ := hH
        simp only [view, List.foldl, Act.put, List.setIfInBounds_toArray, List.set_cons_zero, List.set_cons_succ]
        rw [show f 26 = _ from h26]
        clear h26
        repeat (first | go_guarded | go_step)
        exact hQ _ _ (Grow.refl _) rfl rfl
      refine obls_cons (fun f w' hR hH Q hQ => ?_) ?_
      · skip
        obtain ⟨h27, -⟩ := hH
        simp only [view, List.foldl, Act.put, List.setIfInBounds_toArray, List.set_cons_zero, List.set_cons_succ]
        rw [show f 27 = _ from h27]
        clear h27
        repeat (first | go_guarded | go_step)
        exact hQ _ _ (Grow.refl _) rfl rfl
      refine obls_cons (fun f w' hR hH Q hQ => ?_) ?_
      · skip
        obtain ⟨h28, h27, -⟩ := hH
        simp only [view, List.foldl, Act.put, List.setIfInBounds_toArray, List.set_cons_zero, List.set_cons_succ]
        rw [show f 28 = _ from h28]
        rw [show f 27 = _ from h27]
        clear h28 h27
        repeat (first | go_guarded | go_step)
        exact hQ _ _ (Grow.alloc _ _) ⟨_, _, _, rfl, by decide, Parts.one _ _ rfl (Sl.mk (hb.grow hR) hc (by unfold maxLen; omega))⟩ rfl
      refine obls_cons (fun f w' hR hH Q hQ => ?_) ?_
      · skip
        obtain ⟨h29, h27, -⟩ := hH
        simp only [view, List.foldl, Act.put, List.setIfInBounds_toArray, List.set_cons_zero, List.set_cons_succ]
        generalize f 29 = u29 at h29 ⊢
        replace h29 : (IsParts [l]) u29 w' := h29
        rw [show f 27 = _ from h27]
        clear h27
        obtain ⟨A1, n1, c1, rfl, hn1, hp1⟩ := h29
        go_wp2_with (go_at_call 18; refine (hk1.out _ _ _ _ hp1 hn1 (ht.grow hR)).mono ?_; rintro e w1 ⟨rfl, rfl⟩)
        exact hQ _ _ (Grow.refl _) rfl rfl
      refine obls_cons (fun f w' hR hH Q hQ => ?_) ?_
      · skip
        obtain ⟨h30, h27, -⟩ := hH
        simp only [view, List.foldl, Act.put, List.setIfInBounds_toArray, List.set_cons_zero, List.set_cons_succ]
        rw [show f 30 = _ from h30]
        rw [show f 27 = _ from h27]
        clear h30 h27
        go_wp2_with (go_at_call 16; refine (hm2.out _ _ _ _ (Row.nil _ _) (by decide) (ht.grow hR)).mono ?_; rintro e w1 ⟨rfl, rfl⟩)
        exact hQ _ _ (Grow.refl _) rfl rfl
      refine obls_cons (fun f w' hR hH Q hQ => ?_) ?_
      · skip
        obtain ⟨h27, -⟩ := hH
        simp only [view, List.foldl, Act.put, List.setIfInBounds_toArray, List.set_cons_zero, List.set_cons_succ]
        rw [show f 27 = _ from h27]
        clear h27
        repeat (first | go_guarded | go_step)
        exact hQ _ _ (Grow.refl _) rfl rfl
      refine obls_cons (fun f w' hR hH Q hQ => ?_) ?_
      · skip
        obtain ⟨h32, h27, -⟩ := hH
        simp only [view, List.foldl, Act.put, List.setIfInBounds_toArray, List.set_cons_zero, List.set_cons_succ]
        rw [show f 32 = _ from h32]
        rw [show f 27 = _ from h27]
        clear h32 h27
        repeat (first | go_guarded | go_step)
        exact hQ _ _ (Grow.alloc _ _) ⟨_, _, _, rfl, by decide, Parts.one _ _ rfl (Sl.mk (hb.grow hR) hc (by unfold maxLen; omega))⟩ rfl
      refine obls_cons (fun f w' hR hH Q hQ => ?_) ?_
      · skip
        obtain ⟨h33, h27, -⟩ := hH
        simp only [view, List.foldl, Act.put, List.setIfInBounds_toArray, List.set_cons_zero, List.set_cons_succ]
        generalize f 33 = u33 at h33 ⊢
        replace h33 : (IsParts [l]) u33 w' := h33
        rw [show f 27 = _ from h27]
        clear h27
        obtain ⟨A1, n1, c1, rfl, hn1, hp1⟩ := h33
        go_wp2_with (go_at_call 18; refine (hk1.out _ _ _ _ hp1 hn1 (ht.grow hR)).mono ?_; rintro e w1 ⟨rfl, rfl⟩)
        exact hQ _ _ (Grow.refl _) rfl rfl
      refine obls_cons (fun f w' hR hH Q hQ => ?_) ?_
      · skip
        obtain ⟨h31, h34, h27, -⟩ := hH
        simp only [view, List.foldl, Act.put, List.setIfInBounds_toArray, List.set_cons_zero, List.set_cons_succ]
        rw [show f 31 = _ from h31]
        rw [show f 34 = _ from h34]
        rw [show f 27 = _ from h27]
        clear h31 h34 h27
        repeat (first | go_guarded | go_step)
        exact hQ _ _ (Grow.refl _) rfl rfl
      refine obls_cons (fun f w' hR hH Q hQ => ?_) ?_
      · skip
        obtain ⟨h27, h35, -⟩ := hH
        simp only [view, List.foldl, Act.put, List.setIfInBounds_toArray, List.set_cons_zero, List.set_cons_succ]
        rw [show f 27 = _ from h27]
        rw [show f 35 = _ from h35]
        clear h27 h35
        repeat (first | go_guarded | go_step)
        exact hQ _ _ (Grow.refl _) rfl rfl
      refine obls_cons (fun f w' hR hH Q hQ => ?_) ?_
      · skip
        obtain ⟨h36, -⟩ := hH
        simp only [view, List.foldl, Act.put, List.setIfInBounds_toArray, List.set_cons_zero, List.set_cons_succ]
        rw [show f 36 = _ from h36]
        clear h36
        repeat (first | go_guarded | go_step)
        exact hQ _ _ (Grow.refl _) rfl rfl
      refine obls_cons (fun f w' hR hH Q hQ => ?_) ?_
      · skip
        obtain ⟨h37, -⟩ := hH
        simp only [view, List.foldl, Act.put, List.setIfInBounds_toArray, List.set_cons_zero, List.set_cons_succ]
        rw [show f 37 = _ from h37]
        clear h37
        go_wp2_with (go_at_call 15; refine (works_any _ (ht.grow hR)).mono ?_; rintro e w1 ⟨rfl, hg⟩)
        exact hQ _ _ hg rfl rfl
      refine obls_cons (fun f w' hR hH Q hQ => ?_) ?_
      · skip
        obtain ⟨h37, h38, -⟩ := hH
        simp only [view, List.foldl, Act.put, List.setIfInBounds_toArray, List.set_cons_zero, List.set_cons_succ]
        rw [show f 37 = _ from h37]
        rw [show f 38 = _ from h38]
        clear h37 h38
        repeat (first | go_guarded | go_step)
        exact hQ _ _ (Grow.refl _) rfl rfl
      refine obls_cons (fun f w' hR hH Q hQ => ?_) ?_
      · skip
        obtain ⟨h39, -⟩ := hH
        simp only [view, List.foldl, Act.put, List.setIfInBounds_toArray, List.set_cons_zero, List.set_cons_succ]
        rw [show f 39 = _ from h39]
        clear h39
        repeat (first | go_guarded | go_step)
        exact hQ _ _ (Grow.refl _) rfl rfl
      exact obls_nil
    case mono => exact ⟨Mono.veq _, IsParts.mono, Mono.veq _, Mono.veq _, Mono.veq _, Mono.veq _, IsParts.mono, Mono.veq _, Mono.veq _, Mono.veq _, Mono.veq _, Mono.veq _, Mono.veq _, Mono.veq _, Mono.veq _, IsParts.mono, Mono.veq _, Mono.veq _, Mono.veq _, Mono.veq _, Mono.veq _, Mono.veq _, Mono.veq _, IsParts.mono, Mono.veq _, Mono.veq _, Mono.veq _, Mono.veq _, Mono.veq _, IsParts.mono, Mono.veq _, Mono.veq _, Mono.veq _, IsParts.mono, Mono.veq _, Mono.veq _, Mono.veq _, Mono.veq _, Mono.veq _, Mono.veq _, Mono.veq _, trivial⟩
    case tail =>
      intro f w' hR hH
      simp only [view, List.zipIdx, List.foldl, Act.put, List.setIfInBounds_toArray, List.set_cons_zero, List.set_cons_succ, List.drop_succ_cons, List.drop_zero]
      obtain ⟨-, -, -, -, -, -, -, -, -, -, -, -, -, -, -, -, -, -, -, -, -, -, -, -, -, -, -, -, -, -, -, -, -, -, -, -, -, -, -, -, q40, -⟩ := hH
      rw [show f 40 = _ from q40]
      clear q40
      generalize f 0 = x0
      generalize f 1 = x1
      generalize f 2 = x2
      generalize f 3 = x3
      generalize f 4 = x4
      generalize f 5 = x5
      generalize f 6 = x6
      generalize f 7 = x7
      generalize f 8 = x8
      generalize f 9 = x9
      generalize f 10 = x10
      generalize f 11 = x11
      generalize f 12 = x12
      generalize f 13 = x13
      generalize f 14 = x14
      generalize f 15 = x15
      generalize f 16 = x16
      generalize f 17 = x17
      generalize f 18 = x18
      generalize f 19 = x19
      generalize f 20 = x20
      generalize f 21 = x21
      generalize f 22 = x22
      generalize f 23 = x23
      generalize f 24 = x24
      generalize f 25 = x25
      generalize f 26 = x26
      generalize f 27 = x27
      generalize f 28 = x28
      generalize f 29 = x29
      generalize f 30 = x30
      generalize f 31 = x31
      generalize f 32 = x32
      generalize f 33 = x33
      generalize f 34 = x34
      generalize f 35 = x35
      generalize f 36 = x36
      generalize f 37 = x37
      generalize f 38 = x38
      generalize f 39 = x39
      go_wp2
      go_ret
      exact ⟨rfl, hR⟩
end Go.Proofs.YtmkbkophpmkcbaaDoor.crcL
