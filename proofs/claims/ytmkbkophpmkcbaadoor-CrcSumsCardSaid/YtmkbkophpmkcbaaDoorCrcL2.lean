/- The statement CrcSums: the walk. -/
import Derived.Test.YtmkbkophpmkcbaaDoorCrcL
namespace Go.Proofs.YtmkbkophpmkcbaaDoor.crcL
open Go Go.RowKit Go.Par Go.Kit Go.Proofs.YtmkbkophpmkcbaaDoor.crcW

set_option maxRecDepth 100000 in
set_option maxHeartbeats 1000000 in
theorem sums_walk (A : Option Addr) (n c : Nat) (ls : List (List UInt8)) (s : BitVec 32) (w : World) (hp : Parts w A n ls) (hc : n ≤ c) (hm : c ≤ maxLen) (ht : Tab w) :
    Calls Tryd.prog 3 #[.slice A n c, .int .u32 (s.toNat : Int)] w fun e w' => e = .returned (.bool true) ∧ Grow w w' := by
  by_cases hn : 40 < n
  · go_enter Tryd.func3, Tryd.ntmps3
    go_wp2_with (go_at_call 15; refine (works_any _ ht).mono ?_; rintro e w' ⟨rfl, hg⟩)
    go_ret
    exact ⟨rfl, hg⟩
  · obtain ⟨S, hS⟩ : ∃ S, sum ls = S := ⟨_, rfl⟩
    have HS := Lib.hid hS
    clear hS
    go_enter Tryd.func3, Tryd.ntmps3
    go_wp2_with fail
    go_loopw [5] (fun i wr => ∃ k : Nat, k ≤ n ∧ i = .int .i64 k ∧ Grow w wr) (fun i _ => n - (intOf i).toNat)
    case atStart => exact ⟨0, Nat.zero_le _, rfl, Grow.refl _⟩
    case round =>
      obtain ⟨k, hk, rfl, hg⟩ := hrel
      have hp' := hp.grow hg
      have ht' := ht.grow hg
      by_cases hlt : k < n
      · obtain ⟨b, off, A', n', c', l, rfl, hx, hcell, h1, h2, h3⟩ := hp'.at_ hlt
        obtain ⟨T, hT⟩ : ∃ T, Crc.more s (bv l) = T := ⟨_, rfl⟩
        have HT := Lib.hid hT
        clear hT hx
        by_cases h5 : 500 < n'
        · go_wp2_with fail
          apply (fun (v0 v1 v2 v3 v4 v5 v6 v7 v8 v9 v10 v11 v12 v13 v14 v15 v16 v17 v18 v19 v20 : Value) mono obl tail => wp_region_par (R := Grow) (Φ := phi [veq v0, veq v1, veq v2, veq v3, veq v4, veq v5, veq v6, veq v7, veq v8, veq v9, veq v10, veq v11, veq v12, veq v13, veq v14, veq v15, veq v16, veq v17, veq v18, veq v19, veq v20]) (m := 21) (dls := [[], [], [(16, 0), (17, 1)], [(18, 2)], [(19, 3)], [(20, 4)], [(21, 5)], [(22, 6)], [(22, 6)], [(22, 6)], [(24, 8), (25, 9), (22, 6)], [(26, 10), (22, 6)], [(23, 7), (27, 11), (22, 6)], [(22, 6)], [(22, 6)], [(22, 6)], [(30, 14), (31, 15), (22, 6)], [(32, 16), (22, 6)], [(29, 13), (33, 17), (22, 6)], [(28, 12), (34, 18), (22, 6)], [(22, 6), (35, 19)]]) (ds := [16, 17, 18, 19, 20, 21, 22, 23, 24, 25, 26, 27, 28, 29, 30, 31, 32, 33, 34, 35, 36]) (by kernel_rfl) (by kernel_rfl) (by decide) rfl (Grow.drew _) (fun _ _ _ => Grow.trans) (mono_phi mono) obl tail)
          case obl =>
            refine obls_cons (fun f w' hR hH Q hQ => ?_) ?_
            · skip
              have hcell' := hR.cell hcell
              simp only [view, List.foldl]
              repeat (first | go_guarded | go_step)
              exact hQ _ _ (Grow.refl _) rfl rfl
            refine obls_cons (fun f w' hR hH Q hQ => ?_) ?_
            · skip
              have hcell' := hR.cell hcell
              simp only [view, List.foldl]
              repeat (first | go_guarded | go_step)
              exact hQ _ _ (Grow.refl _) rfl rfl
            refine obls_cons (fun f w' hR hH Q hQ => ?_) ?_
            · skip
              have hcell' := hR.cell hcell
              obtain ⟨h0, h1, -⟩ := hH
              simp only [view, List.foldl, Act.put, List.setIfInBounds_toArray, List.set_cons_zero, List.set_cons_succ]
              rw [show f 0 = _ from h0]
              rw [show f 1 = _ from h1]
              clear h0 h1
              repeat (first | go_guarded | go_step)
              exact hQ _ _ (Grow.refl _) rfl rfl
            refine obls_cons (fun f w' hR hH Q hQ => ?_) ?_
            · skip
              have hcell' := hR.cell hcell
              obtain ⟨h2, -⟩ := hH
              simp only [view, List.foldl, Act.put, List.setIfInBounds_toArray, List.set_cons_zero, List.set_cons_succ]
              rw [show f 2 = _ from h2]
              clear h2
              repeat (first | go_guarded | go_step)
              exact hQ _ _ (Grow.refl _) rfl rfl
            refine obls_cons (fun f w' hR hH Q hQ => ?_) ?_
            · skip
              have hcell' := hR.cell hcell
              obtain ⟨h3, -⟩ := hH
              simp only [view, List.foldl, Act.put, List.setIfInBounds_toArray, List.set_cons_zero, List.set_cons_succ]
              rw [show f 3 = _ from h3]
              clear h3
              repeat (first | go_guarded | go_step)
              exact hQ _ _ (Grow.refl _) rfl rfl
            refine obls_cons (fun f w' hR hH Q hQ => ?_) ?_
            · skip
              have hcell' := hR.cell hcell
              obtain ⟨h4, -⟩ := hH
              simp only [view, List.foldl, Act.put, List.setIfInBounds_toArray, List.set_cons_zero, List.set_cons_succ]
              rw [show f 4 = _ from h4]
              clear h4
              repeat (first | go_guarded | go_step)
              exact hQ _ _ (Grow.refl _) rfl rfl
            refine obls_cons (fun f w' hR hH Q hQ => ?_) ?_
            · skip
              have hcell' := hR.cell hcell
              obtain ⟨h5, -⟩ := hH
              simp only [view, List.foldl, Act.put, List.setIfInBounds_toArray, List.set_cons_zero, List.set_cons_succ]
              rw [show f 5 = _ from h5]
              clear h5
              repeat (first | go_guarded | go_step)
              exact hQ _ _ (Grow.refl _) rfl rfl
            refine obls_cons (fun f w' hR hH Q hQ => ?_) ?_
            · skip
              have hcell' := hR.cell hcell
              obtain ⟨h6, -⟩ := hH
              simp only [view, List.foldl, Act.put, List.setIfInBounds_toArray, List.set_cons_zero, List.set_cons_succ]
              rw [show f 6 = _ from h6]
              clear h6
              repeat (first | go_guarded | go_step)
              exact hQ _ _ (Grow.refl _) rfl rfl
            refine obls_cons (fun f w' hR hH Q hQ => ?_) ?_
            · skip
              have hcell' := hR.cell hcell
              obtain ⟨h6, -⟩ := hH
              simp only [view, List.foldl, Act.put, List.setIfInBounds_toArray, List.set_cons_zero, List.set_cons_succ]
              rw [show f 6 = _ from h6]
              clear h6
              repeat (first | go_guarded | go_step)
              exact hQ _ _ (Grow.refl _) rfl rfl
            refine obls_cons (fun f w' hR hH Q hQ => ?_) ?_
            · skip
              have hcell' := hR.cell hcell
              obtain ⟨h6, -⟩ := hH
              simp only [view, List.foldl, Act.put, List.setIfInBounds_toArray, List.set_cons_zero, List.set_cons_succ]
              rw [show f 6 = _ from h6]
              clear h6
              repeat (first | go_guarded | go_step)
              exact hQ _ _ (Grow.refl _) rfl rfl
            refine obls_cons (fun f w' hR hH Q hQ => ?_) ?_
            · skip
              have hcell' := hR.cell hcell
              obtain ⟨h8, h9, h6, -⟩ := hH
              simp only [view, List.foldl, Act.put, List.setIfInBounds_toArray, List.set_cons_zero, List.set_cons_succ]
              rw [show f 8 = _ from h8]
              rw [show f 9 = _ from h9]
              rw [show f 6 = _ from h6]
              clear h8 h9 h6
              repeat (first | go_guarded | go_step)
              exact hQ _ _ (Grow.refl _) rfl rfl
            refine obls_cons (fun f w' hR hH Q hQ => ?_) ?_
            · skip
              have hcell' := hR.cell hcell
              obtain ⟨h10, h6, -⟩ := hH
              simp only [view, List.foldl, Act.put, List.setIfInBounds_toArray, List.set_cons_zero, List.set_cons_succ]
              rw [show f 10 = _ from h10]
              rw [show f 6 = _ from h6]
              clear h10 h6
              repeat (first | go_guarded | go_step)
              exact hQ _ _ (Grow.refl _) rfl rfl
            refine obls_cons (fun f w' hR hH Q hQ => ?_) ?_
            · skip
              have hcell' := hR.cell hcell
              obtain ⟨h7, h11, h6, -⟩ := hH
              simp only [view, List.foldl, Act.put, List.setIfInBounds_toArray, List.set_cons_zero, List.set_cons_succ]
              rw [show f 7 = _ from h7]
              rw [show f 11 = _ from h11]
              rw [show f 6 = _ from h6]
              clear h7 h11 h6
              repeat (first | go_guarded | go_step)
              exact hQ _ _ (Grow.refl _) rfl rfl
            refine obls_cons (fun f w' hR hH Q hQ => ?_) ?_
            · skip
              have hcell' := hR.cell hcell
              obtain ⟨h6, -⟩ := hH
              simp only [view, List.foldl, Act.put, List.setIfInBounds_toArray, List.set_cons_zero, List.set_cons_succ]
              rw [show f 6 = _ from h6]
              clear h6
              repeat (first | go_guarded | go_step)
              exact hQ _ _ (Grow.refl _) rfl rfl
            refine obls_cons (fun f w' hR hH Q hQ => ?_) ?_
            · skip
              have hcell' := hR.cell hcell
              obtain ⟨h6, -⟩ := hH
              simp only [view, List.foldl, Act.put, List.setIfInBounds_toArray, List.set_cons_zero, List.set_cons_succ]
              rw [show f 6 = _ from h6]
              clear h6
              repeat (first | go_guarded | go_step)
              exact hQ _ _ (Grow.refl _) rfl rfl
            refine obls_cons (fun f w' hR hH Q hQ => ?_) ?_
            · skip
              have hcell' := hR.cell hcell
              obtain ⟨h6, -⟩ := hH
              simp only [view, List.foldl, Act.put, List.setIfInBounds_toArray, List.set_cons_zero, List.set_cons_succ]
              rw [show f 6 = _ from h6]
              clear h6
              repeat (first | go_guarded | go_step)
              exact hQ _ _ (Grow.refl _) rfl rfl
            refine obls_cons (fun f w' hR hH Q hQ => ?_) ?_
            · skip
              have hcell' := hR.cell hcell
              obtain ⟨h14, h15, h6, -⟩ := hH
              simp only [view, List.foldl, Act.put, List.setIfInBounds_toArray, List.set_cons_zero, List.set_cons_succ]
              rw [show f 14 = _ from h14]
              rw [show f 15 = _ from h15]
              rw [show f 6 = _ from h6]
              clear h14 h15 h6
              repeat (first | go_guarded | go_step)
              exact hQ _ _ (Grow.refl _) rfl rfl
            refine obls_cons (fun f w' hR hH Q hQ => ?_) ?_
            · skip
              have hcell' := hR.cell hcell
              obtain ⟨h16, h6, -⟩ := hH
              simp only [view, List.foldl, Act.put, List.setIfInBounds_toArray, List.set_cons_zero, List.set_cons_succ]
              rw [show f 16 = _ from h16]
              rw [show f 6 = _ from h6]
              clear h16 h6
              repeat (first | go_guarded | go_step)
              exact hQ _ _ (Grow.refl _) rfl rfl
            refine obls_cons (fun f w' hR hH Q hQ => ?_) ?_
            · skip
              have hcell' := hR.cell hcell
              obtain ⟨h13, h17, h6, -⟩ := hH
              simp only [view, List.foldl, Act.put, List.setIfInBounds_toArray, List.set_cons_zero, List.set_cons_succ]
              rw [show f 13 = _ from h13]
              rw [show f 17 = _ from h17]
              rw [show f 6 = _ from h6]
              clear h13 h17 h6
              repeat (first | go_guarded | go_step)
              exact hQ _ _ (Grow.refl _) rfl rfl
            refine obls_cons (fun f w' hR hH Q hQ => ?_) ?_
            · skip
              have hcell' := hR.cell hcell
              obtain ⟨h12, h18, h6, -⟩ := hH
              simp only [view, List.foldl, Act.put, List.setIfInBounds_toArray, List.set_cons_zero, List.set_cons_succ]
              rw [show f 12 = _ from h12]
              rw [show f 18 = _ from h18]
              rw [show f 6 = _ from h6]
              clear h12 h18 h6
              repeat (first | go_guarded | go_step)
              exact hQ _ _ (Grow.refl _) rfl rfl
            refine obls_cons (fun f w' hR hH Q hQ => ?_) ?_
            · skip
              have hcell' := hR.cell hcell
              obtain ⟨h6, h19, -⟩ := hH
              simp only [view, List.foldl, Act.put, List.setIfInBounds_toArray, List.set_cons_zero, List.set_cons_succ]
              rw [show f 6 = _ from h6]
              rw [show f 19 = _ from h19]
              clear h6 h19
              repeat (first | go_guarded | go_step)
              exact hQ _ _ (Grow.refl _) rfl rfl
            exact obls_nil
          case mono => exact ⟨Mono.veq _, Mono.veq _, Mono.veq _, Mono.veq _, Mono.veq _, Mono.veq _, Mono.veq _, Mono.veq _, Mono.veq _, Mono.veq _, Mono.veq _, Mono.veq _, Mono.veq _, Mono.veq _, Mono.veq _, Mono.veq _, Mono.veq _, Mono.veq _, Mono.veq _, Mono.veq _, Mono.veq _, trivial⟩
          case tail =>
            intro f w' hR hH
            simp only [view, List.zipIdx, List.foldl, Act.put, List.setIfInBounds_toArray, List.set_cons_zero, List.set_cons_succ]
            obtain ⟨-, -, -, -, -, -, -, -, -, -, -, -, -, -, -, -, -, -, -, -, q20, -⟩ := hH
            rw [show f 20 = _ from q20]
            clear q20
            generalize f 0 = x0
            generalize f 1 = x1
            generalize f 2 = x2
            generalize f 3 = x3
            generalize f 4 = x4
            generalize f 5 = x5
            generalize f 6 = x6
            generalize f 7 = x7
            generalize f 8 = x8
            generalize f 9 = x9
            generalize f 10 = x10
            generalize f 11 = x11
            generalize f 12 = x12
            generalize f 13 = x13
            generalize f 14 = x14
            generalize f 15 = x15
            generalize f 16 = x16
            generalize f 17 = x17
            generalize f 18 = x18
            generalize f 19 = x19
            have hcell' := hR.cell hcell
            go_wp2_with (go_at_call 15; refine (works_any _ (ht'.grow hR)).mono ?_; rintro e w' ⟨rfl, hg2⟩)
            go_ret
            exact ⟨rfl, hg.trans (hR.trans hg2)⟩
        · go_wp2_with fail
          apply (fun (v0 v1 v2 v3 v4 v5 v6 v7 v8 v9 v10 v11 v12 v13 v14 v15 v16 v17 v18 v19 v20 : Value) mono obl tail => wp_region_par (R := Grow) (Φ := phi [veq v0, veq v1, veq v2, veq v3, veq v4, veq v5, veq v6, veq v7, veq v8, veq v9, veq v10, veq v11, veq v12, veq v13, veq v14, veq v15, veq v16, veq v17, veq v18, veq v19, veq v20]) (m := 21) (dls := [[], [], [(16, 0), (17, 1)], [(18, 2)], [(19, 3)], [(20, 4)], [(21, 5)], [(22, 6)], [(22, 6)], [(22, 6)], [(24, 8), (25, 9), (22, 6)], [(26, 10), (22, 6)], [(23, 7), (27, 11), (22, 6)], [(22, 6)], [(22, 6)], [(22, 6)], [(30, 14), (31, 15), (22, 6)], [(32, 16), (22, 6)], [(29, 13), (33, 17), (22, 6)], [(28, 12), (34, 18), (22, 6)], [(22, 6), (35, 19)]]) (ds := [16, 17, 18, 19, 20, 21, 22, 23, 24, 25, 26, 27, 28, 29, 30, 31, 32, 33, 34, 35, 36]) (by kernel_rfl) (by kernel_rfl) (by decide) rfl (Grow.drew _) (fun _ _ _ => Grow.trans) (mono_phi mono) obl tail)
          case obl =>
            refine obls_cons (fun f w' hR hH Q hQ => ?_) ?_
            · skip
              have hcell' := hR.cell hcell
              simp only [view, List.foldl]
              repeat (first | go_guarded | go_step)
              exact hQ _ _ (Grow.refl _) rfl rfl
            refine obls_cons (fun f w' hR hH Q hQ => ?_) ?_
            · skip
              have hcell' := hR.cell hcell
              simp only [view, List.foldl]
              repeat (first | go_guarded | go_step)
              exact hQ _ _ (Grow.refl _) rfl rfl
            refine obls_cons (fun f w' hR hH Q hQ => ?_) ?_
            · skip
              have hcell' := hR.cell hcell
              obtain ⟨h0, h1, -⟩ := hH
              simp only [view, List.foldl, Act.put, List.setIfInBounds_toArray, List.set_cons_zero, List.set_cons_succ]
              rw [show f 0 = _ from h0]
              rw [show f 1 = _ from h1]
              clear h0 h1
              repeat (first | go_guarded | go_step)
              exact hQ _ _ (Grow.refl _) rfl rfl
            refine obls_cons (fun f w' hR hH Q hQ => ?_) ?_
            · skip
              have hcell' := hR.cell hcell
              obtain ⟨h2, -⟩ := hH
              simp only [view, List.foldl, Act.put, List.setIfInBounds_toArray, List.set_cons_zero, List.set_cons_succ]
              rw [show f 2 = _ from h2]
              clear h2
              repeat (first | go_guarded | go_step)
              exact hQ _ _ (Grow.refl _) rfl rfl
            refine obls_cons (fun f w' hR hH Q hQ => ?_) ?_
            · skip
              have hcell' := hR.cell hcell
              obtain ⟨h3, -⟩ := hH
              simp only [view, List.foldl, Act.put, List.setIfInBounds_toArray, List.set_cons_zero, List.set_cons_succ]
              rw [show f 3 = _ from h3]
              clear h3
              repeat (first | go_guarded | go_step)
              exact hQ _ _ (Grow.refl _) rfl rfl
            refine obls_cons (fun f w' hR hH Q hQ => ?_) ?_
            · skip
              have hcell' := hR.cell hcell
              obtain ⟨h4, -⟩ := hH
              simp only [view, List.foldl, Act.put, List.setIfInBounds_toArray, List.set_cons_zero, List.set_cons_succ]
              rw [show f 4 = _ from h4]
              clear h4
              repeat (first | go_guarded | go_step)
              exact hQ _ _ (Grow.refl _) rfl rfl
            refine obls_cons (fun f w' hR hH Q hQ => ?_) ?_
            · skip
              have hcell' := hR.cell hcell
              obtain ⟨h5, -⟩ := hH
              simp only [view, List.foldl, Act.put, List.setIfInBounds_toArray, List.set_cons_zero, List.set_cons_succ]
              rw [show f 5 = _ from h5]
              clear h5
              repeat (first | go_guarded | go_step)
              exact hQ _ _ (Grow.refl _) rfl rfl
            refine obls_cons (fun f w' hR hH Q hQ => ?_) ?_
            · skip
              have hcell' := hR.cell hcell
              obtain ⟨h6, -⟩ := hH
              simp only [view, List.foldl, Act.put, List.setIfInBounds_toArray, List.set_cons_zero, List.set_cons_succ]
              rw [show f 6 = _ from h6]
              clear h6
              repeat (first | go_guarded | go_step)
              exact hQ _ _ (Grow.refl _) rfl rfl
            refine obls_cons (fun f w' hR hH Q hQ => ?_) ?_
            · skip
              have hcell' := hR.cell hcell
              obtain ⟨h6, -⟩ := hH
              simp only [view, List.foldl, Act.put, List.setIfInBounds_toArray, List.set_cons_zero, List.set_cons_succ]
              rw [show f 6 = _ from h6]
              clear h6
              repeat (first | go_guarded | go_step)
              exact hQ _ _ (Grow.refl _) rfl rfl
            refine obls_cons (fun f w' hR hH Q hQ => ?_) ?_
            · skip
              have hcell' := hR.cell hcell
              obtain ⟨h6, -⟩ := hH
              simp only [view, List.foldl, Act.put, List.setIfInBounds_toArray, List.set_cons_zero, List.set_cons_succ]
              rw [show f 6 = _ from h6]
              clear h6
              repeat (first | go_guarded | go_step)
              exact hQ _ _ (Grow.refl _) rfl rfl
            refine obls_cons (fun f w' hR hH Q hQ => ?_) ?_
            · skip
              have hcell' := hR.cell hcell
              obtain ⟨h8, h9, h6, -⟩ := hH
              simp only [view, List.foldl, Act.put, List.setIfInBounds_toArray, List.set_cons_zero, List.set_cons_succ]
              rw [show f 8 = _ from h8]
              rw [show f 9 = _ from h9]
              rw [show f 6 = _ from h6]
              clear h8 h9 h6
              repeat (first | go_guarded | go_step)
              exact hQ _ _ (Grow.refl _) rfl rfl
            refine obls_cons (fun f w' hR hH Q hQ => ?_) ?_
            · skip
              have hcell' := hR.cell hcell
              obtain ⟨h10, h6, -⟩ := hH
              simp only [view, List.foldl, Act.put, List.setIfInBounds_toArray, List.set_cons_zero, List.set_cons_succ]
              rw [show f 10 = _ from h10]
              rw [show f 6 = _ from h6]
              clear h10 h6
              repeat (first | go_guarded | go_step)
              exact hQ _ _ (Grow.refl _) rfl rfl
            refine obls_cons (fun f w' hR hH Q hQ => ?_) ?_
            · skip
              have hcell' := hR.cell hcell
              obtain ⟨h7, h11, h6, -⟩ := hH
              simp only [view, List.foldl, Act.put, List.setIfInBounds_toArray, List.set_cons_zero, List.set_cons_succ]
              rw [show f 7 = _ from h7]
              rw [show f 11 = _ from h11]
              rw [show f 6 = _ from h6]
              clear h7 h11 h6
              go_wp2_with (go_at_call 16; refine (more_as HT.out _ _ _ _ (h3.grow hR) (by omega) (ht'.grow hR)).mono ?_; rintro e w1 ⟨rfl, rfl⟩)
              exact hQ _ _ (Grow.refl _) rfl rfl
            refine obls_cons (fun f w' hR hH Q hQ => ?_) ?_
            · skip
              have hcell' := hR.cell hcell
              obtain ⟨h6, -⟩ := hH
              simp only [view, List.foldl, Act.put, List.setIfInBounds_toArray, List.set_cons_zero, List.set_cons_succ]
              rw [show f 6 = _ from h6]
              clear h6
              repeat (first | go_guarded | go_step)
              exact hQ _ _ (Grow.refl _) rfl rfl
            refine obls_cons (fun f w' hR hH Q hQ => ?_) ?_
            · skip
              have hcell' := hR.cell hcell
              obtain ⟨h6, -⟩ := hH
              simp only [view, List.foldl, Act.put, List.setIfInBounds_toArray, List.set_cons_zero, List.set_cons_succ]
              rw [show f 6 = _ from h6]
              clear h6
              repeat (first | go_guarded | go_step)
              exact hQ _ _ (Grow.refl _) rfl rfl
            refine obls_cons (fun f w' hR hH Q hQ => ?_) ?_
            · skip
              have hcell' := hR.cell hcell
              obtain ⟨h6, -⟩ := hH
              simp only [view, List.foldl, Act.put, List.setIfInBounds_toArray, List.set_cons_zero, List.set_cons_succ]
              rw [show f 6 = _ from h6]
              clear h6
              repeat (first | go_guarded | go_step)
              exact hQ _ _ (Grow.refl _) rfl rfl
            refine obls_cons (fun f w' hR hH Q hQ => ?_) ?_
            · skip
              have hcell' := hR.cell hcell
              obtain ⟨h14, h15, h6, -⟩ := hH
              simp only [view, List.foldl, Act.put, List.setIfInBounds_toArray, List.set_cons_zero, List.set_cons_succ]
              rw [show f 14 = _ from h14]
              rw [show f 15 = _ from h15]
              rw [show f 6 = _ from h6]
              clear h14 h15 h6
              repeat (first | go_guarded | go_step)
              exact hQ _ _ (Grow.refl _) rfl rfl
            refine obls_cons (fun f w' hR hH Q hQ => ?_) ?_
            · skip
              have hcell' := hR.cell hcell
              obtain ⟨h16, h6, -⟩ := hH
              simp only [view, List.foldl, Act.put, List.setIfInBounds_toArray, List.set_cons_zero, List.set_cons_succ]
              rw [show f 16 = _ from h16]
              rw [show f 6 = _ from h6]
              clear h16 h6
              repeat (first | go_guarded | go_step)
              exact hQ _ _ (Grow.refl _) rfl rfl
            refine obls_cons (fun f w' hR hH Q hQ => ?_) ?_
            · skip
              have hcell' := hR.cell hcell
              obtain ⟨h13, h17, h6, -⟩ := hH
              simp only [view, List.foldl, Act.put, List.setIfInBounds_toArray, List.set_cons_zero, List.set_cons_succ]
              rw [show f 13 = _ from h13]
              rw [show f 17 = _ from h17]
              rw [show f 6 = _ from h6]
              clear h13 h17 h6
              go_wp2_with (go_at_call 17; refine (ref_more_as HT.out _ _ _ _ (h3.grow hR) (by omega)).mono ?_; rintro e w1 ⟨rfl, rfl⟩)
              exact hQ _ _ (Grow.refl _) rfl rfl
            refine obls_cons (fun f w' hR hH Q hQ => ?_) ?_
            · skip
              have hcell' := hR.cell hcell
              obtain ⟨h12, h18, h6, -⟩ := hH
              simp only [view, List.foldl, Act.put, List.setIfInBounds_toArray, List.set_cons_zero, List.set_cons_succ]
              rw [show f 12 = _ from h12]
              rw [show f 18 = _ from h18]
              rw [show f 6 = _ from h6]
              clear h12 h18 h6
              repeat (first | go_guarded | go_step)
              exact hQ _ _ (Grow.refl _) rfl rfl
            refine obls_cons (fun f w' hR hH Q hQ => ?_) ?_
            · skip
              have hcell' := hR.cell hcell
              obtain ⟨h6, h19, -⟩ := hH
              simp only [view, List.foldl, Act.put, List.setIfInBounds_toArray, List.set_cons_zero, List.set_cons_succ]
              rw [show f 6 = _ from h6]
              rw [show f 19 = _ from h19]
              clear h6 h19
              repeat (first | go_guarded | go_step)
              exact hQ _ _ (Grow.refl _) rfl rfl
            exact obls_nil
          case mono => exact ⟨Mono.veq _, Mono.veq _, Mono.veq _, Mono.veq _, Mono.veq _, Mono.veq _, Mono.veq _, Mono.veq _, Mono.veq _, Mono.veq _, Mono.veq _, Mono.veq _, Mono.veq _, Mono.veq _, Mono.veq _, Mono.veq _, Mono.veq _, Mono.veq _, Mono.veq _, Mono.veq _, Mono.veq _, trivial⟩
          case tail =>
            intro f w' hR hH
            simp only [view, List.zipIdx, List.foldl, Act.put, List.setIfInBounds_toArray, List.set_cons_zero, List.set_cons_succ]
            obtain ⟨-, -, -, -, -, -, -, -, -, -, -, -, -, -, -, -, -, -, -, -, q20, -⟩ := hH
            rw [show f 20 = _ from q20]
            clear q20
            generalize f 0 = x0
            generalize f 1 = x1
            generalize f 2 = x2
            generalize f 3 = x3
            generalize f 4 = x4
            generalize f 5 = x5
            generalize f 6 = x6
            generalize f 7 = x7
            generalize f 8 = x8
            generalize f 9 = x9
            generalize f 10 = x10
            generalize f 11 = x11
            generalize f 12 = x12
            generalize f 13 = x13
            generalize f 14 = x14
            generalize f 15 = x15
            generalize f 16 = x16
            generalize f 17 = x17
            generalize f 18 = x18
            generalize f 19 = x19
            go_wp2
            go_roundw
            case rel => exact ⟨k + 1, by omega, by go_num, hg.trans hR⟩
            case measure => simp [intOf]; omega
      · go_wp2_with fail
        refine (sum_as HS.out _ _ _ _ hp' (by omega) ht').mono ?_
        rintro e w1 ⟨rfl, rfl⟩
        go_wp2_with fail
        refine (ref_sum_as HS.out _ _ _ _ hp' (by omega)).mono ?_
        rintro e w1 ⟨rfl, rfl⟩
        go_wp2_with fail
        refine (works_any _ ht').mono ?_
        rintro e w1 ⟨rfl, hg2⟩
        go_wp2_with fail
        go_ret
        exact ⟨rfl, hg.trans hg2⟩
end Go.Proofs.YtmkbkophpmkcbaaDoor.crcL
