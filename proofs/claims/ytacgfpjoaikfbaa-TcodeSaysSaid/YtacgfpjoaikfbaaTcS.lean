/- The walks of Texts and Same: a tree is the same as itself. -/
import Derived.Test.YtacgfpjoaikfbaaTcR
import Derived.Test.YtacgfpjoaikfbaaFast
namespace Go.Proofs.Ytacgfpjoaikfbaa.tc
open Go Go.RowKit Go.Par Go.Kit Go.Proofs.Ytacgfpjoaikfbaa.bfW

set_option maxRecDepth 100000 in
set_option maxHeartbeats 4000000 in
theorem texts_same (w : World) (A1 A2 : Option Addr) (n c1 c2 : Nat) (l : List (List UInt8)) (h1 : Row w A1 n (strs l)) (h2 : Row w A2 n (strs l)) (hn : n ≤ maxLen) :
    Calls Try.prog 32 #[.slice A1 n c1, .slice A2 n c2] w fun r w' => r = .returned (.bool true) ∧ Grow w w' := by
  unfold maxLen at hn
  have HE1 := Lib.hid h1
  have HE2 := Lib.hid h2
  clear h1 h2
  go_enter Try.func32, Try.ntmps32
  go_wp2_with fail
  go_loopw [5] (fun i' wr => ∃ k : Nat, k ≤ n ∧ i' = .int .i64 (k : Int) ∧ Grow w wr) (fun i' _ => n - (intOf i').toNat)
  case atStart => exact ⟨0, by omega, rfl, Grow.refl _⟩
  case round =>
    obtain ⟨k, hk, rfl, hgr⟩ := hrel
    by_cases hlt : k < n
    · obtain ⟨b, off, t, rfl, hx, hc⟩ := strs_g HE1.out hgr hlt
      obtain ⟨b', off', t', rfl, hx', hc'⟩ := strs_g HE2.out hgr hlt
      obtain rfl : t = t' := Option.some.inj (hx.symm.trans hx')
      have t1 : decide (k < n) = true := decide_eq_true hlt
      have t2 : decide ((k : Int) < (n : Int)) = true := decide_eq_true (by omega)
      have HC1 := Lib.hid (fun (w' : World) (hg : Grow wr w') => hg.cell hc)
      have HC2 := Lib.hid (fun (w' : World) (hg : Grow wr w') => hg.cell hc')
      have HG := Lib.hid hgr
      have HLT := Lib.hid hlt
      clear hx hx' hc hc' hgr hk
      go_wp2_with fail
      apply (fun (v0 v1 v2 v3 v4 v5 v6 v7 v8 : Value) mono obl tail => wp_region_par (R := Grow) (Φ := phi [veq v0, veq v1, veq v2, veq v3, veq v4, veq v5, veq v6, veq v7, veq v8]) (m := 9) (dls := [[], [], [(17, 0), (18, 1)], [(19, 2)], [], [], [(21, 4), (22, 5)], [(23, 6)], [(20, 3), (24, 7)]]) (ds := [17, 18, 19, 20, 21, 22, 23, 24, 25]) (by kernel_rfl) (by kernel_rfl) (by decide) rfl (Grow.drew _) (fun _ _ _ => Grow.trans) (mono_phi mono) obl tail)
      case obl =>
        refine obls_frame (fun a1 ha => ?_)
        have hsz := rd_size (n := 26) ha rfl
        have e0 := rd_slot 0 ha rfl
        have e5 := rd_slot 5 ha rfl
        have e1 := rd_slot 1 ha rfl
        clear ha
        refine obls_cons (fun f w' hR hH Q0 hQ0 => ?_) ?_
        · skip
          have s0 := sv_off f [] e0 rfl
          refine small_v hsz [(0, _)] ⟨some 1, (Op.move (.tmp 0)), 37, "", #[], none⟩ [_, undef] 1 rfl rfl ⟨s0, trivial⟩ rfl rfl hQ0 ?_
          clear hQ0 hH s0
          intro Q hQ
          repeat go_step
          exact hQ _ _ (Grow.refl _) rfl rfl
        refine obls_cons (fun f w' hR hH Q0 hQ0 => ?_) ?_
        · skip
          have s5 := sv_off f [] e5 rfl
          refine small_v hsz [(5, _)] ⟨some 1, (Op.move (.tmp 0)), 3, "", #[], none⟩ [_, undef] 1 rfl rfl ⟨s5, trivial⟩ rfl rfl hQ0 ?_
          clear hQ0 hH s5
          intro Q hQ
          repeat go_step
          exact hQ _ _ (Grow.refl _) rfl rfl
        refine obls_cons (fun f w' hR hH Q0 hQ0 => ?_) ?_
        · skip
          have s17 := (sv_at 17 0 hsz f [(17, 0), (18, 1)] rfl).trans (show f 0 = _ from hH.get 0 (17, 0) rfl)
          have s18 := (sv_at 18 1 hsz f [(17, 0), (18, 1)] rfl).trans (show f 1 = _ from hH.get 1 (18, 1) rfl)
          refine small_v hsz [(17, _), (18, _)] ⟨some 2, (Op.indexAddr 37 (.tmp 0) (.tmp 1)), 0, "", #[], none⟩ [_, _, undef] 2 rfl rfl ⟨s17, s18, trivial⟩ rfl rfl hQ0 ?_
          clear hQ0 hH s17 s18
          intro Q hQ
          repeat go_step
          exact hQ _ _ (Grow.refl _) rfl rfl
        refine obls_cons (fun f w' hR hH Q0 hQ0 => ?_) ?_
        · skip
          have s19 := (sv_at 19 2 hsz f [(19, 2)] rfl).trans (show f 2 = _ from hH.get 0 (19, 2) rfl)
          refine small_v hsz [(19, _)] ⟨some 1, (Op.load 9 (.tmp 0)), 9, "", #[], none⟩ [_, undef] 1 rfl rfl ⟨s19, trivial⟩ rfl rfl hQ0 ?_
          clear hQ0 hH s19
          intro Q hQ
          have x0 := HC1.out w' hR
          repeat go_step
          exact hQ _ _ (Grow.refl _) rfl rfl
        refine obls_cons (fun f w' hR hH Q0 hQ0 => ?_) ?_
        · skip
          have s1 := sv_off f [] e1 rfl
          refine small_v hsz [(1, _)] ⟨some 1, (Op.move (.tmp 0)), 37, "", #[], none⟩ [_, undef] 1 rfl rfl ⟨s1, trivial⟩ rfl rfl hQ0 ?_
          clear hQ0 hH s1
          intro Q hQ
          repeat go_step
          exact hQ _ _ (Grow.refl _) rfl rfl
        refine obls_cons (fun f w' hR hH Q0 hQ0 => ?_) ?_
        · skip
          have s5 := sv_off f [] e5 rfl
          refine small_v hsz [(5, _)] ⟨some 1, (Op.move (.tmp 0)), 3, "", #[], none⟩ [_, undef] 1 rfl rfl ⟨s5, trivial⟩ rfl rfl hQ0 ?_
          clear hQ0 hH s5
          intro Q hQ
          repeat go_step
          exact hQ _ _ (Grow.refl _) rfl rfl
        refine obls_cons (fun f w' hR hH Q0 hQ0 => ?_) ?_
        · skip
          have s21 := (sv_at 21 4 hsz f [(21, 4), (22, 5)] rfl).trans (show f 4 = _ from hH.get 0 (21, 4) rfl)
          have s22 := (sv_at 22 5 hsz f [(21, 4), (22, 5)] rfl).trans (show f 5 = _ from hH.get 1 (22, 5) rfl)
          refine small_v hsz [(21, _), (22, _)] ⟨some 2, (Op.indexAddr 37 (.tmp 0) (.tmp 1)), 0, "", #[], none⟩ [_, _, undef] 2 rfl rfl ⟨s21, s22, trivial⟩ rfl rfl hQ0 ?_
          clear hQ0 hH s21 s22
          intro Q hQ
          repeat go_step
          exact hQ _ _ (Grow.refl _) rfl rfl
        refine obls_cons (fun f w' hR hH Q0 hQ0 => ?_) ?_
        · skip
          have s23 := (sv_at 23 6 hsz f [(23, 6)] rfl).trans (show f 6 = _ from hH.get 0 (23, 6) rfl)
          refine small_v hsz [(23, _)] ⟨some 1, (Op.load 9 (.tmp 0)), 9, "", #[], none⟩ [_, undef] 1 rfl rfl ⟨s23, trivial⟩ rfl rfl hQ0 ?_
          clear hQ0 hH s23
          intro Q hQ
          have x0 := HC2.out w' hR
          repeat go_step
          exact hQ _ _ (Grow.refl _) rfl rfl
        refine obls_cons (fun f w' hR hH Q0 hQ0 => ?_) ?_
        · skip
          have s20 := (sv_at 20 3 hsz f [(20, 3), (24, 7)] rfl).trans (show f 3 = _ from hH.get 0 (20, 3) rfl)
          have s24 := (sv_at 24 7 hsz f [(20, 3), (24, 7)] rfl).trans (show f 7 = _ from hH.get 1 (24, 7) rfl)
          refine small_v hsz [(20, _), (24, _)] ⟨some 2, (Op.binOp BinOp.neq 9 (.tmp 0) (.tmp 1) 9), 4, "", #[], none⟩ [_, _, undef] 2 rfl rfl ⟨s20, s24, trivial⟩ rfl rfl hQ0 ?_
          clear hQ0 hH s20 s24
          intro Q hQ
          repeat go_step
          exact hQ _ _ (Grow.refl _) rfl rfl
        exact obls_nil
      case mono => exact ⟨Mono.veq _, Mono.veq _, Mono.veq _, Mono.veq _, Mono.veq _, Mono.veq _, Mono.veq _, Mono.veq _, Mono.veq _, trivial⟩
      case tail =>
        intro f w' hR hH
        have q8 := hH.get 8 (25, 8) rfl
        clear hH
        refine wpList_merge (idx := [none, none, none, none, none, none, none, none, none, none, none, none, none, none, none, none, none, some 0, some 1, some 2, some 3, some 4, some 5, some 6, some 7, some 8]) (by kernel_rfl) ?_; show wpList _ _ _ [] ⟨#[_, _, _, _, _, _, _, _, _, _, _, _, _, _, _, _, _, f 0, f 1, f 2, f 3, f 4, f 5, f 6, f 7, f 8], _⟩ _
        rw [show f 8 = _ from q8]
        clear q8
        have HG9 := Lib.hid (HG.out.trans hR)
        clear hR
        go_wp2_with fail
        go_roundw
        case rel => exact ⟨k + 1, by have := HLT.out; omega, by go_num, HG9.out⟩
        case measure => have := HLT.out; simp [intOf] <;> omega
    · obtain rfl : k = n := by omega
      have t1 : decide (k < k) = false := decide_eq_false hlt
      have HG := Lib.hid hgr
      clear hlt hk hgr
      go_wp2_with fail
      go_ret
      exact ⟨rfl, HG.out⟩
set_option maxRecDepth 100000 in
set_option maxHeartbeats 4000000 in
theorem same_any (w : World) (A1 A2 : Option Addr) (n c1 c2 : Nat) (fs : List Fil) (h1 : Fils w A1 n fs) (h2 : Fils w A2 n fs) (hn : n ≤ maxLen) :
    Calls Try.prog 12 #[.slice A1 n c1, .slice A2 n c2] w fun r w' => r = .returned (.bool true) ∧ Grow w w' := by
  unfold maxLen at hn
  have HE1 := Lib.hid h1
  have HE2 := Lib.hid h2
  clear h1 h2
  go_enter Try.func12, Try.ntmps12
  go_wp2_with fail
  go_loopw [5] (fun i' wr => ∃ k : Nat, k ≤ n ∧ i' = .int .i64 (k : Int) ∧ Grow w wr) (fun i' _ => n - (intOf i').toNat)
  case atStart => exact ⟨0, by omega, rfl, Grow.refl _⟩
  case round =>
    obtain ⟨k, hk, rfl, hgr⟩ := hrel
    by_cases hlt : k < n
    · obtain ⟨b, off, f, A3, c3, A4, c4, rfl, hx, d0, d1, d2, ⟨a1, a2, a3⟩, ⟨b1, b2, b3⟩⟩ := HE1.out.at_ hlt
      obtain ⟨b', off', f', A5, c5, A6, c6, rfl, hx', e0, e1, e2, ⟨-, -, a3'⟩, ⟨-, -, b3'⟩⟩ := HE2.out.at_ hlt
      obtain rfl : f = f' := Option.some.inj (hx.symm.trans hx')
      have t1 : decide (k < n) = true := decide_eq_true hlt
      have t2 : decide ((k : Int) < (n : Int)) = true := decide_eq_true (by omega)
      obtain ⟨nm, hnm⟩ : ∃ nm, nm = f.name := ⟨_, rfl⟩
      obtain ⟨na, hna⟩ : ∃ na, na = f.also.length := ⟨_, rfl⟩
      obtain ⟨nl, hnl⟩ : ∃ nl, nl = f.lines.length := ⟨_, rfl⟩
      rw [← hnm] at d0 e0
      rw [← hna] at d1 e1 a1 a3 a3'
      rw [← hnl] at d2 e2 b1 b3 b3'
      have HTA := Lib.hid (fun (w' : World) (hg : Grow w w') => texts_same w' A3 A5 na c3 c5 f.also (a3.grow hg) (a3'.grow hg) (Nat.le_trans a1 a2))
      have HTL := Lib.hid (fun (w' : World) (hg : Grow w w') => texts_same w' A4 A6 nl c4 c6 f.lines (b3.grow hg) (b3'.grow hg) (Nat.le_trans b1 b2))
      have HD0 := Lib.hid (fun (w' : World) (hg : Grow w w') => hg.cell d0)
      have HD1 := Lib.hid (fun (w' : World) (hg : Grow w w') => hg.cell d1)
      have HD2 := Lib.hid (fun (w' : World) (hg : Grow w w') => hg.cell d2)
      have HX0 := Lib.hid (fun (w' : World) (hg : Grow w w') => hg.cell e0)
      have HX1 := Lib.hid (fun (w' : World) (hg : Grow w w') => hg.cell e1)
      have HX2 := Lib.hid (fun (w' : World) (hg : Grow w w') => hg.cell e2)
      have HG := Lib.hid hgr
      have HLT := Lib.hid hlt
      clear hx hx' d0 d1 d2 e0 e1 e2 a1 a2 a3 b1 b2 b3 a3' b3' hgr hk hnm hna hnl
      go_wp2_with fail
      apply (fun (v0 v1 v2 v3 v4 v5 v6 v7 v8 v9 v10 v11 v12 v13 v14 v15 v16 v17 v18 v19 v20 v21 v22 v23 v24 v25 v26 v27 v28 v29 v30 v31 v32 v33 v34 v35 v36 v37 v38 : Value) mono obl tail => wp_region_par (R := Grow) (Φ := phi [veq v0, veq v1, veq v2, veq v3, veq v4, veq v5, veq v6, veq v7, veq v8, veq v9, veq v10, veq v11, veq v12, veq v13, veq v14, veq v15, veq v16, veq v17, veq v18, veq v19, veq v20, veq v21, veq v22, veq v23, veq v24, veq v25, veq v26, veq v27, veq v28, veq v29, veq v30, veq v31, veq v32, veq v33, veq v34, veq v35, veq v36, veq v37, veq v38]) (m := 39) (dls := [[], [], [(17, 0), (18, 1)], [(19, 2)], [(20, 3)], [], [], [(22, 5), (23, 6)], [(24, 7)], [(25, 8)], [(21, 4), (26, 9)], [(27, 10)], [(28, 11)], [(28, 11)], [(29, 12), (30, 13), (28, 11)], [(31, 14), (28, 11)], [(32, 15), (28, 11)], [(28, 11)], [(28, 11)], [(34, 17), (35, 18), (28, 11)], [(36, 19), (28, 11)], [(37, 20), (28, 11)], [(33, 16), (38, 21), (28, 11)], [(39, 22), (28, 11)], [(28, 11), (40, 23)], [(41, 24)], [(42, 25)], [(42, 25)], [(43, 26), (44, 27), (42, 25)], [(45, 28), (42, 25)], [(46, 29), (42, 25)], [(42, 25)], [(42, 25)], [(48, 31), (49, 32), (42, 25)], [(50, 33), (42, 25)], [(51, 34), (42, 25)], [(47, 30), (52, 35), (42, 25)], [(53, 36), (42, 25)], [(42, 25), (54, 37)]]) (ds := [17, 18, 19, 20, 21, 22, 23, 24, 25, 26, 27, 28, 29, 30, 31, 32, 33, 34, 35, 36, 37, 38, 39, 40, 41, 42, 43, 44, 45, 46, 47, 48, 49, 50, 51, 52, 53, 54, 55]) (by kernel_rfl) (by kernel_rfl) (by decide) rfl (Grow.drew _) (fun _ _ _ => Grow.trans) (mono_phi mono) obl tail)
      case obl =>
        refine obls_frame (fun a1 ha => ?_)
        have hsz := rd_size (n := 56) ha rfl
        have e0 := rd_slot 0 ha rfl
        have e5 := rd_slot 5 ha rfl
        have e1 := rd_slot 1 ha rfl
        clear ha
        refine obls_cons (fun f w' hR hH Q0 hQ0 => ?_) ?_
        · skip
          have s0 := sv_off f [] e0 rfl
          refine small_v hsz [(0, _)] ⟨some 1, (Op.move (.tmp 0)), 23, "", #[], none⟩ [_, undef] 1 rfl rfl ⟨s0, trivial⟩ rfl rfl hQ0 ?_
          clear hQ0 hH s0
          intro Q hQ
          repeat go_step
          exact hQ _ _ (Grow.refl _) rfl rfl
        refine obls_cons (fun f w' hR hH Q0 hQ0 => ?_) ?_
        · skip
          have s5 := sv_off f [] e5 rfl
          refine small_v hsz [(5, _)] ⟨some 1, (Op.move (.tmp 0)), 3, "", #[], none⟩ [_, undef] 1 rfl rfl ⟨s5, trivial⟩ rfl rfl hQ0 ?_
          clear hQ0 hH s5
          intro Q hQ
          repeat go_step
          exact hQ _ _ (Grow.refl _) rfl rfl
        refine obls_cons (fun f w' hR hH Q0 hQ0 => ?_) ?_
        · skip
          have s17 := (sv_at 17 0 hsz f [(17, 0), (18, 1)] rfl).trans (show f 0 = _ from hH.get 0 (17, 0) rfl)
          have s18 := (sv_at 18 1 hsz f [(17, 0), (18, 1)] rfl).trans (show f 1 = _ from hH.get 1 (18, 1) rfl)
          refine small_v hsz [(17, _), (18, _)] ⟨some 2, (Op.indexAddr 23 (.tmp 0) (.tmp 1)), 0, "", #[], none⟩ [_, _, undef] 2 rfl rfl ⟨s17, s18, trivial⟩ rfl rfl hQ0 ?_
          clear hQ0 hH s17 s18
          intro Q hQ
          repeat go_step
          exact hQ _ _ (Grow.refl _) rfl rfl
        refine obls_cons (fun f w' hR hH Q0 hQ0 => ?_) ?_
        · skip
          have s19 := (sv_at 19 2 hsz f [(19, 2)] rfl).trans (show f 2 = _ from hH.get 0 (19, 2) rfl)
          refine small_v hsz [(19, _)] ⟨some 1, (Op.fieldAddr 39 (.tmp 0) 0), 0, "", #[], none⟩ [_, undef] 1 rfl rfl ⟨s19, trivial⟩ rfl rfl hQ0 ?_
          clear hQ0 hH s19
          intro Q hQ
          repeat go_step
          exact hQ _ _ (Grow.refl _) rfl rfl
        refine obls_cons (fun f w' hR hH Q0 hQ0 => ?_) ?_
        · skip
          have s20 := (sv_at 20 3 hsz f [(20, 3)] rfl).trans (show f 3 = _ from hH.get 0 (20, 3) rfl)
          refine small_v hsz [(20, _)] ⟨some 1, (Op.load 9 (.tmp 0)), 9, "", #[], none⟩ [_, undef] 1 rfl rfl ⟨s20, trivial⟩ rfl rfl hQ0 ?_
          clear hQ0 hH s20
          intro Q hQ
          have x0 := HD0.out w' (HG.out.trans hR)
          repeat go_step
          exact hQ _ _ (Grow.refl _) rfl rfl
        refine obls_cons (fun f w' hR hH Q0 hQ0 => ?_) ?_
        · skip
          have s1 := sv_off f [] e1 rfl
          refine small_v hsz [(1, _)] ⟨some 1, (Op.move (.tmp 0)), 23, "", #[], none⟩ [_, undef] 1 rfl rfl ⟨s1, trivial⟩ rfl rfl hQ0 ?_
          clear hQ0 hH s1
          intro Q hQ
          repeat go_step
          exact hQ _ _ (Grow.refl _) rfl rfl
        refine obls_cons (fun f w' hR hH Q0 hQ0 => ?_) ?_
        · skip
          have s5 := sv_off f [] e5 rfl
          refine small_v hsz [(5, _)] ⟨some 1, (Op.move (.tmp 0)), 3, "", #[], none⟩ [_, undef] 1 rfl rfl ⟨s5, trivial⟩ rfl rfl hQ0 ?_
          clear hQ0 hH s5
          intro Q hQ
          repeat go_step
          exact hQ _ _ (Grow.refl _) rfl rfl
        refine obls_cons (fun f w' hR hH Q0 hQ0 => ?_) ?_
        · skip
          have s22 := (sv_at 22 5 hsz f [(22, 5), (23, 6)] rfl).trans (show f 5 = _ from hH.get 0 (22, 5) rfl)
          have s23 := (sv_at 23 6 hsz f [(22, 5), (23, 6)] rfl).trans (show f 6 = _ from hH.get 1 (23, 6) rfl)
          refine small_v hsz [(22, _), (23, _)] ⟨some 2, (Op.indexAddr 23 (.tmp 0) (.tmp 1)), 0, "", #[], none⟩ [_, _, undef] 2 rfl rfl ⟨s22, s23, trivial⟩ rfl rfl hQ0 ?_
          clear hQ0 hH s22 s23
          intro Q hQ
          repeat go_step
          exact hQ _ _ (Grow.refl _) rfl rfl
        refine obls_cons (fun f w' hR hH Q0 hQ0 => ?_) ?_
        · skip
          have s24 := (sv_at 24 7 hsz f [(24, 7)] rfl).trans (show f 7 = _ from hH.get 0 (24, 7) rfl)
          refine small_v hsz [(24, _)] ⟨some 1, (Op.fieldAddr 39 (.tmp 0) 0), 0, "", #[], none⟩ [_, undef] 1 rfl rfl ⟨s24, trivial⟩ rfl rfl hQ0 ?_
          clear hQ0 hH s24
          intro Q hQ
          repeat go_step
          exact hQ _ _ (Grow.refl _) rfl rfl
        refine obls_cons (fun f w' hR hH Q0 hQ0 => ?_) ?_
        · skip
          have s25 := (sv_at 25 8 hsz f [(25, 8)] rfl).trans (show f 8 = _ from hH.get 0 (25, 8) rfl)
          refine small_v hsz [(25, _)] ⟨some 1, (Op.load 9 (.tmp 0)), 9, "", #[], none⟩ [_, undef] 1 rfl rfl ⟨s25, trivial⟩ rfl rfl hQ0 ?_
          clear hQ0 hH s25
          intro Q hQ
          have x0 := HX0.out w' (HG.out.trans hR)
          repeat go_step
          exact hQ _ _ (Grow.refl _) rfl rfl
        refine obls_cons (fun f w' hR hH Q0 hQ0 => ?_) ?_
        · skip
          have s21 := (sv_at 21 4 hsz f [(21, 4), (26, 9)] rfl).trans (show f 4 = _ from hH.get 0 (21, 4) rfl)
          have s26 := (sv_at 26 9 hsz f [(21, 4), (26, 9)] rfl).trans (show f 9 = _ from hH.get 1 (26, 9) rfl)
          refine small_v hsz [(21, _), (26, _)] ⟨some 2, (Op.binOp BinOp.neq 9 (.tmp 0) (.tmp 1) 9), 4, "", #[], none⟩ [_, _, undef] 2 rfl rfl ⟨s21, s26, trivial⟩ rfl rfl hQ0 ?_
          clear hQ0 hH s21 s26
          intro Q hQ
          repeat go_step
          exact hQ _ _ (Grow.refl _) rfl rfl
        refine obls_cons (fun f w' hR hH Q0 hQ0 => ?_) ?_
        · skip
          have s27 := (sv_at 27 10 hsz f [(27, 10)] rfl).trans (show f 10 = _ from hH.get 0 (27, 10) rfl)
          refine small_v hsz [(27, _)] ⟨some 1, (Op.move (.tmp 0)), 4, "", #[], none⟩ [_, undef] 1 rfl rfl ⟨s27, trivial⟩ rfl rfl hQ0 ?_
          clear hQ0 hH s27
          intro Q hQ
          repeat go_step
          exact hQ _ _ (Grow.refl _) rfl rfl
        refine obls_cons (fun f w' hR hH Q0 hQ0 => ?_) ?_
        · skip
          have s0 := sv_off f [(28, 11)] e0 rfl
          have s28 := (sv_at 28 11 hsz f [(28, 11)] rfl).trans (show f 11 = _ from hH.get 0 (28, 11) rfl)
          first
            | exact skip_v hsz rfl ((wanted_some (b := true) rfl rfl s28).trans rfl) hQ0 (Grow.refl _) rfl
            | refine small_v hsz [(0, _)] ⟨some 1, (Op.move (.tmp 0)), 23, "", #[], none⟩ [_, undef] 1 rfl ((wanted_some (b := false) rfl rfl s28).trans rfl) ⟨s0, trivial⟩ rfl rfl hQ0 ?_
              clear hQ0 hH s0 s28
              intro Q hQ
              repeat go_step
              exact hQ _ _ (Grow.refl _) rfl rfl
        refine obls_cons (fun f w' hR hH Q0 hQ0 => ?_) ?_
        · skip
          have s5 := sv_off f [(28, 11)] e5 rfl
          have s28 := (sv_at 28 11 hsz f [(28, 11)] rfl).trans (show f 11 = _ from hH.get 0 (28, 11) rfl)
          first
            | exact skip_v hsz rfl ((wanted_some (b := true) rfl rfl s28).trans rfl) hQ0 (Grow.refl _) rfl
            | refine small_v hsz [(5, _)] ⟨some 1, (Op.move (.tmp 0)), 3, "", #[], none⟩ [_, undef] 1 rfl ((wanted_some (b := false) rfl rfl s28).trans rfl) ⟨s5, trivial⟩ rfl rfl hQ0 ?_
              clear hQ0 hH s5 s28
              intro Q hQ
              repeat go_step
              exact hQ _ _ (Grow.refl _) rfl rfl
        refine obls_cons (fun f w' hR hH Q0 hQ0 => ?_) ?_
        · skip
          have s29 := (sv_at 29 12 hsz f [(29, 12), (30, 13), (28, 11)] rfl).trans (show f 12 = _ from hH.get 0 (29, 12) rfl)
          have s30 := (sv_at 30 13 hsz f [(29, 12), (30, 13), (28, 11)] rfl).trans (show f 13 = _ from hH.get 1 (30, 13) rfl)
          have s28 := (sv_at 28 11 hsz f [(29, 12), (30, 13), (28, 11)] rfl).trans (show f 11 = _ from hH.get 2 (28, 11) rfl)
          first
            | exact skip_v hsz rfl ((wanted_some (b := true) rfl rfl s28).trans rfl) hQ0 (Grow.refl _) rfl
            | refine small_v hsz [(29, _), (30, _)] ⟨some 2, (Op.indexAddr 23 (.tmp 0) (.tmp 1)), 0, "", #[], none⟩ [_, _, undef] 2 rfl ((wanted_some (b := false) rfl rfl s28).trans rfl) ⟨s29, s30, trivial⟩ rfl rfl hQ0 ?_
              clear hQ0 hH s29 s30 s28
              intro Q hQ
              repeat go_step
              exact hQ _ _ (Grow.refl _) rfl rfl
        refine obls_cons (fun f w' hR hH Q0 hQ0 => ?_) ?_
        · skip
          have s31 := (sv_at 31 14 hsz f [(31, 14), (28, 11)] rfl).trans (show f 14 = _ from hH.get 0 (31, 14) rfl)
          have s28 := (sv_at 28 11 hsz f [(31, 14), (28, 11)] rfl).trans (show f 11 = _ from hH.get 1 (28, 11) rfl)
          first
            | exact skip_v hsz rfl ((wanted_some (b := true) rfl rfl s28).trans rfl) hQ0 (Grow.refl _) rfl
            | refine small_v hsz [(31, _)] ⟨some 1, (Op.fieldAddr 39 (.tmp 0) 1), 0, "", #[], none⟩ [_, undef] 1 rfl ((wanted_some (b := false) rfl rfl s28).trans rfl) ⟨s31, trivial⟩ rfl rfl hQ0 ?_
              clear hQ0 hH s31 s28
              intro Q hQ
              repeat go_step
              exact hQ _ _ (Grow.refl _) rfl rfl
        refine obls_cons (fun f w' hR hH Q0 hQ0 => ?_) ?_
        · skip
          have s32 := (sv_at 32 15 hsz f [(32, 15), (28, 11)] rfl).trans (show f 15 = _ from hH.get 0 (32, 15) rfl)
          have s28 := (sv_at 28 11 hsz f [(32, 15), (28, 11)] rfl).trans (show f 11 = _ from hH.get 1 (28, 11) rfl)
          first
            | exact skip_v hsz rfl ((wanted_some (b := true) rfl rfl s28).trans rfl) hQ0 (Grow.refl _) rfl
            | refine small_v hsz [(32, _)] ⟨some 1, (Op.load 37 (.tmp 0)), 37, "", #[], none⟩ [_, undef] 1 rfl ((wanted_some (b := false) rfl rfl s28).trans rfl) ⟨s32, trivial⟩ rfl rfl hQ0 ?_
              clear hQ0 hH s32 s28
              intro Q hQ
              have x0 := HD1.out w' (HG.out.trans hR)
              repeat go_step
              exact hQ _ _ (Grow.refl _) rfl rfl
        refine obls_cons (fun f w' hR hH Q0 hQ0 => ?_) ?_
        · skip
          have s1 := sv_off f [(28, 11)] e1 rfl
          have s28 := (sv_at 28 11 hsz f [(28, 11)] rfl).trans (show f 11 = _ from hH.get 0 (28, 11) rfl)
          first
            | exact skip_v hsz rfl ((wanted_some (b := true) rfl rfl s28).trans rfl) hQ0 (Grow.refl _) rfl
            | refine small_v hsz [(1, _)] ⟨some 1, (Op.move (.tmp 0)), 23, "", #[], none⟩ [_, undef] 1 rfl ((wanted_some (b := false) rfl rfl s28).trans rfl) ⟨s1, trivial⟩ rfl rfl hQ0 ?_
              clear hQ0 hH s1 s28
              intro Q hQ
              repeat go_step
              exact hQ _ _ (Grow.refl _) rfl rfl
        refine obls_cons (fun f w' hR hH Q0 hQ0 => ?_) ?_
        · skip
          have s5 := sv_off f [(28, 11)] e5 rfl
          have s28 := (sv_at 28 11 hsz f [(28, 11)] rfl).trans (show f 11 = _ from hH.get 0 (28, 11) rfl)
          first
            | exact skip_v hsz rfl ((wanted_some (b := true) rfl rfl s28).trans rfl) hQ0 (Grow.refl _) rfl
            | refine small_v hsz [(5, _)] ⟨some 1, (Op.move (.tmp 0)), 3, "", #[], none⟩ [_, undef] 1 rfl ((wanted_some (b := false) rfl rfl s28).trans rfl) ⟨s5, trivial⟩ rfl rfl hQ0 ?_
              clear hQ0 hH s5 s28
              intro Q hQ
              repeat go_step
              exact hQ _ _ (Grow.refl _) rfl rfl
        refine obls_cons (fun f w' hR hH Q0 hQ0 => ?_) ?_
        · skip
          have s34 := (sv_at 34 17 hsz f [(34, 17), (35, 18), (28, 11)] rfl).trans (show f 17 = _ from hH.get 0 (34, 17) rfl)
          have s35 := (sv_at 35 18 hsz f [(34, 17), (35, 18), (28, 11)] rfl).trans (show f 18 = _ from hH.get 1 (35, 18) rfl)
          have s28 := (sv_at 28 11 hsz f [(34, 17), (35, 18), (28, 11)] rfl).trans (show f 11 = _ from hH.get 2 (28, 11) rfl)
          first
            | exact skip_v hsz rfl ((wanted_some (b := true) rfl rfl s28).trans rfl) hQ0 (Grow.refl _) rfl
            | refine small_v hsz [(34, _), (35, _)] ⟨some 2, (Op.indexAddr 23 (.tmp 0) (.tmp 1)), 0, "", #[], none⟩ [_, _, undef] 2 rfl ((wanted_some (b := false) rfl rfl s28).trans rfl) ⟨s34, s35, trivial⟩ rfl rfl hQ0 ?_
              clear hQ0 hH s34 s35 s28
              intro Q hQ
              repeat go_step
              exact hQ _ _ (Grow.refl _) rfl rfl
        refine obls_cons (fun f w' hR hH Q0 hQ0 => ?_) ?_
        · skip
          have s36 := (sv_at 36 19 hsz f [(36, 19), (28, 11)] rfl).trans (show f 19 = _ from hH.get 0 (36, 19) rfl)
          have s28 := (sv_at 28 11 hsz f [(36, 19), (28, 11)] rfl).trans (show f 11 = _ from hH.get 1 (28, 11) rfl)
          first
            | exact skip_v hsz rfl ((wanted_some (b := true) rfl rfl s28).trans rfl) hQ0 (Grow.refl _) rfl
            | refine small_v hsz [(36, _)] ⟨some 1, (Op.fieldAddr 39 (.tmp 0) 1), 0, "", #[], none⟩ [_, undef] 1 rfl ((wanted_some (b := false) rfl rfl s28).trans rfl) ⟨s36, trivial⟩ rfl rfl hQ0 ?_
              clear hQ0 hH s36 s28
              intro Q hQ
              repeat go_step
              exact hQ _ _ (Grow.refl _) rfl rfl
        refine obls_cons (fun f w' hR hH Q0 hQ0 => ?_) ?_
        · skip
          have s37 := (sv_at 37 20 hsz f [(37, 20), (28, 11)] rfl).trans (show f 20 = _ from hH.get 0 (37, 20) rfl)
          have s28 := (sv_at 28 11 hsz f [(37, 20), (28, 11)] rfl).trans (show f 11 = _ from hH.get 1 (28, 11) rfl)
          first
            | exact skip_v hsz rfl ((wanted_some (b := true) rfl rfl s28).trans rfl) hQ0 (Grow.refl _) rfl
            | refine small_v hsz [(37, _)] ⟨some 1, (Op.load 37 (.tmp 0)), 37, "", #[], none⟩ [_, undef] 1 rfl ((wanted_some (b := false) rfl rfl s28).trans rfl) ⟨s37, trivial⟩ rfl rfl hQ0 ?_
              clear hQ0 hH s37 s28
              intro Q hQ
              have x0 := HX1.out w' (HG.out.trans hR)
              repeat go_step
              exact hQ _ _ (Grow.refl _) rfl rfl
        refine obls_cons (fun f w' hR hH Q0 hQ0 => ?_) ?_
        · skip
          have s33 := (sv_at 33 16 hsz f [(33, 16), (38, 21), (28, 11)] rfl).trans (show f 16 = _ from hH.get 0 (33, 16) rfl)
          have s38 := (sv_at 38 21 hsz f [(33, 16), (38, 21), (28, 11)] rfl).trans (show f 21 = _ from hH.get 1 (38, 21) rfl)
          have s28 := (sv_at 28 11 hsz f [(33, 16), (38, 21), (28, 11)] rfl).trans (show f 11 = _ from hH.get 2 (28, 11) rfl)
          first
            | exact skip_v hsz rfl ((wanted_some (b := true) rfl rfl s28).trans rfl) hQ0 (Grow.refl _) rfl
            | refine small_v hsz [(33, _), (38, _)] ⟨some 2, (Op.call (Call.mk (Callee.value (Operand.func 32)) #[(.tmp 0), (.tmp 1)] #[37, 37])), 4, "", #[], none⟩ [_, _, undef] 2 rfl ((wanted_some (b := false) rfl rfl s28).trans rfl) ⟨s33, s38, trivial⟩ rfl (ren_call rfl rfl) hQ0 ?_
              clear hQ0 hH s33 s38 s28
              intro Q hQ
              go_wp2_with (go_at_call 32; refine ((HTA.out w' (HG.out.trans hR))).mono ?_; rintro e w1 ⟨rfl, hg1⟩)
              exact hQ _ _ hg1 rfl rfl
        refine obls_cons (fun f w' hR hH Q0 hQ0 => ?_) ?_
        · skip
          have s39 := (sv_at 39 22 hsz f [(39, 22), (28, 11)] rfl).trans (show f 22 = _ from hH.get 0 (39, 22) rfl)
          have s28 := (sv_at 28 11 hsz f [(39, 22), (28, 11)] rfl).trans (show f 11 = _ from hH.get 1 (28, 11) rfl)
          first
            | exact skip_v hsz rfl ((wanted_some (b := true) rfl rfl s28).trans rfl) hQ0 (Grow.refl _) rfl
            | refine small_v hsz [(39, _)] ⟨some 1, (Op.unOp UnOp.not 4 (.tmp 0)), 4, "", #[], none⟩ [_, undef] 1 rfl ((wanted_some (b := false) rfl rfl s28).trans rfl) ⟨s39, trivial⟩ rfl rfl hQ0 ?_
              clear hQ0 hH s39 s28
              intro Q hQ
              repeat go_step
              exact hQ _ _ (Grow.refl _) rfl rfl
        refine obls_cons (fun f w' hR hH Q0 hQ0 => ?_) ?_
        · skip
          have s28 := (sv_at 28 11 hsz f [(28, 11), (40, 23)] rfl).trans (show f 11 = _ from hH.get 0 (28, 11) rfl)
          have s40 := (sv_at 40 23 hsz f [(28, 11), (40, 23)] rfl).trans (show f 23 = _ from hH.get 1 (40, 23) rfl)
          refine small_v hsz [(28, _), (40, _)] ⟨some 2, (Op.pick (.tmp 0) (Operand.const (Value.bool true)) (.tmp 1)), 4, "", #[], none⟩ [_, _, undef] 2 rfl rfl ⟨s28, s40, trivial⟩ rfl rfl hQ0 ?_
          clear hQ0 hH s28 s40
          intro Q hQ
          repeat go_step
          exact hQ _ _ (Grow.refl _) rfl rfl
        refine obls_cons (fun f w' hR hH Q0 hQ0 => ?_) ?_
        · skip
          have s41 := (sv_at 41 24 hsz f [(41, 24)] rfl).trans (show f 24 = _ from hH.get 0 (41, 24) rfl)
          refine small_v hsz [(41, _)] ⟨some 1, (Op.move (.tmp 0)), 4, "", #[], none⟩ [_, undef] 1 rfl rfl ⟨s41, trivial⟩ rfl rfl hQ0 ?_
          clear hQ0 hH s41
          intro Q hQ
          repeat go_step
          exact hQ _ _ (Grow.refl _) rfl rfl
        refine obls_cons (fun f w' hR hH Q0 hQ0 => ?_) ?_
        · skip
          have s0 := sv_off f [(42, 25)] e0 rfl
          have s42 := (sv_at 42 25 hsz f [(42, 25)] rfl).trans (show f 25 = _ from hH.get 0 (42, 25) rfl)
          first
            | exact skip_v hsz rfl ((wanted_some (b := true) rfl rfl s42).trans rfl) hQ0 (Grow.refl _) rfl
            | refine small_v hsz [(0, _)] ⟨some 1, (Op.move (.tmp 0)), 23, "", #[], none⟩ [_, undef] 1 rfl ((wanted_some (b := false) rfl rfl s42).trans rfl) ⟨s0, trivial⟩ rfl rfl hQ0 ?_
              clear hQ0 hH s0 s42
              intro Q hQ
              repeat go_step
              exact hQ _ _ (Grow.refl _) rfl rfl
        refine obls_cons (fun f w' hR hH Q0 hQ0 => ?_) ?_
        · skip
          have s5 := sv_off f [(42, 25)] e5 rfl
          have s42 := (sv_at 42 25 hsz f [(42, 25)] rfl).trans (show f 25 = _ from hH.get 0 (42, 25) rfl)
          first
            | exact skip_v hsz rfl ((wanted_some (b := true) rfl rfl s42).trans rfl) hQ0 (Grow.refl _) rfl
            | refine small_v hsz [(5, _)] ⟨some 1, (Op.move (.tmp 0)), 3, "", #[], none⟩ [_, undef] 1 rfl ((wanted_some (b := false) rfl rfl s42).trans rfl) ⟨s5, trivial⟩ rfl rfl hQ0 ?_
              clear hQ0 hH s5 s42
              intro Q hQ
              repeat go_step
              exact hQ _ _ (Grow.refl _) rfl rfl
        refine obls_cons (fun f w' hR hH Q0 hQ0 => ?_) ?_
        · skip
          have s43 := (sv_at 43 26 hsz f [(43, 26), (44, 27), (42, 25)] rfl).trans (show f 26 = _ from hH.get 0 (43, 26) rfl)
          have s44 := (sv_at 44 27 hsz f [(43, 26), (44, 27), (42, 25)] rfl).trans (show f 27 = _ from hH.get 1 (44, 27) rfl)
          have s42 := (sv_at 42 25 hsz f [(43, 26), (44, 27), (42, 25)] rfl).trans (show f 25 = _ from hH.get 2 (42, 25) rfl)
          first
            | exact skip_v hsz rfl ((wanted_some (b := true) rfl rfl s42).trans rfl) hQ0 (Grow.refl _) rfl
            | refine small_v hsz [(43, _), (44, _)] ⟨some 2, (Op.indexAddr 23 (.tmp 0) (.tmp 1)), 0, "", #[], none⟩ [_, _, undef] 2 rfl ((wanted_some (b := false) rfl rfl s42).trans rfl) ⟨s43, s44, trivial⟩ rfl rfl hQ0 ?_
              clear hQ0 hH s43 s44 s42
              intro Q hQ
              repeat go_step
              exact hQ _ _ (Grow.refl _) rfl rfl
        refine obls_cons (fun f w' hR hH Q0 hQ0 => ?_) ?_
        · skip
          have s45 := (sv_at 45 28 hsz f [(45, 28), (42, 25)] rfl).trans (show f 28 = _ from hH.get 0 (45, 28) rfl)
          have s42 := (sv_at 42 25 hsz f [(45, 28), (42, 25)] rfl).trans (show f 25 = _ from hH.get 1 (42, 25) rfl)
          first
            | exact skip_v hsz rfl ((wanted_some (b := true) rfl rfl s42).trans rfl) hQ0 (Grow.refl _) rfl
            | refine small_v hsz [(45, _)] ⟨some 1, (Op.fieldAddr 39 (.tmp 0) 2), 0, "", #[], none⟩ [_, undef] 1 rfl ((wanted_some (b := false) rfl rfl s42).trans rfl) ⟨s45, trivial⟩ rfl rfl hQ0 ?_
              clear hQ0 hH s45 s42
              intro Q hQ
              repeat go_step
              exact hQ _ _ (Grow.refl _) rfl rfl
        refine obls_cons (fun f w' hR hH Q0 hQ0 => ?_) ?_
        · skip
          have s46 := (sv_at 46 29 hsz f [(46, 29), (42, 25)] rfl).trans (show f 29 = _ from hH.get 0 (46, 29) rfl)
          have s42 := (sv_at 42 25 hsz f [(46, 29), (42, 25)] rfl).trans (show f 25 = _ from hH.get 1 (42, 25) rfl)
          first
            | exact skip_v hsz rfl ((wanted_some (b := true) rfl rfl s42).trans rfl) hQ0 (Grow.refl _) rfl
            | refine small_v hsz [(46, _)] ⟨some 1, (Op.load 37 (.tmp 0)), 37, "", #[], none⟩ [_, undef] 1 rfl ((wanted_some (b := false) rfl rfl s42).trans rfl) ⟨s46, trivial⟩ rfl rfl hQ0 ?_
              clear hQ0 hH s46 s42
              intro Q hQ
              have x0 := HD2.out w' (HG.out.trans hR)
              repeat go_step
              exact hQ _ _ (Grow.refl _) rfl rfl
        refine obls_cons (fun f w' hR hH Q0 hQ0 => ?_) ?_
        · skip
          have s1 := sv_off f [(42, 25)] e1 rfl
          have s42 := (sv_at 42 25 hsz f [(42, 25)] rfl).trans (show f 25 = _ from hH.get 0 (42, 25) rfl)
          first
            | exact skip_v hsz rfl ((wanted_some (b := true) rfl rfl s42).trans rfl) hQ0 (Grow.refl _) rfl
            | refine small_v hsz [(1, _)] ⟨some 1, (Op.move (.tmp 0)), 23, "", #[], none⟩ [_, undef] 1 rfl ((wanted_some (b := false) rfl rfl s42).trans rfl) ⟨s1, trivial⟩ rfl rfl hQ0 ?_
              clear hQ0 hH s1 s42
              intro Q hQ
              repeat go_step
              exact hQ _ _ (Grow.refl _) rfl rfl
        refine obls_cons (fun f w' hR hH Q0 hQ0 => ?_) ?_
        · skip
          have s5 := sv_off f [(42, 25)] e5 rfl
          have s42 := (sv_at 42 25 hsz f [(42, 25)] rfl).trans (show f 25 = _ from hH.get 0 (42, 25) rfl)
          first
            | exact skip_v hsz rfl ((wanted_some (b := true) rfl rfl s42).trans rfl) hQ0 (Grow.refl _) rfl
            | refine small_v hsz [(5, _)] ⟨some 1, (Op.move (.tmp 0)), 3, "", #[], none⟩ [_, undef] 1 rfl ((wanted_some (b := false) rfl rfl s42).trans rfl) ⟨s5, trivial⟩ rfl rfl hQ0 ?_
              clear hQ0 hH s5 s42
              intro Q hQ
              repeat go_step
              exact hQ _ _ (Grow.refl _) rfl rfl
        refine obls_cons (fun f w' hR hH Q0 hQ0 => ?_) ?_
        · skip
          have s48 := (sv_at 48 31 hsz f [(48, 31), (49, 32), (42, 25)] rfl).trans (show f 31 = _ from hH.get 0 (48, 31) rfl)
          have s49 := (sv_at 49 32 hsz f [(48, 31), (49, 32), (42, 25)] rfl).trans (show f 32 = _ from hH.get 1 (49, 32) rfl)
          have s42 := (sv_at 42 25 hsz f [(48, 31), (49, 32), (42, 25)] rfl).trans (show f 25 = _ from hH.get 2 (42, 25) rfl)
          first
            | exact skip_v hsz rfl ((wanted_some (b := true) rfl rfl s42).trans rfl) hQ0 (Grow.refl _) rfl
            | refine small_v hsz [(48, _), (49, _)] ⟨some 2, (Op.indexAddr 23 (.tmp 0) (.tmp 1)), 0, "", #[], none⟩ [_, _, undef] 2 rfl ((wanted_some (b := false) rfl rfl s42).trans rfl) ⟨s48, s49, trivial⟩ rfl rfl hQ0 ?_
              clear hQ0 hH s48 s49 s42
              intro Q hQ
              repeat go_step
              exact hQ _ _ (Grow.refl _) rfl rfl
        refine obls_cons (fun f w' hR hH Q0 hQ0 => ?_) ?_
        · skip
          have s50 := (sv_at 50 33 hsz f [(50, 33), (42, 25)] rfl).trans (show f 33 = _ from hH.get 0 (50, 33) rfl)
          have s42 := (sv_at 42 25 hsz f [(50, 33), (42, 25)] rfl).trans (show f 25 = _ from hH.get 1 (42, 25) rfl)
          first
            | exact skip_v hsz rfl ((wanted_some (b := true) rfl rfl s42).trans rfl) hQ0 (Grow.refl _) rfl
            | refine small_v hsz [(50, _)] ⟨some 1, (Op.fieldAddr 39 (.tmp 0) 2), 0, "", #[], none⟩ [_, undef] 1 rfl ((wanted_some (b := false) rfl rfl s42).trans rfl) ⟨s50, trivial⟩ rfl rfl hQ0 ?_
              clear hQ0 hH s50 s42
              intro Q hQ
              repeat go_step
              exact hQ _ _ (Grow.refl _) rfl rfl
        refine obls_cons (fun f w' hR hH Q0 hQ0 => ?_) ?_
        · skip
          have s51 := (sv_at 51 34 hsz f [(51, 34), (42, 25)] rfl).trans (show f 34 = _ from hH.get 0 (51, 34) rfl)
          have s42 := (sv_at 42 25 hsz f [(51, 34), (42, 25)] rfl).trans (show f 25 = _ from hH.get 1 (42, 25) rfl)
          first
            | exact skip_v hsz rfl ((wanted_some (b := true) rfl rfl s42).trans rfl) hQ0 (Grow.refl _) rfl
            | refine small_v hsz [(51, _)] ⟨some 1, (Op.load 37 (.tmp 0)), 37, "", #[], none⟩ [_, undef] 1 rfl ((wanted_some (b := false) rfl rfl s42).trans rfl) ⟨s51, trivial⟩ rfl rfl hQ0 ?_
              clear hQ0 hH s51 s42
              intro Q hQ
              have x0 := HX2.out w' (HG.out.trans hR)
              repeat go_step
              exact hQ _ _ (Grow.refl _) rfl rfl
        refine obls_cons (fun f w' hR hH Q0 hQ0 => ?_) ?_
        · skip
          have s47 := (sv_at 47 30 hsz f [(47, 30), (52, 35), (42, 25)] rfl).trans (show f 30 = _ from hH.get 0 (47, 30) rfl)
          have s52 := (sv_at 52 35 hsz f [(47, 30), (52, 35), (42, 25)] rfl).trans (show f 35 = _ from hH.get 1 (52, 35) rfl)
          have s42 := (sv_at 42 25 hsz f [(47, 30), (52, 35), (42, 25)] rfl).trans (show f 25 = _ from hH.get 2 (42, 25) rfl)
          first
            | exact skip_v hsz rfl ((wanted_some (b := true) rfl rfl s42).trans rfl) hQ0 (Grow.refl _) rfl
            | refine small_v hsz [(47, _), (52, _)] ⟨some 2, (Op.call (Call.mk (Callee.value (Operand.func 32)) #[(.tmp 0), (.tmp 1)] #[37, 37])), 4, "", #[], none⟩ [_, _, undef] 2 rfl ((wanted_some (b := false) rfl rfl s42).trans rfl) ⟨s47, s52, trivial⟩ rfl (ren_call rfl rfl) hQ0 ?_
              clear hQ0 hH s47 s52 s42
              intro Q hQ
              go_wp2_with (go_at_call 32; refine ((HTL.out w' (HG.out.trans hR))).mono ?_; rintro e w1 ⟨rfl, hg1⟩)
              exact hQ _ _ hg1 rfl rfl
        refine obls_cons (fun f w' hR hH Q0 hQ0 => ?_) ?_
        · skip
          have s53 := (sv_at 53 36 hsz f [(53, 36), (42, 25)] rfl).trans (show f 36 = _ from hH.get 0 (53, 36) rfl)
          have s42 := (sv_at 42 25 hsz f [(53, 36), (42, 25)] rfl).trans (show f 25 = _ from hH.get 1 (42, 25) rfl)
          first
            | exact skip_v hsz rfl ((wanted_some (b := true) rfl rfl s42).trans rfl) hQ0 (Grow.refl _) rfl
            | refine small_v hsz [(53, _)] ⟨some 1, (Op.unOp UnOp.not 4 (.tmp 0)), 4, "", #[], none⟩ [_, undef] 1 rfl ((wanted_some (b := false) rfl rfl s42).trans rfl) ⟨s53, trivial⟩ rfl rfl hQ0 ?_
              clear hQ0 hH s53 s42
              intro Q hQ
              repeat go_step
              exact hQ _ _ (Grow.refl _) rfl rfl
        refine obls_cons (fun f w' hR hH Q0 hQ0 => ?_) ?_
        · skip
          have s42 := (sv_at 42 25 hsz f [(42, 25), (54, 37)] rfl).trans (show f 25 = _ from hH.get 0 (42, 25) rfl)
          have s54 := (sv_at 54 37 hsz f [(42, 25), (54, 37)] rfl).trans (show f 37 = _ from hH.get 1 (54, 37) rfl)
          refine small_v hsz [(42, _), (54, _)] ⟨some 2, (Op.pick (.tmp 0) (Operand.const (Value.bool true)) (.tmp 1)), 4, "", #[], none⟩ [_, _, undef] 2 rfl rfl ⟨s42, s54, trivial⟩ rfl rfl hQ0 ?_
          clear hQ0 hH s42 s54
          intro Q hQ
          repeat go_step
          exact hQ _ _ (Grow.refl _) rfl rfl
        exact obls_nil
      case mono => exact ⟨Mono.veq _, Mono.veq _, Mono.veq _, Mono.veq _, Mono.veq _, Mono.veq _, Mono.veq _, Mono.veq _, Mono.veq _, Mono.veq _, Mono.veq _, Mono.veq _, Mono.veq _, Mono.veq _, Mono.veq _, Mono.veq _, Mono.veq _, Mono.veq _, Mono.veq _, Mono.veq _, Mono.veq _, Mono.veq _, Mono.veq _, Mono.veq _, Mono.veq _, Mono.veq _, Mono.veq _, Mono.veq _, Mono.veq _, Mono.veq _, Mono.veq _, Mono.veq _, Mono.veq _, Mono.veq _, Mono.veq _, Mono.veq _, Mono.veq _, Mono.veq _, Mono.veq _, trivial⟩
      case tail =>
        intro f w' hR hH
        have q38 := hH.get 38 (55, 38) rfl
        clear hH
        refine wpList_merge (idx := [none, none, none, none, none, none, none, none, none, none, none, none, none, none, none, none, none, some 0, some 1, some 2, some 3, some 4, some 5, some 6, some 7, some 8, some 9, some 10, some 11, some 12, some 13, some 14, some 15, some 16, some 17, some 18, some 19, some 20, some 21, some 22, some 23, some 24, some 25, some 26, some 27, some 28, some 29, some 30, some 31, some 32, some 33, some 34, some 35, some 36, some 37, some 38]) (by kernel_rfl) ?_; show wpList _ _ _ [] ⟨#[_, _, _, _, _, _, _, _, _, _, _, _, _, _, _, _, _, f 0, f 1, f 2, f 3, f 4, f 5, f 6, f 7, f 8, f 9, f 10, f 11, f 12, f 13, f 14, f 15, f 16, f 17, f 18, f 19, f 20, f 21, f 22, f 23, f 24, f 25, f 26, f 27, f 28, f 29, f 30, f 31, f 32, f 33, f 34, f 35, f 36, f 37, f 38], _⟩ _
        rw [show f 38 = _ from q38]
        clear q38
        have HG9 := Lib.hid (HG.out.trans hR)
        clear hR
        go_wp2_with fail
        go_roundw
        case rel => exact ⟨k + 1, by have := HLT.out; omega, by go_num, HG9.out⟩
        case measure => have := HLT.out; simp [intOf] <;> omega
    · obtain rfl : k = n := by omega
      have t1 : decide (k < k) = false := decide_eq_false hlt
      have HG := Lib.hid hgr
      clear hlt hk hgr
      go_wp2_with fail
      go_ret
      exact ⟨rfl, HG.out⟩
end Go.Proofs.Ytacgfpjoaikfbaa.tc
