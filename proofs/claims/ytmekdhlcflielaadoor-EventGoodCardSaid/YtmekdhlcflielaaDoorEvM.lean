/- The walk of EventGood. -/
import Derived.Test.YtmekdhlcflielaaDoorEvL
import Derived.Test.YtmekdhlcflielaaDoorFast
namespace Go.Proofs.YtmekdhlcflielaaDoor.ev
open Go Go.RowKit Go.Par Go.Kit Vi Go.Proofs.YtmekdhlcflielaaDoor.bfW
open Go.Proofs.YtmekdhlcflielaaDoor.viW hiding i8 i8s i8z i8b info8

set_option maxRecDepth 100000 in
set_option maxHeartbeats 8000000 in
theorem good_walk (w : World) (a b : Ev) (A1 A2 : Option Addr) (n1 n2 c1 c2 : Nat) (ha : Bytes w A1 n1 a.b) (hb : Bytes w A2 n2 b.b) (h1 : n1 ≤ c1) (h2 : c1 ≤ maxLen) (h3 : n2 ≤ c2) (h4 : c2 ≤ maxLen) (oa : a.ok) (ob : b.ok) (ht : Tab w) (hB0 : 0 < w.heap.size) :
    Calls Tryd.prog 6 #[.agg #[.int .u8 (a.k : Int), .int .u8 (a.node : Int), .int .u8 (a.peer : Int), .int .i64 a.K, .int .i64 a.at_, .int .u32 (a.mask : Int), .int .u64 (a.draw : Int), .slice A1 n1 c1], .agg #[.int .u8 (b.k : Int), .int .u8 (b.node : Int), .int .u8 (b.peer : Int), .int .i64 b.K, .int .i64 b.at_, .int .u32 (b.mask : Int), .int .u64 (b.draw : Int), .slice A2 n2 c2]] w fun r w' => r = .returned (.bool true) ∧ Grow w w' := by
  obtain ⟨W1, hW1, hg1, hb1, hb2⟩ := boxes2 w [.int .u8 (a.k : Int), .int .u8 (a.node : Int), .int .u8 (a.peer : Int), .int .i64 a.K, .int .i64 a.at_, .int .u32 (a.mask : Int), .int .u64 (a.draw : Int), .slice A1 n1 c1] [.int .u8 (b.k : Int), .int .u8 (b.node : Int), .int .u8 (b.peer : Int), .int .i64 b.K, .int .i64 b.at_, .int .u32 (b.mask : Int), .int .u64 (b.draw : Int), .slice A2 n2 c2] TE TE
  obtain ⟨W2, hW2⟩ : ∃ W, W = W1.alloc (.cells #[.int .u8 (a.k : Int), .int .u8 (a.node : Int), .int .u8 (a.peer : Int), .int .i64 a.K, .int .i64 a.at_, .int .u32 (a.mask : Int), .int .u64 (a.draw : Int), .slice A1 n1 c1, .int .u8 (b.k : Int), .int .u8 (b.node : Int), .int .u8 (b.peer : Int), .int .i64 b.K, .int .i64 b.at_, .int .u32 (b.mask : Int), .int .u64 (b.draw : Int), .slice A2 n2 c2] TE) := ⟨_, rfl⟩
  have hg2 : Grow W1 W2 := by rw [hW2]; exact Grow.alloc _ _
  have hev : Evs W2 (some ⟨W1.heap.size, 0, none⟩) 2 [a, b] := by
    rw [hW2]
    exact Evs.two TE a b (.slice A1 n1 c1) (.slice A2 n2 c2) (fun w' hg => Sl.mk (ha.grow (hg1.trans hg)) h1 h2) (fun w' hg => Sl.mk (hb.grow (hg1.trans hg)) h3 h4) oa ob _ rfl
  have hfw := few_any (some ⟨W1.heap.size, 0, none⟩) 2 2 2 [a, b] W2 hev (by decide)
  obtain ⟨q, hq⟩ : ∃ q, q = fewB [a, b] 2 := ⟨_, rfl⟩
  rw [← hq] at hfw
  have HFW := Lib.hid hfw
  have HWK := Lib.hid (fun w' (hg : Grow w w') => works_any w' (ht.grow hg) (Nat.lt_of_lt_of_le hB0 hg.size))
  have HGA := Lib.hid (fun w' (hg : Grow w w') => good_any w' a oa A1 n1 c1 ha.len.symm (ht.grow hg))
  have HRG : Hid (∀ w', Grow w w' → Calls Tryd.prog 15 #[.agg #[.int .u8 (a.k : Int), .int .u8 (a.node : Int), .int .u8 (a.peer : Int), .int .i64 a.K, .int .i64 a.at_, .int .u32 (a.mask : Int), .int .u64 (a.draw : Int), .slice A1 n1 c1]] w' fun r w9 => r = .returned (.bool (goodB a)) ∧ Grow w' w9) := Lib.hid fun w' hg => by
    rw [← good_eq]
    exact rgood_any w' a A1 n1 c1 (ha.grow hg)
  have HSM := Lib.hid (fun w' (hg : Grow w w') => same_any w' a b A1 A2 n1 n2 c1 c2 (ha.grow hg) (hb.grow hg))
  have HRS := Lib.hid (fun w' (hg : Grow w w') => rsame_any w' a b A1 A2 n1 n2 c1 c2 (ha.grow hg) (hb.grow hg))
  have HSS : Hid (∀ w', Grow w w' → Calls Tryd.prog 16 #[.agg #[.int .u8 (a.k : Int), .int .u8 (a.node : Int), .int .u8 (a.peer : Int), .int .i64 a.K, .int .i64 a.at_, .int .u32 (a.mask : Int), .int .u64 (a.draw : Int), .slice A1 n1 c1], .agg #[.int .u8 (a.k : Int), .int .u8 (a.node : Int), .int .u8 (a.peer : Int), .int .i64 a.K, .int .i64 a.at_, .int .u32 (a.mask : Int), .int .u64 (a.draw : Int), .slice A1 n1 c1]] w' fun r w9 => r = .returned (.bool true) ∧ Grow w' w9) := Lib.hid fun w' hg => by
    rw [← sameB_self a]
    exact same_any w' a a A1 A1 n1 n1 c1 c1 (ha.grow hg) (ha.grow hg)
  obtain ⟨ga, hga⟩ : ∃ q, q = goodB a := ⟨_, rfl⟩
  obtain ⟨sm, hsm⟩ : ∃ q, q = sameB a b := ⟨_, rfl⟩
  rw [← hga] at HGA HRG
  rw [← hsm] at HSM HRS
  have HG1 := Lib.hid hg1
  have HW1 := Lib.hid hW1
  have HG2 := Lib.hid (hg1.trans hg2)
  have HW2 := Lib.hid hW2
  have HB1 := Lib.hid (hb1.grow hg2)
  have HB2 := Lib.hid (hb2.grow hg2)
  have x0 := hb1.cell (i := 0) rfl
  have y0 := hb2.cell (i := 0) rfl
  have x1 := hb1.cell (i := 1) rfl
  have y1 := hb2.cell (i := 1) rfl
  have x2 := hb1.cell (i := 2) rfl
  have y2 := hb2.cell (i := 2) rfl
  have x3 := hb1.cell (i := 3) rfl
  have y3 := hb2.cell (i := 3) rfl
  have x4 := hb1.cell (i := 4) rfl
  have y4 := hb2.cell (i := 4) rfl
  have x5 := hb1.cell (i := 5) rfl
  have y5 := hb2.cell (i := 5) rfl
  have x6 := hb1.cell (i := 6) rfl
  have y6 := hb2.cell (i := 6) rfl
  have x7 := hb1.cell (i := 7) rfl
  have y7 := hb2.cell (i := 7) rfl
  clear ha hb h1 h2 h3 h4 oa ob ht hB0 hW1 hg1 hb1 hb2 hW2 hg2 hev hfw hq hga hsm
  go_enter Tryd.func6, Tryd.ntmps6
  try dsimp only
  repeat (first | with_reducible (refine wp_region_cut (k := 1) ?_) | go_values | go_guarded | go_step | go_upon | go_back)
  rw [← HW1.out]
  unfold Cut
  go_wp2_with fail
  rw [← HW2.out]
  refine HFW.out.mono ?_
  rintro r w' ⟨rfl, rfl⟩
  clear x0 y0 x1 y1 x2 y2 x3 y3 x4 y4 x5 y5 x6 y6 x7 y7
  cases q
  · unfold bi
    go_wp2_with fail
    refine (HWK.out W2 HG2.out).mono ?_
    rintro r w3 ⟨rfl, hg3⟩
    have HG3 := Lib.hid (HG2.out.trans hg3)
    clear hg3
    go_wp2_with fail
    go_ret
    exact ⟨rfl, HG3.out⟩
  · unfold bi
    go_wp2_with fail
    apply (fun (v0 v1 v2 v3 v4 v5 v6 v7 v8 v9 v10 v11 v12 v13 v14 v15 v16 v17 v18 v19 v20 v21 v22 : Value) mono obl tail => wp_region_par (R := Grow) (Φ := phi [veq v0, veq v1, veq v2, veq v3, veq v4, veq v5, veq v6, veq v7, veq v8, veq v9, veq v10, veq v11, veq v12, veq v13, veq v14, veq v15, veq v16, veq v17, veq v18, veq v19, veq v20, veq v21, veq v22]) (m := 23) (dls := [[], [(11, 0)], [], [(13, 2)], [(12, 1), (14, 3)], [(15, 4)], [(16, 5)], [(16, 5)], [(17, 6), (18, 7), (16, 5)], [(16, 5)], [(16, 5)], [(20, 9), (21, 10), (16, 5)], [(19, 8), (22, 11), (16, 5)], [(16, 5), (23, 12)], [(24, 13)], [(25, 14)], [(25, 14)], [(26, 15), (27, 16), (25, 14)], [(25, 14), (28, 17)], [(29, 18)], [(30, 19)], [(30, 19), (31, 20)], [(32, 21)]]) (ds := [11, 12, 13, 14, 15, 16, 17, 18, 19, 20, 21, 22, 23, 24, 25, 26, 27, 28, 29, 30, 31, 32, 4]) (by kernel_rfl) (by kernel_rfl) (by decide) rfl (Grow.drew _) (fun _ _ _ => Grow.trans) (mono_phi mono) obl tail)
    case obl =>
      refine obls_frame (fun a1 ha => ?_)
      have hsz := rd_size (n := 33) ha rfl
      have e2 := rd_slot 2 ha rfl
      have e3 := rd_slot 3 ha rfl
      clear ha
      refine obls_cons (fun f w' hR hH Q0 hQ0 => ?_) ?_
      · skip
        have s2 := sv_off f [] e2 rfl
        refine small_v hsz [(2, _)] ⟨some 1, (Op.load 41 (.tmp 0)), 41, "", #[], none⟩ [_, undef] 1 rfl rfl ⟨s2, trivial⟩ rfl rfl hQ0 ?_
        clear hQ0 hH s2
        intro Q hQ
        have x0 := (HB1.out.grow hR).cell (i := 0) rfl
        have x1 := (HB1.out.grow hR).cell (i := 1) rfl
        have x2 := (HB1.out.grow hR).cell (i := 2) rfl
        have x3 := (HB1.out.grow hR).cell (i := 3) rfl
        have x4 := (HB1.out.grow hR).cell (i := 4) rfl
        have x5 := (HB1.out.grow hR).cell (i := 5) rfl
        have x6 := (HB1.out.grow hR).cell (i := 6) rfl
        have x7 := (HB1.out.grow hR).cell (i := 7) rfl
        repeat go_step
        exact hQ _ _ (Grow.refl _) rfl rfl
      refine obls_cons (fun f w' hR hH Q0 hQ0 => ?_) ?_
      · skip
        have s11 := (sv_at 11 0 hsz f [(11, 0)] rfl).trans (show f 0 = _ from hH.get 0 (11, 0) rfl)
        refine small_v hsz [(11, _)] ⟨some 1, (Op.call (Call.mk (Callee.value (Operand.func 14)) #[(.tmp 0)] #[41])), 4, "", #[], none⟩ [_, undef] 1 rfl rfl ⟨s11, trivial⟩ rfl (ren_call rfl rfl) hQ0 ?_
        clear hQ0 hH s11
        intro Q hQ
        go_wp2_with (go_at_call 14; refine ((HGA.out w' (HG2.out.trans hR))).mono ?_; rintro e w1 ⟨rfl, hg1⟩)
        exact hQ _ _ hg1 rfl rfl
      refine obls_cons (fun f w' hR hH Q0 hQ0 => ?_) ?_
      · skip
        have s2 := sv_off f [] e2 rfl
        refine small_v hsz [(2, _)] ⟨some 1, (Op.load 41 (.tmp 0)), 41, "", #[], none⟩ [_, undef] 1 rfl rfl ⟨s2, trivial⟩ rfl rfl hQ0 ?_
        clear hQ0 hH s2
        intro Q hQ
        have x0 := (HB1.out.grow hR).cell (i := 0) rfl
        have x1 := (HB1.out.grow hR).cell (i := 1) rfl
        have x2 := (HB1.out.grow hR).cell (i := 2) rfl
        have x3 := (HB1.out.grow hR).cell (i := 3) rfl
        have x4 := (HB1.out.grow hR).cell (i := 4) rfl
        have x5 := (HB1.out.grow hR).cell (i := 5) rfl
        have x6 := (HB1.out.grow hR).cell (i := 6) rfl
        have x7 := (HB1.out.grow hR).cell (i := 7) rfl
        repeat go_step
        exact hQ _ _ (Grow.refl _) rfl rfl
      refine obls_cons (fun f w' hR hH Q0 hQ0 => ?_) ?_
      · skip
        have s13 := (sv_at 13 2 hsz f [(13, 2)] rfl).trans (show f 2 = _ from hH.get 0 (13, 2) rfl)
        refine small_v hsz [(13, _)] ⟨some 1, (Op.call (Call.mk (Callee.value (Operand.func 15)) #[(.tmp 0)] #[41])), 4, "", #[], none⟩ [_, undef] 1 rfl rfl ⟨s13, trivial⟩ rfl (ren_call rfl rfl) hQ0 ?_
        clear hQ0 hH s13
        intro Q hQ
        go_wp2_with (go_at_call 15; refine ((HRG.out w' (HG2.out.trans hR))).mono ?_; rintro e w1 ⟨rfl, hg1⟩)
        exact hQ _ _ hg1 rfl rfl
      refine obls_cons (fun f w' hR hH Q0 hQ0 => ?_) ?_
      · skip
        have s12 := (sv_at 12 1 hsz f [(12, 1), (14, 3)] rfl).trans (show f 1 = _ from hH.get 0 (12, 1) rfl)
        have s14 := (sv_at 14 3 hsz f [(12, 1), (14, 3)] rfl).trans (show f 3 = _ from hH.get 1 (14, 3) rfl)
        refine small_v hsz [(12, _), (14, _)] ⟨some 2, (Op.binOp BinOp.eql 4 (.tmp 0) (.tmp 1) 4), 4, "", #[], none⟩ [_, _, undef] 2 rfl rfl ⟨s12, s14, trivial⟩ rfl rfl hQ0 ?_
        clear hQ0 hH s12 s14
        intro Q hQ
        repeat go_step
        exact hQ _ _ (Grow.refl _) rfl rfl
      refine obls_cons (fun f w' hR hH Q0 hQ0 => ?_) ?_
      · skip
        have s15 := (sv_at 15 4 hsz f [(15, 4)] rfl).trans (show f 4 = _ from hH.get 0 (15, 4) rfl)
        refine small_v hsz [(15, _)] ⟨some 1, (Op.move (.tmp 0)), 4, "", #[], none⟩ [_, undef] 1 rfl rfl ⟨s15, trivial⟩ rfl rfl hQ0 ?_
        clear hQ0 hH s15
        intro Q hQ
        repeat go_step
        exact hQ _ _ (Grow.refl _) rfl rfl
      refine obls_cons (fun f w' hR hH Q0 hQ0 => ?_) ?_
      · skip
        have s2 := sv_off f [(16, 5)] e2 rfl
        have s16 := (sv_at 16 5 hsz f [(16, 5)] rfl).trans (show f 5 = _ from hH.get 0 (16, 5) rfl)
        first
          | exact skip_v hsz rfl ((wanted_some (b := false) rfl rfl s16).trans rfl) hQ0 (Grow.refl _) rfl
          | refine small_v hsz [(2, _)] ⟨some 1, (Op.load 41 (.tmp 0)), 41, "", #[], none⟩ [_, undef] 1 rfl ((wanted_some (b := true) rfl rfl s16).trans rfl) ⟨s2, trivial⟩ rfl rfl hQ0 ?_
            clear hQ0 hH s2 s16
            intro Q hQ
            have x0 := (HB1.out.grow hR).cell (i := 0) rfl
            have x1 := (HB1.out.grow hR).cell (i := 1) rfl
            have x2 := (HB1.out.grow hR).cell (i := 2) rfl
            have x3 := (HB1.out.grow hR).cell (i := 3) rfl
            have x4 := (HB1.out.grow hR).cell (i := 4) rfl
            have x5 := (HB1.out.grow hR).cell (i := 5) rfl
            have x6 := (HB1.out.grow hR).cell (i := 6) rfl
            have x7 := (HB1.out.grow hR).cell (i := 7) rfl
            repeat go_step
            exact hQ _ _ (Grow.refl _) rfl rfl
      refine obls_cons (fun f w' hR hH Q0 hQ0 => ?_) ?_
      · skip
        have s3 := sv_off f [(16, 5)] e3 rfl
        have s16 := (sv_at 16 5 hsz f [(16, 5)] rfl).trans (show f 5 = _ from hH.get 0 (16, 5) rfl)
        first
          | exact skip_v hsz rfl ((wanted_some (b := false) rfl rfl s16).trans rfl) hQ0 (Grow.refl _) rfl
          | refine small_v hsz [(3, _)] ⟨some 1, (Op.load 41 (.tmp 0)), 41, "", #[], none⟩ [_, undef] 1 rfl ((wanted_some (b := true) rfl rfl s16).trans rfl) ⟨s3, trivial⟩ rfl rfl hQ0 ?_
            clear hQ0 hH s3 s16
            intro Q hQ
            have x0 := (HB2.out.grow hR).cell (i := 0) rfl
            have x1 := (HB2.out.grow hR).cell (i := 1) rfl
            have x2 := (HB2.out.grow hR).cell (i := 2) rfl
            have x3 := (HB2.out.grow hR).cell (i := 3) rfl
            have x4 := (HB2.out.grow hR).cell (i := 4) rfl
            have x5 := (HB2.out.grow hR).cell (i := 5) rfl
            have x6 := (HB2.out.grow hR).cell (i := 6) rfl
            have x7 := (HB2.out.grow hR).cell (i := 7) rfl
            repeat go_step
            exact hQ _ _ (Grow.refl _) rfl rfl
      refine obls_cons (fun f w' hR hH Q0 hQ0 => ?_) ?_
      · skip
        have s17 := (sv_at 17 6 hsz f [(17, 6), (18, 7), (16, 5)] rfl).trans (show f 6 = _ from hH.get 0 (17, 6) rfl)
        have s18 := (sv_at 18 7 hsz f [(17, 6), (18, 7), (16, 5)] rfl).trans (show f 7 = _ from hH.get 1 (18, 7) rfl)
        have s16 := (sv_at 16 5 hsz f [(17, 6), (18, 7), (16, 5)] rfl).trans (show f 5 = _ from hH.get 2 (16, 5) rfl)
        first
          | exact skip_v hsz rfl ((wanted_some (b := false) rfl rfl s16).trans rfl) hQ0 (Grow.refl _) rfl
          | refine small_v hsz [(17, _), (18, _)] ⟨some 2, (Op.call (Call.mk (Callee.value (Operand.func 16)) #[(.tmp 0), (.tmp 1)] #[41, 41])), 4, "", #[], none⟩ [_, _, undef] 2 rfl ((wanted_some (b := true) rfl rfl s16).trans rfl) ⟨s17, s18, trivial⟩ rfl (ren_call rfl rfl) hQ0 ?_
            clear hQ0 hH s17 s18 s16
            intro Q hQ
            go_wp2_with (go_at_call 16; refine ((HSM.out w' (HG2.out.trans hR))).mono ?_; rintro e w1 ⟨rfl, hg1⟩)
            exact hQ _ _ hg1 rfl rfl
      refine obls_cons (fun f w' hR hH Q0 hQ0 => ?_) ?_
      · skip
        have s2 := sv_off f [(16, 5)] e2 rfl
        have s16 := (sv_at 16 5 hsz f [(16, 5)] rfl).trans (show f 5 = _ from hH.get 0 (16, 5) rfl)
        first
          | exact skip_v hsz rfl ((wanted_some (b := false) rfl rfl s16).trans rfl) hQ0 (Grow.refl _) rfl
          | refine small_v hsz [(2, _)] ⟨some 1, (Op.load 41 (.tmp 0)), 41, "", #[], none⟩ [_, undef] 1 rfl ((wanted_some (b := true) rfl rfl s16).trans rfl) ⟨s2, trivial⟩ rfl rfl hQ0 ?_
            clear hQ0 hH s2 s16
            intro Q hQ
            have x0 := (HB1.out.grow hR).cell (i := 0) rfl
            have x1 := (HB1.out.grow hR).cell (i := 1) rfl
            have x2 := (HB1.out.grow hR).cell (i := 2) rfl
            have x3 := (HB1.out.grow hR).cell (i := 3) rfl
            have x4 := (HB1.out.grow hR).cell (i := 4) rfl
            have x5 := (HB1.out.grow hR).cell (i := 5) rfl
            have x6 := (HB1.out.grow hR).cell (i := 6) rfl
            have x7 := (HB1.out.grow hR).cell (i := 7) rfl
            repeat go_step
            exact hQ _ _ (Grow.refl _) rfl rfl
      refine obls_cons (fun f w' hR hH Q0 hQ0 => ?_) ?_
      · skip
        have s3 := sv_off f [(16, 5)] e3 rfl
        have s16 := (sv_at 16 5 hsz f [(16, 5)] rfl).trans (show f 5 = _ from hH.get 0 (16, 5) rfl)
        first
          | exact skip_v hsz rfl ((wanted_some (b := false) rfl rfl s16).trans rfl) hQ0 (Grow.refl _) rfl
          | refine small_v hsz [(3, _)] ⟨some 1, (Op.load 41 (.tmp 0)), 41, "", #[], none⟩ [_, undef] 1 rfl ((wanted_some (b := true) rfl rfl s16).trans rfl) ⟨s3, trivial⟩ rfl rfl hQ0 ?_
            clear hQ0 hH s3 s16
            intro Q hQ
            have x0 := (HB2.out.grow hR).cell (i := 0) rfl
            have x1 := (HB2.out.grow hR).cell (i := 1) rfl
            have x2 := (HB2.out.grow hR).cell (i := 2) rfl
            have x3 := (HB2.out.grow hR).cell (i := 3) rfl
            have x4 := (HB2.out.grow hR).cell (i := 4) rfl
            have x5 := (HB2.out.grow hR).cell (i := 5) rfl
            have x6 := (HB2.out.grow hR).cell (i := 6) rfl
            have x7 := (HB2.out.grow hR).cell (i := 7) rfl
            repeat go_step
            exact hQ _ _ (Grow.refl _) rfl rfl
      refine obls_cons (fun f w' hR hH Q0 hQ0 => ?_) ?_
      · skip
        have s20 := (sv_at 20 9 hsz f [(20, 9), (21, 10), (16, 5)] rfl).trans (show f 9 = _ from hH.get 0 (20, 9) rfl)
        have s21 := (sv_at 21 10 hsz f [(20, 9), (21, 10), (16, 5)] rfl).trans (show f 10 = _ from hH.get 1 (21, 10) rfl)
        have s16 := (sv_at 16 5 hsz f [(20, 9), (21, 10), (16, 5)] rfl).trans (show f 5 = _ from hH.get 2 (16, 5) rfl)
        first
          | exact skip_v hsz rfl ((wanted_some (b := false) rfl rfl s16).trans rfl) hQ0 (Grow.refl _) rfl
          | refine small_v hsz [(20, _), (21, _)] ⟨some 2, (Op.call (Call.mk (Callee.value (Operand.func 17)) #[(.tmp 0), (.tmp 1)] #[41, 41])), 4, "", #[], none⟩ [_, _, undef] 2 rfl ((wanted_some (b := true) rfl rfl s16).trans rfl) ⟨s20, s21, trivial⟩ rfl (ren_call rfl rfl) hQ0 ?_
            clear hQ0 hH s20 s21 s16
            intro Q hQ
            go_wp2_with (go_at_call 17; refine ((HRS.out w' (HG2.out.trans hR))).mono ?_; rintro e w1 ⟨rfl, hg1⟩)
            exact hQ _ _ hg1 rfl rfl
      refine obls_cons (fun f w' hR hH Q0 hQ0 => ?_) ?_
      · skip
        have s19 := (sv_at 19 8 hsz f [(19, 8), (22, 11), (16, 5)] rfl).trans (show f 8 = _ from hH.get 0 (19, 8) rfl)
        have s22 := (sv_at 22 11 hsz f [(19, 8), (22, 11), (16, 5)] rfl).trans (show f 11 = _ from hH.get 1 (22, 11) rfl)
        have s16 := (sv_at 16 5 hsz f [(19, 8), (22, 11), (16, 5)] rfl).trans (show f 5 = _ from hH.get 2 (16, 5) rfl)
        first
          | exact skip_v hsz rfl ((wanted_some (b := false) rfl rfl s16).trans rfl) hQ0 (Grow.refl _) rfl
          | refine small_v hsz [(19, _), (22, _)] ⟨some 2, (Op.binOp BinOp.eql 4 (.tmp 0) (.tmp 1) 4), 4, "", #[], none⟩ [_, _, undef] 2 rfl ((wanted_some (b := true) rfl rfl s16).trans rfl) ⟨s19, s22, trivial⟩ rfl rfl hQ0 ?_
            clear hQ0 hH s19 s22 s16
            intro Q hQ
            repeat go_step
            exact hQ _ _ (Grow.refl _) rfl rfl
      refine obls_cons (fun f w' hR hH Q0 hQ0 => ?_) ?_
      · skip
        have s16 := (sv_at 16 5 hsz f [(16, 5), (23, 12)] rfl).trans (show f 5 = _ from hH.get 0 (16, 5) rfl)
        have s23 := (sv_at 23 12 hsz f [(16, 5), (23, 12)] rfl).trans (show f 12 = _ from hH.get 1 (23, 12) rfl)
        refine small_v hsz [(16, _), (23, _)] ⟨some 2, (Op.pick (.tmp 0) (.tmp 1) (Operand.const (Value.bool false))), 4, "", #[], none⟩ [_, _, undef] 2 rfl rfl ⟨s16, s23, trivial⟩ rfl rfl hQ0 ?_
        clear hQ0 hH s16 s23
        intro Q hQ
        repeat go_step
        exact hQ _ _ (Grow.refl _) rfl rfl
      refine obls_cons (fun f w' hR hH Q0 hQ0 => ?_) ?_
      · skip
        have s24 := (sv_at 24 13 hsz f [(24, 13)] rfl).trans (show f 13 = _ from hH.get 0 (24, 13) rfl)
        refine small_v hsz [(24, _)] ⟨some 1, (Op.move (.tmp 0)), 4, "", #[], none⟩ [_, undef] 1 rfl rfl ⟨s24, trivial⟩ rfl rfl hQ0 ?_
        clear hQ0 hH s24
        intro Q hQ
        repeat go_step
        exact hQ _ _ (Grow.refl _) rfl rfl
      refine obls_cons (fun f w' hR hH Q0 hQ0 => ?_) ?_
      · skip
        have s2 := sv_off f [(25, 14)] e2 rfl
        have s25 := (sv_at 25 14 hsz f [(25, 14)] rfl).trans (show f 14 = _ from hH.get 0 (25, 14) rfl)
        first
          | exact skip_v hsz rfl ((wanted_some (b := false) rfl rfl s25).trans rfl) hQ0 (Grow.refl _) rfl
          | refine small_v hsz [(2, _)] ⟨some 1, (Op.load 41 (.tmp 0)), 41, "", #[], none⟩ [_, undef] 1 rfl ((wanted_some (b := true) rfl rfl s25).trans rfl) ⟨s2, trivial⟩ rfl rfl hQ0 ?_
            clear hQ0 hH s2 s25
            intro Q hQ
            have x0 := (HB1.out.grow hR).cell (i := 0) rfl
            have x1 := (HB1.out.grow hR).cell (i := 1) rfl
            have x2 := (HB1.out.grow hR).cell (i := 2) rfl
            have x3 := (HB1.out.grow hR).cell (i := 3) rfl
            have x4 := (HB1.out.grow hR).cell (i := 4) rfl
            have x5 := (HB1.out.grow hR).cell (i := 5) rfl
            have x6 := (HB1.out.grow hR).cell (i := 6) rfl
            have x7 := (HB1.out.grow hR).cell (i := 7) rfl
            repeat go_step
            exact hQ _ _ (Grow.refl _) rfl rfl
      refine obls_cons (fun f w' hR hH Q0 hQ0 => ?_) ?_
      · skip
        have s2 := sv_off f [(25, 14)] e2 rfl
        have s25 := (sv_at 25 14 hsz f [(25, 14)] rfl).trans (show f 14 = _ from hH.get 0 (25, 14) rfl)
        first
          | exact skip_v hsz rfl ((wanted_some (b := false) rfl rfl s25).trans rfl) hQ0 (Grow.refl _) rfl
          | refine small_v hsz [(2, _)] ⟨some 1, (Op.load 41 (.tmp 0)), 41, "", #[], none⟩ [_, undef] 1 rfl ((wanted_some (b := true) rfl rfl s25).trans rfl) ⟨s2, trivial⟩ rfl rfl hQ0 ?_
            clear hQ0 hH s2 s25
            intro Q hQ
            have x0 := (HB1.out.grow hR).cell (i := 0) rfl
            have x1 := (HB1.out.grow hR).cell (i := 1) rfl
            have x2 := (HB1.out.grow hR).cell (i := 2) rfl
            have x3 := (HB1.out.grow hR).cell (i := 3) rfl
            have x4 := (HB1.out.grow hR).cell (i := 4) rfl
            have x5 := (HB1.out.grow hR).cell (i := 5) rfl
            have x6 := (HB1.out.grow hR).cell (i := 6) rfl
            have x7 := (HB1.out.grow hR).cell (i := 7) rfl
            repeat go_step
            exact hQ _ _ (Grow.refl _) rfl rfl
      refine obls_cons (fun f w' hR hH Q0 hQ0 => ?_) ?_
      · skip
        have s26 := (sv_at 26 15 hsz f [(26, 15), (27, 16), (25, 14)] rfl).trans (show f 15 = _ from hH.get 0 (26, 15) rfl)
        have s27 := (sv_at 27 16 hsz f [(26, 15), (27, 16), (25, 14)] rfl).trans (show f 16 = _ from hH.get 1 (27, 16) rfl)
        have s25 := (sv_at 25 14 hsz f [(26, 15), (27, 16), (25, 14)] rfl).trans (show f 14 = _ from hH.get 2 (25, 14) rfl)
        first
          | exact skip_v hsz rfl ((wanted_some (b := false) rfl rfl s25).trans rfl) hQ0 (Grow.refl _) rfl
          | refine small_v hsz [(26, _), (27, _)] ⟨some 2, (Op.call (Call.mk (Callee.value (Operand.func 16)) #[(.tmp 0), (.tmp 1)] #[41, 41])), 4, "", #[], none⟩ [_, _, undef] 2 rfl ((wanted_some (b := true) rfl rfl s25).trans rfl) ⟨s26, s27, trivial⟩ rfl (ren_call rfl rfl) hQ0 ?_
            clear hQ0 hH s26 s27 s25
            intro Q hQ
            go_wp2_with (go_at_call 16; refine ((HSS.out w' (HG2.out.trans hR))).mono ?_; rintro e w1 ⟨rfl, hg1⟩)
            exact hQ _ _ hg1 rfl rfl
      refine obls_cons (fun f w' hR hH Q0 hQ0 => ?_) ?_
      · skip
        have s25 := (sv_at 25 14 hsz f [(25, 14), (28, 17)] rfl).trans (show f 14 = _ from hH.get 0 (25, 14) rfl)
        have s28 := (sv_at 28 17 hsz f [(25, 14), (28, 17)] rfl).trans (show f 17 = _ from hH.get 1 (28, 17) rfl)
        refine small_v hsz [(25, _), (28, _)] ⟨some 2, (Op.pick (.tmp 0) (.tmp 1) (Operand.const (Value.bool false))), 4, "", #[], none⟩ [_, _, undef] 2 rfl rfl ⟨s25, s28, trivial⟩ rfl rfl hQ0 ?_
        clear hQ0 hH s25 s28
        intro Q hQ
        repeat go_step
        exact hQ _ _ (Grow.refl _) rfl rfl
      refine obls_cons (fun f w' hR hH Q0 hQ0 => ?_) ?_
      · skip
        have s29 := (sv_at 29 18 hsz f [(29, 18)] rfl).trans (show f 18 = _ from hH.get 0 (29, 18) rfl)
        refine small_v hsz [(29, _)] ⟨some 1, (Op.move (.tmp 0)), 4, "", #[], none⟩ [_, undef] 1 rfl rfl ⟨s29, trivial⟩ rfl rfl hQ0 ?_
        clear hQ0 hH s29
        intro Q hQ
        repeat go_step
        exact hQ _ _ (Grow.refl _) rfl rfl
      refine obls_cons (fun f w' hR hH Q0 hQ0 => ?_) ?_
      · skip
        have s30 := (sv_at 30 19 hsz f [(30, 19)] rfl).trans (show f 19 = _ from hH.get 0 (30, 19) rfl)
        first
          | exact skip_v hsz rfl ((wanted_some (b := false) rfl rfl s30).trans rfl) hQ0 (Grow.refl _) rfl
          | refine small_v hsz [] ⟨some 0, (Op.call (Call.mk (Callee.value (Operand.func 8)) #[] #[])), 4, "", #[], none⟩ [undef] 0 rfl ((wanted_some (b := true) rfl rfl s30).trans rfl) trivial rfl (ren_call rfl rfl) hQ0 ?_
            clear hQ0 hH s30
            intro Q hQ
            go_wp2_with (go_at_call 8; refine ((HWK.out w' (HG2.out.trans hR))).mono ?_; rintro e w1 ⟨rfl, hg1⟩)
            exact hQ _ _ hg1 rfl rfl
      refine obls_cons (fun f w' hR hH Q0 hQ0 => ?_) ?_
      · skip
        have s30 := (sv_at 30 19 hsz f [(30, 19), (31, 20)] rfl).trans (show f 19 = _ from hH.get 0 (30, 19) rfl)
        have s31 := (sv_at 31 20 hsz f [(30, 19), (31, 20)] rfl).trans (show f 20 = _ from hH.get 1 (31, 20) rfl)
        refine small_v hsz [(30, _), (31, _)] ⟨some 2, (Op.pick (.tmp 0) (.tmp 1) (Operand.const (Value.bool false))), 4, "", #[], none⟩ [_, _, undef] 2 rfl rfl ⟨s30, s31, trivial⟩ rfl rfl hQ0 ?_
        clear hQ0 hH s30 s31
        intro Q hQ
        repeat go_step
        exact hQ _ _ (Grow.refl _) rfl rfl
      refine obls_cons (fun f w' hR hH Q0 hQ0 => ?_) ?_
      · skip
        have s32 := (sv_at 32 21 hsz f [(32, 21)] rfl).trans (show f 21 = _ from hH.get 0 (32, 21) rfl)
        refine small_v hsz [(32, _)] ⟨some 1, (Op.assign (.tmp 0)), 4, "", #[], none⟩ [_, undef] 1 rfl rfl ⟨s32, trivial⟩ rfl rfl hQ0 ?_
        clear hQ0 hH s32
        intro Q hQ
        repeat go_step
        exact hQ _ _ (Grow.refl _) rfl rfl
      exact obls_nil
    case mono => exact ⟨Mono.veq _, Mono.veq _, Mono.veq _, Mono.veq _, Mono.veq _, Mono.veq _, Mono.veq _, Mono.veq _, Mono.veq _, Mono.veq _, Mono.veq _, Mono.veq _, Mono.veq _, Mono.veq _, Mono.veq _, Mono.veq _, Mono.veq _, Mono.veq _, Mono.veq _, Mono.veq _, Mono.veq _, Mono.veq _, Mono.veq _, trivial⟩
    case tail =>
      intro f w' hR hH
      have q21 := hH.get 21 (32, 21) rfl
      have q22 := hH.get 22 (4, 22) rfl
      clear hH
      refine wpList_merge (idx := [none, none, none, none, some 22, none, none, none, none, none, none, some 0, some 1, some 2, some 3, some 4, some 5, some 6, some 7, some 8, some 9, some 10, some 11, some 12, some 13, some 14, some 15, some 16, some 17, some 18, some 19, some 20, some 21]) (by kernel_rfl) ?_; show wpList _ _ _ [] ⟨#[_, _, _, _, f 22, _, _, _, _, _, _, f 0, f 1, f 2, f 3, f 4, f 5, f 6, f 7, f 8, f 9, f 10, f 11, f 12, f 13, f 14, f 15, f 16, f 17, f 18, f 19, f 20, f 21], _⟩ _
      rw [show f 21 = _ from q21]
      rw [show f 22 = _ from q22]
      clear q21 q22
      have HG9 := Lib.hid (HG2.out.trans hR)
      clear hR
      go_wp2_with fail
      go_ret
      exact ⟨rfl, HG9.out⟩
end Go.Proofs.YtmekdhlcflielaaDoor.ev
