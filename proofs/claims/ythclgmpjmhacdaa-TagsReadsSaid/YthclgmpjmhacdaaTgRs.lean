/- The walk of TagsReads. -/
import Derived.Test.YthclgmpjmhacdaaTgI
import Derived.Test.YthclgmpjmhacdaaTgF
namespace Go.Proofs.Ythclgmpjmhacdaa.tg
open Go Go.RowKit Go.Par Go.Kit Vi Go.Proofs.Ythclgmpjmhacdaa.bfW
open Go.Proofs.Ythclgmpjmhacdaa.viW hiding i8 i8s i8z i8b info8

set_option maxRecDepth 100000 in
set_option maxHeartbeats 2000000 in
theorem reads_walk (w : World) (A : Option Addr) (n c : Nat) (L : List UInt8) (hb : Bytes w A n L) (hc : n ≤ c) (hm : c ≤ maxLen) :
    Calls Try.prog 3 #[.slice A n c] w fun r w' => r = .returned (.bool true) ∧ Grow w w' := by
  have hn9 : n ≤ 9223372036854775807 := by unfold maxLen at hm; omega
  by_cases h60 : 3000 < n
  · have t1 : decide (3000 < n) = true := decide_eq_true h60
    have t1' : decide ((3000 : Int) < (n : Int)) = true := decide_eq_true (by omega)
    clear h60 hb hc hm
    go_enter Try.func3, Try.ntmps3
    go_wp2_with fail
    refine (works_any w).mono ?_
    rintro r w1 ⟨rfl, hg1⟩
    have HG1 := Lib.hid hg1
    clear hg1
    go_wp2_with fail
    go_ret
    exact ⟨rfl, HG1.out⟩
  · have t1 : decide (3000 < n) = false := decide_eq_false h60
    have t1' : decide ((3000 : Int) < (n : Int)) = false := decide_eq_false (by omega)
    have HD := Lib.hid (decode_any w A n c L hb hc hm (lt_of_bytes hb))
    have HRD : Hid (∀ w1, Grow w w1 → Calls Try.prog 8 #[.slice A n c] w1 fun r w' => (∃ v, r = .returned (.tuple #[v, .int .i64 (errT L : Int)]) ∧ RT w' v (if errT L = 0 then (decT L).1.1 else [])) ∧ Grow w1 w') := Lib.hid fun w1 hg => by
      have h := rdecode_any w1 A n c L (hb.grow hg) hc hm
      obtain ⟨h1, h2⟩ := dec_same L
      rw [h1] at h
      refine h.mono ?_
      rintro r w' ⟨⟨v, rfl, hv⟩, hg'⟩
      refine ⟨⟨v, rfl, ?_⟩, hg'⟩
      split
      · rename_i he
        rw [if_pos he, h2 he] at hv
        exact hv
      · rename_i he
        rw [if_neg he] at hv
        exact hv
    have HB := Lib.hid hb
    have HBK : Hid (errT L = 0 → encT (decT L).1.1 = L) := Lib.hid fun h => (dec_back h).1
    obtain ⟨er, her⟩ : ∃ er, er = errT L := ⟨_, rfl⟩
    obtain ⟨T, hT⟩ : ∃ T, T = (decT L).1.1 := ⟨_, rfl⟩
    rw [← her, ← hT] at HD HRD HBK
    clear h60 hb hc hm her hT
    go_enter Try.func3, Try.ntmps3
    go_wp2_with fail
    refine HD.out.mono ?_
    rintro r w1 ⟨hr, hg1⟩
    have HRD1 := Lib.hid (HRD.out w1 hg1)
    have HG1 := Lib.hid hg1
    clear hg1 HD HRD
    by_cases he : er = 0
    · subst he
      rw [if_pos rfl] at hr
      obtain ⟨gT, bs, bn, n', rfl, hn', hti⟩ := hr
      have HT := Lib.hid hti
      have HN := Lib.hid hn'
      clear hti hn'
      go_wp2_with fail
      refine HRD1.out.mono ?_
      rintro r w2 ⟨⟨v, rfl, hv⟩, hg2⟩
      replace hv : RT w2 v T := by simpa using hv
      have HSA := Lib.hid (same_any (HT.out.grow hg2) (by have := HN.out; omega) v hv)
      have HG2 := Lib.hid (HG1.out.trans hg2)
      have HG12 := Lib.hid hg2
      clear hv hg2 HRD1
      rw [show ((0 : Nat) : Int) = 0 from rfl]
      go_wp2_with fail
      refine HSA.out.mono ?_
      rintro r w3 ⟨rfl, hg3⟩
      have HG3 := Lib.hid (HG2.out.trans hg3)
      have hbt := fun (w4 : World) (hg : Grow w3 w4) => bytesS (HT.out.grow ((HG12.out.trans hg3).trans hg)) (by have := HN.out; omega)
      rw [HBK.out (by first | exact rfl | exact True.intro)] at hbt
      have HBT := Lib.hid hbt
      have HBB := Lib.hid (HB.out.grow HG3.out)
      have te : ((str L).toList == (str L).toList) = true := beq_self_eq_true _
      clear hg3 hbt HSA
      go_wp2_with fail
      apply (fun (v0 v1 v2 v3 v4 v5 v6 v7 v8 v9 v10 v12 v13 v14 v15 v16 v17 v18 v19 v20 v21 : Value) mono obl tail => wp_region_par (R := Grow) (Φ := phi [veq v0, veq v1, veq v2, veq v3, veq v4, veq v5, veq v6, veq v7, veq v8, veq v9, veq v10, (IsSl L), veq v12, veq v13, veq v14, veq v15, veq v16, veq v17, veq v18, veq v19, veq v20, veq v21]) (m := 22) (dls := [[], [(30, 0)], [(31, 1)], [(32, 2)], [(33, 3), (32, 2)], [(32, 2), (34, 4)], [(35, 5)], [(36, 6)], [(37, 7), (36, 6)], [(38, 8), (36, 6)], [(39, 9)], [(40, 10), (39, 9)], [(41, 11), (39, 9)], [(39, 9)], [(43, 13), (39, 9)], [(42, 12), (44, 14), (39, 9)], [(39, 9), (45, 15), (36, 6)], [(36, 6), (46, 16)], [(47, 17)], [(48, 18)], [(48, 18), (49, 19)], [(50, 20)]]) (ds := [30, 31, 32, 33, 34, 35, 36, 37, 38, 39, 40, 41, 42, 43, 44, 45, 46, 47, 48, 49, 50, 2]) (by kernel_rfl) (by kernel_rfl) (by decide) rfl (Grow.drew _) (fun _ _ _ => Grow.trans) (mono_phi mono) obl tail)
      case obl =>
        refine obls_frame (fun a1 ha => ?_)
        have hsz := rd_size (n := 51) ha rfl
        have e4 := rd_slot 4 ha rfl
        have e3 := rd_slot 3 ha rfl
        have e0 := rd_slot 0 ha rfl
        clear ha
        refine obls_cons (fun f w' hR hH Q0 hQ0 => ?_) ?_
        · skip
          have s4 := sv_off f [] e4 rfl
          refine small_v hsz [(4, _)] ⟨some 1, (Op.move (.tmp 0)), 25, "", #[], none⟩ [_, undef] 1 rfl rfl ⟨s4, trivial⟩ rfl rfl hQ0 ?_
          clear hQ0 hH s4
          intro Q hQ
          repeat go_step
          exact hQ _ _ (Grow.refl _) rfl rfl
        refine obls_cons (fun f w' hR hH Q0 hQ0 => ?_) ?_
        · skip
          have s30 := (sv_at 30 0 hsz f [(30, 0)] rfl).trans (show f 0 = _ from hH.get 0 (30, 0) rfl)
          refine small_v hsz [(30, _)] ⟨some 1, (Op.binOp BinOp.neq 25 (.tmp 0) (Operand.const (Value.int IntKind.i64 0)) 25), 4, "", #[], none⟩ [_, undef] 1 rfl rfl ⟨s30, trivial⟩ rfl rfl hQ0 ?_
          clear hQ0 hH s30
          intro Q hQ
          repeat go_step
          exact hQ _ _ (Grow.refl _) rfl rfl
        refine obls_cons (fun f w' hR hH Q0 hQ0 => ?_) ?_
        · skip
          have s31 := (sv_at 31 1 hsz f [(31, 1)] rfl).trans (show f 1 = _ from hH.get 0 (31, 1) rfl)
          refine small_v hsz [(31, _)] ⟨some 1, (Op.move (.tmp 0)), 4, "", #[], none⟩ [_, undef] 1 rfl rfl ⟨s31, trivial⟩ rfl rfl hQ0 ?_
          clear hQ0 hH s31
          intro Q hQ
          repeat go_step
          exact hQ _ _ (Grow.refl _) rfl rfl
        refine obls_cons (fun f w' hR hH Q0 hQ0 => ?_) ?_
        · skip
          have s3 := sv_off f [(32, 2)] e3 rfl
          have s32 := (sv_at 32 2 hsz f [(32, 2)] rfl).trans (show f 2 = _ from hH.get 0 (32, 2) rfl)
          first
            | exact skip_v hsz rfl ((wanted_some (b := false) rfl rfl s32).trans rfl) hQ0 (Grow.refl _) rfl
            | exact skip_v hsz rfl (wanted_undef rfl rfl s32) hQ0 (Grow.refl _) rfl
            | refine small_v hsz [(3, _)] ⟨some 1, (Op.move (.tmp 0)), 24, "", #[], none⟩ [_, undef] 1 rfl ((wanted_some (b := true) rfl rfl s32).trans rfl) ⟨s3, trivial⟩ rfl rfl hQ0 ?_
              clear hQ0 hH s3 s32
              intro Q hQ
              repeat go_step
              exact hQ _ _ (Grow.refl _) rfl rfl
        refine obls_cons (fun f w' hR hH Q0 hQ0 => ?_) ?_
        · skip
          have s33 := (sv_at 33 3 hsz f [(33, 3), (32, 2)] rfl).trans (show f 3 = _ from hH.get 0 (33, 3) rfl)
          have s32 := (sv_at 32 2 hsz f [(33, 3), (32, 2)] rfl).trans (show f 2 = _ from hH.get 1 (32, 2) rfl)
          first
            | exact skip_v hsz rfl ((wanted_some (b := false) rfl rfl s32).trans rfl) hQ0 (Grow.refl _) rfl
            | exact skip_v hsz rfl (wanted_undef rfl rfl s32) hQ0 (Grow.refl _) rfl
            | refine small_v hsz [(33, _)] ⟨some 1, (Op.binOp BinOp.eql 24 (.tmp 0) (Operand.const (Value.pointer none)) 24), 4, "", #[], none⟩ [_, undef] 1 rfl ((wanted_some (b := true) rfl rfl s32).trans rfl) ⟨s33, trivial⟩ rfl rfl hQ0 ?_
              clear hQ0 hH s33 s32
              intro Q hQ
              repeat go_step
              exact hQ _ _ (Grow.refl _) rfl rfl
        refine obls_cons (fun f w' hR hH Q0 hQ0 => ?_) ?_
        · skip
          have s32 := (sv_at 32 2 hsz f [(32, 2), (34, 4)] rfl).trans (show f 2 = _ from hH.get 0 (32, 2) rfl)
          have s34 := (sv_at 34 4 hsz f [(32, 2), (34, 4)] rfl).trans (show f 4 = _ from hH.get 1 (34, 4) rfl)
          refine small_v hsz [(32, _), (34, _)] ⟨some 2, (Op.pick (.tmp 0) (.tmp 1) (Operand.const (Value.bool false))), 4, "", #[], none⟩ [_, _, undef] 2 rfl rfl ⟨s32, s34, trivial⟩ rfl rfl hQ0 ?_
          clear hQ0 hH s32 s34
          intro Q hQ
          repeat go_step
          exact hQ _ _ (Grow.refl _) rfl rfl
        refine obls_cons (fun f w' hR hH Q0 hQ0 => ?_) ?_
        · skip
          have s35 := (sv_at 35 5 hsz f [(35, 5)] rfl).trans (show f 5 = _ from hH.get 0 (35, 5) rfl)
          refine small_v hsz [(35, _)] ⟨some 1, (Op.move (.tmp 0)), 4, "", #[], none⟩ [_, undef] 1 rfl rfl ⟨s35, trivial⟩ rfl rfl hQ0 ?_
          clear hQ0 hH s35
          intro Q hQ
          repeat go_step
          exact hQ _ _ (Grow.refl _) rfl rfl
        refine obls_cons (fun f w' hR hH Q0 hQ0 => ?_) ?_
        · skip
          have s4 := sv_off f [(36, 6)] e4 rfl
          have s36 := (sv_at 36 6 hsz f [(36, 6)] rfl).trans (show f 6 = _ from hH.get 0 (36, 6) rfl)
          first
            | exact skip_v hsz rfl ((wanted_some (b := true) rfl rfl s36).trans rfl) hQ0 (Grow.refl _) rfl
            | exact skip_v hsz rfl (wanted_undef rfl rfl s36) hQ0 (Grow.refl _) rfl
            | refine small_v hsz [(4, _)] ⟨some 1, (Op.move (.tmp 0)), 25, "", #[], none⟩ [_, undef] 1 rfl ((wanted_some (b := false) rfl rfl s36).trans rfl) ⟨s4, trivial⟩ rfl rfl hQ0 ?_
              clear hQ0 hH s4 s36
              intro Q hQ
              repeat go_step
              exact hQ _ _ (Grow.refl _) rfl rfl
        refine obls_cons (fun f w' hR hH Q0 hQ0 => ?_) ?_
        · skip
          have s37 := (sv_at 37 7 hsz f [(37, 7), (36, 6)] rfl).trans (show f 7 = _ from hH.get 0 (37, 7) rfl)
          have s36 := (sv_at 36 6 hsz f [(37, 7), (36, 6)] rfl).trans (show f 6 = _ from hH.get 1 (36, 6) rfl)
          first
            | exact skip_v hsz rfl ((wanted_some (b := true) rfl rfl s36).trans rfl) hQ0 (Grow.refl _) rfl
            | exact skip_v hsz rfl (wanted_undef rfl rfl s36) hQ0 (Grow.refl _) rfl
            | refine small_v hsz [(37, _)] ⟨some 1, (Op.binOp BinOp.eql 25 (.tmp 0) (Operand.const (Value.int IntKind.i64 0)) 25), 4, "", #[], none⟩ [_, undef] 1 rfl ((wanted_some (b := false) rfl rfl s36).trans rfl) ⟨s37, trivial⟩ rfl rfl hQ0 ?_
              clear hQ0 hH s37 s36
              intro Q hQ
              repeat go_step
              exact hQ _ _ (Grow.refl _) rfl rfl
        refine obls_cons (fun f w' hR hH Q0 hQ0 => ?_) ?_
        · skip
          have s38 := (sv_at 38 8 hsz f [(38, 8), (36, 6)] rfl).trans (show f 8 = _ from hH.get 0 (38, 8) rfl)
          have s36 := (sv_at 36 6 hsz f [(38, 8), (36, 6)] rfl).trans (show f 6 = _ from hH.get 1 (36, 6) rfl)
          first
            | exact skip_v hsz rfl ((wanted_some (b := true) rfl rfl s36).trans rfl) hQ0 (Grow.refl _) rfl
            | exact skip_v hsz rfl (wanted_undef rfl rfl s36) hQ0 (Grow.refl _) rfl
            | refine small_v hsz [(38, _)] ⟨some 1, (Op.move (.tmp 0)), 4, "", #[], none⟩ [_, undef] 1 rfl ((wanted_some (b := false) rfl rfl s36).trans rfl) ⟨s38, trivial⟩ rfl rfl hQ0 ?_
              clear hQ0 hH s38 s36
              intro Q hQ
              repeat go_step
              exact hQ _ _ (Grow.refl _) rfl rfl
        refine obls_cons (fun f w' hR hH Q0 hQ0 => ?_) ?_
        · skip
          have s3 := sv_off f [(39, 9)] e3 rfl
          have s39 := (sv_at 39 9 hsz f [(39, 9)] rfl).trans (show f 9 = _ from hH.get 0 (39, 9) rfl)
          first
            | exact skip_v hsz rfl ((wanted_some (b := false) rfl rfl s39).trans rfl) hQ0 (Grow.refl _) rfl
            | exact skip_v hsz rfl (wanted_undef rfl rfl s39) hQ0 (Grow.refl _) rfl
            | refine small_v hsz [(3, _)] ⟨some 1, (Op.move (.tmp 0)), 24, "", #[], none⟩ [_, undef] 1 rfl ((wanted_some (b := true) rfl rfl s39).trans rfl) ⟨s3, trivial⟩ rfl rfl hQ0 ?_
              clear hQ0 hH s3 s39
              intro Q hQ
              repeat go_step
              exact hQ _ _ (Grow.refl _) rfl rfl
        refine obls_cons (fun f w' hR hH Q0 hQ0 => ?_) ?_
        · skip
          have s40 := (sv_at 40 10 hsz f [(40, 10), (39, 9)] rfl).trans (show f 10 = _ from hH.get 0 (40, 10) rfl)
          have s39 := (sv_at 39 9 hsz f [(40, 10), (39, 9)] rfl).trans (show f 9 = _ from hH.get 1 (39, 9) rfl)
          first
            | exact skip_v hsz rfl ((wanted_some (b := false) rfl rfl s39).trans rfl) hQ0 (Grow.refl _) rfl
            | exact skip_v hsz rfl (wanted_undef rfl rfl s39) hQ0 (Grow.refl _) rfl
            | refine small_v hsz [(40, _)] ⟨some 1, (Op.call (Call.mk (Callee.value (Operand.func 10)) #[(.tmp 0)] #[24])), 22, "", #[], none⟩ [_, undef] 1 rfl ((wanted_some (b := true) rfl rfl s39).trans rfl) ⟨s40, trivial⟩ rfl (ren_call rfl rfl) hQ0 ?_
              clear hQ0 hH s40 s39
              intro Q hQ
              go_wp2_with (go_at_call 10; refine (HBT.out _ hR).mono ?_; rintro e w1 ⟨A1, m1, c1, rfl, -, hc1, hm1, hb1, hg1⟩)
              exact hQ _ _ hg1 ⟨A1, m1, c1, rfl, hc1, hm1, hb1⟩ rfl
        refine obls_cons (fun f w' hR hH Q0 hQ0 => ?_) ?_
        · skip
          have h11 : (IsSl L) (f 11) w' := hH.get 0 (41, 11) rfl
          have s41 := sv_at 41 11 hsz f [(41, 11), (39, 9)] rfl
          obtain ⟨u11, hu11⟩ : ∃ u, f 11 = u := ⟨_, rfl⟩
          rw [hu11] at s41 h11
          clear hu11
          have s39 := (sv_at 39 9 hsz f [(41, 11), (39, 9)] rfl).trans (show f 9 = _ from hH.get 1 (39, 9) rfl)
          first
            | exact skip_v hsz rfl ((wanted_some (b := false) rfl rfl s39).trans rfl) hQ0 (Grow.refl _) rfl
            | exact skip_v hsz rfl (wanted_undef rfl rfl s39) hQ0 (Grow.refl _) rfl
            | refine small_v hsz [(41, _)] ⟨some 1, (Op.convert 22 9 (.tmp 0)), 9, "", #[], none⟩ [_, undef] 1 rfl ((wanted_some (b := true) rfl rfl s39).trans rfl) ⟨s41, trivial⟩ rfl rfl hQ0 ?_
              clear hQ0 hH s41 s39
              intro Q hQ
              obtain ⟨A1, n1, c1, rfl, -, -, hb1⟩ := h11
              have hcs := conv_str (P := Try.prog) Try.underlying22 Try.underlying5 Try.underlying9 hb1 c1
              clear hb1
              go_wp2_with fail
              exact hQ _ _ (Grow.refl _) rfl rfl
        refine obls_cons (fun f w' hR hH Q0 hQ0 => ?_) ?_
        · skip
          have s0 := sv_off f [(39, 9)] e0 rfl
          have s39 := (sv_at 39 9 hsz f [(39, 9)] rfl).trans (show f 9 = _ from hH.get 0 (39, 9) rfl)
          first
            | exact skip_v hsz rfl ((wanted_some (b := false) rfl rfl s39).trans rfl) hQ0 (Grow.refl _) rfl
            | exact skip_v hsz rfl (wanted_undef rfl rfl s39) hQ0 (Grow.refl _) rfl
            | refine small_v hsz [(0, _)] ⟨some 1, (Op.move (.tmp 0)), 22, "", #[], none⟩ [_, undef] 1 rfl ((wanted_some (b := true) rfl rfl s39).trans rfl) ⟨s0, trivial⟩ rfl rfl hQ0 ?_
              clear hQ0 hH s0 s39
              intro Q hQ
              repeat go_step
              exact hQ _ _ (Grow.refl _) rfl rfl
        refine obls_cons (fun f w' hR hH Q0 hQ0 => ?_) ?_
        · skip
          have s43 := (sv_at 43 13 hsz f [(43, 13), (39, 9)] rfl).trans (show f 13 = _ from hH.get 0 (43, 13) rfl)
          have s39 := (sv_at 39 9 hsz f [(43, 13), (39, 9)] rfl).trans (show f 9 = _ from hH.get 1 (39, 9) rfl)
          first
            | exact skip_v hsz rfl ((wanted_some (b := false) rfl rfl s39).trans rfl) hQ0 (Grow.refl _) rfl
            | exact skip_v hsz rfl (wanted_undef rfl rfl s39) hQ0 (Grow.refl _) rfl
            | refine small_v hsz [(43, _)] ⟨some 1, (Op.convert 22 9 (.tmp 0)), 9, "", #[], none⟩ [_, undef] 1 rfl ((wanted_some (b := true) rfl rfl s39).trans rfl) ⟨s43, trivial⟩ rfl rfl hQ0 ?_
              clear hQ0 hH s43 s39
              intro Q hQ
              have hcs := conv_str (P := Try.prog) Try.underlying22 Try.underlying5 Try.underlying9 (HBB.out.grow hR) c
              go_wp2_with fail
              exact hQ _ _ (Grow.refl _) rfl rfl
        refine obls_cons (fun f w' hR hH Q0 hQ0 => ?_) ?_
        · skip
          have s42 := (sv_at 42 12 hsz f [(42, 12), (44, 14), (39, 9)] rfl).trans (show f 12 = _ from hH.get 0 (42, 12) rfl)
          have s44 := (sv_at 44 14 hsz f [(42, 12), (44, 14), (39, 9)] rfl).trans (show f 14 = _ from hH.get 1 (44, 14) rfl)
          have s39 := (sv_at 39 9 hsz f [(42, 12), (44, 14), (39, 9)] rfl).trans (show f 9 = _ from hH.get 2 (39, 9) rfl)
          first
            | exact skip_v hsz rfl ((wanted_some (b := false) rfl rfl s39).trans rfl) hQ0 (Grow.refl _) rfl
            | exact skip_v hsz rfl (wanted_undef rfl rfl s39) hQ0 (Grow.refl _) rfl
            | refine small_v hsz [(42, _), (44, _)] ⟨some 2, (Op.binOp BinOp.eql 9 (.tmp 0) (.tmp 1) 9), 4, "", #[], none⟩ [_, _, undef] 2 rfl ((wanted_some (b := true) rfl rfl s39).trans rfl) ⟨s42, s44, trivial⟩ rfl rfl hQ0 ?_
              clear hQ0 hH s42 s44 s39
              intro Q hQ
              repeat go_step
              exact hQ _ _ (Grow.refl _) rfl rfl
        refine obls_cons (fun f w' hR hH Q0 hQ0 => ?_) ?_
        · skip
          have s39 := (sv_at 39 9 hsz f [(39, 9), (45, 15), (36, 6)] rfl).trans (show f 9 = _ from hH.get 0 (39, 9) rfl)
          have s45 := (sv_at 45 15 hsz f [(39, 9), (45, 15), (36, 6)] rfl).trans (show f 15 = _ from hH.get 1 (45, 15) rfl)
          have s36 := (sv_at 36 6 hsz f [(39, 9), (45, 15), (36, 6)] rfl).trans (show f 6 = _ from hH.get 2 (36, 6) rfl)
          first
            | exact skip_v hsz rfl ((wanted_some (b := true) rfl rfl s36).trans rfl) hQ0 (Grow.refl _) rfl
            | exact skip_v hsz rfl (wanted_undef rfl rfl s36) hQ0 (Grow.refl _) rfl
            | refine small_v hsz [(39, _), (45, _)] ⟨some 2, (Op.pick (.tmp 0) (.tmp 1) (Operand.const (Value.bool false))), 4, "", #[], none⟩ [_, _, undef] 2 rfl ((wanted_some (b := false) rfl rfl s36).trans rfl) ⟨s39, s45, trivial⟩ rfl rfl hQ0 ?_
              clear hQ0 hH s39 s45 s36
              intro Q hQ
              repeat go_step
              exact hQ _ _ (Grow.refl _) rfl rfl
        refine obls_cons (fun f w' hR hH Q0 hQ0 => ?_) ?_
        · skip
          have s36 := (sv_at 36 6 hsz f [(36, 6), (46, 16)] rfl).trans (show f 6 = _ from hH.get 0 (36, 6) rfl)
          have s46 := (sv_at 46 16 hsz f [(36, 6), (46, 16)] rfl).trans (show f 16 = _ from hH.get 1 (46, 16) rfl)
          refine small_v hsz [(36, _), (46, _)] ⟨some 2, (Op.pick (.tmp 0) (Operand.const (Value.bool true)) (.tmp 1)), 4, "", #[], none⟩ [_, _, undef] 2 rfl rfl ⟨s36, s46, trivial⟩ rfl rfl hQ0 ?_
          clear hQ0 hH s36 s46
          intro Q hQ
          repeat go_step
          exact hQ _ _ (Grow.refl _) rfl rfl
        refine obls_cons (fun f w' hR hH Q0 hQ0 => ?_) ?_
        · skip
          have s47 := (sv_at 47 17 hsz f [(47, 17)] rfl).trans (show f 17 = _ from hH.get 0 (47, 17) rfl)
          refine small_v hsz [(47, _)] ⟨some 1, (Op.move (.tmp 0)), 4, "", #[], none⟩ [_, undef] 1 rfl rfl ⟨s47, trivial⟩ rfl rfl hQ0 ?_
          clear hQ0 hH s47
          intro Q hQ
          repeat go_step
          exact hQ _ _ (Grow.refl _) rfl rfl
        refine obls_cons (fun f w' hR hH Q0 hQ0 => ?_) ?_
        · skip
          have s48 := (sv_at 48 18 hsz f [(48, 18)] rfl).trans (show f 18 = _ from hH.get 0 (48, 18) rfl)
          first
            | exact skip_v hsz rfl ((wanted_some (b := false) rfl rfl s48).trans rfl) hQ0 (Grow.refl _) rfl
            | exact skip_v hsz rfl (wanted_undef rfl rfl s48) hQ0 (Grow.refl _) rfl
            | refine small_v hsz [] ⟨some 0, (Op.call (Call.mk (Callee.value (Operand.func 6)) #[] #[])), 4, "", #[], none⟩ [undef] 0 rfl ((wanted_some (b := true) rfl rfl s48).trans rfl) trivial rfl (ren_call rfl rfl) hQ0 ?_
              clear hQ0 hH s48
              intro Q hQ
              go_wp2_with (go_at_call 6; refine (works_any _).mono ?_; rintro e w1 ⟨rfl, hg1⟩)
              exact hQ _ _ hg1 rfl rfl
        refine obls_cons (fun f w' hR hH Q0 hQ0 => ?_) ?_
        · skip
          have s48 := (sv_at 48 18 hsz f [(48, 18), (49, 19)] rfl).trans (show f 18 = _ from hH.get 0 (48, 18) rfl)
          have s49 := (sv_at 49 19 hsz f [(48, 18), (49, 19)] rfl).trans (show f 19 = _ from hH.get 1 (49, 19) rfl)
          refine small_v hsz [(48, _), (49, _)] ⟨some 2, (Op.pick (.tmp 0) (.tmp 1) (Operand.const (Value.bool false))), 4, "", #[], none⟩ [_, _, undef] 2 rfl rfl ⟨s48, s49, trivial⟩ rfl rfl hQ0 ?_
          clear hQ0 hH s48 s49
          intro Q hQ
          repeat go_step
          exact hQ _ _ (Grow.refl _) rfl rfl
        refine obls_cons (fun f w' hR hH Q0 hQ0 => ?_) ?_
        · skip
          have s50 := (sv_at 50 20 hsz f [(50, 20)] rfl).trans (show f 20 = _ from hH.get 0 (50, 20) rfl)
          refine small_v hsz [(50, _)] ⟨some 1, (Op.assign (.tmp 0)), 4, "", #[], none⟩ [_, undef] 1 rfl rfl ⟨s50, trivial⟩ rfl rfl hQ0 ?_
          clear hQ0 hH s50
          intro Q hQ
          repeat go_step
          exact hQ _ _ (Grow.refl _) rfl rfl
        exact obls_nil
      case mono => exact ⟨Mono.veq _, Mono.veq _, Mono.veq _, Mono.veq _, Mono.veq _, Mono.veq _, Mono.veq _, Mono.veq _, Mono.veq _, Mono.veq _, Mono.veq _, IsSl.mono, Mono.veq _, Mono.veq _, Mono.veq _, Mono.veq _, Mono.veq _, Mono.veq _, Mono.veq _, Mono.veq _, Mono.veq _, Mono.veq _, trivial⟩
      case tail =>
        intro f w' hR hH
        have q21 := hH.get 21 (2, 21) rfl
        clear hH
        refine wpList_merge (idx := [none, none, some 21, none, none, none, none, none, none, none, none, none, none, none, none, none, none, none, none, none, none, none, none, none, none, none, none, none, none, none, some 0, some 1, some 2, some 3, some 4, some 5, some 6, some 7, some 8, some 9, some 10, some 11, some 12, some 13, some 14, some 15, some 16, some 17, some 18, some 19, some 20]) (by kernel_rfl) ?_; show wpList _ _ _ [] ⟨#[_, _, f 21, _, _, _, _, _, _, _, _, _, _, _, _, _, _, _, _, _, _, _, _, _, _, _, _, _, _, _, f 0, f 1, f 2, f 3, f 4, f 5, f 6, f 7, f 8, f 9, f 10, f 11, f 12, f 13, f 14, f 15, f 16, f 17, f 18, f 19, f 20], _⟩ _
        rw [show f 21 = _ from q21]
        clear q21
        have HR := Lib.hid (HG3.out.trans hR)
        clear hR te
        go_wp2_with fail
        go_ret
        exact ⟨rfl, HR.out⟩
    · rw [if_neg he] at hr
      subst hr
      have s1 : ((er : Int) == 0) = false := beq_false_of_ne (by omega)
      have s2 : (er == 0) = false := beq_false_of_ne he
      have s3 : ((er : Int) == (er : Int)) = true := beq_self_eq_true _
      have s5 : ((er : Int) != 0) = true := bne_iff_ne.2 (by omega)
      have s6 : (er != 0) = true := bne_iff_ne.2 he
      have HE := Lib.hid he
      clear he
      go_wp2_with fail
      refine HRD1.out.mono ?_
      rintro r w2 ⟨⟨v, rfl, hv⟩, hg2⟩
      rw [if_neg HE.out] at hv
      have HSA := Lib.hid (same_nil w2 v hv)
      have HG2 := Lib.hid (HG1.out.trans hg2)
      clear hv hg2 HRD1
      go_wp2_with fail
      refine HSA.out.mono ?_
      rintro r w3 ⟨rfl, hg3⟩
      have HG3 := Lib.hid (HG2.out.trans hg3)
      clear hg3 HSA
      go_wp2_with fail
      apply (fun (v0 v1 v2 v3 v4 v5 v6 v7 v8 v9 v10 v11 v12 v13 v14 v15 v16 v17 v18 v19 v20 v21 : Value) mono obl tail => wp_region_par (R := Grow) (Φ := phi [veq v0, veq v1, veq v2, veq v3, veq v4, veq v5, veq v6, veq v7, veq v8, veq v9, veq v10, veq v11, veq v12, veq v13, veq v14, veq v15, veq v16, veq v17, veq v18, veq v19, veq v20, veq v21]) (m := 22) (dls := [[], [(30, 0)], [(31, 1)], [(32, 2)], [(33, 3), (32, 2)], [(32, 2), (34, 4)], [(35, 5)], [(36, 6)], [(37, 7), (36, 6)], [(38, 8), (36, 6)], [(39, 9)], [(40, 10), (39, 9)], [(41, 11), (39, 9)], [(39, 9)], [(43, 13), (39, 9)], [(42, 12), (44, 14), (39, 9)], [(39, 9), (45, 15), (36, 6)], [(36, 6), (46, 16)], [(47, 17)], [(48, 18)], [(48, 18), (49, 19)], [(50, 20)]]) (ds := [30, 31, 32, 33, 34, 35, 36, 37, 38, 39, 40, 41, 42, 43, 44, 45, 46, 47, 48, 49, 50, 2]) (by kernel_rfl) (by kernel_rfl) (by decide) rfl (Grow.drew _) (fun _ _ _ => Grow.trans) (mono_phi mono) obl tail)
      case obl =>
        refine obls_frame (fun a1 ha => ?_)
        have hsz := rd_size (n := 51) ha rfl
        have e4 := rd_slot 4 ha rfl
        have e3 := rd_slot 3 ha rfl
        have e0 := rd_slot 0 ha rfl
        clear ha
        refine obls_cons (fun f w' hR hH Q0 hQ0 => ?_) ?_
        · skip
          have s4 := sv_off f [] e4 rfl
          refine small_v hsz [(4, _)] ⟨some 1, (Op.move (.tmp 0)), 25, "", #[], none⟩ [_, undef] 1 rfl rfl ⟨s4, trivial⟩ rfl rfl hQ0 ?_
          clear hQ0 hH s4
          intro Q hQ
          repeat go_step
          exact hQ _ _ (Grow.refl _) rfl rfl
        refine obls_cons (fun f w' hR hH Q0 hQ0 => ?_) ?_
        · skip
          have s30 := (sv_at 30 0 hsz f [(30, 0)] rfl).trans (show f 0 = _ from hH.get 0 (30, 0) rfl)
          refine small_v hsz [(30, _)] ⟨some 1, (Op.binOp BinOp.neq 25 (.tmp 0) (Operand.const (Value.int IntKind.i64 0)) 25), 4, "", #[], none⟩ [_, undef] 1 rfl rfl ⟨s30, trivial⟩ rfl rfl hQ0 ?_
          clear hQ0 hH s30
          intro Q hQ
          repeat go_step
          exact hQ _ _ (Grow.refl _) rfl rfl
        refine obls_cons (fun f w' hR hH Q0 hQ0 => ?_) ?_
        · skip
          have s31 := (sv_at 31 1 hsz f [(31, 1)] rfl).trans (show f 1 = _ from hH.get 0 (31, 1) rfl)
          refine small_v hsz [(31, _)] ⟨some 1, (Op.move (.tmp 0)), 4, "", #[], none⟩ [_, undef] 1 rfl rfl ⟨s31, trivial⟩ rfl rfl hQ0 ?_
          clear hQ0 hH s31
          intro Q hQ
          repeat go_step
          exact hQ _ _ (Grow.refl _) rfl rfl
        refine obls_cons (fun f w' hR hH Q0 hQ0 => ?_) ?_
        · skip
          have s3 := sv_off f [(32, 2)] e3 rfl
          have s32 := (sv_at 32 2 hsz f [(32, 2)] rfl).trans (show f 2 = _ from hH.get 0 (32, 2) rfl)
          first
            | exact skip_v hsz rfl ((wanted_some (b := false) rfl rfl s32).trans rfl) hQ0 (Grow.refl _) rfl
            | exact skip_v hsz rfl (wanted_undef rfl rfl s32) hQ0 (Grow.refl _) rfl
            | refine small_v hsz [(3, _)] ⟨some 1, (Op.move (.tmp 0)), 24, "", #[], none⟩ [_, undef] 1 rfl ((wanted_some (b := true) rfl rfl s32).trans rfl) ⟨s3, trivial⟩ rfl rfl hQ0 ?_
              clear hQ0 hH s3 s32
              intro Q hQ
              repeat go_step
              exact hQ _ _ (Grow.refl _) rfl rfl
        refine obls_cons (fun f w' hR hH Q0 hQ0 => ?_) ?_
        · skip
          have s33 := (sv_at 33 3 hsz f [(33, 3), (32, 2)] rfl).trans (show f 3 = _ from hH.get 0 (33, 3) rfl)
          have s32 := (sv_at 32 2 hsz f [(33, 3), (32, 2)] rfl).trans (show f 2 = _ from hH.get 1 (32, 2) rfl)
          first
            | exact skip_v hsz rfl ((wanted_some (b := false) rfl rfl s32).trans rfl) hQ0 (Grow.refl _) rfl
            | exact skip_v hsz rfl (wanted_undef rfl rfl s32) hQ0 (Grow.refl _) rfl
            | refine small_v hsz [(33, _)] ⟨some 1, (Op.binOp BinOp.eql 24 (.tmp 0) (Operand.const (Value.pointer none)) 24), 4, "", #[], none⟩ [_, undef] 1 rfl ((wanted_some (b := true) rfl rfl s32).trans rfl) ⟨s33, trivial⟩ rfl rfl hQ0 ?_
              clear hQ0 hH s33 s32
              intro Q hQ
              repeat go_step
              exact hQ _ _ (Grow.refl _) rfl rfl
        refine obls_cons (fun f w' hR hH Q0 hQ0 => ?_) ?_
        · skip
          have s32 := (sv_at 32 2 hsz f [(32, 2), (34, 4)] rfl).trans (show f 2 = _ from hH.get 0 (32, 2) rfl)
          have s34 := (sv_at 34 4 hsz f [(32, 2), (34, 4)] rfl).trans (show f 4 = _ from hH.get 1 (34, 4) rfl)
          refine small_v hsz [(32, _), (34, _)] ⟨some 2, (Op.pick (.tmp 0) (.tmp 1) (Operand.const (Value.bool false))), 4, "", #[], none⟩ [_, _, undef] 2 rfl rfl ⟨s32, s34, trivial⟩ rfl rfl hQ0 ?_
          clear hQ0 hH s32 s34
          intro Q hQ
          repeat go_step
          exact hQ _ _ (Grow.refl _) rfl rfl
        refine obls_cons (fun f w' hR hH Q0 hQ0 => ?_) ?_
        · skip
          have s35 := (sv_at 35 5 hsz f [(35, 5)] rfl).trans (show f 5 = _ from hH.get 0 (35, 5) rfl)
          refine small_v hsz [(35, _)] ⟨some 1, (Op.move (.tmp 0)), 4, "", #[], none⟩ [_, undef] 1 rfl rfl ⟨s35, trivial⟩ rfl rfl hQ0 ?_
          clear hQ0 hH s35
          intro Q hQ
          repeat go_step
          exact hQ _ _ (Grow.refl _) rfl rfl
        refine obls_cons (fun f w' hR hH Q0 hQ0 => ?_) ?_
        · skip
          have s4 := sv_off f [(36, 6)] e4 rfl
          have s36 := (sv_at 36 6 hsz f [(36, 6)] rfl).trans (show f 6 = _ from hH.get 0 (36, 6) rfl)
          first
            | exact skip_v hsz rfl ((wanted_some (b := true) rfl rfl s36).trans rfl) hQ0 (Grow.refl _) rfl
            | exact skip_v hsz rfl (wanted_undef rfl rfl s36) hQ0 (Grow.refl _) rfl
            | refine small_v hsz [(4, _)] ⟨some 1, (Op.move (.tmp 0)), 25, "", #[], none⟩ [_, undef] 1 rfl ((wanted_some (b := false) rfl rfl s36).trans rfl) ⟨s4, trivial⟩ rfl rfl hQ0 ?_
              clear hQ0 hH s4 s36
              intro Q hQ
              repeat go_step
              exact hQ _ _ (Grow.refl _) rfl rfl
        refine obls_cons (fun f w' hR hH Q0 hQ0 => ?_) ?_
        · skip
          have s37 := (sv_at 37 7 hsz f [(37, 7), (36, 6)] rfl).trans (show f 7 = _ from hH.get 0 (37, 7) rfl)
          have s36 := (sv_at 36 6 hsz f [(37, 7), (36, 6)] rfl).trans (show f 6 = _ from hH.get 1 (36, 6) rfl)
          first
            | exact skip_v hsz rfl ((wanted_some (b := true) rfl rfl s36).trans rfl) hQ0 (Grow.refl _) rfl
            | exact skip_v hsz rfl (wanted_undef rfl rfl s36) hQ0 (Grow.refl _) rfl
            | refine small_v hsz [(37, _)] ⟨some 1, (Op.binOp BinOp.eql 25 (.tmp 0) (Operand.const (Value.int IntKind.i64 0)) 25), 4, "", #[], none⟩ [_, undef] 1 rfl ((wanted_some (b := false) rfl rfl s36).trans rfl) ⟨s37, trivial⟩ rfl rfl hQ0 ?_
              clear hQ0 hH s37 s36
              intro Q hQ
              repeat go_step
              exact hQ _ _ (Grow.refl _) rfl rfl
        refine obls_cons (fun f w' hR hH Q0 hQ0 => ?_) ?_
        · skip
          have s38 := (sv_at 38 8 hsz f [(38, 8), (36, 6)] rfl).trans (show f 8 = _ from hH.get 0 (38, 8) rfl)
          have s36 := (sv_at 36 6 hsz f [(38, 8), (36, 6)] rfl).trans (show f 6 = _ from hH.get 1 (36, 6) rfl)
          first
            | exact skip_v hsz rfl ((wanted_some (b := true) rfl rfl s36).trans rfl) hQ0 (Grow.refl _) rfl
            | exact skip_v hsz rfl (wanted_undef rfl rfl s36) hQ0 (Grow.refl _) rfl
            | refine small_v hsz [(38, _)] ⟨some 1, (Op.move (.tmp 0)), 4, "", #[], none⟩ [_, undef] 1 rfl ((wanted_some (b := false) rfl rfl s36).trans rfl) ⟨s38, trivial⟩ rfl rfl hQ0 ?_
              clear hQ0 hH s38 s36
              intro Q hQ
              repeat go_step
              exact hQ _ _ (Grow.refl _) rfl rfl
        refine obls_cons (fun f w' hR hH Q0 hQ0 => ?_) ?_
        · skip
          have s3 := sv_off f [(39, 9)] e3 rfl
          have s39 := (sv_at 39 9 hsz f [(39, 9)] rfl).trans (show f 9 = _ from hH.get 0 (39, 9) rfl)
          first
            | exact skip_v hsz rfl ((wanted_some (b := false) rfl rfl s39).trans rfl) hQ0 (Grow.refl _) rfl
            | exact skip_v hsz rfl (wanted_undef rfl rfl s39) hQ0 (Grow.refl _) rfl
            | refine small_v hsz [(3, _)] ⟨some 1, (Op.move (.tmp 0)), 24, "", #[], none⟩ [_, undef] 1 rfl ((wanted_some (b := true) rfl rfl s39).trans rfl) ⟨s3, trivial⟩ rfl rfl hQ0 ?_
              clear hQ0 hH s3 s39
              intro Q hQ
              repeat go_step
              exact hQ _ _ (Grow.refl _) rfl rfl
        refine obls_cons (fun f w' hR hH Q0 hQ0 => ?_) ?_
        · skip
          have s40 := (sv_at 40 10 hsz f [(40, 10), (39, 9)] rfl).trans (show f 10 = _ from hH.get 0 (40, 10) rfl)
          have s39 := (sv_at 39 9 hsz f [(40, 10), (39, 9)] rfl).trans (show f 9 = _ from hH.get 1 (39, 9) rfl)
          first
            | exact skip_v hsz rfl ((wanted_some (b := false) rfl rfl s39).trans rfl) hQ0 (Grow.refl _) rfl
            | exact skip_v hsz rfl (wanted_undef rfl rfl s39) hQ0 (Grow.refl _) rfl
            | refine small_v hsz [(40, _)] ⟨some 1, (Op.call (Call.mk (Callee.value (Operand.func 10)) #[(.tmp 0)] #[24])), 22, "", #[], none⟩ [_, undef] 1 rfl ((wanted_some (b := true) rfl rfl s39).trans rfl) ⟨s40, trivial⟩ rfl (ren_call rfl rfl) hQ0 ?_
              clear hQ0 hH s40 s39
              intro Q hQ
              repeat go_step
              exact hQ _ _ (Grow.refl _) rfl rfl
        refine obls_cons (fun f w' hR hH Q0 hQ0 => ?_) ?_
        · skip
          have s41 := (sv_at 41 11 hsz f [(41, 11), (39, 9)] rfl).trans (show f 11 = _ from hH.get 0 (41, 11) rfl)
          have s39 := (sv_at 39 9 hsz f [(41, 11), (39, 9)] rfl).trans (show f 9 = _ from hH.get 1 (39, 9) rfl)
          first
            | exact skip_v hsz rfl ((wanted_some (b := false) rfl rfl s39).trans rfl) hQ0 (Grow.refl _) rfl
            | exact skip_v hsz rfl (wanted_undef rfl rfl s39) hQ0 (Grow.refl _) rfl
            | refine small_v hsz [(41, _)] ⟨some 1, (Op.convert 22 9 (.tmp 0)), 9, "", #[], none⟩ [_, undef] 1 rfl ((wanted_some (b := true) rfl rfl s39).trans rfl) ⟨s41, trivial⟩ rfl rfl hQ0 ?_
              clear hQ0 hH s41 s39
              intro Q hQ
              repeat go_step
              exact hQ _ _ (Grow.refl _) rfl rfl
        refine obls_cons (fun f w' hR hH Q0 hQ0 => ?_) ?_
        · skip
          have s0 := sv_off f [(39, 9)] e0 rfl
          have s39 := (sv_at 39 9 hsz f [(39, 9)] rfl).trans (show f 9 = _ from hH.get 0 (39, 9) rfl)
          first
            | exact skip_v hsz rfl ((wanted_some (b := false) rfl rfl s39).trans rfl) hQ0 (Grow.refl _) rfl
            | exact skip_v hsz rfl (wanted_undef rfl rfl s39) hQ0 (Grow.refl _) rfl
            | refine small_v hsz [(0, _)] ⟨some 1, (Op.move (.tmp 0)), 22, "", #[], none⟩ [_, undef] 1 rfl ((wanted_some (b := true) rfl rfl s39).trans rfl) ⟨s0, trivial⟩ rfl rfl hQ0 ?_
              clear hQ0 hH s0 s39
              intro Q hQ
              repeat go_step
              exact hQ _ _ (Grow.refl _) rfl rfl
        refine obls_cons (fun f w' hR hH Q0 hQ0 => ?_) ?_
        · skip
          have s43 := (sv_at 43 13 hsz f [(43, 13), (39, 9)] rfl).trans (show f 13 = _ from hH.get 0 (43, 13) rfl)
          have s39 := (sv_at 39 9 hsz f [(43, 13), (39, 9)] rfl).trans (show f 9 = _ from hH.get 1 (39, 9) rfl)
          first
            | exact skip_v hsz rfl ((wanted_some (b := false) rfl rfl s39).trans rfl) hQ0 (Grow.refl _) rfl
            | exact skip_v hsz rfl (wanted_undef rfl rfl s39) hQ0 (Grow.refl _) rfl
            | refine small_v hsz [(43, _)] ⟨some 1, (Op.convert 22 9 (.tmp 0)), 9, "", #[], none⟩ [_, undef] 1 rfl ((wanted_some (b := true) rfl rfl s39).trans rfl) ⟨s43, trivial⟩ rfl rfl hQ0 ?_
              clear hQ0 hH s43 s39
              intro Q hQ
              repeat go_step
              exact hQ _ _ (Grow.refl _) rfl rfl
        refine obls_cons (fun f w' hR hH Q0 hQ0 => ?_) ?_
        · skip
          have s42 := (sv_at 42 12 hsz f [(42, 12), (44, 14), (39, 9)] rfl).trans (show f 12 = _ from hH.get 0 (42, 12) rfl)
          have s44 := (sv_at 44 14 hsz f [(42, 12), (44, 14), (39, 9)] rfl).trans (show f 14 = _ from hH.get 1 (44, 14) rfl)
          have s39 := (sv_at 39 9 hsz f [(42, 12), (44, 14), (39, 9)] rfl).trans (show f 9 = _ from hH.get 2 (39, 9) rfl)
          first
            | exact skip_v hsz rfl ((wanted_some (b := false) rfl rfl s39).trans rfl) hQ0 (Grow.refl _) rfl
            | exact skip_v hsz rfl (wanted_undef rfl rfl s39) hQ0 (Grow.refl _) rfl
            | refine small_v hsz [(42, _), (44, _)] ⟨some 2, (Op.binOp BinOp.eql 9 (.tmp 0) (.tmp 1) 9), 4, "", #[], none⟩ [_, _, undef] 2 rfl ((wanted_some (b := true) rfl rfl s39).trans rfl) ⟨s42, s44, trivial⟩ rfl rfl hQ0 ?_
              clear hQ0 hH s42 s44 s39
              intro Q hQ
              repeat go_step
              exact hQ _ _ (Grow.refl _) rfl rfl
        refine obls_cons (fun f w' hR hH Q0 hQ0 => ?_) ?_
        · skip
          have s39 := (sv_at 39 9 hsz f [(39, 9), (45, 15), (36, 6)] rfl).trans (show f 9 = _ from hH.get 0 (39, 9) rfl)
          have s45 := (sv_at 45 15 hsz f [(39, 9), (45, 15), (36, 6)] rfl).trans (show f 15 = _ from hH.get 1 (45, 15) rfl)
          have s36 := (sv_at 36 6 hsz f [(39, 9), (45, 15), (36, 6)] rfl).trans (show f 6 = _ from hH.get 2 (36, 6) rfl)
          first
            | exact skip_v hsz rfl ((wanted_some (b := true) rfl rfl s36).trans rfl) hQ0 (Grow.refl _) rfl
            | exact skip_v hsz rfl (wanted_undef rfl rfl s36) hQ0 (Grow.refl _) rfl
            | refine small_v hsz [(39, _), (45, _)] ⟨some 2, (Op.pick (.tmp 0) (.tmp 1) (Operand.const (Value.bool false))), 4, "", #[], none⟩ [_, _, undef] 2 rfl ((wanted_some (b := false) rfl rfl s36).trans rfl) ⟨s39, s45, trivial⟩ rfl rfl hQ0 ?_
              clear hQ0 hH s39 s45 s36
              intro Q hQ
              repeat go_step
              exact hQ _ _ (Grow.refl _) rfl rfl
        refine obls_cons (fun f w' hR hH Q0 hQ0 => ?_) ?_
        · skip
          have s36 := (sv_at 36 6 hsz f [(36, 6), (46, 16)] rfl).trans (show f 6 = _ from hH.get 0 (36, 6) rfl)
          have s46 := (sv_at 46 16 hsz f [(36, 6), (46, 16)] rfl).trans (show f 16 = _ from hH.get 1 (46, 16) rfl)
          refine small_v hsz [(36, _), (46, _)] ⟨some 2, (Op.pick (.tmp 0) (Operand.const (Value.bool true)) (.tmp 1)), 4, "", #[], none⟩ [_, _, undef] 2 rfl rfl ⟨s36, s46, trivial⟩ rfl rfl hQ0 ?_
          clear hQ0 hH s36 s46
          intro Q hQ
          repeat go_step
          exact hQ _ _ (Grow.refl _) rfl rfl
        refine obls_cons (fun f w' hR hH Q0 hQ0 => ?_) ?_
        · skip
          have s47 := (sv_at 47 17 hsz f [(47, 17)] rfl).trans (show f 17 = _ from hH.get 0 (47, 17) rfl)
          refine small_v hsz [(47, _)] ⟨some 1, (Op.move (.tmp 0)), 4, "", #[], none⟩ [_, undef] 1 rfl rfl ⟨s47, trivial⟩ rfl rfl hQ0 ?_
          clear hQ0 hH s47
          intro Q hQ
          repeat go_step
          exact hQ _ _ (Grow.refl _) rfl rfl
        refine obls_cons (fun f w' hR hH Q0 hQ0 => ?_) ?_
        · skip
          have s48 := (sv_at 48 18 hsz f [(48, 18)] rfl).trans (show f 18 = _ from hH.get 0 (48, 18) rfl)
          first
            | exact skip_v hsz rfl ((wanted_some (b := false) rfl rfl s48).trans rfl) hQ0 (Grow.refl _) rfl
            | exact skip_v hsz rfl (wanted_undef rfl rfl s48) hQ0 (Grow.refl _) rfl
            | refine small_v hsz [] ⟨some 0, (Op.call (Call.mk (Callee.value (Operand.func 6)) #[] #[])), 4, "", #[], none⟩ [undef] 0 rfl ((wanted_some (b := true) rfl rfl s48).trans rfl) trivial rfl (ren_call rfl rfl) hQ0 ?_
              clear hQ0 hH s48
              intro Q hQ
              go_wp2_with (go_at_call 6; refine (works_any _).mono ?_; rintro e w1 ⟨rfl, hg1⟩)
              exact hQ _ _ hg1 rfl rfl
        refine obls_cons (fun f w' hR hH Q0 hQ0 => ?_) ?_
        · skip
          have s48 := (sv_at 48 18 hsz f [(48, 18), (49, 19)] rfl).trans (show f 18 = _ from hH.get 0 (48, 18) rfl)
          have s49 := (sv_at 49 19 hsz f [(48, 18), (49, 19)] rfl).trans (show f 19 = _ from hH.get 1 (49, 19) rfl)
          refine small_v hsz [(48, _), (49, _)] ⟨some 2, (Op.pick (.tmp 0) (.tmp 1) (Operand.const (Value.bool false))), 4, "", #[], none⟩ [_, _, undef] 2 rfl rfl ⟨s48, s49, trivial⟩ rfl rfl hQ0 ?_
          clear hQ0 hH s48 s49
          intro Q hQ
          repeat go_step
          exact hQ _ _ (Grow.refl _) rfl rfl
        refine obls_cons (fun f w' hR hH Q0 hQ0 => ?_) ?_
        · skip
          have s50 := (sv_at 50 20 hsz f [(50, 20)] rfl).trans (show f 20 = _ from hH.get 0 (50, 20) rfl)
          refine small_v hsz [(50, _)] ⟨some 1, (Op.assign (.tmp 0)), 4, "", #[], none⟩ [_, undef] 1 rfl rfl ⟨s50, trivial⟩ rfl rfl hQ0 ?_
          clear hQ0 hH s50
          intro Q hQ
          repeat go_step
          exact hQ _ _ (Grow.refl _) rfl rfl
        exact obls_nil
      case mono => exact ⟨Mono.veq _, Mono.veq _, Mono.veq _, Mono.veq _, Mono.veq _, Mono.veq _, Mono.veq _, Mono.veq _, Mono.veq _, Mono.veq _, Mono.veq _, Mono.veq _, Mono.veq _, Mono.veq _, Mono.veq _, Mono.veq _, Mono.veq _, Mono.veq _, Mono.veq _, Mono.veq _, Mono.veq _, Mono.veq _, trivial⟩
      case tail =>
        intro f w' hR hH
        have q21 := hH.get 21 (2, 21) rfl
        clear hH
        refine wpList_merge (idx := [none, none, some 21, none, none, none, none, none, none, none, none, none, none, none, none, none, none, none, none, none, none, none, none, none, none, none, none, none, none, none, some 0, some 1, some 2, some 3, some 4, some 5, some 6, some 7, some 8, some 9, some 10, some 11, some 12, some 13, some 14, some 15, some 16, some 17, some 18, some 19, some 20]) (by kernel_rfl) ?_; show wpList _ _ _ [] ⟨#[_, _, f 21, _, _, _, _, _, _, _, _, _, _, _, _, _, _, _, _, _, _, _, _, _, _, _, _, _, _, _, f 0, f 1, f 2, f 3, f 4, f 5, f 6, f 7, f 8, f 9, f 10, f 11, f 12, f 13, f 14, f 15, f 16, f 17, f 18, f 19, f 20], _⟩ _
        rw [show f 21 = _ from q21]
        clear q21
        have HR := Lib.hid (HG3.out.trans hR)
        clear hR
        go_wp2_with fail
        go_ret
        exact ⟨rfl, HR.out⟩
end Go.Proofs.Ythclgmpjmhacdaa.tg
