/- BlockOrdered (printed by gen_bko.py). -/
import Derived.Test.YtbcifodifadoiaaBkK
namespace Go.Proofs.Ytbcifodifadoiaa.bk
open Go Go.RowKit Go.Par Go.Kit Go.Proofs.Ytbcifodifadoiaa.Bk Go.Proofs.Ytbcifodifadoiaa.reW Go.Proofs.Ytbcifodifadoiaa.mkW Go.Proofs.Ytbcifodifadoiaa.Re

set_option maxRecDepth 100000 in
set_option maxHeartbeats 1000000 in
theorem ordered_walk (x : Int) (A1 : Option Addr) (n1 c1 : Nat) (xs : List (Int × Int)) (w : World) (hr : Go.Kit.Recs 2 prow w A1 n1 xs) (hxs : ∀ p ∈ xs, PairOk p) (hn1 : n1 ≤ maxLen) (A2 : Option Addr) (n2 c2 : Nat) (l : List Int) (hl : Nums w A2 n2 c2 l) :
    Calls Try.prog 4 #[.int .i64 x, .slice A1 n1 c1, .slice A2 n2 c2] w fun e w' => e = .returned (.bool true) ∧ Grow w w' := by
  have hn2 : n2 ≤ 9223372036854775807 := by have h1 := hl.nc; have h2 := hl.cm; unfold maxLen at h2; omega
  unfold maxLen at hn1
  by_cases h1 : 16 < x
  · have t1 : decide (16 < x) = true := decide_eq_true h1
    clear hr hxs hl h1
    go_enter Try.func4, Try.ntmps4
    go_wp2_with fail
    refine (works_any w).mono ?_
    rintro e w1 ⟨rfl, hg⟩
    have HG := Lib.hid hg
    clear hg
    go_wp2_with fail
    go_ret
    exact ⟨rfl, HG.out⟩
  · have t1 : decide (16 < x) = false := decide_eq_false h1
    by_cases h2 : 60 < n1
    · have t2 : decide (60 < n1) = true := decide_eq_true h2
      have t2' : decide ((60 : Int) < (n1 : Int)) = true := decide_eq_true (by omega)
      clear hr hxs hl h1 h2
      go_enter Try.func4, Try.ntmps4
      go_wp2_with fail
      refine (works_any w).mono ?_
      rintro e w1 ⟨rfl, hg⟩
      have HG := Lib.hid hg
      clear hg
      go_wp2_with fail
      go_ret
      exact ⟨rfl, HG.out⟩
    · have t2 : decide (60 < n1) = false := decide_eq_false h2
      have t2' : decide ((60 : Int) < (n1 : Int)) = false := decide_eq_false (by omega)
      by_cases h3 : 16 < n2
      · have t3 : decide (16 < n2) = true := decide_eq_true h3
        have t3' : decide ((16 : Int) < (n2 : Int)) = true := decide_eq_true (by omega)
        clear hr hxs hl h1 h2 h3
        go_enter Try.func4, Try.ntmps4
        go_wp2_with fail
        refine (works_any w).mono ?_
        rintro e w1 ⟨rfl, hg⟩
        have HG := Lib.hid hg
        clear hg
        go_wp2_with fail
        go_ret
        exact ⟨rfl, HG.out⟩
      · have t3 : decide (16 < n2) = false := decide_eq_false h3
        have t3' : decide ((16 : Int) < (n2 : Int)) = false := decide_eq_false (by omega)
        have hof := reW.of_any w x A1 n1 c1 xs hr (by omega) hxs
        obtain ⟨nR, hnR⟩ : ∃ nR, nR = clampN x := ⟨_, rfl⟩
        rw [← hnR] at hof
        obtain ⟨R, hR⟩ : ∃ R, R = leadB (vp nR xs) := ⟨_, rfl⟩
        rw [← hR] at hof
        obtain ⟨B, hB⟩ : ∃ B, B = aheadI R := ⟨_, rfl⟩
        have HB := Lib.hid hB
        have HOF := Lib.hid hof
        have HL := Lib.hid hl
        have HLL := Lib.hid hl.len
        have hn16 : n2 ≤ 16 := by omega
        clear hof hl hr hxs hR hnR hB h1 h2 h3
        go_enter Try.func4, Try.ntmps4
        go_wp2_with fail
        refine HOF.out.mono ?_
        rintro e w2 ⟨gr, rfl, hrel, hg2⟩
        have HREL := Lib.hid hrel
        have HG2 := Lib.hid hg2
        clear hrel hg2 t1 t2 t2' t3 t3'
        go_wp2_with fail
        go_loopw [8, 9] (fun a' i' wr => ∃ (i : Nat) (a : Bool), i ≤ n2 ∧ i' = .int .i64 (i : Int) ∧ a' = .bool a ∧ a = allTo B l i ∧ Grow w2 wr) (fun _ i' _ => n2 - (intOf i').toNat)
        case atStart => exact ⟨0, true, by omega, rfl, rfl, rfl, Grow.refl _⟩
        case round =>
          obtain ⟨wa, rfl⟩ : ∃ wa, wa = wr := ⟨_, rfl⟩
          obtain ⟨i, a, hi, rfl, rfl, ha, hg⟩ := hrel
          by_cases hlt : i < n2
          · have ti : decide (i < n2) = true := decide_eq_true hlt
            have ti' : decide ((i : Int) < (n2 : Int)) = true := decide_eq_true (by omega)
            have HA := Lib.hid ha
            have HG := Lib.hid hg
            have HI := Lib.hid hlt
            clear ha hg hi
            go_wp2_with fail
            go_loopw [8, 10] (fun a' k' wr => ∃ (k : Nat) (a : Bool), k ≤ i ∧ k' = .int .i64 (k : Int) ∧ a' = .bool a ∧ a = (allTo B l i && allK B l i k) ∧ Grow w2 wr) (fun _ k' _ => i - (intOf k').toNat)
            case atStart => exact ⟨0, a, by omega, rfl, rfl, by rw [HA.out]; unfold allK; simp, HG.out⟩
            case round =>
              clear HA HG
              obtain ⟨k, a, hk, rfl, rfl, ha, hg⟩ := hrel
              by_cases hlk : k < i
              · have tk : decide (k < i) = true := decide_eq_true hlk
                have tk' : decide ((k : Int) < (i : Int)) = true := decide_eq_true (by omega)
                obtain ⟨bl, offl, zk, zi, rfl, hzk, hzi, cl1, cl2, ok1, ok2⟩ := HL.out.at2 (i := k) (k := i) (by omega) hlt
                have hkn : k < n2 := by omega
                have hsu := allK_succ B l i k
                rw [getD_at hzk, getD_at hzi] at hsu
                have HSU := Lib.hid hsu
                have HA := Lib.hid ha
                have HG := Lib.hid hg
                have HC1 := Lib.hid ((HG2.out.trans hg).cell cl1)
                have HC2 := Lib.hid ((HG2.out.trans hg).cell cl2)
                have HBE := Lib.hid (fun (w' : World) (hR : Grow wr w') => before_any w' gr nR R (HREL.out.grow (hg.trans hR)) zk zi ok1.1 ok1.2 ok2.1 ok2.2)
                rw [← HB.out] at HBE
                have HLK := Lib.hid (And.intro hlk hkn)
                have hk9 : k ≤ 16 := by omega
                clear hzk hzi cl1 cl2 ok1 ok2 hsu ha hg hk hlk hkn
                cases a
                · have hne : (allTo B l i && allK B l i (k + 1)) = false := by rw [HSU.out, ← Bool.and_assoc, ← HA.out]; rfl
                  have HNE := Lib.hid hne
                  clear hne
                  go_wp2_with fail
                  apply (fun (v0 v1 v2 v3 v4 v5 v6 v7 v8 v9 v10 v11 v12 v13 : Value) mono obl tail => wp_region_par (R := Grow) (Φ := phi [veq v0, veq v1, veq v2, veq v3, veq v4, veq v5, veq v6, veq v7, veq v8, veq v9, veq v10, veq v11, veq v12, veq v13]) (m := 14) (dls := [[], [(40, 0)], [(41, 1)], [(41, 1)], [(41, 1)], [(43, 3), (44, 4), (41, 1)], [(45, 5), (41, 1)], [(41, 1)], [(41, 1)], [(47, 7), (48, 8), (41, 1)], [(49, 9), (41, 1)], [(42, 2), (46, 6), (50, 10), (41, 1)], [(41, 1), (51, 11)], [(52, 12)]]) (ds := [40, 41, 42, 43, 44, 45, 46, 47, 48, 49, 50, 51, 52, 8]) (by kernel_rfl) (by kernel_rfl) (by decide) rfl (Grow.drew _) (fun _ _ _ => Grow.trans) (mono_phi mono) obl tail)
                  case obl =>
                    refine obls_frame (fun a1 ha => ?_)
                    have hsz := rd_size (n := 100) ha rfl
                    have e8 := rd_slot 8 ha rfl
                    have e7 := rd_slot 7 ha rfl
                    have e2 := rd_slot 2 ha rfl
                    have e10 := rd_slot 10 ha rfl
                    have e9 := rd_slot 9 ha rfl
                    clear ha
                    refine obls_cons (fun f w' hR hH Q0 hQ0 => ?_) ?_
                    · skip
                      have s8 := sv_off f [] e8 rfl
                      refine small_v hsz [(8, _)] ⟨some 1, (Op.move (.tmp 0)), 4, "", #[], none⟩ [_, undef] 1 rfl rfl ⟨s8, trivial⟩ rfl rfl hQ0 ?_
                      clear hQ0 hH s8
                      intro Q hQ
                      repeat go_step
                      exact hQ _ _ (Grow.refl _) rfl rfl
                    refine obls_cons (fun f w' hR hH Q0 hQ0 => ?_) ?_
                    · skip
                      have s40 := (sv_at 40 0 hsz f [(40, 0)] rfl).trans (show f 0 = _ from hH.get 0 (40, 0) rfl)
                      refine small_v hsz [(40, _)] ⟨some 1, (Op.move (.tmp 0)), 4, "", #[], none⟩ [_, undef] 1 rfl rfl ⟨s40, trivial⟩ rfl rfl hQ0 ?_
                      clear hQ0 hH s40
                      intro Q hQ
                      repeat go_step
                      exact hQ _ _ (Grow.refl _) rfl rfl
                    refine obls_cons (fun f w' hR hH Q0 hQ0 => ?_) ?_
                    · skip
                      have s7 := sv_off f [(41, 1)] e7 rfl
                      have s41 := (sv_at 41 1 hsz f [(41, 1)] rfl).trans (show f 1 = _ from hH.get 0 (41, 1) rfl)
                      first
                        | exact skip_v hsz rfl ((wanted_some (b := false) rfl rfl s41).trans rfl) hQ0 (Grow.refl _) rfl
                        | exact skip_v hsz rfl (wanted_undef rfl rfl s41) hQ0 (Grow.refl _) rfl
                        | refine small_v hsz [(7, _)] ⟨some 1, (Op.move (.tmp 0)), 25, "", #[], none⟩ [_, undef] 1 rfl ((wanted_some (b := true) rfl rfl s41).trans rfl) ⟨s7, trivial⟩ rfl rfl hQ0 ?_
                          clear hQ0 hH s7 s41
                          intro Q hQ
                          repeat go_step
                          exact hQ _ _ (Grow.refl _) rfl rfl
                    refine obls_cons (fun f w' hR hH Q0 hQ0 => ?_) ?_
                    · skip
                      have s2 := sv_off f [(41, 1)] e2 rfl
                      have s41 := (sv_at 41 1 hsz f [(41, 1)] rfl).trans (show f 1 = _ from hH.get 0 (41, 1) rfl)
                      first
                        | exact skip_v hsz rfl ((wanted_some (b := false) rfl rfl s41).trans rfl) hQ0 (Grow.refl _) rfl
                        | exact skip_v hsz rfl (wanted_undef rfl rfl s41) hQ0 (Grow.refl _) rfl
                        | refine small_v hsz [(2, _)] ⟨some 1, (Op.move (.tmp 0)), 23, "", #[], none⟩ [_, undef] 1 rfl ((wanted_some (b := true) rfl rfl s41).trans rfl) ⟨s2, trivial⟩ rfl rfl hQ0 ?_
                          clear hQ0 hH s2 s41
                          intro Q hQ
                          repeat go_step
                          exact hQ _ _ (Grow.refl _) rfl rfl
                    refine obls_cons (fun f w' hR hH Q0 hQ0 => ?_) ?_
                    · skip
                      have s10 := sv_off f [(41, 1)] e10 rfl
                      have s41 := (sv_at 41 1 hsz f [(41, 1)] rfl).trans (show f 1 = _ from hH.get 0 (41, 1) rfl)
                      first
                        | exact skip_v hsz rfl ((wanted_some (b := false) rfl rfl s41).trans rfl) hQ0 (Grow.refl _) rfl
                        | exact skip_v hsz rfl (wanted_undef rfl rfl s41) hQ0 (Grow.refl _) rfl
                        | refine small_v hsz [(10, _)] ⟨some 1, (Op.move (.tmp 0)), 3, "", #[], none⟩ [_, undef] 1 rfl ((wanted_some (b := true) rfl rfl s41).trans rfl) ⟨s10, trivial⟩ rfl rfl hQ0 ?_
                          clear hQ0 hH s10 s41
                          intro Q hQ
                          repeat go_step
                          exact hQ _ _ (Grow.refl _) rfl rfl
                    refine obls_cons (fun f w' hR hH Q0 hQ0 => ?_) ?_
                    · skip
                      have s43 := (sv_at 43 3 hsz f [(43, 3), (44, 4), (41, 1)] rfl).trans (show f 3 = _ from hH.get 0 (43, 3) rfl)
                      have s44 := (sv_at 44 4 hsz f [(43, 3), (44, 4), (41, 1)] rfl).trans (show f 4 = _ from hH.get 1 (44, 4) rfl)
                      have s41 := (sv_at 41 1 hsz f [(43, 3), (44, 4), (41, 1)] rfl).trans (show f 1 = _ from hH.get 2 (41, 1) rfl)
                      first
                        | exact skip_v hsz rfl ((wanted_some (b := false) rfl rfl s41).trans rfl) hQ0 (Grow.refl _) rfl
                        | exact skip_v hsz rfl (wanted_undef rfl rfl s41) hQ0 (Grow.refl _) rfl
                        | refine small_v hsz [(43, _), (44, _)] ⟨some 2, (Op.indexAddr 23 (.tmp 0) (.tmp 1)), 0, "", #[], none⟩ [_, _, undef] 2 rfl ((wanted_some (b := true) rfl rfl s41).trans rfl) ⟨s43, s44, trivial⟩ rfl rfl hQ0 ?_
                          clear hQ0 hH s43 s44 s41
                          intro Q hQ
                          repeat go_step
                          exact hQ _ _ (Grow.refl _) rfl rfl
                    refine obls_cons (fun f w' hR hH Q0 hQ0 => ?_) ?_
                    · skip
                      have s45 := (sv_at 45 5 hsz f [(45, 5), (41, 1)] rfl).trans (show f 5 = _ from hH.get 0 (45, 5) rfl)
                      have s41 := (sv_at 41 1 hsz f [(45, 5), (41, 1)] rfl).trans (show f 1 = _ from hH.get 1 (41, 1) rfl)
                      first
                        | exact skip_v hsz rfl ((wanted_some (b := false) rfl rfl s41).trans rfl) hQ0 (Grow.refl _) rfl
                        | exact skip_v hsz rfl (wanted_undef rfl rfl s41) hQ0 (Grow.refl _) rfl
                        | refine small_v hsz [(45, _)] ⟨some 1, (Op.load 3 (.tmp 0)), 3, "", #[], none⟩ [_, undef] 1 rfl ((wanted_some (b := true) rfl rfl s41).trans rfl) ⟨s45, trivial⟩ rfl rfl hQ0 ?_
                          clear hQ0 hH s45 s41
                          intro Q hQ
                          repeat go_step
                          exact hQ _ _ (Grow.refl _) rfl rfl
                    refine obls_cons (fun f w' hR hH Q0 hQ0 => ?_) ?_
                    · skip
                      have s2 := sv_off f [(41, 1)] e2 rfl
                      have s41 := (sv_at 41 1 hsz f [(41, 1)] rfl).trans (show f 1 = _ from hH.get 0 (41, 1) rfl)
                      first
                        | exact skip_v hsz rfl ((wanted_some (b := false) rfl rfl s41).trans rfl) hQ0 (Grow.refl _) rfl
                        | exact skip_v hsz rfl (wanted_undef rfl rfl s41) hQ0 (Grow.refl _) rfl
                        | refine small_v hsz [(2, _)] ⟨some 1, (Op.move (.tmp 0)), 23, "", #[], none⟩ [_, undef] 1 rfl ((wanted_some (b := true) rfl rfl s41).trans rfl) ⟨s2, trivial⟩ rfl rfl hQ0 ?_
                          clear hQ0 hH s2 s41
                          intro Q hQ
                          repeat go_step
                          exact hQ _ _ (Grow.refl _) rfl rfl
                    refine obls_cons (fun f w' hR hH Q0 hQ0 => ?_) ?_
                    · skip
                      have s9 := sv_off f [(41, 1)] e9 rfl
                      have s41 := (sv_at 41 1 hsz f [(41, 1)] rfl).trans (show f 1 = _ from hH.get 0 (41, 1) rfl)
                      first
                        | exact skip_v hsz rfl ((wanted_some (b := false) rfl rfl s41).trans rfl) hQ0 (Grow.refl _) rfl
                        | exact skip_v hsz rfl (wanted_undef rfl rfl s41) hQ0 (Grow.refl _) rfl
                        | refine small_v hsz [(9, _)] ⟨some 1, (Op.move (.tmp 0)), 3, "", #[], none⟩ [_, undef] 1 rfl ((wanted_some (b := true) rfl rfl s41).trans rfl) ⟨s9, trivial⟩ rfl rfl hQ0 ?_
                          clear hQ0 hH s9 s41
                          intro Q hQ
                          repeat go_step
                          exact hQ _ _ (Grow.refl _) rfl rfl
                    refine obls_cons (fun f w' hR hH Q0 hQ0 => ?_) ?_
                    · skip
                      have s47 := (sv_at 47 7 hsz f [(47, 7), (48, 8), (41, 1)] rfl).trans (show f 7 = _ from hH.get 0 (47, 7) rfl)
                      have s48 := (sv_at 48 8 hsz f [(47, 7), (48, 8), (41, 1)] rfl).trans (show f 8 = _ from hH.get 1 (48, 8) rfl)
                      have s41 := (sv_at 41 1 hsz f [(47, 7), (48, 8), (41, 1)] rfl).trans (show f 1 = _ from hH.get 2 (41, 1) rfl)
                      first
                        | exact skip_v hsz rfl ((wanted_some (b := false) rfl rfl s41).trans rfl) hQ0 (Grow.refl _) rfl
                        | exact skip_v hsz rfl (wanted_undef rfl rfl s41) hQ0 (Grow.refl _) rfl
                        | refine small_v hsz [(47, _), (48, _)] ⟨some 2, (Op.indexAddr 23 (.tmp 0) (.tmp 1)), 0, "", #[], none⟩ [_, _, undef] 2 rfl ((wanted_some (b := true) rfl rfl s41).trans rfl) ⟨s47, s48, trivial⟩ rfl rfl hQ0 ?_
                          clear hQ0 hH s47 s48 s41
                          intro Q hQ
                          repeat go_step
                          exact hQ _ _ (Grow.refl _) rfl rfl
                    refine obls_cons (fun f w' hR hH Q0 hQ0 => ?_) ?_
                    · skip
                      have s49 := (sv_at 49 9 hsz f [(49, 9), (41, 1)] rfl).trans (show f 9 = _ from hH.get 0 (49, 9) rfl)
                      have s41 := (sv_at 41 1 hsz f [(49, 9), (41, 1)] rfl).trans (show f 1 = _ from hH.get 1 (41, 1) rfl)
                      first
                        | exact skip_v hsz rfl ((wanted_some (b := false) rfl rfl s41).trans rfl) hQ0 (Grow.refl _) rfl
                        | exact skip_v hsz rfl (wanted_undef rfl rfl s41) hQ0 (Grow.refl _) rfl
                        | refine small_v hsz [(49, _)] ⟨some 1, (Op.load 3 (.tmp 0)), 3, "", #[], none⟩ [_, undef] 1 rfl ((wanted_some (b := true) rfl rfl s41).trans rfl) ⟨s49, trivial⟩ rfl rfl hQ0 ?_
                          clear hQ0 hH s49 s41
                          intro Q hQ
                          repeat go_step
                          exact hQ _ _ (Grow.refl _) rfl rfl
                    refine obls_cons (fun f w' hR hH Q0 hQ0 => ?_) ?_
                    · skip
                      have s42 := (sv_at 42 2 hsz f [(42, 2), (46, 6), (50, 10), (41, 1)] rfl).trans (show f 2 = _ from hH.get 0 (42, 2) rfl)
                      have s46 := (sv_at 46 6 hsz f [(42, 2), (46, 6), (50, 10), (41, 1)] rfl).trans (show f 6 = _ from hH.get 1 (46, 6) rfl)
                      have s50 := (sv_at 50 10 hsz f [(42, 2), (46, 6), (50, 10), (41, 1)] rfl).trans (show f 10 = _ from hH.get 2 (50, 10) rfl)
                      have s41 := (sv_at 41 1 hsz f [(42, 2), (46, 6), (50, 10), (41, 1)] rfl).trans (show f 1 = _ from hH.get 3 (41, 1) rfl)
                      first
                        | exact skip_v hsz rfl ((wanted_some (b := false) rfl rfl s41).trans rfl) hQ0 (Grow.refl _) rfl
                        | exact skip_v hsz rfl (wanted_undef rfl rfl s41) hQ0 (Grow.refl _) rfl
                        | refine small_v hsz [(42, _), (46, _), (50, _)] ⟨some 3, (Op.call (Call.mk (Callee.value (Operand.func 18)) #[(.tmp 0), (.tmp 1), (.tmp 2)] #[25, 3, 3])), 4, "", #[], none⟩ [_, _, _, undef] 3 rfl ((wanted_some (b := true) rfl rfl s41).trans rfl) ⟨s42, s46, s50, trivial⟩ rfl (ren_call rfl rfl) hQ0 ?_
                          clear hQ0 hH s42 s46 s50 s41
                          intro Q hQ
                          repeat go_step
                          exact hQ _ _ (Grow.refl _) rfl rfl
                    refine obls_cons (fun f w' hR hH Q0 hQ0 => ?_) ?_
                    · skip
                      have s41 := (sv_at 41 1 hsz f [(41, 1), (51, 11)] rfl).trans (show f 1 = _ from hH.get 0 (41, 1) rfl)
                      have s51 := (sv_at 51 11 hsz f [(41, 1), (51, 11)] rfl).trans (show f 11 = _ from hH.get 1 (51, 11) rfl)
                      refine small_v hsz [(41, _), (51, _)] ⟨some 2, (Op.pick (.tmp 0) (.tmp 1) (Operand.const (Value.bool false))), 4, "", #[], none⟩ [_, _, undef] 2 rfl rfl ⟨s41, s51, trivial⟩ rfl rfl hQ0 ?_
                      clear hQ0 hH s41 s51
                      intro Q hQ
                      repeat go_step
                      exact hQ _ _ (Grow.refl _) rfl rfl
                    refine obls_cons (fun f w' hR hH Q0 hQ0 => ?_) ?_
                    · skip
                      have s52 := (sv_at 52 12 hsz f [(52, 12)] rfl).trans (show f 12 = _ from hH.get 0 (52, 12) rfl)
                      refine small_v hsz [(52, _)] ⟨some 1, (Op.assign (.tmp 0)), 4, "", #[], none⟩ [_, undef] 1 rfl rfl ⟨s52, trivial⟩ rfl rfl hQ0 ?_
                      clear hQ0 hH s52
                      intro Q hQ
                      repeat go_step
                      exact hQ _ _ (Grow.refl _) rfl rfl
                    exact obls_nil
                  case mono => exact ⟨Mono.veq _, Mono.veq _, Mono.veq _, Mono.veq _, Mono.veq _, Mono.veq _, Mono.veq _, Mono.veq _, Mono.veq _, Mono.veq _, Mono.veq _, Mono.veq _, Mono.veq _, Mono.veq _, trivial⟩
                  case tail =>
                    intro f w' hR hH
                    have q13 := hH.get 13 (8, 13) rfl
                    clear hH
                    refine wpList_merge (idx := [none, none, none, none, none, none, none, none, some 13, none, none, none, none, none, none, none, none, none, none, none, none, none, none, none, none, none, none, none, none, none, none, none, none, none, none, none, none, none, none, none, some 0, some 1, some 2, some 3, some 4, some 5, some 6, some 7, some 8, some 9, some 10, some 11, some 12, none, none, none, none, none, none, none, none, none, none, none, none, none, none, none, none, none, none, none, none, none, none, none, none, none, none, none, none, none, none, none, none, none, none, none, none, none, none, none, none, none, none, none, none, none, none, none]) (by kernel_rfl) ?_; show wpList _ _ _ [] ⟨#[_, _, _, _, _, _, _, _, f 13, _, _, _, _, _, _, _, _, _, _, _, _, _, _, _, _, _, _, _, _, _, _, _, _, _, _, _, _, _, _, _, f 0, f 1, f 2, f 3, f 4, f 5, f 6, f 7, f 8, f 9, f 10, f 11, f 12, _, _, _, _, _, _, _, _, _, _, _, _, _, _, _, _, _, _, _, _, _, _, _, _, _, _, _, _, _, _, _, _, _, _, _, _, _, _, _, _, _, _, _, _, _, _, _], _⟩ _
                    rw [show f 13 = _ from q13]
                    clear q13
                    have HG9 := Lib.hid (HG.out.trans hR)
                    clear hR
                    go_wp2_with fail
                    go_roundw
                    case rel => exact ⟨k + 1, false, by have := HLK.out; omega, by go_num, rfl, HNE.out.symm, HG9.out⟩
                    case measure => have := HLK.out; simp [intOf] <;> omega
                · obtain ⟨q, hq⟩ : ∃ q, q = B zk zi := ⟨_, rfl⟩
                  rw [← hq] at HBE HSU
                  have hne : (allTo B l i && allK B l i (k + 1)) = q := by rw [HSU.out, ← Bool.and_assoc, ← HA.out]; rfl
                  have HNE := Lib.hid hne
                  clear hne hq
                  go_wp2_with fail
                  apply (fun (v0 v1 v2 v3 v4 v5 v6 v7 v8 v9 v10 v11 v12 v13 : Value) mono obl tail => wp_region_par (R := Grow) (Φ := phi [veq v0, veq v1, veq v2, veq v3, veq v4, veq v5, veq v6, veq v7, veq v8, veq v9, veq v10, veq v11, veq v12, veq v13]) (m := 14) (dls := [[], [(40, 0)], [(41, 1)], [(41, 1)], [(41, 1)], [(43, 3), (44, 4), (41, 1)], [(45, 5), (41, 1)], [(41, 1)], [(41, 1)], [(47, 7), (48, 8), (41, 1)], [(49, 9), (41, 1)], [(42, 2), (46, 6), (50, 10), (41, 1)], [(41, 1), (51, 11)], [(52, 12)]]) (ds := [40, 41, 42, 43, 44, 45, 46, 47, 48, 49, 50, 51, 52, 8]) (by kernel_rfl) (by kernel_rfl) (by decide) rfl (Grow.drew _) (fun _ _ _ => Grow.trans) (mono_phi mono) obl tail)
                  case obl =>
                    refine obls_frame (fun a1 ha => ?_)
                    have hsz := rd_size (n := 100) ha rfl
                    have e8 := rd_slot 8 ha rfl
                    have e7 := rd_slot 7 ha rfl
                    have e2 := rd_slot 2 ha rfl
                    have e10 := rd_slot 10 ha rfl
                    have e9 := rd_slot 9 ha rfl
                    clear ha
                    refine obls_cons (fun f w' hR hH Q0 hQ0 => ?_) ?_
                    · skip
                      have s8 := sv_off f [] e8 rfl
                      refine small_v hsz [(8, _)] ⟨some 1, (Op.move (.tmp 0)), 4, "", #[], none⟩ [_, undef] 1 rfl rfl ⟨s8, trivial⟩ rfl rfl hQ0 ?_
                      clear hQ0 hH s8
                      intro Q hQ
                      repeat go_step
                      exact hQ _ _ (Grow.refl _) rfl rfl
                    refine obls_cons (fun f w' hR hH Q0 hQ0 => ?_) ?_
                    · skip
                      have s40 := (sv_at 40 0 hsz f [(40, 0)] rfl).trans (show f 0 = _ from hH.get 0 (40, 0) rfl)
                      refine small_v hsz [(40, _)] ⟨some 1, (Op.move (.tmp 0)), 4, "", #[], none⟩ [_, undef] 1 rfl rfl ⟨s40, trivial⟩ rfl rfl hQ0 ?_
                      clear hQ0 hH s40
                      intro Q hQ
                      repeat go_step
                      exact hQ _ _ (Grow.refl _) rfl rfl
                    refine obls_cons (fun f w' hR hH Q0 hQ0 => ?_) ?_
                    · skip
                      have s7 := sv_off f [(41, 1)] e7 rfl
                      have s41 := (sv_at 41 1 hsz f [(41, 1)] rfl).trans (show f 1 = _ from hH.get 0 (41, 1) rfl)
                      first
                        | exact skip_v hsz rfl ((wanted_some (b := false) rfl rfl s41).trans rfl) hQ0 (Grow.refl _) rfl
                        | exact skip_v hsz rfl (wanted_undef rfl rfl s41) hQ0 (Grow.refl _) rfl
                        | refine small_v hsz [(7, _)] ⟨some 1, (Op.move (.tmp 0)), 25, "", #[], none⟩ [_, undef] 1 rfl ((wanted_some (b := true) rfl rfl s41).trans rfl) ⟨s7, trivial⟩ rfl rfl hQ0 ?_
                          clear hQ0 hH s7 s41
                          intro Q hQ
                          repeat go_step
                          exact hQ _ _ (Grow.refl _) rfl rfl
                    refine obls_cons (fun f w' hR hH Q0 hQ0 => ?_) ?_
                    · skip
                      have s2 := sv_off f [(41, 1)] e2 rfl
                      have s41 := (sv_at 41 1 hsz f [(41, 1)] rfl).trans (show f 1 = _ from hH.get 0 (41, 1) rfl)
                      first
                        | exact skip_v hsz rfl ((wanted_some (b := false) rfl rfl s41).trans rfl) hQ0 (Grow.refl _) rfl
                        | exact skip_v hsz rfl (wanted_undef rfl rfl s41) hQ0 (Grow.refl _) rfl
                        | refine small_v hsz [(2, _)] ⟨some 1, (Op.move (.tmp 0)), 23, "", #[], none⟩ [_, undef] 1 rfl ((wanted_some (b := true) rfl rfl s41).trans rfl) ⟨s2, trivial⟩ rfl rfl hQ0 ?_
                          clear hQ0 hH s2 s41
                          intro Q hQ
                          repeat go_step
                          exact hQ _ _ (Grow.refl _) rfl rfl
                    refine obls_cons (fun f w' hR hH Q0 hQ0 => ?_) ?_
                    · skip
                      have s10 := sv_off f [(41, 1)] e10 rfl
                      have s41 := (sv_at 41 1 hsz f [(41, 1)] rfl).trans (show f 1 = _ from hH.get 0 (41, 1) rfl)
                      first
                        | exact skip_v hsz rfl ((wanted_some (b := false) rfl rfl s41).trans rfl) hQ0 (Grow.refl _) rfl
                        | exact skip_v hsz rfl (wanted_undef rfl rfl s41) hQ0 (Grow.refl _) rfl
                        | refine small_v hsz [(10, _)] ⟨some 1, (Op.move (.tmp 0)), 3, "", #[], none⟩ [_, undef] 1 rfl ((wanted_some (b := true) rfl rfl s41).trans rfl) ⟨s10, trivial⟩ rfl rfl hQ0 ?_
                          clear hQ0 hH s10 s41
                          intro Q hQ
                          repeat go_step
                          exact hQ _ _ (Grow.refl _) rfl rfl
                    refine obls_cons (fun f w' hR hH Q0 hQ0 => ?_) ?_
                    · skip
                      have s43 := (sv_at 43 3 hsz f [(43, 3), (44, 4), (41, 1)] rfl).trans (show f 3 = _ from hH.get 0 (43, 3) rfl)
                      have s44 := (sv_at 44 4 hsz f [(43, 3), (44, 4), (41, 1)] rfl).trans (show f 4 = _ from hH.get 1 (44, 4) rfl)
                      have s41 := (sv_at 41 1 hsz f [(43, 3), (44, 4), (41, 1)] rfl).trans (show f 1 = _ from hH.get 2 (41, 1) rfl)
                      first
                        | exact skip_v hsz rfl ((wanted_some (b := false) rfl rfl s41).trans rfl) hQ0 (Grow.refl _) rfl
                        | exact skip_v hsz rfl (wanted_undef rfl rfl s41) hQ0 (Grow.refl _) rfl
                        | refine small_v hsz [(43, _), (44, _)] ⟨some 2, (Op.indexAddr 23 (.tmp 0) (.tmp 1)), 0, "", #[], none⟩ [_, _, undef] 2 rfl ((wanted_some (b := true) rfl rfl s41).trans rfl) ⟨s43, s44, trivial⟩ rfl rfl hQ0 ?_
                          clear hQ0 hH s43 s44 s41
                          intro Q hQ
                          have hkn := HLK.out.2
                          repeat go_step
                          exact hQ _ _ (Grow.refl _) rfl rfl
                    refine obls_cons (fun f w' hR hH Q0 hQ0 => ?_) ?_
                    · skip
                      have s45 := (sv_at 45 5 hsz f [(45, 5), (41, 1)] rfl).trans (show f 5 = _ from hH.get 0 (45, 5) rfl)
                      have s41 := (sv_at 41 1 hsz f [(45, 5), (41, 1)] rfl).trans (show f 1 = _ from hH.get 1 (41, 1) rfl)
                      first
                        | exact skip_v hsz rfl ((wanted_some (b := false) rfl rfl s41).trans rfl) hQ0 (Grow.refl _) rfl
                        | exact skip_v hsz rfl (wanted_undef rfl rfl s41) hQ0 (Grow.refl _) rfl
                        | refine small_v hsz [(45, _)] ⟨some 1, (Op.load 3 (.tmp 0)), 3, "", #[], none⟩ [_, undef] 1 rfl ((wanted_some (b := true) rfl rfl s41).trans rfl) ⟨s45, trivial⟩ rfl rfl hQ0 ?_
                          clear hQ0 hH s45 s41
                          intro Q hQ
                          have y1 := hR.cell HC1.out
                          repeat go_step
                          exact hQ _ _ (Grow.refl _) rfl rfl
                    refine obls_cons (fun f w' hR hH Q0 hQ0 => ?_) ?_
                    · skip
                      have s2 := sv_off f [(41, 1)] e2 rfl
                      have s41 := (sv_at 41 1 hsz f [(41, 1)] rfl).trans (show f 1 = _ from hH.get 0 (41, 1) rfl)
                      first
                        | exact skip_v hsz rfl ((wanted_some (b := false) rfl rfl s41).trans rfl) hQ0 (Grow.refl _) rfl
                        | exact skip_v hsz rfl (wanted_undef rfl rfl s41) hQ0 (Grow.refl _) rfl
                        | refine small_v hsz [(2, _)] ⟨some 1, (Op.move (.tmp 0)), 23, "", #[], none⟩ [_, undef] 1 rfl ((wanted_some (b := true) rfl rfl s41).trans rfl) ⟨s2, trivial⟩ rfl rfl hQ0 ?_
                          clear hQ0 hH s2 s41
                          intro Q hQ
                          repeat go_step
                          exact hQ _ _ (Grow.refl _) rfl rfl
                    refine obls_cons (fun f w' hR hH Q0 hQ0 => ?_) ?_
                    · skip
                      have s9 := sv_off f [(41, 1)] e9 rfl
                      have s41 := (sv_at 41 1 hsz f [(41, 1)] rfl).trans (show f 1 = _ from hH.get 0 (41, 1) rfl)
                      first
                        | exact skip_v hsz rfl ((wanted_some (b := false) rfl rfl s41).trans rfl) hQ0 (Grow.refl _) rfl
                        | exact skip_v hsz rfl (wanted_undef rfl rfl s41) hQ0 (Grow.refl _) rfl
                        | refine small_v hsz [(9, _)] ⟨some 1, (Op.move (.tmp 0)), 3, "", #[], none⟩ [_, undef] 1 rfl ((wanted_some (b := true) rfl rfl s41).trans rfl) ⟨s9, trivial⟩ rfl rfl hQ0 ?_
                          clear hQ0 hH s9 s41
                          intro Q hQ
                          repeat go_step
                          exact hQ _ _ (Grow.refl _) rfl rfl
                    refine obls_cons (fun f w' hR hH Q0 hQ0 => ?_) ?_
                    · skip
                      have s47 := (sv_at 47 7 hsz f [(47, 7), (48, 8), (41, 1)] rfl).trans (show f 7 = _ from hH.get 0 (47, 7) rfl)
                      have s48 := (sv_at 48 8 hsz f [(47, 7), (48, 8), (41, 1)] rfl).trans (show f 8 = _ from hH.get 1 (48, 8) rfl)
                      have s41 := (sv_at 41 1 hsz f [(47, 7), (48, 8), (41, 1)] rfl).trans (show f 1 = _ from hH.get 2 (41, 1) rfl)
                      first
                        | exact skip_v hsz rfl ((wanted_some (b := false) rfl rfl s41).trans rfl) hQ0 (Grow.refl _) rfl
                        | exact skip_v hsz rfl (wanted_undef rfl rfl s41) hQ0 (Grow.refl _) rfl
                        | refine small_v hsz [(47, _), (48, _)] ⟨some 2, (Op.indexAddr 23 (.tmp 0) (.tmp 1)), 0, "", #[], none⟩ [_, _, undef] 2 rfl ((wanted_some (b := true) rfl rfl s41).trans rfl) ⟨s47, s48, trivial⟩ rfl rfl hQ0 ?_
                          clear hQ0 hH s47 s48 s41
                          intro Q hQ
                          have hin := HI.out
                          repeat go_step
                          exact hQ _ _ (Grow.refl _) rfl rfl
                    refine obls_cons (fun f w' hR hH Q0 hQ0 => ?_) ?_
                    · skip
                      have s49 := (sv_at 49 9 hsz f [(49, 9), (41, 1)] rfl).trans (show f 9 = _ from hH.get 0 (49, 9) rfl)
                      have s41 := (sv_at 41 1 hsz f [(49, 9), (41, 1)] rfl).trans (show f 1 = _ from hH.get 1 (41, 1) rfl)
                      first
                        | exact skip_v hsz rfl ((wanted_some (b := false) rfl rfl s41).trans rfl) hQ0 (Grow.refl _) rfl
                        | exact skip_v hsz rfl (wanted_undef rfl rfl s41) hQ0 (Grow.refl _) rfl
                        | refine small_v hsz [(49, _)] ⟨some 1, (Op.load 3 (.tmp 0)), 3, "", #[], none⟩ [_, undef] 1 rfl ((wanted_some (b := true) rfl rfl s41).trans rfl) ⟨s49, trivial⟩ rfl rfl hQ0 ?_
                          clear hQ0 hH s49 s41
                          intro Q hQ
                          have y2 := hR.cell HC2.out
                          repeat go_step
                          exact hQ _ _ (Grow.refl _) rfl rfl
                    refine obls_cons (fun f w' hR hH Q0 hQ0 => ?_) ?_
                    · skip
                      have s42 := (sv_at 42 2 hsz f [(42, 2), (46, 6), (50, 10), (41, 1)] rfl).trans (show f 2 = _ from hH.get 0 (42, 2) rfl)
                      have s46 := (sv_at 46 6 hsz f [(42, 2), (46, 6), (50, 10), (41, 1)] rfl).trans (show f 6 = _ from hH.get 1 (46, 6) rfl)
                      have s50 := (sv_at 50 10 hsz f [(42, 2), (46, 6), (50, 10), (41, 1)] rfl).trans (show f 10 = _ from hH.get 2 (50, 10) rfl)
                      have s41 := (sv_at 41 1 hsz f [(42, 2), (46, 6), (50, 10), (41, 1)] rfl).trans (show f 1 = _ from hH.get 3 (41, 1) rfl)
                      first
                        | exact skip_v hsz rfl ((wanted_some (b := false) rfl rfl s41).trans rfl) hQ0 (Grow.refl _) rfl
                        | exact skip_v hsz rfl (wanted_undef rfl rfl s41) hQ0 (Grow.refl _) rfl
                        | refine small_v hsz [(42, _), (46, _), (50, _)] ⟨some 3, (Op.call (Call.mk (Callee.value (Operand.func 18)) #[(.tmp 0), (.tmp 1), (.tmp 2)] #[25, 3, 3])), 4, "", #[], none⟩ [_, _, _, undef] 3 rfl ((wanted_some (b := true) rfl rfl s41).trans rfl) ⟨s42, s46, s50, trivial⟩ rfl (ren_call rfl rfl) hQ0 ?_
                          clear hQ0 hH s42 s46 s50 s41
                          intro Q hQ
                          go_wp2_with (go_at_call 18; refine ((HBE.out w' hR)).mono ?_; rintro e w1 ⟨rfl, rfl⟩)
                          exact hQ _ _ (Grow.refl _) rfl rfl
                    refine obls_cons (fun f w' hR hH Q0 hQ0 => ?_) ?_
                    · skip
                      have s41 := (sv_at 41 1 hsz f [(41, 1), (51, 11)] rfl).trans (show f 1 = _ from hH.get 0 (41, 1) rfl)
                      have s51 := (sv_at 51 11 hsz f [(41, 1), (51, 11)] rfl).trans (show f 11 = _ from hH.get 1 (51, 11) rfl)
                      refine small_v hsz [(41, _), (51, _)] ⟨some 2, (Op.pick (.tmp 0) (.tmp 1) (Operand.const (Value.bool false))), 4, "", #[], none⟩ [_, _, undef] 2 rfl rfl ⟨s41, s51, trivial⟩ rfl rfl hQ0 ?_
                      clear hQ0 hH s41 s51
                      intro Q hQ
                      repeat go_step
                      exact hQ _ _ (Grow.refl _) rfl rfl
                    refine obls_cons (fun f w' hR hH Q0 hQ0 => ?_) ?_
                    · skip
                      have s52 := (sv_at 52 12 hsz f [(52, 12)] rfl).trans (show f 12 = _ from hH.get 0 (52, 12) rfl)
                      refine small_v hsz [(52, _)] ⟨some 1, (Op.assign (.tmp 0)), 4, "", #[], none⟩ [_, undef] 1 rfl rfl ⟨s52, trivial⟩ rfl rfl hQ0 ?_
                      clear hQ0 hH s52
                      intro Q hQ
                      repeat go_step
                      exact hQ _ _ (Grow.refl _) rfl rfl
                    exact obls_nil
                  case mono => exact ⟨Mono.veq _, Mono.veq _, Mono.veq _, Mono.veq _, Mono.veq _, Mono.veq _, Mono.veq _, Mono.veq _, Mono.veq _, Mono.veq _, Mono.veq _, Mono.veq _, Mono.veq _, Mono.veq _, trivial⟩
                  case tail =>
                    intro f w' hR hH
                    have q13 := hH.get 13 (8, 13) rfl
                    clear hH
                    refine wpList_merge (idx := [none, none, none, none, none, none, none, none, some 13, none, none, none, none, none, none, none, none, none, none, none, none, none, none, none, none, none, none, none, none, none, none, none, none, none, none, none, none, none, none, none, some 0, some 1, some 2, some 3, some 4, some 5, some 6, some 7, some 8, some 9, some 10, some 11, some 12, none, none, none, none, none, none, none, none, none, none, none, none, none, none, none, none, none, none, none, none, none, none, none, none, none, none, none, none, none, none, none, none, none, none, none, none, none, none, none, none, none, none, none, none, none, none, none]) (by kernel_rfl) ?_; show wpList _ _ _ [] ⟨#[_, _, _, _, _, _, _, _, f 13, _, _, _, _, _, _, _, _, _, _, _, _, _, _, _, _, _, _, _, _, _, _, _, _, _, _, _, _, _, _, _, f 0, f 1, f 2, f 3, f 4, f 5, f 6, f 7, f 8, f 9, f 10, f 11, f 12, _, _, _, _, _, _, _, _, _, _, _, _, _, _, _, _, _, _, _, _, _, _, _, _, _, _, _, _, _, _, _, _, _, _, _, _, _, _, _, _, _, _, _, _, _, _, _], _⟩ _
                    rw [show f 13 = _ from q13]
                    clear q13
                    have HG9 := Lib.hid (HG.out.trans hR)
                    clear hR
                    go_wp2_with fail
                    go_roundw
                    case rel => exact ⟨k + 1, q, by have := HLK.out; omega, by go_num, rfl, HNE.out.symm, HG9.out⟩
                    case measure => have := HLK.out; simp [intOf] <;> omega
              · obtain rfl : k = i := by omega
                have tk : decide (k < k) = false := decide_eq_false hlk
                have hne : a = allTo B l (k + 1) := by rw [allTo_succ]; exact ha
                have HNE := Lib.hid hne
                have HG := Lib.hid hg
                clear hne ha hg hk hlk
                go_wp2_with fail
                go_roundw
                case rel => exact ⟨k + 1, a, by have := HI.out; omega, by go_num, rfl, HNE.out, HG.out⟩
                case measure => have := HI.out; simp [intOf] <;> omega
          · obtain rfl : i = n2 := by omega
            have ti : decide (i < i) = false := decide_eq_false hlt
            have hbo := bk.of_any gr nR R i wa (HREL.out.grow hg) A2 i c2 l (HL.out.grow (HG2.out.trans hg)) (Nat.le_refl _) (by omega)
            rw [← HB.out] at hbo
            have hoda := odd_all (B := B) (N := nearI R) (l := l) (f := i) (by rw [HLL.out]; exact Nat.le_refl _)
            have hodl := odd_le (B := B) (nearI_symm R) (l := l) (f := i) (by rw [HLL.out]; exact Nat.le_refl _)
            have hbal := blocks_all (B := B) (N := nearI R) (l := l) (f := i) (by rw [HLL.out]; exact Nat.le_refl _)
            rw [HLL.out, ← ha] at hoda hbal
            obtain ⟨ts, hts⟩ : ∃ ts, ts = blocksF B (nearI R) i l := ⟨_, rfl⟩
            rw [← hts] at hbo hoda hodl hbal
            have HBO := Lib.hid hbo
            have HODA := Lib.hid hoda
            have HODL := Lib.hid hodl
            have HBAL := Lib.hid hbal
            have HG := Lib.hid (HG2.out.trans hg)
            clear hbo hoda hodl hbal ha hg hi hlt hts
            go_wp2_with fail
            refine HBO.out.mono ?_
            rintro e w4 ⟨u, rfl, htv, hg4⟩
            have HOD := Lib.hid (odd_any htv w4 (Grow.refl _) (by have h9 := HODL.out; rw [HLL.out] at h9; omega))
            have HG4 := Lib.hid (HG.out.trans hg4)
            have HTV := Lib.hid htv
            obtain ⟨Ab, cb, qs, rfl, hqs, hnb, hmb, hrec, -, -⟩ := htv.form
            unfold maxLen at hmb
            obtain ⟨nb, hnbe⟩ : ∃ nb, nb = ts.length := ⟨_, rfl⟩
            rw [← hnbe] at hnb hrec HOD ⊢
            have HREC := Lib.hid hrec
            have hnb9 : nb ≤ 9223372036854775807 := by omega
            obtain ⟨od, hod⟩ : ∃ od, od = oddL ts := ⟨_, rfl⟩
            rw [← hod] at HOD HODA
            cases a
            · have s1 : ((od : Int) == 0) = false := by (have h9 : (od == 0) = false := HODA.out; exact beq_false_of_ne fun h => by rw [Int.ofNat_eq_zero.1 h] at h9; cases h9)
              have s1' : (od == 0) = false := HODA.out
              clear htv hg4 hqs hnb hmb hrec hnbe hod
              go_wp2_with fail
              refine HOD.out.mono ?_
              rintro e w5 ⟨rfl, hg5⟩
              have HG5 := Lib.hid (HG4.out.trans hg5)
              clear hg5
              go_wp2_with fail
              clear s1 s1'
              go_loopw [12] (fun j' wr => ∃ j : Nat, j ≤ nb ∧ j' = .int .i64 (j : Int) ∧ Grow w wr) (fun j' _ => nb - (intOf j').toNat)
              case atStart => exact ⟨0, by omega, rfl, HG5.out⟩
              case round =>
                obtain ⟨j, hj, rfl, hg⟩ := hrel
                have HG := Lib.hid hg
                clear hg
                by_cases hlj : j < nb
                · have tj : decide (j < nb) = true := decide_eq_true hlj
                  have tj' : decide ((j : Int) < (nb : Int)) = true := decide_eq_true (by omega)
                  have HJ := Lib.hid hlj
                  have hj9 : j < nb := hlj
                  clear hj hlj
                  go_wp2_with fail
                  apply (fun (v0 v1 v2 v3 v4 v5 v6 v7 v8 v9 v10 v11 v12 v13 v14 v15 v16 v17 v18 v19 v20 : Value) mono obl tail => wp_region_par (R := Grow) (Φ := phi [veq v0, veq v1, veq v2, veq v3, veq v4, veq v5, veq v6, veq v7, veq v8, veq v9, veq v10, veq v11, veq v12, veq v13, veq v14, veq v15, veq v16, veq v17, veq v18, veq v19, veq v20]) (m := 21) (dls := [[], [(67, 0)], [(68, 1)], [(68, 1)], [(69, 2), (70, 3), (68, 1)], [(71, 4), (68, 1)], [(72, 5), (68, 1)], [(73, 6), (68, 1)], [(74, 7), (68, 1)], [(75, 8)], [(75, 8)], [(76, 9), (77, 10), (75, 8)], [(78, 11), (75, 8)], [(79, 12), (75, 8)], [(75, 8)], [(75, 8)], [(81, 14), (82, 15), (75, 8)], [(83, 16), (75, 8)], [(80, 13), (84, 17), (75, 8)], [(75, 8), (85, 18), (68, 1)], [(68, 1), (86, 19)]]) (ds := [67, 68, 69, 70, 71, 72, 73, 74, 75, 76, 77, 78, 79, 80, 81, 82, 83, 84, 85, 86, 87]) (by kernel_rfl) (by kernel_rfl) (by decide) rfl (Grow.drew _) (fun _ _ _ => Grow.trans) (mono_phi mono) obl tail)
                  case obl =>
                    refine obls_frame (fun a1 ha => ?_)
                    have hsz := rd_size (n := 100) ha rfl
                    have e8 := rd_slot 8 ha rfl
                    have e11 := rd_slot 11 ha rfl
                    have e12 := rd_slot 12 ha rfl
                    have e2 := rd_slot 2 ha rfl
                    clear ha
                    refine obls_cons (fun f w' hR hH Q0 hQ0 => ?_) ?_
                    · skip
                      have s8 := sv_off f [] e8 rfl
                      refine small_v hsz [(8, _)] ⟨some 1, (Op.move (.tmp 0)), 4, "", #[], none⟩ [_, undef] 1 rfl rfl ⟨s8, trivial⟩ rfl rfl hQ0 ?_
                      clear hQ0 hH s8
                      intro Q hQ
                      repeat go_step
                      exact hQ _ _ (Grow.refl _) rfl rfl
                    refine obls_cons (fun f w' hR hH Q0 hQ0 => ?_) ?_
                    · skip
                      have s67 := (sv_at 67 0 hsz f [(67, 0)] rfl).trans (show f 0 = _ from hH.get 0 (67, 0) rfl)
                      refine small_v hsz [(67, _)] ⟨some 1, (Op.move (.tmp 0)), 4, "", #[], none⟩ [_, undef] 1 rfl rfl ⟨s67, trivial⟩ rfl rfl hQ0 ?_
                      clear hQ0 hH s67
                      intro Q hQ
                      repeat go_step
                      exact hQ _ _ (Grow.refl _) rfl rfl
                    refine obls_cons (fun f w' hR hH Q0 hQ0 => ?_) ?_
                    · skip
                      have s11 := sv_off f [(68, 1)] e11 rfl
                      have s68 := (sv_at 68 1 hsz f [(68, 1)] rfl).trans (show f 1 = _ from hH.get 0 (68, 1) rfl)
                      first
                        | exact skip_v hsz rfl ((wanted_some (b := false) rfl rfl s68).trans rfl) hQ0 (Grow.refl _) rfl
                        | exact skip_v hsz rfl (wanted_undef rfl rfl s68) hQ0 (Grow.refl _) rfl
                        | refine small_v hsz [(11, _)] ⟨some 1, (Op.move (.tmp 0)), 30, "", #[], none⟩ [_, undef] 1 rfl ((wanted_some (b := true) rfl rfl s68).trans rfl) ⟨s11, trivial⟩ rfl rfl hQ0 ?_
                          clear hQ0 hH s11 s68
                          intro Q hQ
                          repeat go_step
                          exact hQ _ _ (Grow.refl _) rfl rfl
                    refine obls_cons (fun f w' hR hH Q0 hQ0 => ?_) ?_
                    · skip
                      have s12 := sv_off f [(68, 1)] e12 rfl
                      have s68 := (sv_at 68 1 hsz f [(68, 1)] rfl).trans (show f 1 = _ from hH.get 0 (68, 1) rfl)
                      first
                        | exact skip_v hsz rfl ((wanted_some (b := false) rfl rfl s68).trans rfl) hQ0 (Grow.refl _) rfl
                        | exact skip_v hsz rfl (wanted_undef rfl rfl s68) hQ0 (Grow.refl _) rfl
                        | refine small_v hsz [(12, _)] ⟨some 1, (Op.move (.tmp 0)), 3, "", #[], none⟩ [_, undef] 1 rfl ((wanted_some (b := true) rfl rfl s68).trans rfl) ⟨s12, trivial⟩ rfl rfl hQ0 ?_
                          clear hQ0 hH s12 s68
                          intro Q hQ
                          repeat go_step
                          exact hQ _ _ (Grow.refl _) rfl rfl
                    refine obls_cons (fun f w' hR hH Q0 hQ0 => ?_) ?_
                    · skip
                      have s69 := (sv_at 69 2 hsz f [(69, 2), (70, 3), (68, 1)] rfl).trans (show f 2 = _ from hH.get 0 (69, 2) rfl)
                      have s70 := (sv_at 70 3 hsz f [(69, 2), (70, 3), (68, 1)] rfl).trans (show f 3 = _ from hH.get 1 (70, 3) rfl)
                      have s68 := (sv_at 68 1 hsz f [(69, 2), (70, 3), (68, 1)] rfl).trans (show f 1 = _ from hH.get 2 (68, 1) rfl)
                      first
                        | exact skip_v hsz rfl ((wanted_some (b := false) rfl rfl s68).trans rfl) hQ0 (Grow.refl _) rfl
                        | exact skip_v hsz rfl (wanted_undef rfl rfl s68) hQ0 (Grow.refl _) rfl
                        | refine small_v hsz [(69, _), (70, _)] ⟨some 2, (Op.indexAddr 30 (.tmp 0) (.tmp 1)), 0, "", #[], none⟩ [_, _, undef] 2 rfl ((wanted_some (b := true) rfl rfl s68).trans rfl) ⟨s69, s70, trivial⟩ rfl rfl hQ0 ?_
                          clear hQ0 hH s69 s70 s68
                          intro Q hQ
                          repeat go_step
                          exact hQ _ _ (Grow.refl _) rfl rfl
                    refine obls_cons (fun f w' hR hH Q0 hQ0 => ?_) ?_
                    · skip
                      have s71 := (sv_at 71 4 hsz f [(71, 4), (68, 1)] rfl).trans (show f 4 = _ from hH.get 0 (71, 4) rfl)
                      have s68 := (sv_at 68 1 hsz f [(71, 4), (68, 1)] rfl).trans (show f 1 = _ from hH.get 1 (68, 1) rfl)
                      first
                        | exact skip_v hsz rfl ((wanted_some (b := false) rfl rfl s68).trans rfl) hQ0 (Grow.refl _) rfl
                        | exact skip_v hsz rfl (wanted_undef rfl rfl s68) hQ0 (Grow.refl _) rfl
                        | refine small_v hsz [(71, _)] ⟨some 1, (Op.fieldAddr 43 (.tmp 0) 0), 0, "", #[], none⟩ [_, undef] 1 rfl ((wanted_some (b := true) rfl rfl s68).trans rfl) ⟨s71, trivial⟩ rfl rfl hQ0 ?_
                          clear hQ0 hH s71 s68
                          intro Q hQ
                          repeat go_step
                          exact hQ _ _ (Grow.refl _) rfl rfl
                    refine obls_cons (fun f w' hR hH Q0 hQ0 => ?_) ?_
                    · skip
                      have s72 := (sv_at 72 5 hsz f [(72, 5), (68, 1)] rfl).trans (show f 5 = _ from hH.get 0 (72, 5) rfl)
                      have s68 := (sv_at 68 1 hsz f [(72, 5), (68, 1)] rfl).trans (show f 1 = _ from hH.get 1 (68, 1) rfl)
                      first
                        | exact skip_v hsz rfl ((wanted_some (b := false) rfl rfl s68).trans rfl) hQ0 (Grow.refl _) rfl
                        | exact skip_v hsz rfl (wanted_undef rfl rfl s68) hQ0 (Grow.refl _) rfl
                        | refine small_v hsz [(72, _)] ⟨some 1, (Op.load 3 (.tmp 0)), 3, "", #[], none⟩ [_, undef] 1 rfl ((wanted_some (b := true) rfl rfl s68).trans rfl) ⟨s72, trivial⟩ rfl rfl hQ0 ?_
                          clear hQ0 hH s72 s68
                          intro Q hQ
                          repeat go_step
                          exact hQ _ _ (Grow.refl _) rfl rfl
                    refine obls_cons (fun f w' hR hH Q0 hQ0 => ?_) ?_
                    · skip
                      have s73 := (sv_at 73 6 hsz f [(73, 6), (68, 1)] rfl).trans (show f 6 = _ from hH.get 0 (73, 6) rfl)
                      have s68 := (sv_at 68 1 hsz f [(73, 6), (68, 1)] rfl).trans (show f 1 = _ from hH.get 1 (68, 1) rfl)
                      first
                        | exact skip_v hsz rfl ((wanted_some (b := false) rfl rfl s68).trans rfl) hQ0 (Grow.refl _) rfl
                        | exact skip_v hsz rfl (wanted_undef rfl rfl s68) hQ0 (Grow.refl _) rfl
                        | refine small_v hsz [(73, _)] ⟨some 1, (Op.binOp BinOp.neq 3 (.tmp 0) (Operand.const (Value.int IntKind.i64 1)) 3), 4, "", #[], none⟩ [_, undef] 1 rfl ((wanted_some (b := true) rfl rfl s68).trans rfl) ⟨s73, trivial⟩ rfl rfl hQ0 ?_
                          clear hQ0 hH s73 s68
                          intro Q hQ
                          repeat go_step
                          exact hQ _ _ (Grow.refl _) rfl rfl
                    refine obls_cons (fun f w' hR hH Q0 hQ0 => ?_) ?_
                    · skip
                      have s74 := (sv_at 74 7 hsz f [(74, 7), (68, 1)] rfl).trans (show f 7 = _ from hH.get 0 (74, 7) rfl)
                      have s68 := (sv_at 68 1 hsz f [(74, 7), (68, 1)] rfl).trans (show f 1 = _ from hH.get 1 (68, 1) rfl)
                      first
                        | exact skip_v hsz rfl ((wanted_some (b := false) rfl rfl s68).trans rfl) hQ0 (Grow.refl _) rfl
                        | exact skip_v hsz rfl (wanted_undef rfl rfl s68) hQ0 (Grow.refl _) rfl
                        | refine small_v hsz [(74, _)] ⟨some 1, (Op.move (.tmp 0)), 4, "", #[], none⟩ [_, undef] 1 rfl ((wanted_some (b := true) rfl rfl s68).trans rfl) ⟨s74, trivial⟩ rfl rfl hQ0 ?_
                          clear hQ0 hH s74 s68
                          intro Q hQ
                          repeat go_step
                          exact hQ _ _ (Grow.refl _) rfl rfl
                    refine obls_cons (fun f w' hR hH Q0 hQ0 => ?_) ?_
                    · skip
                      have s11 := sv_off f [(75, 8)] e11 rfl
                      have s75 := (sv_at 75 8 hsz f [(75, 8)] rfl).trans (show f 8 = _ from hH.get 0 (75, 8) rfl)
                      first
                        | exact skip_v hsz rfl ((wanted_some (b := true) rfl rfl s75).trans rfl) hQ0 (Grow.refl _) rfl
                        | exact skip_v hsz rfl (wanted_undef rfl rfl s75) hQ0 (Grow.refl _) rfl
                        | refine small_v hsz [(11, _)] ⟨some 1, (Op.move (.tmp 0)), 30, "", #[], none⟩ [_, undef] 1 rfl ((wanted_some (b := false) rfl rfl s75).trans rfl) ⟨s11, trivial⟩ rfl rfl hQ0 ?_
                          clear hQ0 hH s11 s75
                          intro Q hQ
                          repeat go_step
                          exact hQ _ _ (Grow.refl _) rfl rfl
                    refine obls_cons (fun f w' hR hH Q0 hQ0 => ?_) ?_
                    · skip
                      have s12 := sv_off f [(75, 8)] e12 rfl
                      have s75 := (sv_at 75 8 hsz f [(75, 8)] rfl).trans (show f 8 = _ from hH.get 0 (75, 8) rfl)
                      first
                        | exact skip_v hsz rfl ((wanted_some (b := true) rfl rfl s75).trans rfl) hQ0 (Grow.refl _) rfl
                        | exact skip_v hsz rfl (wanted_undef rfl rfl s75) hQ0 (Grow.refl _) rfl
                        | refine small_v hsz [(12, _)] ⟨some 1, (Op.move (.tmp 0)), 3, "", #[], none⟩ [_, undef] 1 rfl ((wanted_some (b := false) rfl rfl s75).trans rfl) ⟨s12, trivial⟩ rfl rfl hQ0 ?_
                          clear hQ0 hH s12 s75
                          intro Q hQ
                          repeat go_step
                          exact hQ _ _ (Grow.refl _) rfl rfl
                    refine obls_cons (fun f w' hR hH Q0 hQ0 => ?_) ?_
                    · skip
                      have s76 := (sv_at 76 9 hsz f [(76, 9), (77, 10), (75, 8)] rfl).trans (show f 9 = _ from hH.get 0 (76, 9) rfl)
                      have s77 := (sv_at 77 10 hsz f [(76, 9), (77, 10), (75, 8)] rfl).trans (show f 10 = _ from hH.get 1 (77, 10) rfl)
                      have s75 := (sv_at 75 8 hsz f [(76, 9), (77, 10), (75, 8)] rfl).trans (show f 8 = _ from hH.get 2 (75, 8) rfl)
                      first
                        | exact skip_v hsz rfl ((wanted_some (b := true) rfl rfl s75).trans rfl) hQ0 (Grow.refl _) rfl
                        | exact skip_v hsz rfl (wanted_undef rfl rfl s75) hQ0 (Grow.refl _) rfl
                        | refine small_v hsz [(76, _), (77, _)] ⟨some 2, (Op.indexAddr 30 (.tmp 0) (.tmp 1)), 0, "", #[], none⟩ [_, _, undef] 2 rfl ((wanted_some (b := false) rfl rfl s75).trans rfl) ⟨s76, s77, trivial⟩ rfl rfl hQ0 ?_
                          clear hQ0 hH s76 s77 s75
                          intro Q hQ
                          repeat go_step
                          exact hQ _ _ (Grow.refl _) rfl rfl
                    refine obls_cons (fun f w' hR hH Q0 hQ0 => ?_) ?_
                    · skip
                      have s78 := (sv_at 78 11 hsz f [(78, 11), (75, 8)] rfl).trans (show f 11 = _ from hH.get 0 (78, 11) rfl)
                      have s75 := (sv_at 75 8 hsz f [(78, 11), (75, 8)] rfl).trans (show f 8 = _ from hH.get 1 (75, 8) rfl)
                      first
                        | exact skip_v hsz rfl ((wanted_some (b := true) rfl rfl s75).trans rfl) hQ0 (Grow.refl _) rfl
                        | exact skip_v hsz rfl (wanted_undef rfl rfl s75) hQ0 (Grow.refl _) rfl
                        | refine small_v hsz [(78, _)] ⟨some 1, (Op.fieldAddr 43 (.tmp 0) 1), 0, "", #[], none⟩ [_, undef] 1 rfl ((wanted_some (b := false) rfl rfl s75).trans rfl) ⟨s78, trivial⟩ rfl rfl hQ0 ?_
                          clear hQ0 hH s78 s75
                          intro Q hQ
                          repeat go_step
                          exact hQ _ _ (Grow.refl _) rfl rfl
                    refine obls_cons (fun f w' hR hH Q0 hQ0 => ?_) ?_
                    · skip
                      have s79 := (sv_at 79 12 hsz f [(79, 12), (75, 8)] rfl).trans (show f 12 = _ from hH.get 0 (79, 12) rfl)
                      have s75 := (sv_at 75 8 hsz f [(79, 12), (75, 8)] rfl).trans (show f 8 = _ from hH.get 1 (75, 8) rfl)
                      first
                        | exact skip_v hsz rfl ((wanted_some (b := true) rfl rfl s75).trans rfl) hQ0 (Grow.refl _) rfl
                        | exact skip_v hsz rfl (wanted_undef rfl rfl s75) hQ0 (Grow.refl _) rfl
                        | refine small_v hsz [(79, _)] ⟨some 1, (Op.load 3 (.tmp 0)), 3, "", #[], none⟩ [_, undef] 1 rfl ((wanted_some (b := false) rfl rfl s75).trans rfl) ⟨s79, trivial⟩ rfl rfl hQ0 ?_
                          clear hQ0 hH s79 s75
                          intro Q hQ
                          repeat go_step
                          exact hQ _ _ (Grow.refl _) rfl rfl
                    refine obls_cons (fun f w' hR hH Q0 hQ0 => ?_) ?_
                    · skip
                      have s2 := sv_off f [(75, 8)] e2 rfl
                      have s75 := (sv_at 75 8 hsz f [(75, 8)] rfl).trans (show f 8 = _ from hH.get 0 (75, 8) rfl)
                      first
                        | exact skip_v hsz rfl ((wanted_some (b := true) rfl rfl s75).trans rfl) hQ0 (Grow.refl _) rfl
                        | exact skip_v hsz rfl (wanted_undef rfl rfl s75) hQ0 (Grow.refl _) rfl
                        | refine small_v hsz [(2, _)] ⟨some 1, (Op.move (.tmp 0)), 23, "", #[], none⟩ [_, undef] 1 rfl ((wanted_some (b := false) rfl rfl s75).trans rfl) ⟨s2, trivial⟩ rfl rfl hQ0 ?_
                          clear hQ0 hH s2 s75
                          intro Q hQ
                          repeat go_step
                          exact hQ _ _ (Grow.refl _) rfl rfl
                    refine obls_cons (fun f w' hR hH Q0 hQ0 => ?_) ?_
                    · skip
                      have s12 := sv_off f [(75, 8)] e12 rfl
                      have s75 := (sv_at 75 8 hsz f [(75, 8)] rfl).trans (show f 8 = _ from hH.get 0 (75, 8) rfl)
                      first
                        | exact skip_v hsz rfl ((wanted_some (b := true) rfl rfl s75).trans rfl) hQ0 (Grow.refl _) rfl
                        | exact skip_v hsz rfl (wanted_undef rfl rfl s75) hQ0 (Grow.refl _) rfl
                        | refine small_v hsz [(12, _)] ⟨some 1, (Op.move (.tmp 0)), 3, "", #[], none⟩ [_, undef] 1 rfl ((wanted_some (b := false) rfl rfl s75).trans rfl) ⟨s12, trivial⟩ rfl rfl hQ0 ?_
                          clear hQ0 hH s12 s75
                          intro Q hQ
                          repeat go_step
                          exact hQ _ _ (Grow.refl _) rfl rfl
                    refine obls_cons (fun f w' hR hH Q0 hQ0 => ?_) ?_
                    · skip
                      have s81 := (sv_at 81 14 hsz f [(81, 14), (82, 15), (75, 8)] rfl).trans (show f 14 = _ from hH.get 0 (81, 14) rfl)
                      have s82 := (sv_at 82 15 hsz f [(81, 14), (82, 15), (75, 8)] rfl).trans (show f 15 = _ from hH.get 1 (82, 15) rfl)
                      have s75 := (sv_at 75 8 hsz f [(81, 14), (82, 15), (75, 8)] rfl).trans (show f 8 = _ from hH.get 2 (75, 8) rfl)
                      first
                        | exact skip_v hsz rfl ((wanted_some (b := true) rfl rfl s75).trans rfl) hQ0 (Grow.refl _) rfl
                        | exact skip_v hsz rfl (wanted_undef rfl rfl s75) hQ0 (Grow.refl _) rfl
                        | refine small_v hsz [(81, _), (82, _)] ⟨some 2, (Op.indexAddr 23 (.tmp 0) (.tmp 1)), 0, "", #[], none⟩ [_, _, undef] 2 rfl ((wanted_some (b := false) rfl rfl s75).trans rfl) ⟨s81, s82, trivial⟩ rfl rfl hQ0 ?_
                          clear hQ0 hH s81 s82 s75
                          intro Q hQ
                          repeat go_step
                          exact hQ _ _ (Grow.refl _) rfl rfl
                    refine obls_cons (fun f w' hR hH Q0 hQ0 => ?_) ?_
                    · skip
                      have s83 := (sv_at 83 16 hsz f [(83, 16), (75, 8)] rfl).trans (show f 16 = _ from hH.get 0 (83, 16) rfl)
                      have s75 := (sv_at 75 8 hsz f [(83, 16), (75, 8)] rfl).trans (show f 8 = _ from hH.get 1 (75, 8) rfl)
                      first
                        | exact skip_v hsz rfl ((wanted_some (b := true) rfl rfl s75).trans rfl) hQ0 (Grow.refl _) rfl
                        | exact skip_v hsz rfl (wanted_undef rfl rfl s75) hQ0 (Grow.refl _) rfl
                        | refine small_v hsz [(83, _)] ⟨some 1, (Op.load 3 (.tmp 0)), 3, "", #[], none⟩ [_, undef] 1 rfl ((wanted_some (b := false) rfl rfl s75).trans rfl) ⟨s83, trivial⟩ rfl rfl hQ0 ?_
                          clear hQ0 hH s83 s75
                          intro Q hQ
                          repeat go_step
                          exact hQ _ _ (Grow.refl _) rfl rfl
                    refine obls_cons (fun f w' hR hH Q0 hQ0 => ?_) ?_
                    · skip
                      have s80 := (sv_at 80 13 hsz f [(80, 13), (84, 17), (75, 8)] rfl).trans (show f 13 = _ from hH.get 0 (80, 13) rfl)
                      have s84 := (sv_at 84 17 hsz f [(80, 13), (84, 17), (75, 8)] rfl).trans (show f 17 = _ from hH.get 1 (84, 17) rfl)
                      have s75 := (sv_at 75 8 hsz f [(80, 13), (84, 17), (75, 8)] rfl).trans (show f 8 = _ from hH.get 2 (75, 8) rfl)
                      first
                        | exact skip_v hsz rfl ((wanted_some (b := true) rfl rfl s75).trans rfl) hQ0 (Grow.refl _) rfl
                        | exact skip_v hsz rfl (wanted_undef rfl rfl s75) hQ0 (Grow.refl _) rfl
                        | refine small_v hsz [(80, _), (84, _)] ⟨some 2, (Op.binOp BinOp.neq 3 (.tmp 0) (.tmp 1) 3), 4, "", #[], none⟩ [_, _, undef] 2 rfl ((wanted_some (b := false) rfl rfl s75).trans rfl) ⟨s80, s84, trivial⟩ rfl rfl hQ0 ?_
                          clear hQ0 hH s80 s84 s75
                          intro Q hQ
                          repeat go_step
                          exact hQ _ _ (Grow.refl _) rfl rfl
                    refine obls_cons (fun f w' hR hH Q0 hQ0 => ?_) ?_
                    · skip
                      have s75 := (sv_at 75 8 hsz f [(75, 8), (85, 18), (68, 1)] rfl).trans (show f 8 = _ from hH.get 0 (75, 8) rfl)
                      have s85 := (sv_at 85 18 hsz f [(75, 8), (85, 18), (68, 1)] rfl).trans (show f 18 = _ from hH.get 1 (85, 18) rfl)
                      have s68 := (sv_at 68 1 hsz f [(75, 8), (85, 18), (68, 1)] rfl).trans (show f 1 = _ from hH.get 2 (68, 1) rfl)
                      first
                        | exact skip_v hsz rfl ((wanted_some (b := false) rfl rfl s68).trans rfl) hQ0 (Grow.refl _) rfl
                        | exact skip_v hsz rfl (wanted_undef rfl rfl s68) hQ0 (Grow.refl _) rfl
                        | refine small_v hsz [(75, _), (85, _)] ⟨some 2, (Op.pick (.tmp 0) (Operand.const (Value.bool true)) (.tmp 1)), 4, "", #[], none⟩ [_, _, undef] 2 rfl ((wanted_some (b := true) rfl rfl s68).trans rfl) ⟨s75, s85, trivial⟩ rfl rfl hQ0 ?_
                          clear hQ0 hH s75 s85 s68
                          intro Q hQ
                          repeat go_step
                          exact hQ _ _ (Grow.refl _) rfl rfl
                    refine obls_cons (fun f w' hR hH Q0 hQ0 => ?_) ?_
                    · skip
                      have s68 := (sv_at 68 1 hsz f [(68, 1), (86, 19)] rfl).trans (show f 1 = _ from hH.get 0 (68, 1) rfl)
                      have s86 := (sv_at 86 19 hsz f [(68, 1), (86, 19)] rfl).trans (show f 19 = _ from hH.get 1 (86, 19) rfl)
                      refine small_v hsz [(68, _), (86, _)] ⟨some 2, (Op.pick (.tmp 0) (.tmp 1) (Operand.const (Value.bool false))), 4, "", #[], none⟩ [_, _, undef] 2 rfl rfl ⟨s68, s86, trivial⟩ rfl rfl hQ0 ?_
                      clear hQ0 hH s68 s86
                      intro Q hQ
                      repeat go_step
                      exact hQ _ _ (Grow.refl _) rfl rfl
                    exact obls_nil
                  case mono => exact ⟨Mono.veq _, Mono.veq _, Mono.veq _, Mono.veq _, Mono.veq _, Mono.veq _, Mono.veq _, Mono.veq _, Mono.veq _, Mono.veq _, Mono.veq _, Mono.veq _, Mono.veq _, Mono.veq _, Mono.veq _, Mono.veq _, Mono.veq _, Mono.veq _, Mono.veq _, Mono.veq _, Mono.veq _, trivial⟩
                  case tail =>
                    intro f w' hR hH
                    have q20 := hH.get 20 (87, 20) rfl
                    clear hH
                    refine wpList_merge (idx := [none, none, none, none, none, none, none, none, none, none, none, none, none, none, none, none, none, none, none, none, none, none, none, none, none, none, none, none, none, none, none, none, none, none, none, none, none, none, none, none, none, none, none, none, none, none, none, none, none, none, none, none, none, none, none, none, none, none, none, none, none, none, none, none, none, none, none, some 0, some 1, some 2, some 3, some 4, some 5, some 6, some 7, some 8, some 9, some 10, some 11, some 12, some 13, some 14, some 15, some 16, some 17, some 18, some 19, some 20, none, none, none, none, none, none, none, none, none, none, none, none]) (by kernel_rfl) ?_; show wpList _ _ _ [] ⟨#[_, _, _, _, _, _, _, _, _, _, _, _, _, _, _, _, _, _, _, _, _, _, _, _, _, _, _, _, _, _, _, _, _, _, _, _, _, _, _, _, _, _, _, _, _, _, _, _, _, _, _, _, _, _, _, _, _, _, _, _, _, _, _, _, _, _, _, f 0, f 1, f 2, f 3, f 4, f 5, f 6, f 7, f 8, f 9, f 10, f 11, f 12, f 13, f 14, f 15, f 16, f 17, f 18, f 19, f 20, _, _, _, _, _, _, _, _, _, _, _, _], _⟩ _
                    rw [show f 20 = _ from q20]
                    clear q20
                    have HG9 := Lib.hid (HG.out.trans hR)
                    clear hR
                    go_wp2_with fail
                    go_roundw
                    case rel => exact ⟨j + 1, by have := HJ.out; omega, by go_num, HG9.out⟩
                    case measure => have := HJ.out; simp [intOf] <;> omega
                · obtain rfl : j = nb := by omega
                  have tj : decide (j < j) = false := decide_eq_false hlj
                  clear hj hlj
                  go_wp2_with fail
                  refine (works_any wr).mono ?_
                  rintro e w9 ⟨rfl, hg9⟩
                  have HG9 := Lib.hid (HG.out.trans hg9)
                  clear hg9
                  go_wp2_with fail
                  go_ret
                  exact ⟨rfl, HG9.out⟩
            · have hod0 : od = 0 := beq_iff_eq.1 HODA.out
              subst hod0
              have htl : ts = l.map line := HBAL.out rfl
              have hnbi : nb = i := by rw [hnbe, htl, List.length_map]; exact HLL.out
              subst hnbi
              have HTL := Lib.hid htl
              have HQS := Lib.hid hqs
              clear htv hg4 hqs hnb hmb hrec hnbe hod htl
              rw [show ((0 : Nat) : Int) = 0 from rfl] at HOD
              go_wp2_with fail
              refine HOD.out.mono ?_
              rintro e w5 ⟨rfl, hg5⟩
              have HG5 := Lib.hid hg5
              clear hg5
              go_wp2_with fail
              go_loopw [12] (fun j' wr => ∃ j : Nat, j ≤ nb ∧ j' = .int .i64 (j : Int) ∧ Grow w5 wr) (fun j' _ => nb - (intOf j').toNat)
              case atStart => exact ⟨0, by omega, rfl, Grow.refl _⟩
              case round =>
                obtain ⟨j, hj, rfl, hg⟩ := hrel
                have HG := Lib.hid hg
                have HGG := Lib.hid ((HG4.out.trans HG5.out).trans hg)
                by_cases hlj : j < nb
                · have tj : decide (j < nb) = true := decide_eq_true hlj
                  have tj' : decide ((j : Int) < (nb : Int)) = true := decide_eq_true (by omega)
                  obtain ⟨b, off, q, rfl, hq, hcs⟩ := HREC.out.at_ (by decide) hlj
                  obtain ⟨bl, offl, z, rfl, hz, hcz, -⟩ := HL.out.at_ hlj
                  have hqt : q.1 = line z := by
                    have h9 : ts[j]? = some q.1 := by rw [HQS.out, List.getElem?_map, hq]; rfl
                    rw [HTL.out, List.getElem?_map, hz] at h9
                    exact (Option.some.inj h9).symm
                  have c0 := (HG5.out.trans hg).cell (hcs 0 _ rfl)
                  have c1 := (HG5.out.trans hg).cell (hcs 1 _ rfl)
                  rw [hqt] at c0 c1
                  rw [Nat.add_zero] at c0
                  have HC0 : Hid (wr.cell? ⟨b, off + j * 3, none⟩ = some (.int .i64 1)) := Lib.hid c0
                  have HC1 : Hid (wr.cell? ⟨b, off + j * 3 + 1, none⟩ = some (.int .i64 z)) := Lib.hid c1
                  have HC2 := Lib.hid (HGG.out.cell hcz)
                  have tz : (z == z) = true := beq_self_eq_true _
                  have tz2 : (z != z) = false := by unfold bne; rw [tz]; rfl
                  have HJ := Lib.hid hlj
                  have hj9 : j < nb := hlj
                  clear hj hlj hq hcs hz hcz hqt c0 c1 hg
                  go_wp2_with fail
                  apply (fun (v0 v1 v2 v3 v4 v5 v6 v7 v8 v9 v10 v11 v12 v13 v14 v15 v16 v17 v18 v19 v20 : Value) mono obl tail => wp_region_par (R := Grow) (Φ := phi [veq v0, veq v1, veq v2, veq v3, veq v4, veq v5, veq v6, veq v7, veq v8, veq v9, veq v10, veq v11, veq v12, veq v13, veq v14, veq v15, veq v16, veq v17, veq v18, veq v19, veq v20]) (m := 21) (dls := [[], [(67, 0)], [(68, 1)], [(68, 1)], [(69, 2), (70, 3), (68, 1)], [(71, 4), (68, 1)], [(72, 5), (68, 1)], [(73, 6), (68, 1)], [(74, 7), (68, 1)], [(75, 8)], [(75, 8)], [(76, 9), (77, 10), (75, 8)], [(78, 11), (75, 8)], [(79, 12), (75, 8)], [(75, 8)], [(75, 8)], [(81, 14), (82, 15), (75, 8)], [(83, 16), (75, 8)], [(80, 13), (84, 17), (75, 8)], [(75, 8), (85, 18), (68, 1)], [(68, 1), (86, 19)]]) (ds := [67, 68, 69, 70, 71, 72, 73, 74, 75, 76, 77, 78, 79, 80, 81, 82, 83, 84, 85, 86, 87]) (by kernel_rfl) (by kernel_rfl) (by decide) rfl (Grow.drew _) (fun _ _ _ => Grow.trans) (mono_phi mono) obl tail)
                  case obl =>
                    refine obls_frame (fun a1 ha => ?_)
                    have hsz := rd_size (n := 100) ha rfl
                    have e8 := rd_slot 8 ha rfl
                    have e11 := rd_slot 11 ha rfl
                    have e12 := rd_slot 12 ha rfl
                    have e2 := rd_slot 2 ha rfl
                    clear ha
                    refine obls_cons (fun f w' hR hH Q0 hQ0 => ?_) ?_
                    · skip
                      have s8 := sv_off f [] e8 rfl
                      refine small_v hsz [(8, _)] ⟨some 1, (Op.move (.tmp 0)), 4, "", #[], none⟩ [_, undef] 1 rfl rfl ⟨s8, trivial⟩ rfl rfl hQ0 ?_
                      clear hQ0 hH s8
                      intro Q hQ
                      repeat go_step
                      exact hQ _ _ (Grow.refl _) rfl rfl
                    refine obls_cons (fun f w' hR hH Q0 hQ0 => ?_) ?_
                    · skip
                      have s67 := (sv_at 67 0 hsz f [(67, 0)] rfl).trans (show f 0 = _ from hH.get 0 (67, 0) rfl)
                      refine small_v hsz [(67, _)] ⟨some 1, (Op.move (.tmp 0)), 4, "", #[], none⟩ [_, undef] 1 rfl rfl ⟨s67, trivial⟩ rfl rfl hQ0 ?_
                      clear hQ0 hH s67
                      intro Q hQ
                      repeat go_step
                      exact hQ _ _ (Grow.refl _) rfl rfl
                    refine obls_cons (fun f w' hR hH Q0 hQ0 => ?_) ?_
                    · skip
                      have s11 := sv_off f [(68, 1)] e11 rfl
                      have s68 := (sv_at 68 1 hsz f [(68, 1)] rfl).trans (show f 1 = _ from hH.get 0 (68, 1) rfl)
                      first
                        | exact skip_v hsz rfl ((wanted_some (b := false) rfl rfl s68).trans rfl) hQ0 (Grow.refl _) rfl
                        | exact skip_v hsz rfl (wanted_undef rfl rfl s68) hQ0 (Grow.refl _) rfl
                        | refine small_v hsz [(11, _)] ⟨some 1, (Op.move (.tmp 0)), 30, "", #[], none⟩ [_, undef] 1 rfl ((wanted_some (b := true) rfl rfl s68).trans rfl) ⟨s11, trivial⟩ rfl rfl hQ0 ?_
                          clear hQ0 hH s11 s68
                          intro Q hQ
                          repeat go_step
                          exact hQ _ _ (Grow.refl _) rfl rfl
                    refine obls_cons (fun f w' hR hH Q0 hQ0 => ?_) ?_
                    · skip
                      have s12 := sv_off f [(68, 1)] e12 rfl
                      have s68 := (sv_at 68 1 hsz f [(68, 1)] rfl).trans (show f 1 = _ from hH.get 0 (68, 1) rfl)
                      first
                        | exact skip_v hsz rfl ((wanted_some (b := false) rfl rfl s68).trans rfl) hQ0 (Grow.refl _) rfl
                        | exact skip_v hsz rfl (wanted_undef rfl rfl s68) hQ0 (Grow.refl _) rfl
                        | refine small_v hsz [(12, _)] ⟨some 1, (Op.move (.tmp 0)), 3, "", #[], none⟩ [_, undef] 1 rfl ((wanted_some (b := true) rfl rfl s68).trans rfl) ⟨s12, trivial⟩ rfl rfl hQ0 ?_
                          clear hQ0 hH s12 s68
                          intro Q hQ
                          repeat go_step
                          exact hQ _ _ (Grow.refl _) rfl rfl
                    refine obls_cons (fun f w' hR hH Q0 hQ0 => ?_) ?_
                    · skip
                      have s69 := (sv_at 69 2 hsz f [(69, 2), (70, 3), (68, 1)] rfl).trans (show f 2 = _ from hH.get 0 (69, 2) rfl)
                      have s70 := (sv_at 70 3 hsz f [(69, 2), (70, 3), (68, 1)] rfl).trans (show f 3 = _ from hH.get 1 (70, 3) rfl)
                      have s68 := (sv_at 68 1 hsz f [(69, 2), (70, 3), (68, 1)] rfl).trans (show f 1 = _ from hH.get 2 (68, 1) rfl)
                      first
                        | exact skip_v hsz rfl ((wanted_some (b := false) rfl rfl s68).trans rfl) hQ0 (Grow.refl _) rfl
                        | exact skip_v hsz rfl (wanted_undef rfl rfl s68) hQ0 (Grow.refl _) rfl
                        | refine small_v hsz [(69, _), (70, _)] ⟨some 2, (Op.indexAddr 30 (.tmp 0) (.tmp 1)), 0, "", #[], none⟩ [_, _, undef] 2 rfl ((wanted_some (b := true) rfl rfl s68).trans rfl) ⟨s69, s70, trivial⟩ rfl rfl hQ0 ?_
                          clear hQ0 hH s69 s70 s68
                          intro Q hQ
                          have hlj := HJ.out
                          repeat go_step
                          exact hQ _ _ (Grow.refl _) rfl rfl
                    refine obls_cons (fun f w' hR hH Q0 hQ0 => ?_) ?_
                    · skip
                      have s71 := (sv_at 71 4 hsz f [(71, 4), (68, 1)] rfl).trans (show f 4 = _ from hH.get 0 (71, 4) rfl)
                      have s68 := (sv_at 68 1 hsz f [(71, 4), (68, 1)] rfl).trans (show f 1 = _ from hH.get 1 (68, 1) rfl)
                      first
                        | exact skip_v hsz rfl ((wanted_some (b := false) rfl rfl s68).trans rfl) hQ0 (Grow.refl _) rfl
                        | exact skip_v hsz rfl (wanted_undef rfl rfl s68) hQ0 (Grow.refl _) rfl
                        | refine small_v hsz [(71, _)] ⟨some 1, (Op.fieldAddr 43 (.tmp 0) 0), 0, "", #[], none⟩ [_, undef] 1 rfl ((wanted_some (b := true) rfl rfl s68).trans rfl) ⟨s71, trivial⟩ rfl rfl hQ0 ?_
                          clear hQ0 hH s71 s68
                          intro Q hQ
                          repeat go_step
                          exact hQ _ _ (Grow.refl _) rfl rfl
                    refine obls_cons (fun f w' hR hH Q0 hQ0 => ?_) ?_
                    · skip
                      have s72 := (sv_at 72 5 hsz f [(72, 5), (68, 1)] rfl).trans (show f 5 = _ from hH.get 0 (72, 5) rfl)
                      have s68 := (sv_at 68 1 hsz f [(72, 5), (68, 1)] rfl).trans (show f 1 = _ from hH.get 1 (68, 1) rfl)
                      first
                        | exact skip_v hsz rfl ((wanted_some (b := false) rfl rfl s68).trans rfl) hQ0 (Grow.refl _) rfl
                        | exact skip_v hsz rfl (wanted_undef rfl rfl s68) hQ0 (Grow.refl _) rfl
                        | refine small_v hsz [(72, _)] ⟨some 1, (Op.load 3 (.tmp 0)), 3, "", #[], none⟩ [_, undef] 1 rfl ((wanted_some (b := true) rfl rfl s68).trans rfl) ⟨s72, trivial⟩ rfl rfl hQ0 ?_
                          clear hQ0 hH s72 s68
                          intro Q hQ
                          have y0 := hR.cell HC0.out
                          repeat go_step
                          exact hQ _ _ (Grow.refl _) rfl rfl
                    refine obls_cons (fun f w' hR hH Q0 hQ0 => ?_) ?_
                    · skip
                      have s73 := (sv_at 73 6 hsz f [(73, 6), (68, 1)] rfl).trans (show f 6 = _ from hH.get 0 (73, 6) rfl)
                      have s68 := (sv_at 68 1 hsz f [(73, 6), (68, 1)] rfl).trans (show f 1 = _ from hH.get 1 (68, 1) rfl)
                      first
                        | exact skip_v hsz rfl ((wanted_some (b := false) rfl rfl s68).trans rfl) hQ0 (Grow.refl _) rfl
                        | exact skip_v hsz rfl (wanted_undef rfl rfl s68) hQ0 (Grow.refl _) rfl
                        | refine small_v hsz [(73, _)] ⟨some 1, (Op.binOp BinOp.neq 3 (.tmp 0) (Operand.const (Value.int IntKind.i64 1)) 3), 4, "", #[], none⟩ [_, undef] 1 rfl ((wanted_some (b := true) rfl rfl s68).trans rfl) ⟨s73, trivial⟩ rfl rfl hQ0 ?_
                          clear hQ0 hH s73 s68
                          intro Q hQ
                          repeat go_step
                          exact hQ _ _ (Grow.refl _) rfl rfl
                    refine obls_cons (fun f w' hR hH Q0 hQ0 => ?_) ?_
                    · skip
                      have s74 := (sv_at 74 7 hsz f [(74, 7), (68, 1)] rfl).trans (show f 7 = _ from hH.get 0 (74, 7) rfl)
                      have s68 := (sv_at 68 1 hsz f [(74, 7), (68, 1)] rfl).trans (show f 1 = _ from hH.get 1 (68, 1) rfl)
                      first
                        | exact skip_v hsz rfl ((wanted_some (b := false) rfl rfl s68).trans rfl) hQ0 (Grow.refl _) rfl
                        | exact skip_v hsz rfl (wanted_undef rfl rfl s68) hQ0 (Grow.refl _) rfl
                        | refine small_v hsz [(74, _)] ⟨some 1, (Op.move (.tmp 0)), 4, "", #[], none⟩ [_, undef] 1 rfl ((wanted_some (b := true) rfl rfl s68).trans rfl) ⟨s74, trivial⟩ rfl rfl hQ0 ?_
                          clear hQ0 hH s74 s68
                          intro Q hQ
                          repeat go_step
                          exact hQ _ _ (Grow.refl _) rfl rfl
                    refine obls_cons (fun f w' hR hH Q0 hQ0 => ?_) ?_
                    · skip
                      have s11 := sv_off f [(75, 8)] e11 rfl
                      have s75 := (sv_at 75 8 hsz f [(75, 8)] rfl).trans (show f 8 = _ from hH.get 0 (75, 8) rfl)
                      first
                        | exact skip_v hsz rfl ((wanted_some (b := true) rfl rfl s75).trans rfl) hQ0 (Grow.refl _) rfl
                        | exact skip_v hsz rfl (wanted_undef rfl rfl s75) hQ0 (Grow.refl _) rfl
                        | refine small_v hsz [(11, _)] ⟨some 1, (Op.move (.tmp 0)), 30, "", #[], none⟩ [_, undef] 1 rfl ((wanted_some (b := false) rfl rfl s75).trans rfl) ⟨s11, trivial⟩ rfl rfl hQ0 ?_
                          clear hQ0 hH s11 s75
                          intro Q hQ
                          repeat go_step
                          exact hQ _ _ (Grow.refl _) rfl rfl
                    refine obls_cons (fun f w' hR hH Q0 hQ0 => ?_) ?_
                    · skip
                      have s12 := sv_off f [(75, 8)] e12 rfl
                      have s75 := (sv_at 75 8 hsz f [(75, 8)] rfl).trans (show f 8 = _ from hH.get 0 (75, 8) rfl)
                      first
                        | exact skip_v hsz rfl ((wanted_some (b := true) rfl rfl s75).trans rfl) hQ0 (Grow.refl _) rfl
                        | exact skip_v hsz rfl (wanted_undef rfl rfl s75) hQ0 (Grow.refl _) rfl
                        | refine small_v hsz [(12, _)] ⟨some 1, (Op.move (.tmp 0)), 3, "", #[], none⟩ [_, undef] 1 rfl ((wanted_some (b := false) rfl rfl s75).trans rfl) ⟨s12, trivial⟩ rfl rfl hQ0 ?_
                          clear hQ0 hH s12 s75
                          intro Q hQ
                          repeat go_step
                          exact hQ _ _ (Grow.refl _) rfl rfl
                    refine obls_cons (fun f w' hR hH Q0 hQ0 => ?_) ?_
                    · skip
                      have s76 := (sv_at 76 9 hsz f [(76, 9), (77, 10), (75, 8)] rfl).trans (show f 9 = _ from hH.get 0 (76, 9) rfl)
                      have s77 := (sv_at 77 10 hsz f [(76, 9), (77, 10), (75, 8)] rfl).trans (show f 10 = _ from hH.get 1 (77, 10) rfl)
                      have s75 := (sv_at 75 8 hsz f [(76, 9), (77, 10), (75, 8)] rfl).trans (show f 8 = _ from hH.get 2 (75, 8) rfl)
                      first
                        | exact skip_v hsz rfl ((wanted_some (b := true) rfl rfl s75).trans rfl) hQ0 (Grow.refl _) rfl
                        | exact skip_v hsz rfl (wanted_undef rfl rfl s75) hQ0 (Grow.refl _) rfl
                        | refine small_v hsz [(76, _), (77, _)] ⟨some 2, (Op.indexAddr 30 (.tmp 0) (.tmp 1)), 0, "", #[], none⟩ [_, _, undef] 2 rfl ((wanted_some (b := false) rfl rfl s75).trans rfl) ⟨s76, s77, trivial⟩ rfl rfl hQ0 ?_
                          clear hQ0 hH s76 s77 s75
                          intro Q hQ
                          have hlj := HJ.out
                          repeat go_step
                          exact hQ _ _ (Grow.refl _) rfl rfl
                    refine obls_cons (fun f w' hR hH Q0 hQ0 => ?_) ?_
                    · skip
                      have s78 := (sv_at 78 11 hsz f [(78, 11), (75, 8)] rfl).trans (show f 11 = _ from hH.get 0 (78, 11) rfl)
                      have s75 := (sv_at 75 8 hsz f [(78, 11), (75, 8)] rfl).trans (show f 8 = _ from hH.get 1 (75, 8) rfl)
                      first
                        | exact skip_v hsz rfl ((wanted_some (b := true) rfl rfl s75).trans rfl) hQ0 (Grow.refl _) rfl
                        | exact skip_v hsz rfl (wanted_undef rfl rfl s75) hQ0 (Grow.refl _) rfl
                        | refine small_v hsz [(78, _)] ⟨some 1, (Op.fieldAddr 43 (.tmp 0) 1), 0, "", #[], none⟩ [_, undef] 1 rfl ((wanted_some (b := false) rfl rfl s75).trans rfl) ⟨s78, trivial⟩ rfl rfl hQ0 ?_
                          clear hQ0 hH s78 s75
                          intro Q hQ
                          repeat go_step
                          exact hQ _ _ (Grow.refl _) rfl rfl
                    refine obls_cons (fun f w' hR hH Q0 hQ0 => ?_) ?_
                    · skip
                      have s79 := (sv_at 79 12 hsz f [(79, 12), (75, 8)] rfl).trans (show f 12 = _ from hH.get 0 (79, 12) rfl)
                      have s75 := (sv_at 75 8 hsz f [(79, 12), (75, 8)] rfl).trans (show f 8 = _ from hH.get 1 (75, 8) rfl)
                      first
                        | exact skip_v hsz rfl ((wanted_some (b := true) rfl rfl s75).trans rfl) hQ0 (Grow.refl _) rfl
                        | exact skip_v hsz rfl (wanted_undef rfl rfl s75) hQ0 (Grow.refl _) rfl
                        | refine small_v hsz [(79, _)] ⟨some 1, (Op.load 3 (.tmp 0)), 3, "", #[], none⟩ [_, undef] 1 rfl ((wanted_some (b := false) rfl rfl s75).trans rfl) ⟨s79, trivial⟩ rfl rfl hQ0 ?_
                          clear hQ0 hH s79 s75
                          intro Q hQ
                          have y1 := hR.cell HC1.out
                          repeat go_step
                          exact hQ _ _ (Grow.refl _) rfl rfl
                    refine obls_cons (fun f w' hR hH Q0 hQ0 => ?_) ?_
                    · skip
                      have s2 := sv_off f [(75, 8)] e2 rfl
                      have s75 := (sv_at 75 8 hsz f [(75, 8)] rfl).trans (show f 8 = _ from hH.get 0 (75, 8) rfl)
                      first
                        | exact skip_v hsz rfl ((wanted_some (b := true) rfl rfl s75).trans rfl) hQ0 (Grow.refl _) rfl
                        | exact skip_v hsz rfl (wanted_undef rfl rfl s75) hQ0 (Grow.refl _) rfl
                        | refine small_v hsz [(2, _)] ⟨some 1, (Op.move (.tmp 0)), 23, "", #[], none⟩ [_, undef] 1 rfl ((wanted_some (b := false) rfl rfl s75).trans rfl) ⟨s2, trivial⟩ rfl rfl hQ0 ?_
                          clear hQ0 hH s2 s75
                          intro Q hQ
                          repeat go_step
                          exact hQ _ _ (Grow.refl _) rfl rfl
                    refine obls_cons (fun f w' hR hH Q0 hQ0 => ?_) ?_
                    · skip
                      have s12 := sv_off f [(75, 8)] e12 rfl
                      have s75 := (sv_at 75 8 hsz f [(75, 8)] rfl).trans (show f 8 = _ from hH.get 0 (75, 8) rfl)
                      first
                        | exact skip_v hsz rfl ((wanted_some (b := true) rfl rfl s75).trans rfl) hQ0 (Grow.refl _) rfl
                        | exact skip_v hsz rfl (wanted_undef rfl rfl s75) hQ0 (Grow.refl _) rfl
                        | refine small_v hsz [(12, _)] ⟨some 1, (Op.move (.tmp 0)), 3, "", #[], none⟩ [_, undef] 1 rfl ((wanted_some (b := false) rfl rfl s75).trans rfl) ⟨s12, trivial⟩ rfl rfl hQ0 ?_
                          clear hQ0 hH s12 s75
                          intro Q hQ
                          repeat go_step
                          exact hQ _ _ (Grow.refl _) rfl rfl
                    refine obls_cons (fun f w' hR hH Q0 hQ0 => ?_) ?_
                    · skip
                      have s81 := (sv_at 81 14 hsz f [(81, 14), (82, 15), (75, 8)] rfl).trans (show f 14 = _ from hH.get 0 (81, 14) rfl)
                      have s82 := (sv_at 82 15 hsz f [(81, 14), (82, 15), (75, 8)] rfl).trans (show f 15 = _ from hH.get 1 (82, 15) rfl)
                      have s75 := (sv_at 75 8 hsz f [(81, 14), (82, 15), (75, 8)] rfl).trans (show f 8 = _ from hH.get 2 (75, 8) rfl)
                      first
                        | exact skip_v hsz rfl ((wanted_some (b := true) rfl rfl s75).trans rfl) hQ0 (Grow.refl _) rfl
                        | exact skip_v hsz rfl (wanted_undef rfl rfl s75) hQ0 (Grow.refl _) rfl
                        | refine small_v hsz [(81, _), (82, _)] ⟨some 2, (Op.indexAddr 23 (.tmp 0) (.tmp 1)), 0, "", #[], none⟩ [_, _, undef] 2 rfl ((wanted_some (b := false) rfl rfl s75).trans rfl) ⟨s81, s82, trivial⟩ rfl rfl hQ0 ?_
                          clear hQ0 hH s81 s82 s75
                          intro Q hQ
                          have hlj := HJ.out
                          repeat go_step
                          exact hQ _ _ (Grow.refl _) rfl rfl
                    refine obls_cons (fun f w' hR hH Q0 hQ0 => ?_) ?_
                    · skip
                      have s83 := (sv_at 83 16 hsz f [(83, 16), (75, 8)] rfl).trans (show f 16 = _ from hH.get 0 (83, 16) rfl)
                      have s75 := (sv_at 75 8 hsz f [(83, 16), (75, 8)] rfl).trans (show f 8 = _ from hH.get 1 (75, 8) rfl)
                      first
                        | exact skip_v hsz rfl ((wanted_some (b := true) rfl rfl s75).trans rfl) hQ0 (Grow.refl _) rfl
                        | exact skip_v hsz rfl (wanted_undef rfl rfl s75) hQ0 (Grow.refl _) rfl
                        | refine small_v hsz [(83, _)] ⟨some 1, (Op.load 3 (.tmp 0)), 3, "", #[], none⟩ [_, undef] 1 rfl ((wanted_some (b := false) rfl rfl s75).trans rfl) ⟨s83, trivial⟩ rfl rfl hQ0 ?_
                          clear hQ0 hH s83 s75
                          intro Q hQ
                          have y2 := hR.cell HC2.out
                          repeat go_step
                          exact hQ _ _ (Grow.refl _) rfl rfl
                    refine obls_cons (fun f w' hR hH Q0 hQ0 => ?_) ?_
                    · skip
                      have s80 := (sv_at 80 13 hsz f [(80, 13), (84, 17), (75, 8)] rfl).trans (show f 13 = _ from hH.get 0 (80, 13) rfl)
                      have s84 := (sv_at 84 17 hsz f [(80, 13), (84, 17), (75, 8)] rfl).trans (show f 17 = _ from hH.get 1 (84, 17) rfl)
                      have s75 := (sv_at 75 8 hsz f [(80, 13), (84, 17), (75, 8)] rfl).trans (show f 8 = _ from hH.get 2 (75, 8) rfl)
                      first
                        | exact skip_v hsz rfl ((wanted_some (b := true) rfl rfl s75).trans rfl) hQ0 (Grow.refl _) rfl
                        | exact skip_v hsz rfl (wanted_undef rfl rfl s75) hQ0 (Grow.refl _) rfl
                        | refine small_v hsz [(80, _), (84, _)] ⟨some 2, (Op.binOp BinOp.neq 3 (.tmp 0) (.tmp 1) 3), 4, "", #[], none⟩ [_, _, undef] 2 rfl ((wanted_some (b := false) rfl rfl s75).trans rfl) ⟨s80, s84, trivial⟩ rfl rfl hQ0 ?_
                          clear hQ0 hH s80 s84 s75
                          intro Q hQ
                          repeat go_step
                          exact hQ _ _ (Grow.refl _) rfl rfl
                    refine obls_cons (fun f w' hR hH Q0 hQ0 => ?_) ?_
                    · skip
                      have s75 := (sv_at 75 8 hsz f [(75, 8), (85, 18), (68, 1)] rfl).trans (show f 8 = _ from hH.get 0 (75, 8) rfl)
                      have s85 := (sv_at 85 18 hsz f [(75, 8), (85, 18), (68, 1)] rfl).trans (show f 18 = _ from hH.get 1 (85, 18) rfl)
                      have s68 := (sv_at 68 1 hsz f [(75, 8), (85, 18), (68, 1)] rfl).trans (show f 1 = _ from hH.get 2 (68, 1) rfl)
                      first
                        | exact skip_v hsz rfl ((wanted_some (b := false) rfl rfl s68).trans rfl) hQ0 (Grow.refl _) rfl
                        | exact skip_v hsz rfl (wanted_undef rfl rfl s68) hQ0 (Grow.refl _) rfl
                        | refine small_v hsz [(75, _), (85, _)] ⟨some 2, (Op.pick (.tmp 0) (Operand.const (Value.bool true)) (.tmp 1)), 4, "", #[], none⟩ [_, _, undef] 2 rfl ((wanted_some (b := true) rfl rfl s68).trans rfl) ⟨s75, s85, trivial⟩ rfl rfl hQ0 ?_
                          clear hQ0 hH s75 s85 s68
                          intro Q hQ
                          repeat go_step
                          exact hQ _ _ (Grow.refl _) rfl rfl
                    refine obls_cons (fun f w' hR hH Q0 hQ0 => ?_) ?_
                    · skip
                      have s68 := (sv_at 68 1 hsz f [(68, 1), (86, 19)] rfl).trans (show f 1 = _ from hH.get 0 (68, 1) rfl)
                      have s86 := (sv_at 86 19 hsz f [(68, 1), (86, 19)] rfl).trans (show f 19 = _ from hH.get 1 (86, 19) rfl)
                      refine small_v hsz [(68, _), (86, _)] ⟨some 2, (Op.pick (.tmp 0) (.tmp 1) (Operand.const (Value.bool false))), 4, "", #[], none⟩ [_, _, undef] 2 rfl rfl ⟨s68, s86, trivial⟩ rfl rfl hQ0 ?_
                      clear hQ0 hH s68 s86
                      intro Q hQ
                      repeat go_step
                      exact hQ _ _ (Grow.refl _) rfl rfl
                    exact obls_nil
                  case mono => exact ⟨Mono.veq _, Mono.veq _, Mono.veq _, Mono.veq _, Mono.veq _, Mono.veq _, Mono.veq _, Mono.veq _, Mono.veq _, Mono.veq _, Mono.veq _, Mono.veq _, Mono.veq _, Mono.veq _, Mono.veq _, Mono.veq _, Mono.veq _, Mono.veq _, Mono.veq _, Mono.veq _, Mono.veq _, trivial⟩
                  case tail =>
                    intro f w' hR hH
                    have q20 := hH.get 20 (87, 20) rfl
                    clear hH
                    refine wpList_merge (idx := [none, none, none, none, none, none, none, none, none, none, none, none, none, none, none, none, none, none, none, none, none, none, none, none, none, none, none, none, none, none, none, none, none, none, none, none, none, none, none, none, none, none, none, none, none, none, none, none, none, none, none, none, none, none, none, none, none, none, none, none, none, none, none, none, none, none, none, some 0, some 1, some 2, some 3, some 4, some 5, some 6, some 7, some 8, some 9, some 10, some 11, some 12, some 13, some 14, some 15, some 16, some 17, some 18, some 19, some 20, none, none, none, none, none, none, none, none, none, none, none, none]) (by kernel_rfl) ?_; show wpList _ _ _ [] ⟨#[_, _, _, _, _, _, _, _, _, _, _, _, _, _, _, _, _, _, _, _, _, _, _, _, _, _, _, _, _, _, _, _, _, _, _, _, _, _, _, _, _, _, _, _, _, _, _, _, _, _, _, _, _, _, _, _, _, _, _, _, _, _, _, _, _, _, _, f 0, f 1, f 2, f 3, f 4, f 5, f 6, f 7, f 8, f 9, f 10, f 11, f 12, f 13, f 14, f 15, f 16, f 17, f 18, f 19, f 20, _, _, _, _, _, _, _, _, _, _, _, _], _⟩ _
                    rw [show f 20 = _ from q20]
                    clear q20
                    have HG9 := Lib.hid (HG.out.trans hR)
                    clear hR
                    go_wp2_with fail
                    go_roundw
                    case rel => exact ⟨j + 1, by have := HJ.out; omega, by go_num, HG9.out⟩
                    case measure => have := HJ.out; simp [intOf] <;> omega
                · obtain rfl : j = nb := by omega
                  have tj : decide (j < j) = false := decide_eq_false hlj
                  have tq : ((j : Int) == (j : Int)) = true := beq_self_eq_true _
                  clear hj hlj hg
                  go_wp2_with fail
                  refine (works_any wr).mono ?_
                  rintro e w9 ⟨rfl, hg9⟩
                  have HG9 := Lib.hid (HGG.out.trans hg9)
                  clear hg9
                  go_wp2_with fail
                  go_ret
                  exact ⟨rfl, HG9.out⟩
end Go.Proofs.Ytbcifodifadoiaa.bk
