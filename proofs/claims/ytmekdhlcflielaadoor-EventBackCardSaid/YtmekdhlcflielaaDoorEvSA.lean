/- The walk of SameAll: a list is the same as itself. -/
import Derived.Test.YtmekdhlcflielaaDoorEvR
import Derived.Test.YtmekdhlcflielaaDoorEvN
import Derived.Test.YtmekdhlcflielaaDoorFast
namespace Go.Proofs.YtmekdhlcflielaaDoor.ev
open Go Go.RowKit Go.Par Go.Kit Go.Proofs.YtmekdhlcflielaaDoor.bfW

set_option maxRecDepth 100000 in
set_option maxHeartbeats 4000000 in
theorem sameall_any (w : World) (A1 A2 : Option Addr) (n1 n2 c1 c2 : Nat) (es : List Ev) (h1 : Evs w A1 n1 es) (h2 : Evs w A2 n2 es) (hn : n1 ≤ maxLen) :
    Calls Tryd.prog 13 #[.slice A1 n1 c1, .slice A2 n2 c2] w fun r w' => r = .returned (.bool true) ∧ Grow w w' := by
  obtain rfl : n1 = n2 := h1.1.symm.trans h2.1
  unfold maxLen at hn
  have HE1 := Lib.hid h1
  have HE2 := Lib.hid h2
  clear h1 h2
  go_enter Tryd.func13, Tryd.ntmps13
  go_wp2_with fail
  go_loopw [5] (fun i' wr => ∃ k : Nat, k ≤ n1 ∧ i' = .int .i64 (k : Int) ∧ Grow w wr) (fun i' _ => n1 - (intOf i').toNat)
  case atStart => exact ⟨0, by omega, rfl, Grow.refl _⟩
  case round =>
    obtain ⟨k, hk, rfl, hgr⟩ := hrel
    by_cases hlt : k < n1
    · obtain ⟨b, off, e, A', n', c', rfl, hx, hc, b1, b2, b3, b4⟩ := HE1.out.at_ (Grow.refl w) hlt
      obtain ⟨b', off', e', A'', n'', c'', rfl, hx', hc', -, -, b3', -⟩ := HE2.out.at_ (Grow.refl w) hlt
      obtain rfl : e = e' := Option.some.inj (hx.symm.trans hx')
      have t1 : decide (k < n1) = true := decide_eq_true hlt
      have t2 : decide ((k : Int) < (n1 : Int)) = true := decide_eq_true (by omega)
      have HS : Hid (∀ w', Grow w w' → Calls Tryd.prog 17 #[.agg #[.int .u8 (e.k : Int), .int .u8 (e.node : Int), .int .u8 (e.peer : Int), .int .i64 e.K, .int .i64 e.at_, .int .u32 (e.mask : Int), .int .u64 (e.draw : Int), .slice A' n' c'], .agg #[.int .u8 (e.k : Int), .int .u8 (e.node : Int), .int .u8 (e.peer : Int), .int .i64 e.K, .int .i64 e.at_, .int .u32 (e.mask : Int), .int .u64 (e.draw : Int), .slice A'' n'' c'']] w' fun r w9 => r = .returned (.bool true) ∧ Grow w' w9) := Lib.hid fun w' hg => by
        rw [← sameB_self e]
        exact rsame_any w' e e A' A'' n' n'' c' c'' (b3.grow hg) (b3'.grow hg)
      have HC1 := Lib.hid (fun (w' : World) (hg : Grow w w') i u hu => hg.cell (hc i u hu))
      have HC2 := Lib.hid (fun (w' : World) (hg : Grow w w') i u hu => hg.cell (hc' i u hu))
      have HG := Lib.hid hgr
      have HLT := Lib.hid hlt
      clear hx hx' hc hc' b1 b2 b3 b4 b3' hgr hk
      go_wp2_with fail
      apply (fun (v0 v1 v2 v3 v4 v5 v6 v7 v8 v9 : Value) mono obl tail => wp_region_par (R := Grow) (Φ := phi [veq v0, veq v1, veq v2, veq v3, veq v4, veq v5, veq v6, veq v7, veq v8, veq v9]) (m := 10) (dls := [[], [], [(17, 0), (18, 1)], [(19, 2)], [], [], [(21, 4), (22, 5)], [(23, 6)], [(20, 3), (24, 7)], [(25, 8)]]) (ds := [17, 18, 19, 20, 21, 22, 23, 24, 25, 26]) (by kernel_rfl) (by kernel_rfl) (by decide) rfl (Grow.drew _) (fun _ _ _ => Grow.trans) (mono_phi mono) obl tail)
      case obl =>
        refine obls_frame (fun a1 ha => ?_)
        have hsz := rd_size (n := 27) ha rfl
        have e0 := rd_slot 0 ha rfl
        have e5 := rd_slot 5 ha rfl
        have e1 := rd_slot 1 ha rfl
        clear ha
        refine obls_cons (fun f w' hR hH Q0 hQ0 => ?_) ?_
        · skip
          have s0 := sv_off f [] e0 rfl
          refine small_v hsz [(0, _)] ⟨some 1, (Op.move (.tmp 0)), 22, "", #[], none⟩ [_, undef] 1 rfl rfl ⟨s0, trivial⟩ rfl rfl hQ0 ?_
          clear hQ0 hH s0
          intro Q hQ
          repeat go_step
          exact hQ _ _ (Grow.refl _) rfl rfl
        refine obls_cons (fun f w' hR hH Q0 hQ0 => ?_) ?_
        · skip
          have s5 := sv_off f [] e5 rfl
          refine small_v hsz [(5, _)] ⟨some 1, (Op.move (.tmp 0)), 3, "", #[], none⟩ [_, undef] 1 rfl rfl ⟨s5, trivial⟩ rfl rfl hQ0 ?_
          clear hQ0 hH s5
          intro Q hQ
          repeat go_step
          exact hQ _ _ (Grow.refl _) rfl rfl
        refine obls_cons (fun f w' hR hH Q0 hQ0 => ?_) ?_
        · skip
          have s17 := (sv_at 17 0 hsz f [(17, 0), (18, 1)] rfl).trans (show f 0 = _ from hH.get 0 (17, 0) rfl)
          have s18 := (sv_at 18 1 hsz f [(17, 0), (18, 1)] rfl).trans (show f 1 = _ from hH.get 1 (18, 1) rfl)
          refine small_v hsz [(17, _), (18, _)] ⟨some 2, (Op.indexAddr 22 (.tmp 0) (.tmp 1)), 0, "", #[], none⟩ [_, _, undef] 2 rfl rfl ⟨s17, s18, trivial⟩ rfl rfl hQ0 ?_
          clear hQ0 hH s17 s18
          intro Q hQ
          repeat go_step
          exact hQ _ _ (Grow.refl _) rfl rfl
        refine obls_cons (fun f w' hR hH Q0 hQ0 => ?_) ?_
        · skip
          have s19 := (sv_at 19 2 hsz f [(19, 2)] rfl).trans (show f 2 = _ from hH.get 0 (19, 2) rfl)
          refine small_v hsz [(19, _)] ⟨some 1, (Op.load 41 (.tmp 0)), 41, "", #[], none⟩ [_, undef] 1 rfl rfl ⟨s19, trivial⟩ rfl rfl hQ0 ?_
          clear hQ0 hH s19
          intro Q hQ
          have x0 := HC1.out w' (HG.out.trans hR) 0 _ rfl
          have x1 := HC1.out w' (HG.out.trans hR) 1 _ rfl
          have x2 := HC1.out w' (HG.out.trans hR) 2 _ rfl
          have x3 := HC1.out w' (HG.out.trans hR) 3 _ rfl
          have x4 := HC1.out w' (HG.out.trans hR) 4 _ rfl
          have x5 := HC1.out w' (HG.out.trans hR) 5 _ rfl
          have x6 := HC1.out w' (HG.out.trans hR) 6 _ rfl
          have x7 := HC1.out w' (HG.out.trans hR) 7 _ rfl
          rw [Nat.add_zero] at x0
          repeat go_step
          exact hQ _ _ (Grow.refl _) rfl rfl
        refine obls_cons (fun f w' hR hH Q0 hQ0 => ?_) ?_
        · skip
          have s1 := sv_off f [] e1 rfl
          refine small_v hsz [(1, _)] ⟨some 1, (Op.move (.tmp 0)), 22, "", #[], none⟩ [_, undef] 1 rfl rfl ⟨s1, trivial⟩ rfl rfl hQ0 ?_
          clear hQ0 hH s1
          intro Q hQ
          repeat go_step
          exact hQ _ _ (Grow.refl _) rfl rfl
        refine obls_cons (fun f w' hR hH Q0 hQ0 => ?_) ?_
        · skip
          have s5 := sv_off f [] e5 rfl
          refine small_v hsz [(5, _)] ⟨some 1, (Op.move (.tmp 0)), 3, "", #[], none⟩ [_, undef] 1 rfl rfl ⟨s5, trivial⟩ rfl rfl hQ0 ?_
          clear hQ0 hH s5
          intro Q hQ
          repeat go_step
          exact hQ _ _ (Grow.refl _) rfl rfl
        refine obls_cons (fun f w' hR hH Q0 hQ0 => ?_) ?_
        · skip
          have s21 := (sv_at 21 4 hsz f [(21, 4), (22, 5)] rfl).trans (show f 4 = _ from hH.get 0 (21, 4) rfl)
          have s22 := (sv_at 22 5 hsz f [(21, 4), (22, 5)] rfl).trans (show f 5 = _ from hH.get 1 (22, 5) rfl)
          refine small_v hsz [(21, _), (22, _)] ⟨some 2, (Op.indexAddr 22 (.tmp 0) (.tmp 1)), 0, "", #[], none⟩ [_, _, undef] 2 rfl rfl ⟨s21, s22, trivial⟩ rfl rfl hQ0 ?_
          clear hQ0 hH s21 s22
          intro Q hQ
          repeat go_step
          exact hQ _ _ (Grow.refl _) rfl rfl
        refine obls_cons (fun f w' hR hH Q0 hQ0 => ?_) ?_
        · skip
          have s23 := (sv_at 23 6 hsz f [(23, 6)] rfl).trans (show f 6 = _ from hH.get 0 (23, 6) rfl)
          refine small_v hsz [(23, _)] ⟨some 1, (Op.load 41 (.tmp 0)), 41, "", #[], none⟩ [_, undef] 1 rfl rfl ⟨s23, trivial⟩ rfl rfl hQ0 ?_
          clear hQ0 hH s23
          intro Q hQ
          have x0 := HC2.out w' (HG.out.trans hR) 0 _ rfl
          have x1 := HC2.out w' (HG.out.trans hR) 1 _ rfl
          have x2 := HC2.out w' (HG.out.trans hR) 2 _ rfl
          have x3 := HC2.out w' (HG.out.trans hR) 3 _ rfl
          have x4 := HC2.out w' (HG.out.trans hR) 4 _ rfl
          have x5 := HC2.out w' (HG.out.trans hR) 5 _ rfl
          have x6 := HC2.out w' (HG.out.trans hR) 6 _ rfl
          have x7 := HC2.out w' (HG.out.trans hR) 7 _ rfl
          rw [Nat.add_zero] at x0
          repeat go_step
          exact hQ _ _ (Grow.refl _) rfl rfl
        refine obls_cons (fun f w' hR hH Q0 hQ0 => ?_) ?_
        · skip
          have s20 := (sv_at 20 3 hsz f [(20, 3), (24, 7)] rfl).trans (show f 3 = _ from hH.get 0 (20, 3) rfl)
          have s24 := (sv_at 24 7 hsz f [(20, 3), (24, 7)] rfl).trans (show f 7 = _ from hH.get 1 (24, 7) rfl)
          refine small_v hsz [(20, _), (24, _)] ⟨some 2, (Op.call (Call.mk (Callee.value (Operand.func 17)) #[(.tmp 0), (.tmp 1)] #[41, 41])), 4, "", #[], none⟩ [_, _, undef] 2 rfl rfl ⟨s20, s24, trivial⟩ rfl (ren_call rfl rfl) hQ0 ?_
          clear hQ0 hH s20 s24
          intro Q hQ
          go_wp2_with (go_at_call 17; refine ((HS.out w' (HG.out.trans hR))).mono ?_; rintro e w1 ⟨rfl, hg1⟩)
          exact hQ _ _ hg1 rfl rfl
        refine obls_cons (fun f w' hR hH Q0 hQ0 => ?_) ?_
        · skip
          have s25 := (sv_at 25 8 hsz f [(25, 8)] rfl).trans (show f 8 = _ from hH.get 0 (25, 8) rfl)
          refine small_v hsz [(25, _)] ⟨some 1, (Op.unOp UnOp.not 4 (.tmp 0)), 4, "", #[], none⟩ [_, undef] 1 rfl rfl ⟨s25, trivial⟩ rfl rfl hQ0 ?_
          clear hQ0 hH s25
          intro Q hQ
          repeat go_step
          exact hQ _ _ (Grow.refl _) rfl rfl
        exact obls_nil
      case mono => exact ⟨Mono.veq _, Mono.veq _, Mono.veq _, Mono.veq _, Mono.veq _, Mono.veq _, Mono.veq _, Mono.veq _, Mono.veq _, Mono.veq _, trivial⟩
      case tail =>
        intro f w' hR hH
        have q9 := hH.get 9 (26, 9) rfl
        clear hH
        refine wpList_merge (idx := [none, none, none, none, none, none, none, none, none, none, none, none, none, none, none, none, none, some 0, some 1, some 2, some 3, some 4, some 5, some 6, some 7, some 8, some 9]) (by kernel_rfl) ?_; show wpList _ _ _ [] ⟨#[_, _, _, _, _, _, _, _, _, _, _, _, _, _, _, _, _, f 0, f 1, f 2, f 3, f 4, f 5, f 6, f 7, f 8, f 9], _⟩ _
        rw [show f 9 = _ from q9]
        clear q9
        have HG9 := Lib.hid (HG.out.trans hR)
        clear hR
        go_wp2_with fail
        go_roundw
        case rel => exact ⟨k + 1, by have := HLT.out; omega, by go_num, HG9.out⟩
        case measure => have := HLT.out; simp [intOf] <;> omega
    · obtain rfl : k = n1 := by omega
      have t1 : decide (k < k) = false := decide_eq_false hlt
      have HG := Lib.hid hgr
      clear hlt hk hgr
      go_wp2_with fail
      go_ret
      exact ⟨rfl, HG.out⟩
end Go.Proofs.YtmekdhlcflielaaDoor.ev
