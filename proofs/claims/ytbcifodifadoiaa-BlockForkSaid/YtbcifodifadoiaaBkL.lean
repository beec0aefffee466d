/- The chapter's example; a list of numbers is the same as itself. -/
import Derived.Test.YtbcifodifadoiaaBkP2
namespace Go.Proofs.Ytbcifodifadoiaa.bk
open Go Go.RowKit Go.Par Go.Kit Go.Proofs.Ytbcifodifadoiaa.Bk Go.Proofs.Ytbcifodifadoiaa.reW Go.Proofs.Ytbcifodifadoiaa.mkW Go.Proofs.Ytbcifodifadoiaa.Re

set_option maxRecDepth 100000 in
set_option maxHeartbeats 1000000 in
theorem ints_same (w : World) (A1 A2 : Option Addr) (n c1 c2 : Nat) (l : List Int) (h1 : Row w A1 n (l.map iv)) (h2 : Row w A2 n (l.map iv)) (hn : n ≤ maxLen) :
    Calls Try.prog 13 #[.slice A1 n c1, .slice A2 n c2] w fun e w' => e = .returned (.int .i64 1) ∧ Grow w w' := by
  unfold maxLen at hn
  have H1 := Lib.hid h1
  have H2 := Lib.hid h2
  clear h1 h2
  have t0 : ((n : Int) == (n : Int)) = true := beq_self_eq_true _
  go_enter Try.func13, Try.ntmps13
  go_wp2_with fail
  go_loopw [5] (fun i' wr => ∃ k : Nat, k ≤ n ∧ i' = .int .i64 (k : Int) ∧ Grow w wr) (fun i' _ => n - (intOf i').toNat)
  case atStart => exact ⟨0, by omega, rfl, Grow.refl _⟩
  case round =>
    obtain ⟨k, hk, rfl, hg⟩ := hrel
    by_cases hlt : k < n
    · obtain ⟨b, off, x, rfl, hx, hc⟩ := Row.iv_at H1.out hlt
      obtain ⟨b2, off2, y, rfl, hy, hc2⟩ := Row.iv_at H2.out hlt
      rw [hx] at hy
      injection hy with hy
      subst hy
      have t1 : decide (k < n) = true := decide_eq_true hlt
      have t1' : decide ((k : Int) < (n : Int)) = true := decide_eq_true (by omega)
      have tq : (x == x) = true := beq_self_eq_true _
      have tq2 : (x != x) = false := by unfold bne; rw [tq]; rfl
      have HC1 := Lib.hid (hg.cell hc)
      have HC2 := Lib.hid (hg.cell hc2)
      have HG := Lib.hid hg
      have HLT := Lib.hid hlt
      clear hx hc hc2 hg hk
      go_wp2_with fail
      apply (fun (v0 v1 v2 v3 v4 v5 v6 v7 v8 : Value) mono obl tail => wp_region_par (R := Grow) (Φ := phi [veq v0, veq v1, veq v2, veq v3, veq v4, veq v5, veq v6, veq v7, veq v8]) (m := 9) (dls := [[], [], [(17, 0), (18, 1)], [(19, 2)], [], [], [(21, 4), (22, 5)], [(23, 6)], [(20, 3), (24, 7)]]) (ds := [17, 18, 19, 20, 21, 22, 23, 24, 25]) (by kernel_rfl) (by kernel_rfl) (by decide) rfl (Grow.drew _) (fun _ _ _ => Grow.trans) (mono_phi mono) obl tail)
      case obl =>
        refine obls_frame (fun a1 ha => ?_)
        have hsz := rd_size (n := 26) ha rfl
        have e0 := rd_slot 0 ha rfl
        have e5 := rd_slot 5 ha rfl
        have e1 := rd_slot 1 ha rfl
        clear ha
        refine obls_cons (fun f w' hR hH Q0 hQ0 => ?_) ?_
        · skip
          have s0 := sv_off f [] e0 rfl
          refine small_v hsz [(0, _)] ⟨some 1, (Op.move (.tmp 0)), 23, "", #[], none⟩ [_, undef] 1 rfl rfl ⟨s0, trivial⟩ rfl rfl hQ0 ?_
          clear hQ0 hH s0
          intro Q hQ
          repeat go_step
          exact hQ _ _ (Grow.refl _) rfl rfl
        refine obls_cons (fun f w' hR hH Q0 hQ0 => ?_) ?_
        · skip
          have s5 := sv_off f [] e5 rfl
          refine small_v hsz [(5, _)] ⟨some 1, (Op.move (.tmp 0)), 3, "", #[], none⟩ [_, undef] 1 rfl rfl ⟨s5, trivial⟩ rfl rfl hQ0 ?_
          clear hQ0 hH s5
          intro Q hQ
          repeat go_step
          exact hQ _ _ (Grow.refl _) rfl rfl
        refine obls_cons (fun f w' hR hH Q0 hQ0 => ?_) ?_
        · skip
          have s17 := (sv_at 17 0 hsz f [(17, 0), (18, 1)] rfl).trans (show f 0 = _ from hH.get 0 (17, 0) rfl)
          have s18 := (sv_at 18 1 hsz f [(17, 0), (18, 1)] rfl).trans (show f 1 = _ from hH.get 1 (18, 1) rfl)
          refine small_v hsz [(17, _), (18, _)] ⟨some 2, (Op.indexAddr 23 (.tmp 0) (.tmp 1)), 0, "", #[], none⟩ [_, _, undef] 2 rfl rfl ⟨s17, s18, trivial⟩ rfl rfl hQ0 ?_
          clear hQ0 hH s17 s18
          intro Q hQ
          have hlt2 := HLT.out
          repeat go_step
          exact hQ _ _ (Grow.refl _) rfl rfl
        refine obls_cons (fun f w' hR hH Q0 hQ0 => ?_) ?_
        · skip
          have s19 := (sv_at 19 2 hsz f [(19, 2)] rfl).trans (show f 2 = _ from hH.get 0 (19, 2) rfl)
          refine small_v hsz [(19, _)] ⟨some 1, (Op.load 3 (.tmp 0)), 3, "", #[], none⟩ [_, undef] 1 rfl rfl ⟨s19, trivial⟩ rfl rfl hQ0 ?_
          clear hQ0 hH s19
          intro Q hQ
          have y1 := hR.cell HC1.out
          repeat go_step
          exact hQ _ _ (Grow.refl _) rfl rfl
        refine obls_cons (fun f w' hR hH Q0 hQ0 => ?_) ?_
        · skip
          have s1 := sv_off f [] e1 rfl
          refine small_v hsz [(1, _)] ⟨some 1, (Op.move (.tmp 0)), 23, "", #[], none⟩ [_, undef] 1 rfl rfl ⟨s1, trivial⟩ rfl rfl hQ0 ?_
          clear hQ0 hH s1
          intro Q hQ
          repeat go_step
          exact hQ _ _ (Grow.refl _) rfl rfl
        refine obls_cons (fun f w' hR hH Q0 hQ0 => ?_) ?_
        · skip
          have s5 := sv_off f [] e5 rfl
          refine small_v hsz [(5, _)] ⟨some 1, (Op.move (.tmp 0)), 3, "", #[], none⟩ [_, undef] 1 rfl rfl ⟨s5, trivial⟩ rfl rfl hQ0 ?_
          clear hQ0 hH s5
          intro Q hQ
          repeat go_step
          exact hQ _ _ (Grow.refl _) rfl rfl
        refine obls_cons (fun f w' hR hH Q0 hQ0 => ?_) ?_
        · skip
          have s21 := (sv_at 21 4 hsz f [(21, 4), (22, 5)] rfl).trans (show f 4 = _ from hH.get 0 (21, 4) rfl)
          have s22 := (sv_at 22 5 hsz f [(21, 4), (22, 5)] rfl).trans (show f 5 = _ from hH.get 1 (22, 5) rfl)
          refine small_v hsz [(21, _), (22, _)] ⟨some 2, (Op.indexAddr 23 (.tmp 0) (.tmp 1)), 0, "", #[], none⟩ [_, _, undef] 2 rfl rfl ⟨s21, s22, trivial⟩ rfl rfl hQ0 ?_
          clear hQ0 hH s21 s22
          intro Q hQ
          have hlt2 := HLT.out
          repeat go_step
          exact hQ _ _ (Grow.refl _) rfl rfl
        refine obls_cons (fun f w' hR hH Q0 hQ0 => ?_) ?_
        · skip
          have s23 := (sv_at 23 6 hsz f [(23, 6)] rfl).trans (show f 6 = _ from hH.get 0 (23, 6) rfl)
          refine small_v hsz [(23, _)] ⟨some 1, (Op.load 3 (.tmp 0)), 3, "", #[], none⟩ [_, undef] 1 rfl rfl ⟨s23, trivial⟩ rfl rfl hQ0 ?_
          clear hQ0 hH s23
          intro Q hQ
          have y2 := hR.cell HC2.out
          repeat go_step
          exact hQ _ _ (Grow.refl _) rfl rfl
        refine obls_cons (fun f w' hR hH Q0 hQ0 => ?_) ?_
        · skip
          have s20 := (sv_at 20 3 hsz f [(20, 3), (24, 7)] rfl).trans (show f 3 = _ from hH.get 0 (20, 3) rfl)
          have s24 := (sv_at 24 7 hsz f [(20, 3), (24, 7)] rfl).trans (show f 7 = _ from hH.get 1 (24, 7) rfl)
          refine small_v hsz [(20, _), (24, _)] ⟨some 2, (Op.binOp BinOp.neq 3 (.tmp 0) (.tmp 1) 3), 4, "", #[], none⟩ [_, _, undef] 2 rfl rfl ⟨s20, s24, trivial⟩ rfl rfl hQ0 ?_
          clear hQ0 hH s20 s24
          intro Q hQ
          repeat go_step
          exact hQ _ _ (Grow.refl _) rfl rfl
        exact obls_nil
      case mono => exact ⟨Mono.veq _, Mono.veq _, Mono.veq _, Mono.veq _, Mono.veq _, Mono.veq _, Mono.veq _, Mono.veq _, Mono.veq _, trivial⟩
      case tail =>
        intro f w' hR hH
        have q8 := hH.get 8 (25, 8) rfl
        clear hH
        refine wpList_merge (idx := [none, none, none, none, none, none, none, none, none, none, none, none, none, none, none, none, none, some 0, some 1, some 2, some 3, some 4, some 5, some 6, some 7, some 8]) (by kernel_rfl) ?_; show wpList _ _ _ [] ⟨#[_, _, _, _, _, _, _, _, _, _, _, _, _, _, _, _, _, f 0, f 1, f 2, f 3, f 4, f 5, f 6, f 7, f 8], _⟩ _
        rw [show f 8 = _ from q8]
        clear q8
        have HG9 := Lib.hid (HG.out.trans hR)
        clear hR
        go_wp2_with fail
        go_roundw
        case rel => exact ⟨k + 1, by have := HLT.out; omega, by go_num, HG9.out⟩
        case measure => have := HLT.out; simp [intOf] <;> omega
    · obtain rfl : k = n := by omega
      have t1 : decide (k < k) = false := decide_eq_false hlt
      have HG := Lib.hid hg
      clear hlt hk hg
      go_wp2_with fail
      go_ret
      exact ⟨rfl, HG.out⟩
def exS : List (Int × Int) := [(0, 1), (0, 2), (1, 3), (2, 3)]
def exT : List T := [.mk 1 0 [], .mk 2 0 [.mk 4 0 [.mk 1 1 []], .mk 4 0 [.mk 1 2 []]], .mk 1 3 []]
theorem ex_blocks : blocksF (aheadI (leadB (vp 4 exS))) (nearI (leadB (vp 4 exS))) 4 [0, 1, 2, 3] = exT := by kernel_rfl
theorem ex_things : thingsL exT = [0, 1, 2, 3] := by kernel_rfl
theorem ex_odd : oddL exT = 1 := by kernel_rfl
theorem nums_lit (w : World) (zs : List Int) (vs : Array Value) (hv : vs = (zs.map iv).toArray) (h : zs.length ≤ 1000) (hok : ∀ z ∈ zs, i64ok z) : Nums (w.alloc (.cells vs 3)) (some ⟨w.heap.size, 0, none⟩) zs.length zs.length zs := by
  subst hv
  refine ⟨?_, Nat.le_refl _, by unfold maxLen; omega, hok⟩
  have := Row.new w (zs.map iv) 3 (0, 0)
  rwa [List.length_map] at this
set_option maxRecDepth 100000 in
set_option maxHeartbeats 2000000 in
theorem works_any (w : World) : Calls Try.prog 7 #[] w fun e w' => e = .returned (.bool true) ∧ Grow w w' := by
  obtain ⟨W1, hW1⟩ : ∃ W, W = w.alloc (.cells #[.int .i64 0, .int .i64 1, .int .i64 0, .int .i64 2, .int .i64 1, .int .i64 3, .int .i64 2, .int .i64 3] T2) := ⟨_, rfl⟩
  have hr : Go.Kit.Recs 2 prow W1 (some ⟨w.heap.size, 0, none⟩) 4 exS := by
    rw [hW1]
    exact ⟨rfl, fun _ => rfl, Row.new w [.int .i64 0, .int .i64 1, .int .i64 0, .int .i64 2, .int .i64 1, .int .i64 3, .int .i64 2, .int .i64 3] T2 (0, 0)⟩
  have hok : ∀ x ∈ exS, PairOk x := by
    intro x hx
    simp only [exS, List.mem_cons, List.not_mem_nil, or_false] at hx
    rcases hx with rfl | rfl | rfl | rfl <;> exact ⟨⟨by decide, by decide⟩, ⟨by decide, by decide⟩⟩
  have hof := reW.of_any W1 4 (some ⟨w.heap.size, 0, none⟩) 4 4 exS hr (by decide) hok
  rw [show clampN 4 = 4 by decide] at hof
  have hex := ex_blocks
  obtain ⟨R, hR⟩ : ∃ R, R = leadB (vp 4 exS) := ⟨_, rfl⟩
  rw [← hR] at hof hex
  have HOF := Lib.hid hof
  have HEX := Lib.hid hex
  have HW1 := Lib.hid hW1
  have hG1 : Grow w W1 := by rw [hW1]; exact Grow.alloc _ _
  have HG1 := Lib.hid hG1
  have hzs : ∀ z ∈ ([0, 1, 2, 3] : List Int), i64ok z := by
    intro z hz
    simp only [List.mem_cons, List.not_mem_nil, or_false] at hz
    rcases hz with rfl | rfl | rfl | rfl <;> exact ⟨by decide, by decide⟩
  have HZS := Lib.hid hzs
  clear hof hr hok hR hex hW1 hG1 hzs
  go_enter Try.func7, Try.ntmps7
  try dsimp only
  go_wp2_with (go_at_call 8; rw [← HW1.out]; refine HOF.out.mono ?_; rintro e w2 ⟨gr, rfl, hrel, hg2⟩; have HREL := Lib.hid hrel; have HG2 := Lib.hid (HG1.out.trans hg2); clear hrel hg2)
  obtain ⟨W3, hW3⟩ : ∃ W, W = w2.alloc (.cells #[.int .i64 0, .int .i64 1, .int .i64 2, .int .i64 3] 3) := ⟨_, rfl⟩
  have hg3 : Grow w2 W3 := by rw [hW3]; exact Grow.alloc _ _
  have hnm : Nums W3 (some ⟨w2.heap.size, 0, none⟩) 4 4 [0, 1, 2, 3] := by rw [hW3]; exact nums_lit w2 [0, 1, 2, 3] _ rfl (by decide) HZS.out
  rw [← hW3]
  have hbo := bk.of_any gr 4 R 4 W3 (HREL.out.grow hg3) _ 4 4 _ hnm (by decide) (by decide)
  rw [HEX.out] at hbo
  have HBO := Lib.hid hbo
  have HG3 := Lib.hid (HG2.out.trans hg3)
  clear hW3 hg3 hnm hbo
  refine HBO.out.mono ?_
  rintro e w4 ⟨u, rfl, htv, hg4⟩
  have hodd := odd_any htv
  have hthi := things_any htv
  rw [ex_odd] at hodd
  rw [ex_things] at hthi
  obtain ⟨A4, c4, qs, hu, hqs, -, -, hrec, -, hsub⟩ := htv.form
  match qs, hqs with
  | [(t0, u0), (t1, u1), (t2, u2)], hqs =>
    injection hqs with e0 hqs
    injection hqs with e1 hqs
    injection hqs with e2 _
    obtain ⟨b, off, eA, hc⟩ := hrec.2.2.2 (by decide)
    subst eA
    rw [show exT.length = 3 from rfl] at hu
    subst hu
    have z0 : w4.cell? ⟨b, off, none⟩ = some (.int .i64 1) := by have := hc 0 _ rfl; rw [← e0] at this; exact this
    have z1 : w4.cell? ⟨b, off + 3, none⟩ = some (.int .i64 2) := by have := hc 3 _ rfl; rw [← e1] at this; exact this
    have z2 : w4.cell? ⟨b, off + 3 + 2, none⟩ = some u1 := hc 5 _ rfl
    have z3 : w4.cell? ⟨b, off + 6 + 1, none⟩ = some (.int .i64 3) := by have := hc 7 _ rfl; rw [← e2] at this; exact this
    have hs1 := hsub (t1, u1) (by simp)
    obtain ⟨A5, c5, qs5, hu5, -⟩ := hs1.form
    rw [← e1] at hu5
    rw [show (T.mk 2 0 [.mk 4 0 [.mk 1 1 []], .mk 4 0 [.mk 1 2 []]]).subs.length = 2 from rfl] at hu5
    dsimp only at hu5
    subst hu5
    have HODD := Lib.hid (hodd w4 (Grow.refl _) (by decide))
    have HTHI := Lib.hid (fun (w' : World) (hg : Grow w4 w') => hthi w' hg (by decide))
    have HG4 := Lib.hid (HG3.out.trans hg4)
    clear hodd hthi e0 e1 e2 hc hrec hsub hs1 htv hg4
    go_wp2_with fail
    refine HODD.out.mono ?_
    rintro e w5 ⟨rfl, hg5⟩
    have HTH5 := Lib.hid (HTHI.out w5 hg5)
    have HG5 := Lib.hid (HG4.out.trans hg5)
    clear hg5 z0 z1 z2 z3
    go_wp2_with fail
    refine HTH5.out.mono ?_
    rintro e w6 ⟨v6, rfl, ho6, hg6⟩
    obtain ⟨A6, c6, rfl, -, -, hr6⟩ := ho6.form
    rw [show ([0, 1, 2, 3] : List Int).length = 4 from rfl] at hr6 ⊢
    have hgq : Grow w6 (w6.alloc (.cells #[.int .i64 0, .int .i64 1, .int .i64 2, .int .i64 3] 3)) := Grow.alloc _ _
    have hnm6 : Nums (w6.alloc (.cells #[.int .i64 0, .int .i64 1, .int .i64 2, .int .i64 3] 3)) (some ⟨w6.heap.size, 0, none⟩) 4 4 [0, 1, 2, 3] := nums_lit w6 [0, 1, 2, 3] _ rfl (by decide) HZS.out
    have HIS := Lib.hid (ints_same _ A6 (some ⟨w6.heap.size, 0, none⟩) 4 c6 4 [0, 1, 2, 3] (hr6.grow hgq) hnm6.row (by decide))
    have HG6 := Lib.hid ((HG5.out.trans hg6).trans hgq)
    clear ho6 hg6 hr6 hgq hnm6
    go_wp2_with fail
    refine HIS.out.mono ?_
    rintro e w7 ⟨rfl, hg7⟩
    have HG7 := Lib.hid (HG6.out.trans hg7)
    clear hg7
    go_wp2_with fail
    go_ret
    exact ⟨rfl, HG7.out⟩
end Go.Proofs.Ytbcifodifadoiaa.bk
