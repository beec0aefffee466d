/- The walks of events: Same, the document's Same, plain, noded, Good (printed by gen_evr.py). -/
import Derived.Test.YtmekdhlcflielaaDoorEvG
namespace Go.Proofs.YtmekdhlcflielaaDoor.ev
open Go Go.RowKit Go.Par Go.Kit Go.Proofs.YtmekdhlcflielaaDoor.bfW

theorem equal_any (w : World) (A1 A2 : Option Addr) (n1 n2 c1 c2 : Nat) (l1 l2 : List UInt8) (h1 : Bytes w A1 n1 l1) (h2 : Bytes w A2 n2 l2) :
    Calls Tryd.prog 36 #[.slice A1 n1 c1, .slice A2 n2 c2] w fun e w' => e = .returned (.bool (decide (l1 = l2))) ∧ w = w' := by
  have hs1 := conv_str (P := Tryd.prog) Tryd.underlying23 Tryd.underlying5 Tryd.underlying9 h1 c1
  have hs2 := conv_str (P := Tryd.prog) Tryd.underlying23 Tryd.underlying5 Tryd.underlying9 h2 c2
  clear h1 h2
  go_enter Tryd.func36, Tryd.ntmps36
  go_wp2_with fail
  go_ret
  refine ⟨?_, rfl⟩
  show Ending.returned (.bool ((str l1).toList == (str l2).toList)) = _
  have el : ∀ l, (str l).toList = l := fun l => ByteArray.toList_mk l
  rw [el, el]
  by_cases h : l1 = l2
  · rw [decide_eq_true h, h, beq_self_eq_true]
  · rw [decide_eq_false h, beq_false_of_ne h]
theorem str_eq (a b : List UInt8) : ((str a).toList == (str b).toList) = decide (a = b) := by
  have el : ∀ l, (str l).toList = l := fun l => ByteArray.toList_mk l
  rw [el, el]
  by_cases h : a = b
  · rw [decide_eq_true h, h, beq_self_eq_true]
  · rw [decide_eq_false h, beq_false_of_ne h]
theorem boxes2 (w : World) (l1 l2 : List Value) (t1 t2 : TypeId) : ∃ W, W = (w.alloc (.cells l1.toArray t1)).alloc (.cells l2.toArray t2) ∧ Grow w W ∧ Blk W w.heap.size t1 l1 ∧ Blk W (w.heap.size + 1) t2 l2 :=
  ⟨_, rfl, (Grow.alloc _ _).trans (Grow.alloc _ _), (Blk.new w _ _ _ rfl rfl).grow (Grow.alloc _ _), Blk.new _ _ _ _ rfl (by simp)⟩
theorem nat_beq (a b : Nat) (q : Bool) (h : q = (a == b)) : ((a : Int) == (b : Int)) = q := by rw [h, Bool.eq_iff_iff, beq_iff_eq, beq_iff_eq]; omega

set_option maxRecDepth 100000 in
set_option maxHeartbeats 8000000 in
theorem rsame_any (w : World) (x y : Ev) (A1 A2 : Option Addr) (n1 n2 d1 d2 : Nat) (hx : Bytes w A1 n1 x.b) (hy : Bytes w A2 n2 y.b) :
    Calls Tryd.prog 17 #[.agg #[.int .u8 (x.k : Int), .int .u8 (x.node : Int), .int .u8 (x.peer : Int), .int .i64 x.K, .int .i64 x.at_, .int .u32 (x.mask : Int), .int .u64 (x.draw : Int), .slice A1 n1 d1], .agg #[.int .u8 (y.k : Int), .int .u8 (y.node : Int), .int .u8 (y.peer : Int), .int .i64 y.K, .int .i64 y.at_, .int .u32 (y.mask : Int), .int .u64 (y.draw : Int), .slice A2 n2 d2]] w fun r w' => r = .returned (.bool (sameB x y)) ∧ Grow w w' := by
  obtain ⟨W1, hW1, hg1, hb1, hb2⟩ := boxes2 w [.int .u8 (x.k : Int), .int .u8 (x.node : Int), .int .u8 (x.peer : Int), .int .i64 x.K, .int .i64 x.at_, .int .u32 (x.mask : Int), .int .u64 (x.draw : Int), .slice A1 n1 d1] [.int .u8 (y.k : Int), .int .u8 (y.node : Int), .int .u8 (y.peer : Int), .int .i64 y.K, .int .i64 y.at_, .int .u32 (y.mask : Int), .int .u64 (y.draw : Int), .slice A2 n2 d2] TE TE
  have x0 := hb1.cell (i := 0) rfl
  have y0 := hb2.cell (i := 0) rfl
  have x1 := hb1.cell (i := 1) rfl
  have y1 := hb2.cell (i := 1) rfl
  have x2 := hb1.cell (i := 2) rfl
  have y2 := hb2.cell (i := 2) rfl
  have x3 := hb1.cell (i := 3) rfl
  have y3 := hb2.cell (i := 3) rfl
  have x4 := hb1.cell (i := 4) rfl
  have y4 := hb2.cell (i := 4) rfl
  have x5 := hb1.cell (i := 5) rfl
  have y5 := hb2.cell (i := 5) rfl
  have x6 := hb1.cell (i := 6) rfl
  have y6 := hb2.cell (i := 6) rfl
  have x7 := hb1.cell (i := 7) rfl
  have y7 := hb2.cell (i := 7) rfl
  unfold sameB
  obtain ⟨c0, e0⟩ : ∃ q, q = (x.k == y.k) := ⟨_, rfl⟩
  obtain ⟨c1, e1⟩ : ∃ q, q = (x.node == y.node) := ⟨_, rfl⟩
  obtain ⟨c2, e2⟩ : ∃ q, q = (x.peer == y.peer) := ⟨_, rfl⟩
  obtain ⟨c3, e3⟩ : ∃ q, q = (x.K == y.K) := ⟨_, rfl⟩
  obtain ⟨c4, e4⟩ : ∃ q, q = (x.at_ == y.at_) := ⟨_, rfl⟩
  obtain ⟨c5, e5⟩ : ∃ q, q = (x.mask == y.mask) := ⟨_, rfl⟩
  obtain ⟨c6, e6⟩ : ∃ q, q = (x.draw == y.draw) := ⟨_, rfl⟩
  obtain ⟨c7, e7⟩ : ∃ q, q = decide (x.b = y.b) := ⟨_, rfl⟩
  rw [← e0, ← e1, ← e2, ← e3, ← e4, ← e5, ← e6, ← e7]
  have t0 := e0.symm
  have u0 := nat_beq _ _ _ e0
  have t1 := e1.symm
  have u1 := nat_beq _ _ _ e1
  have t2 := e2.symm
  have u2 := nat_beq _ _ _ e2
  have t3 := e3.symm
  have t4 := e4.symm
  have t5 := e5.symm
  have u5 := nat_beq _ _ _ e5
  have t6 := e6.symm
  have u6 := nat_beq _ _ _ e6
  have cs1 := conv_str (P := Tryd.prog) Tryd.underlying23 Tryd.underlying5 Tryd.underlying9 (hx.grow hg1) d1
  have cs2 := conv_str (P := Tryd.prog) Tryd.underlying23 Tryd.underlying5 Tryd.underlying9 (hy.grow hg1) d2
  have t7 := str_eq x.b y.b
  rw [← e7] at t7
  have HW1 := Lib.hid hW1
  have HG := Lib.hid hg1
  have HB1 := Lib.hid hb1
  have HB2 := Lib.hid hb2
  clear hW1 hg1 hb1 hb2 hx hy e0 e1 e2 e3 e4 e5 e6 e7
  go_enter Tryd.func17, Tryd.ntmps17
  try dsimp only
  repeat (first | with_reducible (refine wp_region_cut (k := 1) ?_) | go_values | go_guarded | go_step | go_upon | go_back)
  rw [← HW1.out]
  unfold Cut
  cases c0
  case false =>
    go_wp2_with fail
    go_ret
    exact ⟨rfl, HG.out⟩
  cases c1
  case false =>
    go_wp2_with fail
    go_ret
    exact ⟨rfl, HG.out⟩
  cases c2
  case false =>
    go_wp2_with fail
    go_ret
    exact ⟨rfl, HG.out⟩
  cases c3
  case false =>
    go_wp2_with fail
    go_ret
    exact ⟨rfl, HG.out⟩
  cases c4
  case false =>
    go_wp2_with fail
    go_ret
    exact ⟨rfl, HG.out⟩
  cases c5
  case false =>
    go_wp2_with fail
    go_ret
    exact ⟨rfl, HG.out⟩
  cases c6
  case false =>
    go_wp2_with fail
    go_ret
    exact ⟨rfl, HG.out⟩
  go_wp2_with fail
  go_ret
  exact ⟨rfl, HG.out⟩
set_option maxRecDepth 100000 in
set_option maxHeartbeats 8000000 in
theorem same_any (w : World) (x y : Ev) (A1 A2 : Option Addr) (n1 n2 d1 d2 : Nat) (hx : Bytes w A1 n1 x.b) (hy : Bytes w A2 n2 y.b) :
    Calls Tryd.prog 16 #[.agg #[.int .u8 (x.k : Int), .int .u8 (x.node : Int), .int .u8 (x.peer : Int), .int .i64 x.K, .int .i64 x.at_, .int .u32 (x.mask : Int), .int .u64 (x.draw : Int), .slice A1 n1 d1], .agg #[.int .u8 (y.k : Int), .int .u8 (y.node : Int), .int .u8 (y.peer : Int), .int .i64 y.K, .int .i64 y.at_, .int .u32 (y.mask : Int), .int .u64 (y.draw : Int), .slice A2 n2 d2]] w fun r w' => r = .returned (.bool (sameB x y)) ∧ Grow w w' := by
  obtain ⟨W1, hW1, hg1, hb1, hb2⟩ := boxes2 w [.int .u8 (x.k : Int), .int .u8 (x.node : Int), .int .u8 (x.peer : Int), .int .i64 x.K, .int .i64 x.at_, .int .u32 (x.mask : Int), .int .u64 (x.draw : Int), .slice A1 n1 d1] [.int .u8 (y.k : Int), .int .u8 (y.node : Int), .int .u8 (y.peer : Int), .int .i64 y.K, .int .i64 y.at_, .int .u32 (y.mask : Int), .int .u64 (y.draw : Int), .slice A2 n2 d2] TE TE
  have x0 := hb1.cell (i := 0) rfl
  have y0 := hb2.cell (i := 0) rfl
  have x1 := hb1.cell (i := 1) rfl
  have y1 := hb2.cell (i := 1) rfl
  have x2 := hb1.cell (i := 2) rfl
  have y2 := hb2.cell (i := 2) rfl
  have x3 := hb1.cell (i := 3) rfl
  have y3 := hb2.cell (i := 3) rfl
  have x4 := hb1.cell (i := 4) rfl
  have y4 := hb2.cell (i := 4) rfl
  have x5 := hb1.cell (i := 5) rfl
  have y5 := hb2.cell (i := 5) rfl
  have x6 := hb1.cell (i := 6) rfl
  have y6 := hb2.cell (i := 6) rfl
  have x7 := hb1.cell (i := 7) rfl
  have y7 := hb2.cell (i := 7) rfl
  unfold sameB
  obtain ⟨c0, e0⟩ : ∃ q, q = (x.k == y.k) := ⟨_, rfl⟩
  obtain ⟨c1, e1⟩ : ∃ q, q = (x.node == y.node) := ⟨_, rfl⟩
  obtain ⟨c2, e2⟩ : ∃ q, q = (x.peer == y.peer) := ⟨_, rfl⟩
  obtain ⟨c3, e3⟩ : ∃ q, q = (x.K == y.K) := ⟨_, rfl⟩
  obtain ⟨c4, e4⟩ : ∃ q, q = (x.at_ == y.at_) := ⟨_, rfl⟩
  obtain ⟨c5, e5⟩ : ∃ q, q = (x.mask == y.mask) := ⟨_, rfl⟩
  obtain ⟨c6, e6⟩ : ∃ q, q = (x.draw == y.draw) := ⟨_, rfl⟩
  obtain ⟨c7, e7⟩ : ∃ q, q = decide (x.b = y.b) := ⟨_, rfl⟩
  rw [← e0, ← e1, ← e2, ← e3, ← e4, ← e5, ← e6, ← e7]
  have t0 := e0.symm
  have u0 := nat_beq _ _ _ e0
  have t1 := e1.symm
  have u1 := nat_beq _ _ _ e1
  have t2 := e2.symm
  have u2 := nat_beq _ _ _ e2
  have t3 := e3.symm
  have t4 := e4.symm
  have t5 := e5.symm
  have u5 := nat_beq _ _ _ e5
  have t6 := e6.symm
  have u6 := nat_beq _ _ _ e6
  have HX := Lib.hid hx
  have HY := Lib.hid hy
  have E7 := Lib.hid e7
  have HW1 := Lib.hid hW1
  have HG := Lib.hid hg1
  have HB1 := Lib.hid hb1
  have HB2 := Lib.hid hb2
  clear hW1 hg1 hb1 hb2 hx hy e0 e1 e2 e3 e4 e5 e6 e7
  clear x0 y0 x1 y1 x2 y2 x3 y3 x4 y4 x5 y5 x6 y6 x7 y7
  go_enter Tryd.func16, Tryd.ntmps16
  try dsimp only
  go_wp2_with fail
  rw [← HW1.out]
  apply (fun (v0 v1 v2 v3 v4 v5 : Value) mono obl tail => wp_region_par (R := Grow) (Φ := phi [veq v0, veq v1, veq v2, veq v3, veq v4, veq v5]) (m := 6) (dls := [[], [(7, 0)], [], [(9, 2)], [(8, 1)], [(10, 3)]]) (ds := [7, 8, 9, 10, 5, 6]) (by kernel_rfl) (by kernel_rfl) (by decide) rfl (Grow.drew _) (fun _ _ _ => Grow.trans) (mono_phi mono) obl tail)
  case obl =>
    refine obls_frame (fun a1 ha => ?_)
    have hsz := rd_size (n := 63) ha rfl
    have e2 := rd_slot 2 ha rfl
    have e3 := rd_slot 3 ha rfl
    clear ha
    refine obls_cons (fun f w' hR hH Q0 hQ0 => ?_) ?_
    · skip
      have s2 := sv_off f [] e2 rfl
      refine small_v hsz [(2, _)] ⟨some 1, (Op.fieldAddr 41 (.tmp 0) 7), 0, "", #[], none⟩ [_, undef] 1 rfl rfl ⟨s2, trivial⟩ rfl rfl hQ0 ?_
      clear hQ0 hH s2
      intro Q hQ
      repeat go_step
      exact hQ _ _ (Grow.refl _) rfl rfl
    refine obls_cons (fun f w' hR hH Q0 hQ0 => ?_) ?_
    · skip
      have s7 := (sv_at 7 0 hsz f [(7, 0)] rfl).trans (show f 0 = _ from hH.get 0 (7, 0) rfl)
      refine small_v hsz [(7, _)] ⟨some 1, (Op.load 23 (.tmp 0)), 23, "", #[], none⟩ [_, undef] 1 rfl rfl ⟨s7, trivial⟩ rfl rfl hQ0 ?_
      clear hQ0 hH s7
      intro Q hQ
      have x7 := (HB1.out.grow hR).cell (i := 7) rfl
      repeat go_step
      exact hQ _ _ (Grow.refl _) rfl rfl
    refine obls_cons (fun f w' hR hH Q0 hQ0 => ?_) ?_
    · skip
      have s3 := sv_off f [] e3 rfl
      refine small_v hsz [(3, _)] ⟨some 1, (Op.fieldAddr 41 (.tmp 0) 7), 0, "", #[], none⟩ [_, undef] 1 rfl rfl ⟨s3, trivial⟩ rfl rfl hQ0 ?_
      clear hQ0 hH s3
      intro Q hQ
      repeat go_step
      exact hQ _ _ (Grow.refl _) rfl rfl
    refine obls_cons (fun f w' hR hH Q0 hQ0 => ?_) ?_
    · skip
      have s9 := (sv_at 9 2 hsz f [(9, 2)] rfl).trans (show f 2 = _ from hH.get 0 (9, 2) rfl)
      refine small_v hsz [(9, _)] ⟨some 1, (Op.load 23 (.tmp 0)), 23, "", #[], none⟩ [_, undef] 1 rfl rfl ⟨s9, trivial⟩ rfl rfl hQ0 ?_
      clear hQ0 hH s9
      intro Q hQ
      have y7 := (HB2.out.grow hR).cell (i := 7) rfl
      repeat go_step
      exact hQ _ _ (Grow.refl _) rfl rfl
    refine obls_cons (fun f w' hR hH Q0 hQ0 => ?_) ?_
    · skip
      have s8 := (sv_at 8 1 hsz f [(8, 1)] rfl).trans (show f 1 = _ from hH.get 0 (8, 1) rfl)
      refine small_v hsz [(8, _)] ⟨some 1, (Op.assign (.tmp 0)), 23, "", #[], none⟩ [_, undef] 1 rfl rfl ⟨s8, trivial⟩ rfl rfl hQ0 ?_
      clear hQ0 hH s8
      intro Q hQ
      repeat go_step
      exact hQ _ _ (Grow.refl _) rfl rfl
    refine obls_cons (fun f w' hR hH Q0 hQ0 => ?_) ?_
    · skip
      have s10 := (sv_at 10 3 hsz f [(10, 3)] rfl).trans (show f 3 = _ from hH.get 0 (10, 3) rfl)
      refine small_v hsz [(10, _)] ⟨some 1, (Op.assign (.tmp 0)), 23, "", #[], none⟩ [_, undef] 1 rfl rfl ⟨s10, trivial⟩ rfl rfl hQ0 ?_
      clear hQ0 hH s10
      intro Q hQ
      repeat go_step
      exact hQ _ _ (Grow.refl _) rfl rfl
    exact obls_nil
  case mono => exact ⟨Mono.veq _, Mono.veq _, Mono.veq _, Mono.veq _, Mono.veq _, Mono.veq _, trivial⟩
  case tail =>
    intro f w' hR hH
    have q4 := hH.get 4 (5, 4) rfl
    have q5 := hH.get 5 (6, 5) rfl
    clear hH
    refine wpList_merge (idx := [none, none, none, none, none, some 4, some 5, some 0, some 1, some 2, some 3, none, none, none, none, none, none, none, none, none, none, none, none, none, none, none, none, none, none, none, none, none, none, none, none, none, none, none, none, none, none, none, none, none, none, none, none, none, none, none, none, none, none, none, none, none, none, none, none, none, none, none, none]) (by kernel_rfl) ?_; show wpList _ _ _ [] ⟨#[_, _, _, _, _, f 4, f 5, f 0, f 1, f 2, f 3, _, _, _, _, _, _, _, _, _, _, _, _, _, _, _, _, _, _, _, _, _, _, _, _, _, _, _, _, _, _, _, _, _, _, _, _, _, _, _, _, _, _, _, _, _, _, _, _, _, _, _, _], _⟩ _
    rw [show f 4 = _ from q4]
    rw [show f 5 = _ from q5]
    clear q4 q5
    have HG2 := Lib.hid (HG.out.trans hR)
    have x0 := (HB1.out.grow hR).cell (i := 0) rfl
    have y0 := (HB2.out.grow hR).cell (i := 0) rfl
    have x1 := (HB1.out.grow hR).cell (i := 1) rfl
    have y1 := (HB2.out.grow hR).cell (i := 1) rfl
    have x2 := (HB1.out.grow hR).cell (i := 2) rfl
    have y2 := (HB2.out.grow hR).cell (i := 2) rfl
    have x3 := (HB1.out.grow hR).cell (i := 3) rfl
    have y3 := (HB2.out.grow hR).cell (i := 3) rfl
    have x4 := (HB1.out.grow hR).cell (i := 4) rfl
    have y4 := (HB2.out.grow hR).cell (i := 4) rfl
    have x5 := (HB1.out.grow hR).cell (i := 5) rfl
    have y5 := (HB2.out.grow hR).cell (i := 5) rfl
    have x6 := (HB1.out.grow hR).cell (i := 6) rfl
    have y6 := (HB2.out.grow hR).cell (i := 6) rfl
    have heq := equal_any w' A1 A2 n1 n2 d1 d2 _ _ (HX.out.grow (HG.out.trans hR)) (HY.out.grow (HG.out.trans hR))
    rw [← E7.out] at heq
    have HEQ := Lib.hid heq
    clear hR heq HG HB1 HB2 HX HY E7
    cases c0
    case false =>
      go_wp2_with fail
      go_ret
      exact ⟨rfl, HG2.out⟩
    cases c1
    case false =>
      go_wp2_with fail
      go_ret
      exact ⟨rfl, HG2.out⟩
    cases c2
    case false =>
      go_wp2_with fail
      go_ret
      exact ⟨rfl, HG2.out⟩
    cases c3
    case false =>
      go_wp2_with fail
      go_ret
      exact ⟨rfl, HG2.out⟩
    cases c4
    case false =>
      go_wp2_with fail
      go_ret
      exact ⟨rfl, HG2.out⟩
    cases c5
    case false =>
      go_wp2_with fail
      go_ret
      exact ⟨rfl, HG2.out⟩
    cases c6
    case false =>
      go_wp2_with fail
      go_ret
      exact ⟨rfl, HG2.out⟩
    go_wp2_with (go_at_call 36; refine HEQ.out.mono ?_; rintro r w1 ⟨rfl, rfl⟩)
    go_ret
    exact ⟨rfl, HG2.out⟩
theorem noded_any (w : World) (k : Nat) : Calls Tryd.prog 35 #[.int .u8 (k : Int)] w fun r w' => r = .returned (.bool (nodedB k)) ∧ w = w' := by
  unfold nodedB
  obtain ⟨q1, h1⟩ : ∃ q, q = decide (k ≤ 3) := ⟨_, rfl⟩
  obtain ⟨q2, h2⟩ : ∃ q, q = decide (8 ≤ k) := ⟨_, rfl⟩
  obtain ⟨q3, h3⟩ : ∃ q, q = decide (k ≤ 11) := ⟨_, rfl⟩
  rw [← h1, ← h2, ← h3]
  have t1 := h1.symm
  have t1' : decide ((k : Int) ≤ 3) = q1 := by rw [h1, decide_eq_decide]; omega
  have t2 := h2.symm
  have t2' : decide ((8 : Int) ≤ (k : Int)) = q2 := by rw [h2, decide_eq_decide]; omega
  have t3 := h3.symm
  have t3' : decide ((k : Int) ≤ 11) = q3 := by rw [h3, decide_eq_decide]; omega
  clear h1 h2 h3
  cases q1
  · cases q2
    · go_enter Tryd.func35, Tryd.ntmps35
      go_wp2_with fail
      go_ret
      exact ⟨rfl, rfl⟩
    · go_enter Tryd.func35, Tryd.ntmps35
      go_wp2_with fail
      go_ret
      exact ⟨rfl, rfl⟩
  · go_enter Tryd.func35, Tryd.ntmps35
    go_wp2_with fail
    go_ret
    exact ⟨rfl, rfl⟩
theorem undE : Tryd.prog.underlying TE = some (.struct (Tryd.prog.fieldsOf TE)) := by kernel_rfl
theorem sizeE : (Tryd.prog.info? TE).map (·.size) = some 8 := by kernel_rfl
theorem ret_blk_tmp {P : Program} {a : Go.Act} {w : World} {fn : Func} {R : Ending → World → Prop} {p q : Tmp} {ty : TypeId} (hf : fn.results = #[.cell p ty, .tmp q]) (g : Nat) (t : TypeId) (cs : List Value) (d : TypeDesc) (u : Value)
    (hp : a.tmps.getD p undef = .pointer (some ⟨g, 0, none⟩)) (hg : Blk w g t cs) (hu : P.underlying ty = some d) (hd : (match d with | .struct _ | .array _ _ => true | _ => false) = true) (hi : (P.info? ty).map (·.size) = some cs.length)
    (hq : a.tmps.getD q undef = u) (hde : a.defers = []) (hR : R (.returned (.tuple #[.agg cs.toArray, u])) w) : bodyPost P fn R .ret a w := by
  subst hq
  refine bodyPost_ret ?_ hde hR
  have hp' : a.tmps[p]?.getD undef = .pointer (some ⟨g, 0, none⟩) := by simpa using hp
  simp [results, hf, hp', asAddr, run_loadVar_row w g t ty cs.toArray (0, 0) d hg hu hd (by simpa using hi)]
/-- the bytes' value of an event with just what its kind has -/
def plainV (k : Nat) (v : Value) : Value := if hb k 5 then v else .slice none 0 0
theorem alloc3 (w : World) (l1 l2 l3 : List Value) (t1 t2 t3 : TypeId) : Blk (((w.alloc (.cells l1.toArray t1)).alloc (.cells l2.toArray t2)).alloc (.cells l3.toArray t3)) (w.heap.size + 1) t2 l2 ∧ Grow w (((w.alloc (.cells l1.toArray t1)).alloc (.cells l2.toArray t2)).alloc (.cells l3.toArray t3)) :=
  ⟨(Blk.new _ _ _ _ rfl (by simp)).grow (Grow.alloc _ _), ((Grow.alloc _ _).trans (Grow.alloc _ _)).trans (Grow.alloc _ _)⟩

set_option maxRecDepth 100000 in
set_option maxHeartbeats 16000000 in
theorem plain_any (w : World) (e : Ev) (A : Option Addr) (n c : Nat) :
    Calls Tryd.prog 34 #[.agg #[.int .u8 (e.k : Int), .int .u8 (e.node : Int), .int .u8 (e.peer : Int), .int .i64 e.K, .int .i64 e.at_, .int .u32 (e.mask : Int), .int .u64 (e.draw : Int), .slice A n c]] w fun r w' => r = .returned (.tuple #[.agg (evRow (plainV e.k (.slice A n c)) (plainE e)).toArray, .bool (kindB e.k)]) ∧ Grow w w' := by
  obtain ⟨k, node, peer, K, at_, mask, draw, b⟩ := e
  dsimp only
  by_cases hk : kindB k = true
  · rcases kind_cases hk with rfl | rfl | rfl | rfl | rfl | rfl | rfl | rfl | rfl | rfl | rfl | rfl
    · have e1 : evRow (plainV 1 (.slice A n c)) (plainE ⟨1, node, peer, K, at_, mask, draw, b⟩) = [.int .u8 1, .int .u8 (node : Int), .int .u8 0, .int .i64 0, .int .i64 0, .int .u32 0, .int .u64 0, .slice A n c] := by simp [evRow, plainV, plainE, hb, hasN, hasL]
      rw [e1, show kindB 1 = true from rfl]
      clear e1 hk
      go_enter Tryd.func34, Tryd.ntmps34
      go_wp2_with fail
      obtain ⟨hb, hg⟩ := alloc3 w [.int .u8 1, .int .u8 (node : Int), .int .u8 (peer : Int), .int .i64 K, .int .i64 at_, .int .u32 (mask : Int), .int .u64 (draw : Int), .slice A n c] [.int .u8 1, .int .u8 (node : Int), .int .u8 0, .int .i64 0, .int .i64 0, .int .u32 0, .int .u64 0, .slice A n c] [.int .u8 1, .int .u8 (node : Int), .int .u8 0, .int .i64 0, .int .i64 0, .int .u32 0, .int .u64 0, .slice A n c] TE TE TE
      exact ret_blk_tmp rfl (w.heap.size + 1) _ [.int .u8 1, .int .u8 (node : Int), .int .u8 0, .int .i64 0, .int .i64 0, .int .u32 0, .int .u64 0, .slice A n c] _ (.bool true) rfl hb undE rfl (by rw [sizeE]; rfl) rfl rfl ⟨rfl, hg⟩
    · have e1 : evRow (plainV 2 (.slice A n c)) (plainE ⟨2, node, peer, K, at_, mask, draw, b⟩) = [.int .u8 2, .int .u8 (node : Int), .int .u8 0, .int .i64 0, .int .i64 0, .int .u32 0, .int .u64 0, .slice none 0 0] := by simp [evRow, plainV, plainE, hb, hasN, hasL]
      rw [e1, show kindB 2 = true from rfl]
      clear e1 hk
      go_enter Tryd.func34, Tryd.ntmps34
      go_wp2_with fail
      obtain ⟨hb, hg⟩ := alloc3 w [.int .u8 2, .int .u8 (node : Int), .int .u8 (peer : Int), .int .i64 K, .int .i64 at_, .int .u32 (mask : Int), .int .u64 (draw : Int), .slice A n c] [.int .u8 2, .int .u8 (node : Int), .int .u8 0, .int .i64 0, .int .i64 0, .int .u32 0, .int .u64 0, .slice none 0 0] [.int .u8 2, .int .u8 (node : Int), .int .u8 0, .int .i64 0, .int .i64 0, .int .u32 0, .int .u64 0, .slice none 0 0] TE TE TE
      exact ret_blk_tmp rfl (w.heap.size + 1) _ [.int .u8 2, .int .u8 (node : Int), .int .u8 0, .int .i64 0, .int .i64 0, .int .u32 0, .int .u64 0, .slice none 0 0] _ (.bool true) rfl hb undE rfl (by rw [sizeE]; rfl) rfl rfl ⟨rfl, hg⟩
    · have e1 : evRow (plainV 3 (.slice A n c)) (plainE ⟨3, node, peer, K, at_, mask, draw, b⟩) = [.int .u8 3, .int .u8 (node : Int), .int .u8 0, .int .i64 0, .int .i64 0, .int .u32 0, .int .u64 (draw : Int), .slice none 0 0] := by simp [evRow, plainV, plainE, hb, hasN, hasL]
      rw [e1, show kindB 3 = true from rfl]
      clear e1 hk
      go_enter Tryd.func34, Tryd.ntmps34
      go_wp2_with fail
      obtain ⟨hb, hg⟩ := alloc3 w [.int .u8 3, .int .u8 (node : Int), .int .u8 (peer : Int), .int .i64 K, .int .i64 at_, .int .u32 (mask : Int), .int .u64 (draw : Int), .slice A n c] [.int .u8 3, .int .u8 (node : Int), .int .u8 0, .int .i64 0, .int .i64 0, .int .u32 0, .int .u64 (draw : Int), .slice none 0 0] [.int .u8 3, .int .u8 (node : Int), .int .u8 0, .int .i64 0, .int .i64 0, .int .u32 0, .int .u64 (draw : Int), .slice none 0 0] TE TE TE
      exact ret_blk_tmp rfl (w.heap.size + 1) _ [.int .u8 3, .int .u8 (node : Int), .int .u8 0, .int .i64 0, .int .i64 0, .int .u32 0, .int .u64 (draw : Int), .slice none 0 0] _ (.bool true) rfl hb undE rfl (by rw [sizeE]; rfl) rfl rfl ⟨rfl, hg⟩
    · have e1 : evRow (plainV 4 (.slice A n c)) (plainE ⟨4, node, peer, K, at_, mask, draw, b⟩) = [.int .u8 4, .int .u8 0, .int .u8 0, .int .i64 K, .int .i64 0, .int .u32 0, .int .u64 0, .slice none 0 0] := by simp [evRow, plainV, plainE, hb, hasN, hasL]
      rw [e1, show kindB 4 = true from rfl]
      clear e1 hk
      go_enter Tryd.func34, Tryd.ntmps34
      go_wp2_with fail
      obtain ⟨hb, hg⟩ := alloc3 w [.int .u8 4, .int .u8 (node : Int), .int .u8 (peer : Int), .int .i64 K, .int .i64 at_, .int .u32 (mask : Int), .int .u64 (draw : Int), .slice A n c] [.int .u8 4, .int .u8 0, .int .u8 0, .int .i64 K, .int .i64 0, .int .u32 0, .int .u64 0, .slice none 0 0] [.int .u8 4, .int .u8 0, .int .u8 0, .int .i64 K, .int .i64 0, .int .u32 0, .int .u64 0, .slice none 0 0] TE TE TE
      exact ret_blk_tmp rfl (w.heap.size + 1) _ [.int .u8 4, .int .u8 0, .int .u8 0, .int .i64 K, .int .i64 0, .int .u32 0, .int .u64 0, .slice none 0 0] _ (.bool true) rfl hb undE rfl (by rw [sizeE]; rfl) rfl rfl ⟨rfl, hg⟩
    · have e1 : evRow (plainV 5 (.slice A n c)) (plainE ⟨5, node, peer, K, at_, mask, draw, b⟩) = [.int .u8 5, .int .u8 0, .int .u8 0, .int .i64 K, .int .i64 0, .int .u32 0, .int .u64 0, .slice none 0 0] := by simp [evRow, plainV, plainE, hb, hasN, hasL]
      rw [e1, show kindB 5 = true from rfl]
      clear e1 hk
      go_enter Tryd.func34, Tryd.ntmps34
      go_wp2_with fail
      obtain ⟨hb, hg⟩ := alloc3 w [.int .u8 5, .int .u8 (node : Int), .int .u8 (peer : Int), .int .i64 K, .int .i64 at_, .int .u32 (mask : Int), .int .u64 (draw : Int), .slice A n c] [.int .u8 5, .int .u8 0, .int .u8 0, .int .i64 K, .int .i64 0, .int .u32 0, .int .u64 0, .slice none 0 0] [.int .u8 5, .int .u8 0, .int .u8 0, .int .i64 K, .int .i64 0, .int .u32 0, .int .u64 0, .slice none 0 0] TE TE TE
      exact ret_blk_tmp rfl (w.heap.size + 1) _ [.int .u8 5, .int .u8 0, .int .u8 0, .int .i64 K, .int .i64 0, .int .u32 0, .int .u64 0, .slice none 0 0] _ (.bool true) rfl hb undE rfl (by rw [sizeE]; rfl) rfl rfl ⟨rfl, hg⟩
    · have e1 : evRow (plainV 6 (.slice A n c)) (plainE ⟨6, node, peer, K, at_, mask, draw, b⟩) = [.int .u8 6, .int .u8 0, .int .u8 0, .int .i64 K, .int .i64 0, .int .u32 0, .int .u64 0, .slice none 0 0] := by simp [evRow, plainV, plainE, hb, hasN, hasL]
      rw [e1, show kindB 6 = true from rfl]
      clear e1 hk
      go_enter Tryd.func34, Tryd.ntmps34
      go_wp2_with fail
      obtain ⟨hb, hg⟩ := alloc3 w [.int .u8 6, .int .u8 (node : Int), .int .u8 (peer : Int), .int .i64 K, .int .i64 at_, .int .u32 (mask : Int), .int .u64 (draw : Int), .slice A n c] [.int .u8 6, .int .u8 0, .int .u8 0, .int .i64 K, .int .i64 0, .int .u32 0, .int .u64 0, .slice none 0 0] [.int .u8 6, .int .u8 0, .int .u8 0, .int .i64 K, .int .i64 0, .int .u32 0, .int .u64 0, .slice none 0 0] TE TE TE
      exact ret_blk_tmp rfl (w.heap.size + 1) _ [.int .u8 6, .int .u8 0, .int .u8 0, .int .i64 K, .int .i64 0, .int .u32 0, .int .u64 0, .slice none 0 0] _ (.bool true) rfl hb undE rfl (by rw [sizeE]; rfl) rfl rfl ⟨rfl, hg⟩
    · have e1 : evRow (plainV 7 (.slice A n c)) (plainE ⟨7, node, peer, K, at_, mask, draw, b⟩) = [.int .u8 7, .int .u8 0, .int .u8 0, .int .i64 K, .int .i64 at_, .int .u32 (mask : Int), .int .u64 0, .slice none 0 0] := by simp [evRow, plainV, plainE, hb, hasN, hasL]
      rw [e1, show kindB 7 = true from rfl]
      clear e1 hk
      go_enter Tryd.func34, Tryd.ntmps34
      go_wp2_with fail
      obtain ⟨hb, hg⟩ := alloc3 w [.int .u8 7, .int .u8 (node : Int), .int .u8 (peer : Int), .int .i64 K, .int .i64 at_, .int .u32 (mask : Int), .int .u64 (draw : Int), .slice A n c] [.int .u8 7, .int .u8 0, .int .u8 0, .int .i64 K, .int .i64 at_, .int .u32 (mask : Int), .int .u64 0, .slice none 0 0] [.int .u8 7, .int .u8 0, .int .u8 0, .int .i64 K, .int .i64 at_, .int .u32 (mask : Int), .int .u64 0, .slice none 0 0] TE TE TE
      exact ret_blk_tmp rfl (w.heap.size + 1) _ [.int .u8 7, .int .u8 0, .int .u8 0, .int .i64 K, .int .i64 at_, .int .u32 (mask : Int), .int .u64 0, .slice none 0 0] _ (.bool true) rfl hb undE rfl (by rw [sizeE]; rfl) rfl rfl ⟨rfl, hg⟩
    · have e1 : evRow (plainV 8 (.slice A n c)) (plainE ⟨8, node, peer, K, at_, mask, draw, b⟩) = [.int .u8 8, .int .u8 (node : Int), .int .u8 0, .int .i64 0, .int .i64 0, .int .u32 0, .int .u64 0, .slice none 0 0] := by simp [evRow, plainV, plainE, hb, hasN, hasL]
      rw [e1, show kindB 8 = true from rfl]
      clear e1 hk
      go_enter Tryd.func34, Tryd.ntmps34
      go_wp2_with fail
      obtain ⟨hb, hg⟩ := alloc3 w [.int .u8 8, .int .u8 (node : Int), .int .u8 (peer : Int), .int .i64 K, .int .i64 at_, .int .u32 (mask : Int), .int .u64 (draw : Int), .slice A n c] [.int .u8 8, .int .u8 (node : Int), .int .u8 0, .int .i64 0, .int .i64 0, .int .u32 0, .int .u64 0, .slice none 0 0] [.int .u8 8, .int .u8 (node : Int), .int .u8 0, .int .i64 0, .int .i64 0, .int .u32 0, .int .u64 0, .slice none 0 0] TE TE TE
      exact ret_blk_tmp rfl (w.heap.size + 1) _ [.int .u8 8, .int .u8 (node : Int), .int .u8 0, .int .i64 0, .int .i64 0, .int .u32 0, .int .u64 0, .slice none 0 0] _ (.bool true) rfl hb undE rfl (by rw [sizeE]; rfl) rfl rfl ⟨rfl, hg⟩
    · have e1 : evRow (plainV 9 (.slice A n c)) (plainE ⟨9, node, peer, K, at_, mask, draw, b⟩) = [.int .u8 9, .int .u8 (node : Int), .int .u8 0, .int .i64 K, .int .i64 0, .int .u32 0, .int .u64 0, .slice none 0 0] := by simp [evRow, plainV, plainE, hb, hasN, hasL]
      rw [e1, show kindB 9 = true from rfl]
      clear e1 hk
      go_enter Tryd.func34, Tryd.ntmps34
      go_wp2_with fail
      obtain ⟨hb, hg⟩ := alloc3 w [.int .u8 9, .int .u8 (node : Int), .int .u8 (peer : Int), .int .i64 K, .int .i64 at_, .int .u32 (mask : Int), .int .u64 (draw : Int), .slice A n c] [.int .u8 9, .int .u8 (node : Int), .int .u8 0, .int .i64 K, .int .i64 0, .int .u32 0, .int .u64 0, .slice none 0 0] [.int .u8 9, .int .u8 (node : Int), .int .u8 0, .int .i64 K, .int .i64 0, .int .u32 0, .int .u64 0, .slice none 0 0] TE TE TE
      exact ret_blk_tmp rfl (w.heap.size + 1) _ [.int .u8 9, .int .u8 (node : Int), .int .u8 0, .int .i64 K, .int .i64 0, .int .u32 0, .int .u64 0, .slice none 0 0] _ (.bool true) rfl hb undE rfl (by rw [sizeE]; rfl) rfl rfl ⟨rfl, hg⟩
    · have e1 : evRow (plainV 10 (.slice A n c)) (plainE ⟨10, node, peer, K, at_, mask, draw, b⟩) = [.int .u8 10, .int .u8 (node : Int), .int .u8 0, .int .i64 0, .int .i64 0, .int .u32 0, .int .u64 0, .slice none 0 0] := by simp [evRow, plainV, plainE, hb, hasN, hasL]
      rw [e1, show kindB 10 = true from rfl]
      clear e1 hk
      go_enter Tryd.func34, Tryd.ntmps34
      go_wp2_with fail
      obtain ⟨hb, hg⟩ := alloc3 w [.int .u8 10, .int .u8 (node : Int), .int .u8 (peer : Int), .int .i64 K, .int .i64 at_, .int .u32 (mask : Int), .int .u64 (draw : Int), .slice A n c] [.int .u8 10, .int .u8 (node : Int), .int .u8 0, .int .i64 0, .int .i64 0, .int .u32 0, .int .u64 0, .slice none 0 0] [.int .u8 10, .int .u8 (node : Int), .int .u8 0, .int .i64 0, .int .i64 0, .int .u32 0, .int .u64 0, .slice none 0 0] TE TE TE
      exact ret_blk_tmp rfl (w.heap.size + 1) _ [.int .u8 10, .int .u8 (node : Int), .int .u8 0, .int .i64 0, .int .i64 0, .int .u32 0, .int .u64 0, .slice none 0 0] _ (.bool true) rfl hb undE rfl (by rw [sizeE]; rfl) rfl rfl ⟨rfl, hg⟩
    · have e1 : evRow (plainV 11 (.slice A n c)) (plainE ⟨11, node, peer, K, at_, mask, draw, b⟩) = [.int .u8 11, .int .u8 (node : Int), .int .u8 (peer : Int), .int .i64 0, .int .i64 0, .int .u32 0, .int .u64 0, .slice none 0 0] := by simp [evRow, plainV, plainE, hb, hasN, hasL]
      rw [e1, show kindB 11 = true from rfl]
      clear e1 hk
      go_enter Tryd.func34, Tryd.ntmps34
      go_wp2_with fail
      obtain ⟨hb, hg⟩ := alloc3 w [.int .u8 11, .int .u8 (node : Int), .int .u8 (peer : Int), .int .i64 K, .int .i64 at_, .int .u32 (mask : Int), .int .u64 (draw : Int), .slice A n c] [.int .u8 11, .int .u8 (node : Int), .int .u8 (peer : Int), .int .i64 0, .int .i64 0, .int .u32 0, .int .u64 0, .slice none 0 0] [.int .u8 11, .int .u8 (node : Int), .int .u8 (peer : Int), .int .i64 0, .int .i64 0, .int .u32 0, .int .u64 0, .slice none 0 0] TE TE TE
      exact ret_blk_tmp rfl (w.heap.size + 1) _ [.int .u8 11, .int .u8 (node : Int), .int .u8 (peer : Int), .int .i64 0, .int .i64 0, .int .u32 0, .int .u64 0, .slice none 0 0] _ (.bool true) rfl hb undE rfl (by rw [sizeE]; rfl) rfl rfl ⟨rfl, hg⟩
    · have e1 : evRow (plainV 12 (.slice A n c)) (plainE ⟨12, node, peer, K, at_, mask, draw, b⟩) = [.int .u8 12, .int .u8 0, .int .u8 0, .int .i64 0, .int .i64 0, .int .u32 0, .int .u64 0, .slice none 0 0] := by simp [evRow, plainV, plainE, hb, hasN, hasL]
      rw [e1, show kindB 12 = true from rfl]
      clear e1 hk
      go_enter Tryd.func34, Tryd.ntmps34
      go_wp2_with fail
      obtain ⟨hb, hg⟩ := alloc3 w [.int .u8 12, .int .u8 (node : Int), .int .u8 (peer : Int), .int .i64 K, .int .i64 at_, .int .u32 (mask : Int), .int .u64 (draw : Int), .slice A n c] [.int .u8 12, .int .u8 0, .int .u8 0, .int .i64 0, .int .i64 0, .int .u32 0, .int .u64 0, .slice none 0 0] [.int .u8 12, .int .u8 0, .int .u8 0, .int .i64 0, .int .i64 0, .int .u32 0, .int .u64 0, .slice none 0 0] TE TE TE
      exact ret_blk_tmp rfl (w.heap.size + 1) _ [.int .u8 12, .int .u8 0, .int .u8 0, .int .i64 0, .int .i64 0, .int .u32 0, .int .u64 0, .slice none 0 0] _ (.bool true) rfl hb undE rfl (by rw [sizeE]; rfl) rfl rfl ⟨rfl, hg⟩
  · have h1 : kindB k = false := by simpa using hk
    rw [h1]
    have hh : ∀ i, hb k i = false := fun i => by
      unfold kindB at h1
      simp only [Bool.and_eq_false_iff, decide_eq_false_iff_not] at h1
      have h9 : hasN k = 0 := by
        by_cases h0 : k = 0
        · subst h0; rfl
        · exact hasN_big (by omega)
      unfold hb
      rw [h9, Nat.zero_div]
      rfl
    have hkk : ∀ q : Nat, 1 ≤ q → q ≤ 12 → k ≠ q := fun q hq1 hq2 e => by subst e; unfold kindB at h1; simp at h1; omega
    have e1 : evRow (plainV k (.slice A n c)) (plainE ⟨k, node, peer, K, at_, mask, draw, b⟩) = [.int .u8 (k : Int), .int .u8 0, .int .u8 0, .int .i64 0, .int .i64 0, .int .u32 0, .int .u64 0, .slice none 0 0] := by
      unfold evRow plainV plainE
      simp [hh]
    try dsimp only at e1 ⊢
    rw [e1]
    have t1 : ((k : Int) == 1) = false := beq_false_of_ne (by have := hkk 1 (by decide) (by decide); omega)
    have u1 : (k == 1) = false := beq_false_of_ne (hkk 1 (by decide) (by decide))
    have t2 : ((k : Int) == 2) = false := beq_false_of_ne (by have := hkk 2 (by decide) (by decide); omega)
    have u2 : (k == 2) = false := beq_false_of_ne (hkk 2 (by decide) (by decide))
    have t8 : ((k : Int) == 8) = false := beq_false_of_ne (by have := hkk 8 (by decide) (by decide); omega)
    have u8 : (k == 8) = false := beq_false_of_ne (hkk 8 (by decide) (by decide))
    have t10 : ((k : Int) == 10) = false := beq_false_of_ne (by have := hkk 10 (by decide) (by decide); omega)
    have u10 : (k == 10) = false := beq_false_of_ne (hkk 10 (by decide) (by decide))
    have t3 : ((k : Int) == 3) = false := beq_false_of_ne (by have := hkk 3 (by decide) (by decide); omega)
    have u3 : (k == 3) = false := beq_false_of_ne (hkk 3 (by decide) (by decide))
    have t4 : ((k : Int) == 4) = false := beq_false_of_ne (by have := hkk 4 (by decide) (by decide); omega)
    have u4 : (k == 4) = false := beq_false_of_ne (hkk 4 (by decide) (by decide))
    have t5 : ((k : Int) == 5) = false := beq_false_of_ne (by have := hkk 5 (by decide) (by decide); omega)
    have u5 : (k == 5) = false := beq_false_of_ne (hkk 5 (by decide) (by decide))
    have t6 : ((k : Int) == 6) = false := beq_false_of_ne (by have := hkk 6 (by decide) (by decide); omega)
    have u6 : (k == 6) = false := beq_false_of_ne (hkk 6 (by decide) (by decide))
    have t7 : ((k : Int) == 7) = false := beq_false_of_ne (by have := hkk 7 (by decide) (by decide); omega)
    have u7 : (k == 7) = false := beq_false_of_ne (hkk 7 (by decide) (by decide))
    have t9 : ((k : Int) == 9) = false := beq_false_of_ne (by have := hkk 9 (by decide) (by decide); omega)
    have u9 : (k == 9) = false := beq_false_of_ne (hkk 9 (by decide) (by decide))
    have t11 : ((k : Int) == 11) = false := beq_false_of_ne (by have := hkk 11 (by decide) (by decide); omega)
    have u11 : (k == 11) = false := beq_false_of_ne (hkk 11 (by decide) (by decide))
    have t12 : ((k : Int) == 12) = false := beq_false_of_ne (by have := hkk 12 (by decide) (by decide); omega)
    have u12 : (k == 12) = false := beq_false_of_ne (hkk 12 (by decide) (by decide))
    clear hk h1 hh hkk e1
    go_enter Tryd.func34, Tryd.ntmps34
    go_wp2_with fail
    obtain ⟨hb, hg⟩ := alloc3 w [.int .u8 (k : Int), .int .u8 (node : Int), .int .u8 (peer : Int), .int .i64 K, .int .i64 at_, .int .u32 (mask : Int), .int .u64 (draw : Int), .slice A n c] [.int .u8 (k : Int), .int .u8 0, .int .u8 0, .int .i64 0, .int .i64 0, .int .u32 0, .int .u64 0, .slice none 0 0] [.int .u8 (k : Int), .int .u8 0, .int .u8 0, .int .i64 0, .int .i64 0, .int .u32 0, .int .u64 0, .slice none 0 0] TE TE TE
    exact ret_blk_tmp rfl (w.heap.size + 1) _ [.int .u8 (k : Int), .int .u8 0, .int .u8 0, .int .i64 0, .int .i64 0, .int .u32 0, .int .u64 0, .slice none 0 0] _ (.bool false) rfl hb undE rfl (by rw [sizeE]; rfl) rfl rfl ⟨rfl, hg⟩
end Go.Proofs.YtmekdhlcflielaaDoor.ev
