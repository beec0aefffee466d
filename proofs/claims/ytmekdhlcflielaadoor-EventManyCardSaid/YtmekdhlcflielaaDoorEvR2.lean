/- The walk of the document's Good (printed by gen_evr2.py). -/
import Derived.Test.YtmekdhlcflielaaDoorEvR
namespace Go.Proofs.YtmekdhlcflielaaDoor.ev
open Go Go.RowKit Go.Par Go.Kit Go.Proofs.YtmekdhlcflielaaDoor.bfW

set_option maxRecDepth 100000 in
set_option maxHeartbeats 16000000 in
theorem rgood_any (w : World) (e : Ev) (A : Option Addr) (n c : Nat) (hby : Bytes w A n e.b) :
    Calls Tryd.prog 15 #[.agg #[.int .u8 (e.k : Int), .int .u8 (e.node : Int), .int .u8 (e.peer : Int), .int .i64 e.K, .int .i64 e.at_, .int .u32 (e.mask : Int), .int .u64 (e.draw : Int), .slice A n c]] w fun r w' => r = .returned (.bool (rgoodB e)) ∧ Grow w w' := by
  obtain ⟨A', n', c', hpv, hpb⟩ : ∃ A' n' c', plainV e.k (.slice A n c) = .slice A' n' c' ∧ ∀ w', Grow w w' → Bytes w' A' n' (plainE e).b := by
    unfold plainV plainE
    by_cases h : hb e.k 5 = true
    · rw [if_pos h]
      exact ⟨A, n, c, rfl, fun w' hg => by dsimp only; rw [if_pos h]; exact hby.grow hg⟩
    · rw [if_neg h]
      exact ⟨none, 0, 0, rfl, fun w' _ => by dsimp only; rw [if_neg h]; exact Row.nil w' none⟩
  have hlen : e.b.length = n := hby.len
  have hpl := fun W => plain_any W e A n c
  have hsm := fun w' (hg : Grow w w') => rsame_any w' (plainE e) e A' A n' n c' c (hpb w' hg) (hby.grow hg)
  obtain ⟨sm, hsm9⟩ : ∃ q, q = sameB (plainE e) e := ⟨_, rfl⟩
  obtain ⟨kd, hkd⟩ : ∃ q, q = kindB e.k := ⟨_, rfl⟩
  obtain ⟨nd, hnd⟩ : ∃ q, q = nodedB e.k := ⟨_, rfl⟩
  have hno := fun W => noded_any W e.k
  unfold rgoodB
  rw [hpv] at hpl
  rw [← hkd] at hpl
  rw [← hsm9] at hsm
  rw [← hnd] at hno
  rw [← hkd, ← hsm9, ← hnd, hlen]
  obtain ⟨q, hq⟩ : ∃ q, q = plainE e := ⟨_, rfl⟩
  rw [← hq] at hpl hsm
  unfold evRow at hpl
  obtain ⟨k', node', peer', K', at', mask', draw', b'⟩ := q
  obtain ⟨k, node, peer, K, at_, mask, draw, b⟩ := e
  dsimp only at hpl hsm hno hlen ⊢
  obtain ⟨l1, el1⟩ : ∃ q, q = decide (131072 < n) := ⟨_, rfl⟩
  obtain ⟨k1, ek1⟩ : ∃ q, q = decide (K < 0) := ⟨_, rfl⟩
  obtain ⟨k2, ek2⟩ : ∃ q, q = decide (1048576 < K) := ⟨_, rfl⟩
  obtain ⟨a1, ea1⟩ : ∃ q, q = decide (at_ < 0) := ⟨_, rfl⟩
  obtain ⟨a2, ea2⟩ : ∃ q, q = decide (1048576 < at_) := ⟨_, rfl⟩
  obtain ⟨n1, en1⟩ : ∃ q, q = decide (node < 1) := ⟨_, rfl⟩
  obtain ⟨n2, en2⟩ : ∃ q, q = decide (64 < node) := ⟨_, rfl⟩
  obtain ⟨p1, ep1⟩ : ∃ q, q = decide (1 ≤ peer) := ⟨_, rfl⟩
  obtain ⟨p2, ep2⟩ : ∃ q, q = decide (peer ≤ 64) := ⟨_, rfl⟩
  obtain ⟨k11, ek11⟩ : ∃ q, q = (k != 11) := ⟨_, rfl⟩
  obtain ⟨pn, epn⟩ : ∃ q, q = (peer != node) := ⟨_, rfl⟩
  rw [← el1, ← ek1, ← ek2, ← ea1, ← ea2, ← en1, ← en2, ← ep1, ← ep2, ← ek11, ← epn]
  have tl1 := el1.symm
  have ul1 : decide ((131072 : Int) < (n : Int)) = l1 := by rw [el1, decide_eq_decide]; omega
  have tk1 := ek1.symm
  have tk2 := ek2.symm
  have ta1 := ea1.symm
  have ta2 := ea2.symm
  have tn1 := en1.symm
  have un1 : decide ((node : Int) < 1) = n1 := by rw [en1, decide_eq_decide]; omega
  have tn2 := en2.symm
  have un2 : decide ((64 : Int) < (node : Int)) = n2 := by rw [en2, decide_eq_decide]; omega
  have tp1 := ep1.symm
  have up1 : decide ((1 : Int) ≤ (peer : Int)) = p1 := by rw [ep1, decide_eq_decide]; omega
  have tp2 := ep2.symm
  have up2 : decide ((peer : Int) ≤ 64) = p2 := by rw [ep2, decide_eq_decide]; omega
  have tk11 := ek11.symm
  have uk11 : ((k : Int) != 11) = k11 := by rw [ek11, Bool.eq_iff_iff, bne_iff_ne, bne_iff_ne]; omega
  have tpn := epn.symm
  have upn : ((peer : Int) != (node : Int)) = pn := by rw [epn, Bool.eq_iff_iff, bne_iff_ne, bne_iff_ne]; omega
  obtain ⟨W1, hW1⟩ : ∃ W, W = w.alloc (.cells #[.int .u8 (k : Int), .int .u8 (node : Int), .int .u8 (peer : Int), .int .i64 K, .int .i64 at_, .int .u32 (mask : Int), .int .u64 (draw : Int), .slice A n c] TE) := ⟨_, rfl⟩
  have hg1 : Grow w W1 := by rw [hW1]; exact Grow.alloc _ _
  have hb1 : Blk W1 w.heap.size TE [.int .u8 (k : Int), .int .u8 (node : Int), .int .u8 (peer : Int), .int .i64 K, .int .i64 at_, .int .u32 (mask : Int), .int .u64 (draw : Int), .slice A n c] := by rw [hW1]; exact Blk.new _ _ _ _ rfl rfl
  have HPL := Lib.hid hpl
  have HSM := Lib.hid hsm
  have HNO := Lib.hid hno
  have HB := Lib.hid hb1
  have HG := Lib.hid hg1
  have HW1 := Lib.hid hW1
  have x0 := hb1.cell (i := 0) rfl
  have x1 := hb1.cell (i := 1) rfl
  have x2 := hb1.cell (i := 2) rfl
  have x3 := hb1.cell (i := 3) rfl
  have x4 := hb1.cell (i := 4) rfl
  have x5 := hb1.cell (i := 5) rfl
  have x6 := hb1.cell (i := 6) rfl
  have x7 := hb1.cell (i := 7) rfl
  clear hby hpv hpb hlen hpl hsm hsm9 hkd hnd hno hq hb1 hg1 hW1 ek11 epn el1 ek1 ek2 ea1 ea2 en1 en2 ep1 ep2
  go_enter Tryd.func15, Tryd.ntmps15
  try dsimp only
  repeat (first | with_reducible (refine wp_region_cut (k := 1) ?_) | go_values | go_guarded | go_step | go_upon | go_back)
  rw [← HW1.out]
  unfold Cut
  go_wp2_with fail
  refine (HPL.out W1).mono ?_
  rintro r w2 ⟨rfl, hg2⟩
  obtain ⟨b3, hb3⟩ : ∃ b, b = w2.heap.size := ⟨_, rfl⟩
  obtain ⟨W3, hW3⟩ : ∃ W, W = w2.alloc (.cells #[.int .u8 (k' : Int), .int .u8 (node' : Int), .int .u8 (peer' : Int), .int .i64 K', .int .i64 at', .int .u32 (mask' : Int), .int .u64 (draw' : Int), .slice A' n' c'] TE) := ⟨_, rfl⟩
  have hg23 : Grow w2 W3 := by rw [hW3]; exact Grow.alloc _ _
  have hq3 : Blk W3 b3 TE [.int .u8 (k' : Int), .int .u8 (node' : Int), .int .u8 (peer' : Int), .int .i64 K', .int .i64 at', .int .u32 (mask' : Int), .int .u64 (draw' : Int), .slice A' n' c'] := by rw [hW3]; exact Blk.new _ _ _ _ rfl hb3
  have HG3 := Lib.hid (HG.out.trans (hg2.trans hg23))
  have HB3 := Lib.hid (HB.out.grow (hg2.trans hg23))
  have HQ3 := Lib.hid hq3
  have HW3 := Lib.hid hW3
  have HH3 := Lib.hid hb3
  clear x0 x1 x2 x3 x4 x5 x6 x7 HB HG hg2 hb3 hW3 hg23 hq3
  dsimp only
  repeat (first | with_reducible (refine wp_region_cut (k := 2) ?_) | go_values | go_guarded | go_step | go_upon | go_back)
  rw [← HH3.out, ← HW3.out]
  unfold Cut
  have x0 := HB3.out.cell (i := 0) rfl
  have y0 := HQ3.out.cell (i := 0) rfl
  have x1 := HB3.out.cell (i := 1) rfl
  have y1 := HQ3.out.cell (i := 1) rfl
  have x2 := HB3.out.cell (i := 2) rfl
  have y2 := HQ3.out.cell (i := 2) rfl
  have x3 := HB3.out.cell (i := 3) rfl
  have y3 := HQ3.out.cell (i := 3) rfl
  have x4 := HB3.out.cell (i := 4) rfl
  have y4 := HQ3.out.cell (i := 4) rfl
  have x5 := HB3.out.cell (i := 5) rfl
  have y5 := HQ3.out.cell (i := 5) rfl
  have x6 := HB3.out.cell (i := 6) rfl
  have y6 := HQ3.out.cell (i := 6) rfl
  have x7 := HB3.out.cell (i := 7) rfl
  have y7 := HQ3.out.cell (i := 7) rfl
  cases kd
  case false =>
    go_wp2_with fail
    go_ret
    exact ⟨rfl, HG3.out⟩
  cases sm
  case false =>
    go_wp2_with (first | (go_at_call 17; refine (HSM.out W3 HG3.out).mono ?_; rintro r w4 ⟨rfl, hg4⟩; have z0 := (HB3.out.grow hg4).cell (i := 0) rfl; have z1 := (HB3.out.grow hg4).cell (i := 1) rfl; have z2 := (HB3.out.grow hg4).cell (i := 2) rfl; have z3 := (HB3.out.grow hg4).cell (i := 3) rfl; have z4 := (HB3.out.grow hg4).cell (i := 4) rfl; have z7 := (HB3.out.grow hg4).cell (i := 7) rfl; have HG4 := Lib.hid (HG3.out.trans hg4); clear hg4) | (go_at_call 35; refine (HNO.out _).mono ?_; rintro r w5 ⟨rfl, rfl⟩))
    go_ret
    exact ⟨rfl, HG4.out⟩
  cases l1
  case true =>
    go_wp2_with (first | (go_at_call 17; refine (HSM.out W3 HG3.out).mono ?_; rintro r w4 ⟨rfl, hg4⟩; have z0 := (HB3.out.grow hg4).cell (i := 0) rfl; have z1 := (HB3.out.grow hg4).cell (i := 1) rfl; have z2 := (HB3.out.grow hg4).cell (i := 2) rfl; have z3 := (HB3.out.grow hg4).cell (i := 3) rfl; have z4 := (HB3.out.grow hg4).cell (i := 4) rfl; have z7 := (HB3.out.grow hg4).cell (i := 7) rfl; have HG4 := Lib.hid (HG3.out.trans hg4); clear hg4) | (go_at_call 35; refine (HNO.out _).mono ?_; rintro r w5 ⟨rfl, rfl⟩))
    go_ret
    exact ⟨rfl, HG4.out⟩
  cases k1
  case true =>
    go_wp2_with (first | (go_at_call 17; refine (HSM.out W3 HG3.out).mono ?_; rintro r w4 ⟨rfl, hg4⟩; have z0 := (HB3.out.grow hg4).cell (i := 0) rfl; have z1 := (HB3.out.grow hg4).cell (i := 1) rfl; have z2 := (HB3.out.grow hg4).cell (i := 2) rfl; have z3 := (HB3.out.grow hg4).cell (i := 3) rfl; have z4 := (HB3.out.grow hg4).cell (i := 4) rfl; have z7 := (HB3.out.grow hg4).cell (i := 7) rfl; have HG4 := Lib.hid (HG3.out.trans hg4); clear hg4) | (go_at_call 35; refine (HNO.out _).mono ?_; rintro r w5 ⟨rfl, rfl⟩))
    go_ret
    exact ⟨rfl, HG4.out⟩
  cases k2
  case true =>
    go_wp2_with (first | (go_at_call 17; refine (HSM.out W3 HG3.out).mono ?_; rintro r w4 ⟨rfl, hg4⟩; have z0 := (HB3.out.grow hg4).cell (i := 0) rfl; have z1 := (HB3.out.grow hg4).cell (i := 1) rfl; have z2 := (HB3.out.grow hg4).cell (i := 2) rfl; have z3 := (HB3.out.grow hg4).cell (i := 3) rfl; have z4 := (HB3.out.grow hg4).cell (i := 4) rfl; have z7 := (HB3.out.grow hg4).cell (i := 7) rfl; have HG4 := Lib.hid (HG3.out.trans hg4); clear hg4) | (go_at_call 35; refine (HNO.out _).mono ?_; rintro r w5 ⟨rfl, rfl⟩))
    go_ret
    exact ⟨rfl, HG4.out⟩
  cases a1
  case true =>
    go_wp2_with (first | (go_at_call 17; refine (HSM.out W3 HG3.out).mono ?_; rintro r w4 ⟨rfl, hg4⟩; have z0 := (HB3.out.grow hg4).cell (i := 0) rfl; have z1 := (HB3.out.grow hg4).cell (i := 1) rfl; have z2 := (HB3.out.grow hg4).cell (i := 2) rfl; have z3 := (HB3.out.grow hg4).cell (i := 3) rfl; have z4 := (HB3.out.grow hg4).cell (i := 4) rfl; have z7 := (HB3.out.grow hg4).cell (i := 7) rfl; have HG4 := Lib.hid (HG3.out.trans hg4); clear hg4) | (go_at_call 35; refine (HNO.out _).mono ?_; rintro r w5 ⟨rfl, rfl⟩))
    go_ret
    exact ⟨rfl, HG4.out⟩
  cases a2
  case true =>
    go_wp2_with (first | (go_at_call 17; refine (HSM.out W3 HG3.out).mono ?_; rintro r w4 ⟨rfl, hg4⟩; have z0 := (HB3.out.grow hg4).cell (i := 0) rfl; have z1 := (HB3.out.grow hg4).cell (i := 1) rfl; have z2 := (HB3.out.grow hg4).cell (i := 2) rfl; have z3 := (HB3.out.grow hg4).cell (i := 3) rfl; have z4 := (HB3.out.grow hg4).cell (i := 4) rfl; have z7 := (HB3.out.grow hg4).cell (i := 7) rfl; have HG4 := Lib.hid (HG3.out.trans hg4); clear hg4) | (go_at_call 35; refine (HNO.out _).mono ?_; rintro r w5 ⟨rfl, rfl⟩))
    go_ret
    exact ⟨rfl, HG4.out⟩
  cases nd
  case false =>
    cases k11
    case true =>
      go_wp2_with (first | (go_at_call 17; refine (HSM.out W3 HG3.out).mono ?_; rintro r w4 ⟨rfl, hg4⟩; have z0 := (HB3.out.grow hg4).cell (i := 0) rfl; have z1 := (HB3.out.grow hg4).cell (i := 1) rfl; have z2 := (HB3.out.grow hg4).cell (i := 2) rfl; have z3 := (HB3.out.grow hg4).cell (i := 3) rfl; have z4 := (HB3.out.grow hg4).cell (i := 4) rfl; have z7 := (HB3.out.grow hg4).cell (i := 7) rfl; have HG4 := Lib.hid (HG3.out.trans hg4); clear hg4) | (go_at_call 35; refine (HNO.out _).mono ?_; rintro r w5 ⟨rfl, rfl⟩))
      go_ret
      exact ⟨rfl, HG4.out⟩
    cases p1
    case false =>
      go_wp2_with (first | (go_at_call 17; refine (HSM.out W3 HG3.out).mono ?_; rintro r w4 ⟨rfl, hg4⟩; have z0 := (HB3.out.grow hg4).cell (i := 0) rfl; have z1 := (HB3.out.grow hg4).cell (i := 1) rfl; have z2 := (HB3.out.grow hg4).cell (i := 2) rfl; have z3 := (HB3.out.grow hg4).cell (i := 3) rfl; have z4 := (HB3.out.grow hg4).cell (i := 4) rfl; have z7 := (HB3.out.grow hg4).cell (i := 7) rfl; have HG4 := Lib.hid (HG3.out.trans hg4); clear hg4) | (go_at_call 35; refine (HNO.out _).mono ?_; rintro r w5 ⟨rfl, rfl⟩))
      go_ret
      exact ⟨rfl, HG4.out⟩
    cases p2
    case false =>
      go_wp2_with (first | (go_at_call 17; refine (HSM.out W3 HG3.out).mono ?_; rintro r w4 ⟨rfl, hg4⟩; have z0 := (HB3.out.grow hg4).cell (i := 0) rfl; have z1 := (HB3.out.grow hg4).cell (i := 1) rfl; have z2 := (HB3.out.grow hg4).cell (i := 2) rfl; have z3 := (HB3.out.grow hg4).cell (i := 3) rfl; have z4 := (HB3.out.grow hg4).cell (i := 4) rfl; have z7 := (HB3.out.grow hg4).cell (i := 7) rfl; have HG4 := Lib.hid (HG3.out.trans hg4); clear hg4) | (go_at_call 35; refine (HNO.out _).mono ?_; rintro r w5 ⟨rfl, rfl⟩))
      go_ret
      exact ⟨rfl, HG4.out⟩
    · skip
      go_wp2_with (first | (go_at_call 17; refine (HSM.out W3 HG3.out).mono ?_; rintro r w4 ⟨rfl, hg4⟩; have z0 := (HB3.out.grow hg4).cell (i := 0) rfl; have z1 := (HB3.out.grow hg4).cell (i := 1) rfl; have z2 := (HB3.out.grow hg4).cell (i := 2) rfl; have z3 := (HB3.out.grow hg4).cell (i := 3) rfl; have z4 := (HB3.out.grow hg4).cell (i := 4) rfl; have z7 := (HB3.out.grow hg4).cell (i := 7) rfl; have HG4 := Lib.hid (HG3.out.trans hg4); clear hg4) | (go_at_call 35; refine (HNO.out _).mono ?_; rintro r w5 ⟨rfl, rfl⟩))
      go_ret
      exact ⟨rfl, HG4.out⟩
  cases n1
  case true =>
    go_wp2_with (first | (go_at_call 17; refine (HSM.out W3 HG3.out).mono ?_; rintro r w4 ⟨rfl, hg4⟩; have z0 := (HB3.out.grow hg4).cell (i := 0) rfl; have z1 := (HB3.out.grow hg4).cell (i := 1) rfl; have z2 := (HB3.out.grow hg4).cell (i := 2) rfl; have z3 := (HB3.out.grow hg4).cell (i := 3) rfl; have z4 := (HB3.out.grow hg4).cell (i := 4) rfl; have z7 := (HB3.out.grow hg4).cell (i := 7) rfl; have HG4 := Lib.hid (HG3.out.trans hg4); clear hg4) | (go_at_call 35; refine (HNO.out _).mono ?_; rintro r w5 ⟨rfl, rfl⟩))
    go_ret
    exact ⟨rfl, HG4.out⟩
  cases n2
  case true =>
    go_wp2_with (first | (go_at_call 17; refine (HSM.out W3 HG3.out).mono ?_; rintro r w4 ⟨rfl, hg4⟩; have z0 := (HB3.out.grow hg4).cell (i := 0) rfl; have z1 := (HB3.out.grow hg4).cell (i := 1) rfl; have z2 := (HB3.out.grow hg4).cell (i := 2) rfl; have z3 := (HB3.out.grow hg4).cell (i := 3) rfl; have z4 := (HB3.out.grow hg4).cell (i := 4) rfl; have z7 := (HB3.out.grow hg4).cell (i := 7) rfl; have HG4 := Lib.hid (HG3.out.trans hg4); clear hg4) | (go_at_call 35; refine (HNO.out _).mono ?_; rintro r w5 ⟨rfl, rfl⟩))
    go_ret
    exact ⟨rfl, HG4.out⟩
  cases k11
  case true =>
    go_wp2_with (first | (go_at_call 17; refine (HSM.out W3 HG3.out).mono ?_; rintro r w4 ⟨rfl, hg4⟩; have z0 := (HB3.out.grow hg4).cell (i := 0) rfl; have z1 := (HB3.out.grow hg4).cell (i := 1) rfl; have z2 := (HB3.out.grow hg4).cell (i := 2) rfl; have z3 := (HB3.out.grow hg4).cell (i := 3) rfl; have z4 := (HB3.out.grow hg4).cell (i := 4) rfl; have z7 := (HB3.out.grow hg4).cell (i := 7) rfl; have HG4 := Lib.hid (HG3.out.trans hg4); clear hg4) | (go_at_call 35; refine (HNO.out _).mono ?_; rintro r w5 ⟨rfl, rfl⟩))
    go_ret
    exact ⟨rfl, HG4.out⟩
  cases p1
  case false =>
    go_wp2_with (first | (go_at_call 17; refine (HSM.out W3 HG3.out).mono ?_; rintro r w4 ⟨rfl, hg4⟩; have z0 := (HB3.out.grow hg4).cell (i := 0) rfl; have z1 := (HB3.out.grow hg4).cell (i := 1) rfl; have z2 := (HB3.out.grow hg4).cell (i := 2) rfl; have z3 := (HB3.out.grow hg4).cell (i := 3) rfl; have z4 := (HB3.out.grow hg4).cell (i := 4) rfl; have z7 := (HB3.out.grow hg4).cell (i := 7) rfl; have HG4 := Lib.hid (HG3.out.trans hg4); clear hg4) | (go_at_call 35; refine (HNO.out _).mono ?_; rintro r w5 ⟨rfl, rfl⟩))
    go_ret
    exact ⟨rfl, HG4.out⟩
  cases p2
  case false =>
    go_wp2_with (first | (go_at_call 17; refine (HSM.out W3 HG3.out).mono ?_; rintro r w4 ⟨rfl, hg4⟩; have z0 := (HB3.out.grow hg4).cell (i := 0) rfl; have z1 := (HB3.out.grow hg4).cell (i := 1) rfl; have z2 := (HB3.out.grow hg4).cell (i := 2) rfl; have z3 := (HB3.out.grow hg4).cell (i := 3) rfl; have z4 := (HB3.out.grow hg4).cell (i := 4) rfl; have z7 := (HB3.out.grow hg4).cell (i := 7) rfl; have HG4 := Lib.hid (HG3.out.trans hg4); clear hg4) | (go_at_call 35; refine (HNO.out _).mono ?_; rintro r w5 ⟨rfl, rfl⟩))
    go_ret
    exact ⟨rfl, HG4.out⟩
  · skip
    go_wp2_with (first | (go_at_call 17; refine (HSM.out W3 HG3.out).mono ?_; rintro r w4 ⟨rfl, hg4⟩; have z0 := (HB3.out.grow hg4).cell (i := 0) rfl; have z1 := (HB3.out.grow hg4).cell (i := 1) rfl; have z2 := (HB3.out.grow hg4).cell (i := 2) rfl; have z3 := (HB3.out.grow hg4).cell (i := 3) rfl; have z4 := (HB3.out.grow hg4).cell (i := 4) rfl; have z7 := (HB3.out.grow hg4).cell (i := 7) rfl; have HG4 := Lib.hid (HG3.out.trans hg4); clear hg4) | (go_at_call 35; refine (HNO.out _).mono ?_; rintro r w5 ⟨rfl, rfl⟩))
    go_ret
    exact ⟨rfl, HG4.out⟩
end Go.Proofs.YtmekdhlcflielaaDoor.ev
