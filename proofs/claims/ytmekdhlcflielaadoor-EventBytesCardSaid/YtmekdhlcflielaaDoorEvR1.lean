/- The walk of the document's one (printed by gen_evr1.py). -/
import Derived.Test.YtmekdhlcflielaaDoorEvO
namespace Go.Proofs.YtmekdhlcflielaaDoor.ev
open Go Go.RowKit Go.Par Go.Kit Vi Go.Proofs.YtmekdhlcflielaaDoor.bfW
open Go.Proofs.YtmekdhlcflielaaDoor.viW

theorem own_new (w : World) (x : Nat) (hx : x ≤ 255) {g : Nat} (hg : g = w.heap.size) : (w.alloc (.cells #[.int .u8 (x : Int)] 5)).ownsRow w.heap.size 5 1 (.slice (some ⟨g, 0, none⟩) 1 1) 1 (u8s [Vi.u8 x]) := by
  subst hg
  exact own_shut (Nat.le_refl _) (Blk.new w _ _ [.int .u8 (x : Int)] rfl rfl) (Nat.le_refl _) (by decide) rfl (by simp [u8s, u8v, Vi.u8_toNat (n := x) (by omega)])
/-- what is written so far, in bytes of the call's own -/
def OneS (W1 cw : World) (v : Value) (Q : List UInt8) : Prop := cw.ownsRow W1.heap.size 5 1 v Q.length (u8s Q) ∧ Grow W1 cw
theorem OneS.grow {W1 cw w' : World} {v : Value} {Q : List UInt8} (h : OneS W1 cw v Q) (hg : Grow cw w') : OneS W1 w' v Q := ⟨own_grow h.1 hg, h.2.trans hg⟩
theorem OneS.next {W1 cw w1 : World} {v v1 : Value} {Q P Q' : List UInt8} {m : Nat} (h : OneS W1 cw v Q) (ho : w1.ownsRow W1.heap.size 5 1 v1 (Q.length + m) (u8s (Q ++ P))) (hg : cw.grownBy w1 v.ownBlock) (hm : m = P.length) (hQ : Q' = Q ++ P) :
    ∃ A c, v1 = .slice A Q'.length c ∧ OneS W1 w1 (.slice A Q'.length c) Q' := by
  have e : Q.length + m = Q'.length := by rw [hQ, List.length_append, hm]
  rw [e, ← hQ] at ho
  obtain ⟨A, c, rfl, -⟩ := own_form ho
  exact ⟨A, c, rfl, ho, grow_by h.2 hg (own_base h.1)⟩
theorem own_lowB {w : World} {base base' e size n : Nat} {v : Value} {xs : List Value} (h : w.ownsRow base e size v n xs) (hb : base' ≤ base) : w.ownsRow base' e size v n xs := by
  obtain ⟨h1, h2⟩ := h
  refine ⟨h1, ?_⟩
  rcases h2 with h2 | ⟨g', cap, cur, hv, h3, h5⟩
  · exact .inl h2
  · exact .inr ⟨g', cap, cur, hv, Nat.le_trans hb h3, h5⟩
theorem own_slB {w : World} {base n : Nat} {v : Value} {l : List UInt8} (h : w.ownsRow base 5 1 v n (u8s l)) : ∃ A c, v = .slice A n c ∧ Bytes w A n l := by
  obtain ⟨A, c, rfl, -, -, h3⟩ := own_form h
  rw [Nat.mul_one] at h3
  exact ⟨A, c, rfl, h3⟩

set_option maxRecDepth 100000 in
set_option maxHeartbeats 4000000 in
theorem one_1 (w : World) (node peer K at_ mask draw : Nat) (b : List UInt8) (A : Option Addr) (n c : Nat) (hby : Bytes w A n b) (hbl : b.length ≤ 100000000) (ok2 : node ≤ 255) (ok3 : peer ≤ 255) (ok4 : K ≤ 1048576) (ok5 : at_ ≤ 1048576) (ok6 : mask < 4294967296) (ok7 : draw < 18446744073709551616) :
    Calls Tryd.prog 22 #[.agg #[.int .u8 1, .int .u8 (node : Int), .int .u8 (peer : Int), .int .i64 (K : Int), .int .i64 (at_ : Int), .int .u32 (mask : Int), .int .u64 (draw : Int), .slice A n c]] w fun r w' => ∃ v, r = .returned v ∧ w'.ownsRow w.heap.size 5 1 v (evb ⟨1, node, peer, (K : Int), (at_ : Int), mask, draw, b⟩).length (u8s (evb ⟨1, node, peer, (K : Int), (at_ : Int), mask, draw, b⟩)) ∧ Grow w w' := by
  have hused : True := by have := hbl; have := hby; have := ok2; have := ok3; have := ok4; have := ok5; have := ok6; have := ok7; trivial
  clear hused
  have hres : evb ⟨1, node, peer, (K : Int), (at_ : Int), mask, draw, b⟩ = [Vi.u8 1] ++ [Vi.u8 node] ++ (vb b.length ++ b) := by
    simp [evb, hb, hasN, hasL]
  rw [hres]
  obtain ⟨P0, hP0⟩ : ∃ P, P = [Vi.u8 node] := ⟨_, rfl⟩
  obtain ⟨P1, hP1⟩ : ∃ P, P = (vb b.length ++ b) := ⟨_, rfl⟩
  rw [← hP0, ← hP1]
  obtain ⟨Q0, hQ0⟩ : ∃ Q, Q = [Vi.u8 1] := ⟨_, rfl⟩
  rw [← hQ0]
  have hl0 : Q0.length = 1 := by rw [hQ0]; rfl
  obtain ⟨Q1, hQ1⟩ : ∃ Q, Q = Q0 ++ P0 := ⟨_, rfl⟩
  rw [← hQ1]
  have hm0 : P0.length = 1 := by rw [hP0]; rfl
  have hl1 : Q1.length = Q0.length + P0.length := by rw [hQ1, List.length_append]
  obtain ⟨Q2, hQ2⟩ : ∃ Q, Q = Q1 ++ P1 := ⟨_, rfl⟩
  rw [← hQ2]
  have hm1 : P1.length ≤ 10 + b.length := by rw [hP1, List.length_append]; have := vb_len_le b.length; omega
  have hl2 : Q2.length = Q1.length + P1.length := by rw [hQ2, List.length_append]
  obtain ⟨W1, hW1⟩ : ∃ W, W = w.alloc (.cells #[.int .u8 1, .int .u8 (node : Int), .int .u8 (peer : Int), .int .i64 (K : Int), .int .i64 (at_ : Int), .int .u32 (mask : Int), .int .u64 (draw : Int), .slice A n c] TE) := ⟨_, rfl⟩
  have hg1 : Grow w W1 := by rw [hW1]; exact Grow.alloc _ _
  have hb1 : Blk W1 w.heap.size TE [.int .u8 1, .int .u8 (node : Int), .int .u8 (peer : Int), .int .i64 (K : Int), .int .i64 (at_ : Int), .int .u32 (mask : Int), .int .u64 (draw : Int), .slice A n c] := by rw [hW1]; exact Blk.new _ _ _ _ rfl rfl
  obtain ⟨W2, hW2⟩ : ∃ W, W = W1.alloc (.cells #[.int .u8 1] 5) := ⟨_, rfl⟩
  have hg2 : Grow W1 W2 := by rw [hW2]; exact Grow.alloc _ _
  have ho0 : W2.ownsRow W1.heap.size 5 1 (.slice (some ⟨W1.heap.size, 0, none⟩) 1 1) Q0.length (u8s Q0) := by rw [hW2, hl0, hQ0]; exact own_new W1 1 (by decide) rfl
  have hno : Calls Tryd.prog 35 #[.int .u8 1] W2 fun r w' => r = .returned (.bool true) ∧ W2 = w' := noded_any W2 1
  have x0 := hb1.cell (i := 0) rfl
  have x1 := (hb1.grow hg2).cell (i := 1) rfl
  have x7 := (hb1.grow hg2).cell (i := 7) rfl
  have x0' := (hb1.grow hg2).cell (i := 0) rfl
  have HNO := Lib.hid hno
  have HO0 := Lib.hid ho0
  have HG2 := Lib.hid (hg1.trans hg2)
  have HG12 := Lib.hid hg2
  have HBX := Lib.hid hb1
  have HG1 := Lib.hid hg1
  have HW1 := Lib.hid hW1
  have HW2 := Lib.hid hW2
  have HBY := Lib.hid hby
  have HL0 := Lib.hid hl0
  have HS := Lib.hid hg1.size
  have HL1 := Lib.hid hl1
  have HM0 := Lib.hid hm0
  have HP0 := Lib.hid hP0
  have HQ1 := Lib.hid hQ1
  have HL2 := Lib.hid hl2
  have HM1 := Lib.hid hm1
  have HP1 := Lib.hid hP1
  have HQ2 := Lib.hid hQ2
  clear hres hno ho0 hg1 hg2 hb1 hW1 hW2 hby hl0 hQ0 hl1 hm0 hP0 hQ1 hl2 hm1 hP1 hQ2
  go_enter Tryd.func22, Tryd.ntmps22
  try dsimp only
  repeat (first | with_reducible (refine wp_region_cut (k := 1) ?_) | go_values | go_guarded | go_step | go_upon | go_back)
  rw [← HW1.out]
  unfold Cut
  repeat (first | with_reducible (refine wp_region_cut (k := 2) ?_) | go_values | go_guarded | go_step | go_upon | go_back)
  rw [← HW2.out]
  unfold Cut
  go_wp2_with fail
  refine HNO.out.mono ?_
  rintro r w' ⟨rfl, rfl⟩
  have HS0 : Hid (OneS W1 W2 (.slice (some ⟨W1.heap.size, 0, none⟩) 1 1) Q0) := Lib.hid ⟨HO0.out, HG12.out⟩
  have HB0 := Lib.hid HBX.out
  go_wp2_with (at_builtin; refine append_bytes Tryd.underlying23 i8 i8z i8s i8b rfl _ _ rfl W1.heap.size _ Q0.length Q0 (HS0.out.grow (Grow.alloc W2 _)).1 rfl (some ⟨W2.heap.size, 0, none⟩) 1 1 P0 (by rw [HP0.out]; exact Bytes.new W2 [Vi.u8 node] _ _ rfl (by simp [u8s, u8v, Vi.u8_toNat (n := node) (by omega)]) rfl) rfl (by have := HL0.out; have := HL1.out; have := HL2.out; have := HM0.out; have := HM1.out; omega) (HS0.out.grow (Grow.alloc W2 _)).2.size ?_; intro v1 w0a ha hb _; obtain ⟨A1, c1, rfl, hs⟩ := (HS0.out.grow (Grow.alloc W2 _)).next ha hb HM0.out.symm HQ1.out; have HS1 := Lib.hid hs; have x0_1 := (HB0.out.grow hs.2).cell (i := 0) rfl; have x7_1 := (HB0.out.grow hs.2).cell (i := 7) rfl; have cs := conv_str (P := Tryd.prog) Tryd.underlying23 Tryd.underlying5 Tryd.underlying9 (HBY.out.grow (HG1.out.trans hs.2)) c; clear ha hb hs)
  refine (ref_text_w b hbl w0a).mono ?_
  rintro r w1c ⟨v1c, rfl, ho1c, hg1c⟩
  rw [← HP1.out] at ho1c
  obtain ⟨B1, d1, rfl, hB1⟩ := own_slB ho1c
  have HBB1 := Lib.hid hB1
  have hs := HS1.out.grow hg1c
  have HT1 := Lib.hid hs
  have x0_1c := (HB0.out.grow hs.2).cell (i := 0) rfl
  have x7_1c := (HB0.out.grow hs.2).cell (i := 7) rfl
  clear ho1c hB1 hs hg1c
  go_wp2_with (at_builtin; refine append_bytes Tryd.underlying23 i8 i8z i8s i8b rfl _ _ rfl W1.heap.size _ Q1.length Q1 HT1.out.1 rfl B1 P1.length d1 P1 HBB1.out rfl (by have := HL0.out; have := HL1.out; have := HL2.out; have := HM0.out; have := HM1.out; omega) HT1.out.2.size ?_; intro v1 w1a ha hb _; obtain ⟨A2, c2, rfl, hs⟩ := HT1.out.next ha hb rfl HQ2.out; have HS2 := Lib.hid hs; have x0_2 := (HB0.out.grow hs.2).cell (i := 0) rfl; clear ha hb hs)
  go_ret
  exact ⟨_, rfl, own_lowB HS2.out.1 HS.out, HG1.out.trans HS2.out.2⟩
set_option maxRecDepth 100000 in
set_option maxHeartbeats 4000000 in
theorem one_2 (w : World) (node peer K at_ mask draw : Nat) (b : List UInt8) (A : Option Addr) (n c : Nat) (hby : Bytes w A n b) (hbl : b.length ≤ 100000000) (ok2 : node ≤ 255) (ok3 : peer ≤ 255) (ok4 : K ≤ 1048576) (ok5 : at_ ≤ 1048576) (ok6 : mask < 4294967296) (ok7 : draw < 18446744073709551616) :
    Calls Tryd.prog 22 #[.agg #[.int .u8 2, .int .u8 (node : Int), .int .u8 (peer : Int), .int .i64 (K : Int), .int .i64 (at_ : Int), .int .u32 (mask : Int), .int .u64 (draw : Int), .slice A n c]] w fun r w' => ∃ v, r = .returned v ∧ w'.ownsRow w.heap.size 5 1 v (evb ⟨2, node, peer, (K : Int), (at_ : Int), mask, draw, b⟩).length (u8s (evb ⟨2, node, peer, (K : Int), (at_ : Int), mask, draw, b⟩)) ∧ Grow w w' := by
  have hused : True := by have := hbl; have := hby; have := ok2; have := ok3; have := ok4; have := ok5; have := ok6; have := ok7; trivial
  clear hused
  have hres : evb ⟨2, node, peer, (K : Int), (at_ : Int), mask, draw, b⟩ = [Vi.u8 2] ++ [Vi.u8 node] := by
    simp [evb, hb, hasN, hasL]
  rw [hres]
  obtain ⟨P0, hP0⟩ : ∃ P, P = [Vi.u8 node] := ⟨_, rfl⟩
  rw [← hP0]
  obtain ⟨Q0, hQ0⟩ : ∃ Q, Q = [Vi.u8 2] := ⟨_, rfl⟩
  rw [← hQ0]
  have hl0 : Q0.length = 1 := by rw [hQ0]; rfl
  obtain ⟨Q1, hQ1⟩ : ∃ Q, Q = Q0 ++ P0 := ⟨_, rfl⟩
  rw [← hQ1]
  have hm0 : P0.length = 1 := by rw [hP0]; rfl
  have hl1 : Q1.length = Q0.length + P0.length := by rw [hQ1, List.length_append]
  obtain ⟨W1, hW1⟩ : ∃ W, W = w.alloc (.cells #[.int .u8 2, .int .u8 (node : Int), .int .u8 (peer : Int), .int .i64 (K : Int), .int .i64 (at_ : Int), .int .u32 (mask : Int), .int .u64 (draw : Int), .slice A n c] TE) := ⟨_, rfl⟩
  have hg1 : Grow w W1 := by rw [hW1]; exact Grow.alloc _ _
  have hb1 : Blk W1 w.heap.size TE [.int .u8 2, .int .u8 (node : Int), .int .u8 (peer : Int), .int .i64 (K : Int), .int .i64 (at_ : Int), .int .u32 (mask : Int), .int .u64 (draw : Int), .slice A n c] := by rw [hW1]; exact Blk.new _ _ _ _ rfl rfl
  obtain ⟨W2, hW2⟩ : ∃ W, W = W1.alloc (.cells #[.int .u8 2] 5) := ⟨_, rfl⟩
  have hg2 : Grow W1 W2 := by rw [hW2]; exact Grow.alloc _ _
  have ho0 : W2.ownsRow W1.heap.size 5 1 (.slice (some ⟨W1.heap.size, 0, none⟩) 1 1) Q0.length (u8s Q0) := by rw [hW2, hl0, hQ0]; exact own_new W1 2 (by decide) rfl
  have hno : Calls Tryd.prog 35 #[.int .u8 2] W2 fun r w' => r = .returned (.bool true) ∧ W2 = w' := noded_any W2 2
  have x0 := hb1.cell (i := 0) rfl
  have x1 := (hb1.grow hg2).cell (i := 1) rfl
  have x0' := (hb1.grow hg2).cell (i := 0) rfl
  have HNO := Lib.hid hno
  have HO0 := Lib.hid ho0
  have HG2 := Lib.hid (hg1.trans hg2)
  have HG12 := Lib.hid hg2
  have HBX := Lib.hid hb1
  have HG1 := Lib.hid hg1
  have HW1 := Lib.hid hW1
  have HW2 := Lib.hid hW2
  have HBY := Lib.hid hby
  have HL0 := Lib.hid hl0
  have HS := Lib.hid hg1.size
  have HL1 := Lib.hid hl1
  have HM0 := Lib.hid hm0
  have HP0 := Lib.hid hP0
  have HQ1 := Lib.hid hQ1
  clear hres hno ho0 hg1 hg2 hb1 hW1 hW2 hby hl0 hQ0 hl1 hm0 hP0 hQ1
  go_enter Tryd.func22, Tryd.ntmps22
  try dsimp only
  repeat (first | with_reducible (refine wp_region_cut (k := 1) ?_) | go_values | go_guarded | go_step | go_upon | go_back)
  rw [← HW1.out]
  unfold Cut
  repeat (first | with_reducible (refine wp_region_cut (k := 2) ?_) | go_values | go_guarded | go_step | go_upon | go_back)
  rw [← HW2.out]
  unfold Cut
  go_wp2_with fail
  refine HNO.out.mono ?_
  rintro r w' ⟨rfl, rfl⟩
  have HS0 : Hid (OneS W1 W2 (.slice (some ⟨W1.heap.size, 0, none⟩) 1 1) Q0) := Lib.hid ⟨HO0.out, HG12.out⟩
  have HB0 := Lib.hid HBX.out
  go_wp2_with (at_builtin; refine append_bytes Tryd.underlying23 i8 i8z i8s i8b rfl _ _ rfl W1.heap.size _ Q0.length Q0 (HS0.out.grow (Grow.alloc W2 _)).1 rfl (some ⟨W2.heap.size, 0, none⟩) 1 1 P0 (by rw [HP0.out]; exact Bytes.new W2 [Vi.u8 node] _ _ rfl (by simp [u8s, u8v, Vi.u8_toNat (n := node) (by omega)]) rfl) rfl (by have := HL0.out; have := HL1.out; have := HM0.out; omega) (HS0.out.grow (Grow.alloc W2 _)).2.size ?_; intro v1 w0a ha hb _; obtain ⟨A1, c1, rfl, hs⟩ := (HS0.out.grow (Grow.alloc W2 _)).next ha hb HM0.out.symm HQ1.out; have HS1 := Lib.hid hs; have x0_1 := (HB0.out.grow hs.2).cell (i := 0) rfl; clear ha hb hs)
  go_ret
  exact ⟨_, rfl, own_lowB HS1.out.1 HS.out, HG1.out.trans HS1.out.2⟩
set_option maxRecDepth 100000 in
set_option maxHeartbeats 4000000 in
theorem one_3 (w : World) (node peer K at_ mask draw : Nat) (b : List UInt8) (A : Option Addr) (n c : Nat) (hby : Bytes w A n b) (hbl : b.length ≤ 100000000) (ok2 : node ≤ 255) (ok3 : peer ≤ 255) (ok4 : K ≤ 1048576) (ok5 : at_ ≤ 1048576) (ok6 : mask < 4294967296) (ok7 : draw < 18446744073709551616) :
    Calls Tryd.prog 22 #[.agg #[.int .u8 3, .int .u8 (node : Int), .int .u8 (peer : Int), .int .i64 (K : Int), .int .i64 (at_ : Int), .int .u32 (mask : Int), .int .u64 (draw : Int), .slice A n c]] w fun r w' => ∃ v, r = .returned v ∧ w'.ownsRow w.heap.size 5 1 v (evb ⟨3, node, peer, (K : Int), (at_ : Int), mask, draw, b⟩).length (u8s (evb ⟨3, node, peer, (K : Int), (at_ : Int), mask, draw, b⟩)) ∧ Grow w w' := by
  have hused : True := by have := hbl; have := hby; have := ok2; have := ok3; have := ok4; have := ok5; have := ok6; have := ok7; trivial
  clear hused
  have hres : evb ⟨3, node, peer, (K : Int), (at_ : Int), mask, draw, b⟩ = [Vi.u8 3] ++ [Vi.u8 node] ++ vb draw := by
    simp [evb, hb, hasN, hasL]
  rw [hres]
  obtain ⟨P0, hP0⟩ : ∃ P, P = [Vi.u8 node] := ⟨_, rfl⟩
  obtain ⟨P1, hP1⟩ : ∃ P, P = vb draw := ⟨_, rfl⟩
  rw [← hP0, ← hP1]
  obtain ⟨Q0, hQ0⟩ : ∃ Q, Q = [Vi.u8 3] := ⟨_, rfl⟩
  rw [← hQ0]
  have hl0 : Q0.length = 1 := by rw [hQ0]; rfl
  obtain ⟨Q1, hQ1⟩ : ∃ Q, Q = Q0 ++ P0 := ⟨_, rfl⟩
  rw [← hQ1]
  have hm0 : P0.length = 1 := by rw [hP0]; rfl
  have hl1 : Q1.length = Q0.length + P0.length := by rw [hQ1, List.length_append]
  obtain ⟨Q2, hQ2⟩ : ∃ Q, Q = Q1 ++ P1 := ⟨_, rfl⟩
  rw [← hQ2]
  have hm1 : P1.length ≤ 10 := by rw [hP1]; exact vb_len_le _
  have hl2 : Q2.length = Q1.length + P1.length := by rw [hQ2, List.length_append]
  obtain ⟨W1, hW1⟩ : ∃ W, W = w.alloc (.cells #[.int .u8 3, .int .u8 (node : Int), .int .u8 (peer : Int), .int .i64 (K : Int), .int .i64 (at_ : Int), .int .u32 (mask : Int), .int .u64 (draw : Int), .slice A n c] TE) := ⟨_, rfl⟩
  have hg1 : Grow w W1 := by rw [hW1]; exact Grow.alloc _ _
  have hb1 : Blk W1 w.heap.size TE [.int .u8 3, .int .u8 (node : Int), .int .u8 (peer : Int), .int .i64 (K : Int), .int .i64 (at_ : Int), .int .u32 (mask : Int), .int .u64 (draw : Int), .slice A n c] := by rw [hW1]; exact Blk.new _ _ _ _ rfl rfl
  obtain ⟨W2, hW2⟩ : ∃ W, W = W1.alloc (.cells #[.int .u8 3] 5) := ⟨_, rfl⟩
  have hg2 : Grow W1 W2 := by rw [hW2]; exact Grow.alloc _ _
  have ho0 : W2.ownsRow W1.heap.size 5 1 (.slice (some ⟨W1.heap.size, 0, none⟩) 1 1) Q0.length (u8s Q0) := by rw [hW2, hl0, hQ0]; exact own_new W1 3 (by decide) rfl
  have hno : Calls Tryd.prog 35 #[.int .u8 3] W2 fun r w' => r = .returned (.bool true) ∧ W2 = w' := noded_any W2 3
  have x0 := hb1.cell (i := 0) rfl
  have x1 := (hb1.grow hg2).cell (i := 1) rfl
  have x6 := (hb1.grow hg2).cell (i := 6) rfl
  have x0' := (hb1.grow hg2).cell (i := 0) rfl
  have HNO := Lib.hid hno
  have HO0 := Lib.hid ho0
  have HG2 := Lib.hid (hg1.trans hg2)
  have HG12 := Lib.hid hg2
  have HBX := Lib.hid hb1
  have HG1 := Lib.hid hg1
  have HW1 := Lib.hid hW1
  have HW2 := Lib.hid hW2
  have HBY := Lib.hid hby
  have HL0 := Lib.hid hl0
  have HS := Lib.hid hg1.size
  have HL1 := Lib.hid hl1
  have HM0 := Lib.hid hm0
  have HP0 := Lib.hid hP0
  have HQ1 := Lib.hid hQ1
  have HL2 := Lib.hid hl2
  have HM1 := Lib.hid hm1
  have HP1 := Lib.hid hP1
  have HQ2 := Lib.hid hQ2
  clear hres hno ho0 hg1 hg2 hb1 hW1 hW2 hby hl0 hQ0 hl1 hm0 hP0 hQ1 hl2 hm1 hP1 hQ2
  go_enter Tryd.func22, Tryd.ntmps22
  try dsimp only
  repeat (first | with_reducible (refine wp_region_cut (k := 1) ?_) | go_values | go_guarded | go_step | go_upon | go_back)
  rw [← HW1.out]
  unfold Cut
  repeat (first | with_reducible (refine wp_region_cut (k := 2) ?_) | go_values | go_guarded | go_step | go_upon | go_back)
  rw [← HW2.out]
  unfold Cut
  go_wp2_with fail
  refine HNO.out.mono ?_
  rintro r w' ⟨rfl, rfl⟩
  have HS0 : Hid (OneS W1 W2 (.slice (some ⟨W1.heap.size, 0, none⟩) 1 1) Q0) := Lib.hid ⟨HO0.out, HG12.out⟩
  have HB0 := Lib.hid HBX.out
  go_wp2_with (at_builtin; refine append_bytes Tryd.underlying23 i8 i8z i8s i8b rfl _ _ rfl W1.heap.size _ Q0.length Q0 (HS0.out.grow (Grow.alloc W2 _)).1 rfl (some ⟨W2.heap.size, 0, none⟩) 1 1 P0 (by rw [HP0.out]; exact Bytes.new W2 [Vi.u8 node] _ _ rfl (by simp [u8s, u8v, Vi.u8_toNat (n := node) (by omega)]) rfl) rfl (by have := HL0.out; have := HL1.out; have := HL2.out; have := HM0.out; have := HM1.out; omega) (HS0.out.grow (Grow.alloc W2 _)).2.size ?_; intro v1 w0a ha hb _; obtain ⟨A1, c1, rfl, hs⟩ := (HS0.out.grow (Grow.alloc W2 _)).next ha hb HM0.out.symm HQ1.out; have HS1 := Lib.hid hs; have x0_1 := (HB0.out.grow hs.2).cell (i := 0) rfl; have x6_1 := (HB0.out.grow hs.2).cell (i := 6) rfl; clear ha hb hs)
  refine (ref_bytes_own draw (by omega) w0a).mono ?_
  rintro r w1c ⟨v1c, rfl, ho1c, hg1c⟩
  rw [← HP1.out] at ho1c
  obtain ⟨B1, d1, rfl, hB1⟩ := own_slB ho1c
  have HBB1 := Lib.hid hB1
  have hs := HS1.out.grow hg1c
  have HT1 := Lib.hid hs
  have x0_1c := (HB0.out.grow hs.2).cell (i := 0) rfl
  have x6_1c := (HB0.out.grow hs.2).cell (i := 6) rfl
  clear ho1c hB1 hs hg1c
  go_wp2_with (at_builtin; refine append_bytes Tryd.underlying23 i8 i8z i8s i8b rfl _ _ rfl W1.heap.size _ Q1.length Q1 HT1.out.1 rfl B1 P1.length d1 P1 HBB1.out rfl (by have := HL0.out; have := HL1.out; have := HL2.out; have := HM0.out; have := HM1.out; omega) HT1.out.2.size ?_; intro v1 w1a ha hb _; obtain ⟨A2, c2, rfl, hs⟩ := HT1.out.next ha hb rfl HQ2.out; have HS2 := Lib.hid hs; have x0_2 := (HB0.out.grow hs.2).cell (i := 0) rfl; clear ha hb hs)
  go_ret
  exact ⟨_, rfl, own_lowB HS2.out.1 HS.out, HG1.out.trans HS2.out.2⟩
set_option maxRecDepth 100000 in
set_option maxHeartbeats 4000000 in
theorem one_4 (w : World) (node peer K at_ mask draw : Nat) (b : List UInt8) (A : Option Addr) (n c : Nat) (hby : Bytes w A n b) (hbl : b.length ≤ 100000000) (ok2 : node ≤ 255) (ok3 : peer ≤ 255) (ok4 : K ≤ 1048576) (ok5 : at_ ≤ 1048576) (ok6 : mask < 4294967296) (ok7 : draw < 18446744073709551616) :
    Calls Tryd.prog 22 #[.agg #[.int .u8 4, .int .u8 (node : Int), .int .u8 (peer : Int), .int .i64 (K : Int), .int .i64 (at_ : Int), .int .u32 (mask : Int), .int .u64 (draw : Int), .slice A n c]] w fun r w' => ∃ v, r = .returned v ∧ w'.ownsRow w.heap.size 5 1 v (evb ⟨4, node, peer, (K : Int), (at_ : Int), mask, draw, b⟩).length (u8s (evb ⟨4, node, peer, (K : Int), (at_ : Int), mask, draw, b⟩)) ∧ Grow w w' := by
  have hused : True := by have := hbl; have := hby; have := ok2; have := ok3; have := ok4; have := ok5; have := ok6; have := ok7; trivial
  clear hused
  have hres : evb ⟨4, node, peer, (K : Int), (at_ : Int), mask, draw, b⟩ = [Vi.u8 4] ++ vb K := by
    simp [evb, hb, hasN, hasL]
  rw [hres]
  obtain ⟨P0, hP0⟩ : ∃ P, P = vb K := ⟨_, rfl⟩
  rw [← hP0]
  obtain ⟨Q0, hQ0⟩ : ∃ Q, Q = [Vi.u8 4] := ⟨_, rfl⟩
  rw [← hQ0]
  have hl0 : Q0.length = 1 := by rw [hQ0]; rfl
  obtain ⟨Q1, hQ1⟩ : ∃ Q, Q = Q0 ++ P0 := ⟨_, rfl⟩
  rw [← hQ1]
  have hm0 : P0.length ≤ 10 := by rw [hP0]; exact vb_len_le _
  have hl1 : Q1.length = Q0.length + P0.length := by rw [hQ1, List.length_append]
  obtain ⟨W1, hW1⟩ : ∃ W, W = w.alloc (.cells #[.int .u8 4, .int .u8 (node : Int), .int .u8 (peer : Int), .int .i64 (K : Int), .int .i64 (at_ : Int), .int .u32 (mask : Int), .int .u64 (draw : Int), .slice A n c] TE) := ⟨_, rfl⟩
  have hg1 : Grow w W1 := by rw [hW1]; exact Grow.alloc _ _
  have hb1 : Blk W1 w.heap.size TE [.int .u8 4, .int .u8 (node : Int), .int .u8 (peer : Int), .int .i64 (K : Int), .int .i64 (at_ : Int), .int .u32 (mask : Int), .int .u64 (draw : Int), .slice A n c] := by rw [hW1]; exact Blk.new _ _ _ _ rfl rfl
  obtain ⟨W2, hW2⟩ : ∃ W, W = W1.alloc (.cells #[.int .u8 4] 5) := ⟨_, rfl⟩
  have hg2 : Grow W1 W2 := by rw [hW2]; exact Grow.alloc _ _
  have ho0 : W2.ownsRow W1.heap.size 5 1 (.slice (some ⟨W1.heap.size, 0, none⟩) 1 1) Q0.length (u8s Q0) := by rw [hW2, hl0, hQ0]; exact own_new W1 4 (by decide) rfl
  have hno : Calls Tryd.prog 35 #[.int .u8 4] W2 fun r w' => r = .returned (.bool false) ∧ W2 = w' := noded_any W2 4
  have x0 := hb1.cell (i := 0) rfl
  have x3 := (hb1.grow hg2).cell (i := 3) rfl
  have x0' := (hb1.grow hg2).cell (i := 0) rfl
  have HNO := Lib.hid hno
  have HO0 := Lib.hid ho0
  have HG2 := Lib.hid (hg1.trans hg2)
  have HG12 := Lib.hid hg2
  have HBX := Lib.hid hb1
  have HG1 := Lib.hid hg1
  have HW1 := Lib.hid hW1
  have HW2 := Lib.hid hW2
  have HBY := Lib.hid hby
  have HL0 := Lib.hid hl0
  have HS := Lib.hid hg1.size
  have HL1 := Lib.hid hl1
  have HM0 := Lib.hid hm0
  have HP0 := Lib.hid hP0
  have HQ1 := Lib.hid hQ1
  clear hres hno ho0 hg1 hg2 hb1 hW1 hW2 hby hl0 hQ0 hl1 hm0 hP0 hQ1
  go_enter Tryd.func22, Tryd.ntmps22
  try dsimp only
  repeat (first | with_reducible (refine wp_region_cut (k := 1) ?_) | go_values | go_guarded | go_step | go_upon | go_back)
  rw [← HW1.out]
  unfold Cut
  repeat (first | with_reducible (refine wp_region_cut (k := 2) ?_) | go_values | go_guarded | go_step | go_upon | go_back)
  rw [← HW2.out]
  unfold Cut
  go_wp2_with fail
  refine HNO.out.mono ?_
  rintro r w' ⟨rfl, rfl⟩
  have HS0 : Hid (OneS W1 W2 (.slice (some ⟨W1.heap.size, 0, none⟩) 1 1) Q0) := Lib.hid ⟨HO0.out, HG12.out⟩
  have HB0 := Lib.hid HBX.out
  go_wp2_with fail
  refine (ref_bytes_own K (by omega) W2).mono ?_
  rintro r w0c ⟨v0c, rfl, ho0c, hg0c⟩
  rw [← HP0.out] at ho0c
  obtain ⟨B0, d0, rfl, hB0⟩ := own_slB ho0c
  have HBB0 := Lib.hid hB0
  have hs := HS0.out.grow hg0c
  have HT0 := Lib.hid hs
  have x0_0c := (HB0.out.grow hs.2).cell (i := 0) rfl
  have x3_0c := (HB0.out.grow hs.2).cell (i := 3) rfl
  clear ho0c hB0 hs hg0c
  go_wp2_with (at_builtin; refine append_bytes Tryd.underlying23 i8 i8z i8s i8b rfl _ _ rfl W1.heap.size _ Q0.length Q0 HT0.out.1 rfl B0 P0.length d0 P0 HBB0.out rfl (by have := HL0.out; have := HL1.out; have := HM0.out; omega) HT0.out.2.size ?_; intro v1 w0a ha hb _; obtain ⟨A1, c1, rfl, hs⟩ := HT0.out.next ha hb rfl HQ1.out; have HS1 := Lib.hid hs; have x0_1 := (HB0.out.grow hs.2).cell (i := 0) rfl; clear ha hb hs)
  go_ret
  exact ⟨_, rfl, own_lowB HS1.out.1 HS.out, HG1.out.trans HS1.out.2⟩
set_option maxRecDepth 100000 in
set_option maxHeartbeats 4000000 in
theorem one_5 (w : World) (node peer K at_ mask draw : Nat) (b : List UInt8) (A : Option Addr) (n c : Nat) (hby : Bytes w A n b) (hbl : b.length ≤ 100000000) (ok2 : node ≤ 255) (ok3 : peer ≤ 255) (ok4 : K ≤ 1048576) (ok5 : at_ ≤ 1048576) (ok6 : mask < 4294967296) (ok7 : draw < 18446744073709551616) :
    Calls Tryd.prog 22 #[.agg #[.int .u8 5, .int .u8 (node : Int), .int .u8 (peer : Int), .int .i64 (K : Int), .int .i64 (at_ : Int), .int .u32 (mask : Int), .int .u64 (draw : Int), .slice A n c]] w fun r w' => ∃ v, r = .returned v ∧ w'.ownsRow w.heap.size 5 1 v (evb ⟨5, node, peer, (K : Int), (at_ : Int), mask, draw, b⟩).length (u8s (evb ⟨5, node, peer, (K : Int), (at_ : Int), mask, draw, b⟩)) ∧ Grow w w' := by
  have hused : True := by have := hbl; have := hby; have := ok2; have := ok3; have := ok4; have := ok5; have := ok6; have := ok7; trivial
  clear hused
  have hres : evb ⟨5, node, peer, (K : Int), (at_ : Int), mask, draw, b⟩ = [Vi.u8 5] ++ vb K := by
    simp [evb, hb, hasN, hasL]
  rw [hres]
  obtain ⟨P0, hP0⟩ : ∃ P, P = vb K := ⟨_, rfl⟩
  rw [← hP0]
  obtain ⟨Q0, hQ0⟩ : ∃ Q, Q = [Vi.u8 5] := ⟨_, rfl⟩
  rw [← hQ0]
  have hl0 : Q0.length = 1 := by rw [hQ0]; rfl
  obtain ⟨Q1, hQ1⟩ : ∃ Q, Q = Q0 ++ P0 := ⟨_, rfl⟩
  rw [← hQ1]
  have hm0 : P0.length ≤ 10 := by rw [hP0]; exact vb_len_le _
  have hl1 : Q1.length = Q0.length + P0.length := by rw [hQ1, List.length_append]
  obtain ⟨W1, hW1⟩ : ∃ W, W = w.alloc (.cells #[.int .u8 5, .int .u8 (node : Int), .int .u8 (peer : Int), .int .i64 (K : Int), .int .i64 (at_ : Int), .int .u32 (mask : Int), .int .u64 (draw : Int), .slice A n c] TE) := ⟨_, rfl⟩
  have hg1 : Grow w W1 := by rw [hW1]; exact Grow.alloc _ _
  have hb1 : Blk W1 w.heap.size TE [.int .u8 5, .int .u8 (node : Int), .int .u8 (peer : Int), .int .i64 (K : Int), .int .i64 (at_ : Int), .int .u32 (mask : Int), .int .u64 (draw : Int), .slice A n c] := by rw [hW1]; exact Blk.new _ _ _ _ rfl rfl
  obtain ⟨W2, hW2⟩ : ∃ W, W = W1.alloc (.cells #[.int .u8 5] 5) := ⟨_, rfl⟩
  have hg2 : Grow W1 W2 := by rw [hW2]; exact Grow.alloc _ _
  have ho0 : W2.ownsRow W1.heap.size 5 1 (.slice (some ⟨W1.heap.size, 0, none⟩) 1 1) Q0.length (u8s Q0) := by rw [hW2, hl0, hQ0]; exact own_new W1 5 (by decide) rfl
  have hno : Calls Tryd.prog 35 #[.int .u8 5] W2 fun r w' => r = .returned (.bool false) ∧ W2 = w' := noded_any W2 5
  have x0 := hb1.cell (i := 0) rfl
  have x3 := (hb1.grow hg2).cell (i := 3) rfl
  have x0' := (hb1.grow hg2).cell (i := 0) rfl
  have HNO := Lib.hid hno
  have HO0 := Lib.hid ho0
  have HG2 := Lib.hid (hg1.trans hg2)
  have HG12 := Lib.hid hg2
  have HBX := Lib.hid hb1
  have HG1 := Lib.hid hg1
  have HW1 := Lib.hid hW1
  have HW2 := Lib.hid hW2
  have HBY := Lib.hid hby
  have HL0 := Lib.hid hl0
  have HS := Lib.hid hg1.size
  have HL1 := Lib.hid hl1
  have HM0 := Lib.hid hm0
  have HP0 := Lib.hid hP0
  have HQ1 := Lib.hid hQ1
  clear hres hno ho0 hg1 hg2 hb1 hW1 hW2 hby hl0 hQ0 hl1 hm0 hP0 hQ1
  go_enter Tryd.func22, Tryd.ntmps22
  try dsimp only
  repeat (first | with_reducible (refine wp_region_cut (k := 1) ?_) | go_values | go_guarded | go_step | go_upon | go_back)
  rw [← HW1.out]
  unfold Cut
  repeat (first | with_reducible (refine wp_region_cut (k := 2) ?_) | go_values | go_guarded | go_step | go_upon | go_back)
  rw [← HW2.out]
  unfold Cut
  go_wp2_with fail
  refine HNO.out.mono ?_
  rintro r w' ⟨rfl, rfl⟩
  have HS0 : Hid (OneS W1 W2 (.slice (some ⟨W1.heap.size, 0, none⟩) 1 1) Q0) := Lib.hid ⟨HO0.out, HG12.out⟩
  have HB0 := Lib.hid HBX.out
  go_wp2_with fail
  refine (ref_bytes_own K (by omega) W2).mono ?_
  rintro r w0c ⟨v0c, rfl, ho0c, hg0c⟩
  rw [← HP0.out] at ho0c
  obtain ⟨B0, d0, rfl, hB0⟩ := own_slB ho0c
  have HBB0 := Lib.hid hB0
  have hs := HS0.out.grow hg0c
  have HT0 := Lib.hid hs
  have x0_0c := (HB0.out.grow hs.2).cell (i := 0) rfl
  have x3_0c := (HB0.out.grow hs.2).cell (i := 3) rfl
  clear ho0c hB0 hs hg0c
  go_wp2_with (at_builtin; refine append_bytes Tryd.underlying23 i8 i8z i8s i8b rfl _ _ rfl W1.heap.size _ Q0.length Q0 HT0.out.1 rfl B0 P0.length d0 P0 HBB0.out rfl (by have := HL0.out; have := HL1.out; have := HM0.out; omega) HT0.out.2.size ?_; intro v1 w0a ha hb _; obtain ⟨A1, c1, rfl, hs⟩ := HT0.out.next ha hb rfl HQ1.out; have HS1 := Lib.hid hs; have x0_1 := (HB0.out.grow hs.2).cell (i := 0) rfl; clear ha hb hs)
  go_ret
  exact ⟨_, rfl, own_lowB HS1.out.1 HS.out, HG1.out.trans HS1.out.2⟩
set_option maxRecDepth 100000 in
set_option maxHeartbeats 4000000 in
theorem one_6 (w : World) (node peer K at_ mask draw : Nat) (b : List UInt8) (A : Option Addr) (n c : Nat) (hby : Bytes w A n b) (hbl : b.length ≤ 100000000) (ok2 : node ≤ 255) (ok3 : peer ≤ 255) (ok4 : K ≤ 1048576) (ok5 : at_ ≤ 1048576) (ok6 : mask < 4294967296) (ok7 : draw < 18446744073709551616) :
    Calls Tryd.prog 22 #[.agg #[.int .u8 6, .int .u8 (node : Int), .int .u8 (peer : Int), .int .i64 (K : Int), .int .i64 (at_ : Int), .int .u32 (mask : Int), .int .u64 (draw : Int), .slice A n c]] w fun r w' => ∃ v, r = .returned v ∧ w'.ownsRow w.heap.size 5 1 v (evb ⟨6, node, peer, (K : Int), (at_ : Int), mask, draw, b⟩).length (u8s (evb ⟨6, node, peer, (K : Int), (at_ : Int), mask, draw, b⟩)) ∧ Grow w w' := by
  have hused : True := by have := hbl; have := hby; have := ok2; have := ok3; have := ok4; have := ok5; have := ok6; have := ok7; trivial
  clear hused
  have hres : evb ⟨6, node, peer, (K : Int), (at_ : Int), mask, draw, b⟩ = [Vi.u8 6] ++ vb K := by
    simp [evb, hb, hasN, hasL]
  rw [hres]
  obtain ⟨P0, hP0⟩ : ∃ P, P = vb K := ⟨_, rfl⟩
  rw [← hP0]
  obtain ⟨Q0, hQ0⟩ : ∃ Q, Q = [Vi.u8 6] := ⟨_, rfl⟩
  rw [← hQ0]
  have hl0 : Q0.length = 1 := by rw [hQ0]; rfl
  obtain ⟨Q1, hQ1⟩ : ∃ Q, Q = Q0 ++ P0 := ⟨_, rfl⟩
  rw [← hQ1]
  have hm0 : P0.length ≤ 10 := by rw [hP0]; exact vb_len_le _
  have hl1 : Q1.length = Q0.length + P0.length := by rw [hQ1, List.length_append]
  obtain ⟨W1, hW1⟩ : ∃ W, W = w.alloc (.cells #[.int .u8 6, .int .u8 (node : Int), .int .u8 (peer : Int), .int .i64 (K : Int), .int .i64 (at_ : Int), .int .u32 (mask : Int), .int .u64 (draw : Int), .slice A n c] TE) := ⟨_, rfl⟩
  have hg1 : Grow w W1 := by rw [hW1]; exact Grow.alloc _ _
  have hb1 : Blk W1 w.heap.size TE [.int .u8 6, .int .u8 (node : Int), .int .u8 (peer : Int), .int .i64 (K : Int), .int .i64 (at_ : Int), .int .u32 (mask : Int), .int .u64 (draw : Int), .slice A n c] := by rw [hW1]; exact Blk.new _ _ _ _ rfl rfl
  obtain ⟨W2, hW2⟩ : ∃ W, W = W1.alloc (.cells #[.int .u8 6] 5) := ⟨_, rfl⟩
  have hg2 : Grow W1 W2 := by rw [hW2]; exact Grow.alloc _ _
  have ho0 : W2.ownsRow W1.heap.size 5 1 (.slice (some ⟨W1.heap.size, 0, none⟩) 1 1) Q0.length (u8s Q0) := by rw [hW2, hl0, hQ0]; exact own_new W1 6 (by decide) rfl
  have hno : Calls Tryd.prog 35 #[.int .u8 6] W2 fun r w' => r = .returned (.bool false) ∧ W2 = w' := noded_any W2 6
  have x0 := hb1.cell (i := 0) rfl
  have x3 := (hb1.grow hg2).cell (i := 3) rfl
  have x0' := (hb1.grow hg2).cell (i := 0) rfl
  have HNO := Lib.hid hno
  have HO0 := Lib.hid ho0
  have HG2 := Lib.hid (hg1.trans hg2)
  have HG12 := Lib.hid hg2
  have HBX := Lib.hid hb1
  have HG1 := Lib.hid hg1
  have HW1 := Lib.hid hW1
  have HW2 := Lib.hid hW2
  have HBY := Lib.hid hby
  have HL0 := Lib.hid hl0
  have HS := Lib.hid hg1.size
  have HL1 := Lib.hid hl1
  have HM0 := Lib.hid hm0
  have HP0 := Lib.hid hP0
  have HQ1 := Lib.hid hQ1
  clear hres hno ho0 hg1 hg2 hb1 hW1 hW2 hby hl0 hQ0 hl1 hm0 hP0 hQ1
  go_enter Tryd.func22, Tryd.ntmps22
  try dsimp only
  repeat (first | with_reducible (refine wp_region_cut (k := 1) ?_) | go_values | go_guarded | go_step | go_upon | go_back)
  rw [← HW1.out]
  unfold Cut
  repeat (first | with_reducible (refine wp_region_cut (k := 2) ?_) | go_values | go_guarded | go_step | go_upon | go_back)
  rw [← HW2.out]
  unfold Cut
  go_wp2_with fail
  refine HNO.out.mono ?_
  rintro r w' ⟨rfl, rfl⟩
  have HS0 : Hid (OneS W1 W2 (.slice (some ⟨W1.heap.size, 0, none⟩) 1 1) Q0) := Lib.hid ⟨HO0.out, HG12.out⟩
  have HB0 := Lib.hid HBX.out
  go_wp2_with fail
  refine (ref_bytes_own K (by omega) W2).mono ?_
  rintro r w0c ⟨v0c, rfl, ho0c, hg0c⟩
  rw [← HP0.out] at ho0c
  obtain ⟨B0, d0, rfl, hB0⟩ := own_slB ho0c
  have HBB0 := Lib.hid hB0
  have hs := HS0.out.grow hg0c
  have HT0 := Lib.hid hs
  have x0_0c := (HB0.out.grow hs.2).cell (i := 0) rfl
  have x3_0c := (HB0.out.grow hs.2).cell (i := 3) rfl
  clear ho0c hB0 hs hg0c
  go_wp2_with (at_builtin; refine append_bytes Tryd.underlying23 i8 i8z i8s i8b rfl _ _ rfl W1.heap.size _ Q0.length Q0 HT0.out.1 rfl B0 P0.length d0 P0 HBB0.out rfl (by have := HL0.out; have := HL1.out; have := HM0.out; omega) HT0.out.2.size ?_; intro v1 w0a ha hb _; obtain ⟨A1, c1, rfl, hs⟩ := HT0.out.next ha hb rfl HQ1.out; have HS1 := Lib.hid hs; have x0_1 := (HB0.out.grow hs.2).cell (i := 0) rfl; clear ha hb hs)
  go_ret
  exact ⟨_, rfl, own_lowB HS1.out.1 HS.out, HG1.out.trans HS1.out.2⟩
set_option maxRecDepth 100000 in
set_option maxHeartbeats 4000000 in
theorem one_7 (w : World) (node peer K at_ mask draw : Nat) (b : List UInt8) (A : Option Addr) (n c : Nat) (hby : Bytes w A n b) (hbl : b.length ≤ 100000000) (ok2 : node ≤ 255) (ok3 : peer ≤ 255) (ok4 : K ≤ 1048576) (ok5 : at_ ≤ 1048576) (ok6 : mask < 4294967296) (ok7 : draw < 18446744073709551616) :
    Calls Tryd.prog 22 #[.agg #[.int .u8 7, .int .u8 (node : Int), .int .u8 (peer : Int), .int .i64 (K : Int), .int .i64 (at_ : Int), .int .u32 (mask : Int), .int .u64 (draw : Int), .slice A n c]] w fun r w' => ∃ v, r = .returned v ∧ w'.ownsRow w.heap.size 5 1 v (evb ⟨7, node, peer, (K : Int), (at_ : Int), mask, draw, b⟩).length (u8s (evb ⟨7, node, peer, (K : Int), (at_ : Int), mask, draw, b⟩)) ∧ Grow w w' := by
  have hused : True := by have := hbl; have := hby; have := ok2; have := ok3; have := ok4; have := ok5; have := ok6; have := ok7; trivial
  clear hused
  have hres : evb ⟨7, node, peer, (K : Int), (at_ : Int), mask, draw, b⟩ = [Vi.u8 7] ++ vb K ++ vb at_ ++ vb mask := by
    simp [evb, hb, hasN, hasL]
  rw [hres]
  obtain ⟨P0, hP0⟩ : ∃ P, P = vb K := ⟨_, rfl⟩
  obtain ⟨P1, hP1⟩ : ∃ P, P = vb at_ := ⟨_, rfl⟩
  obtain ⟨P2, hP2⟩ : ∃ P, P = vb mask := ⟨_, rfl⟩
  rw [← hP0, ← hP1, ← hP2]
  obtain ⟨Q0, hQ0⟩ : ∃ Q, Q = [Vi.u8 7] := ⟨_, rfl⟩
  rw [← hQ0]
  have hl0 : Q0.length = 1 := by rw [hQ0]; rfl
  obtain ⟨Q1, hQ1⟩ : ∃ Q, Q = Q0 ++ P0 := ⟨_, rfl⟩
  rw [← hQ1]
  have hm0 : P0.length ≤ 10 := by rw [hP0]; exact vb_len_le _
  have hl1 : Q1.length = Q0.length + P0.length := by rw [hQ1, List.length_append]
  obtain ⟨Q2, hQ2⟩ : ∃ Q, Q = Q1 ++ P1 := ⟨_, rfl⟩
  rw [← hQ2]
  have hm1 : P1.length ≤ 10 := by rw [hP1]; exact vb_len_le _
  have hl2 : Q2.length = Q1.length + P1.length := by rw [hQ2, List.length_append]
  obtain ⟨Q3, hQ3⟩ : ∃ Q, Q = Q2 ++ P2 := ⟨_, rfl⟩
  rw [← hQ3]
  have hm2 : P2.length ≤ 10 := by rw [hP2]; exact vb_len_le _
  have hl3 : Q3.length = Q2.length + P2.length := by rw [hQ3, List.length_append]
  obtain ⟨W1, hW1⟩ : ∃ W, W = w.alloc (.cells #[.int .u8 7, .int .u8 (node : Int), .int .u8 (peer : Int), .int .i64 (K : Int), .int .i64 (at_ : Int), .int .u32 (mask : Int), .int .u64 (draw : Int), .slice A n c] TE) := ⟨_, rfl⟩
  have hg1 : Grow w W1 := by rw [hW1]; exact Grow.alloc _ _
  have hb1 : Blk W1 w.heap.size TE [.int .u8 7, .int .u8 (node : Int), .int .u8 (peer : Int), .int .i64 (K : Int), .int .i64 (at_ : Int), .int .u32 (mask : Int), .int .u64 (draw : Int), .slice A n c] := by rw [hW1]; exact Blk.new _ _ _ _ rfl rfl
  obtain ⟨W2, hW2⟩ : ∃ W, W = W1.alloc (.cells #[.int .u8 7] 5) := ⟨_, rfl⟩
  have hg2 : Grow W1 W2 := by rw [hW2]; exact Grow.alloc _ _
  have ho0 : W2.ownsRow W1.heap.size 5 1 (.slice (some ⟨W1.heap.size, 0, none⟩) 1 1) Q0.length (u8s Q0) := by rw [hW2, hl0, hQ0]; exact own_new W1 7 (by decide) rfl
  have hno : Calls Tryd.prog 35 #[.int .u8 7] W2 fun r w' => r = .returned (.bool false) ∧ W2 = w' := noded_any W2 7
  have x0 := hb1.cell (i := 0) rfl
  have x3 := (hb1.grow hg2).cell (i := 3) rfl
  have x4 := (hb1.grow hg2).cell (i := 4) rfl
  have x5 := (hb1.grow hg2).cell (i := 5) rfl
  have x0' := (hb1.grow hg2).cell (i := 0) rfl
  have HNO := Lib.hid hno
  have HO0 := Lib.hid ho0
  have HG2 := Lib.hid (hg1.trans hg2)
  have HG12 := Lib.hid hg2
  have HBX := Lib.hid hb1
  have HG1 := Lib.hid hg1
  have HW1 := Lib.hid hW1
  have HW2 := Lib.hid hW2
  have HBY := Lib.hid hby
  have HL0 := Lib.hid hl0
  have HS := Lib.hid hg1.size
  have HL1 := Lib.hid hl1
  have HM0 := Lib.hid hm0
  have HP0 := Lib.hid hP0
  have HQ1 := Lib.hid hQ1
  have HL2 := Lib.hid hl2
  have HM1 := Lib.hid hm1
  have HP1 := Lib.hid hP1
  have HQ2 := Lib.hid hQ2
  have HL3 := Lib.hid hl3
  have HM2 := Lib.hid hm2
  have HP2 := Lib.hid hP2
  have HQ3 := Lib.hid hQ3
  clear hres hno ho0 hg1 hg2 hb1 hW1 hW2 hby hl0 hQ0 hl1 hm0 hP0 hQ1 hl2 hm1 hP1 hQ2 hl3 hm2 hP2 hQ3
  go_enter Tryd.func22, Tryd.ntmps22
  try dsimp only
  repeat (first | with_reducible (refine wp_region_cut (k := 1) ?_) | go_values | go_guarded | go_step | go_upon | go_back)
  rw [← HW1.out]
  unfold Cut
  repeat (first | with_reducible (refine wp_region_cut (k := 2) ?_) | go_values | go_guarded | go_step | go_upon | go_back)
  rw [← HW2.out]
  unfold Cut
  go_wp2_with fail
  refine HNO.out.mono ?_
  rintro r w' ⟨rfl, rfl⟩
  have HS0 : Hid (OneS W1 W2 (.slice (some ⟨W1.heap.size, 0, none⟩) 1 1) Q0) := Lib.hid ⟨HO0.out, HG12.out⟩
  have HB0 := Lib.hid HBX.out
  go_wp2_with fail
  refine (ref_bytes_own K (by omega) W2).mono ?_
  rintro r w0c ⟨v0c, rfl, ho0c, hg0c⟩
  rw [← HP0.out] at ho0c
  obtain ⟨B0, d0, rfl, hB0⟩ := own_slB ho0c
  have HBB0 := Lib.hid hB0
  have hs := HS0.out.grow hg0c
  have HT0 := Lib.hid hs
  have x0_0c := (HB0.out.grow hs.2).cell (i := 0) rfl
  have x3_0c := (HB0.out.grow hs.2).cell (i := 3) rfl
  have x4_0c := (HB0.out.grow hs.2).cell (i := 4) rfl
  have x5_0c := (HB0.out.grow hs.2).cell (i := 5) rfl
  clear ho0c hB0 hs hg0c
  go_wp2_with (at_builtin; refine append_bytes Tryd.underlying23 i8 i8z i8s i8b rfl _ _ rfl W1.heap.size _ Q0.length Q0 HT0.out.1 rfl B0 P0.length d0 P0 HBB0.out rfl (by have := HL0.out; have := HL1.out; have := HL2.out; have := HL3.out; have := HM0.out; have := HM1.out; have := HM2.out; omega) HT0.out.2.size ?_; intro v1 w0a ha hb _; obtain ⟨A1, c1, rfl, hs⟩ := HT0.out.next ha hb rfl HQ1.out; have HS1 := Lib.hid hs; have x0_1 := (HB0.out.grow hs.2).cell (i := 0) rfl; have x4_1 := (HB0.out.grow hs.2).cell (i := 4) rfl; have x5_1 := (HB0.out.grow hs.2).cell (i := 5) rfl; clear ha hb hs)
  refine (ref_bytes_own at_ (by omega) w0a).mono ?_
  rintro r w1c ⟨v1c, rfl, ho1c, hg1c⟩
  rw [← HP1.out] at ho1c
  obtain ⟨B1, d1, rfl, hB1⟩ := own_slB ho1c
  have HBB1 := Lib.hid hB1
  have hs := HS1.out.grow hg1c
  have HT1 := Lib.hid hs
  have x0_1c := (HB0.out.grow hs.2).cell (i := 0) rfl
  have x4_1c := (HB0.out.grow hs.2).cell (i := 4) rfl
  have x5_1c := (HB0.out.grow hs.2).cell (i := 5) rfl
  clear ho1c hB1 hs hg1c
  go_wp2_with (at_builtin; refine append_bytes Tryd.underlying23 i8 i8z i8s i8b rfl _ _ rfl W1.heap.size _ Q1.length Q1 HT1.out.1 rfl B1 P1.length d1 P1 HBB1.out rfl (by have := HL0.out; have := HL1.out; have := HL2.out; have := HL3.out; have := HM0.out; have := HM1.out; have := HM2.out; omega) HT1.out.2.size ?_; intro v1 w1a ha hb _; obtain ⟨A2, c2, rfl, hs⟩ := HT1.out.next ha hb rfl HQ2.out; have HS2 := Lib.hid hs; have x0_2 := (HB0.out.grow hs.2).cell (i := 0) rfl; have x5_2 := (HB0.out.grow hs.2).cell (i := 5) rfl; clear ha hb hs)
  refine (ref_bytes_own mask (by omega) w1a).mono ?_
  rintro r w2c ⟨v2c, rfl, ho2c, hg2c⟩
  rw [← HP2.out] at ho2c
  obtain ⟨B2, d2, rfl, hB2⟩ := own_slB ho2c
  have HBB2 := Lib.hid hB2
  have hs := HS2.out.grow hg2c
  have HT2 := Lib.hid hs
  have x0_2c := (HB0.out.grow hs.2).cell (i := 0) rfl
  have x5_2c := (HB0.out.grow hs.2).cell (i := 5) rfl
  clear ho2c hB2 hs hg2c
  go_wp2_with (at_builtin; refine append_bytes Tryd.underlying23 i8 i8z i8s i8b rfl _ _ rfl W1.heap.size _ Q2.length Q2 HT2.out.1 rfl B2 P2.length d2 P2 HBB2.out rfl (by have := HL0.out; have := HL1.out; have := HL2.out; have := HL3.out; have := HM0.out; have := HM1.out; have := HM2.out; omega) HT2.out.2.size ?_; intro v1 w2a ha hb _; obtain ⟨A3, c3, rfl, hs⟩ := HT2.out.next ha hb rfl HQ3.out; have HS3 := Lib.hid hs; have x0_3 := (HB0.out.grow hs.2).cell (i := 0) rfl; clear ha hb hs)
  go_ret
  exact ⟨_, rfl, own_lowB HS3.out.1 HS.out, HG1.out.trans HS3.out.2⟩
set_option maxRecDepth 100000 in
set_option maxHeartbeats 4000000 in
theorem one_8 (w : World) (node peer K at_ mask draw : Nat) (b : List UInt8) (A : Option Addr) (n c : Nat) (hby : Bytes w A n b) (hbl : b.length ≤ 100000000) (ok2 : node ≤ 255) (ok3 : peer ≤ 255) (ok4 : K ≤ 1048576) (ok5 : at_ ≤ 1048576) (ok6 : mask < 4294967296) (ok7 : draw < 18446744073709551616) :
    Calls Tryd.prog 22 #[.agg #[.int .u8 8, .int .u8 (node : Int), .int .u8 (peer : Int), .int .i64 (K : Int), .int .i64 (at_ : Int), .int .u32 (mask : Int), .int .u64 (draw : Int), .slice A n c]] w fun r w' => ∃ v, r = .returned v ∧ w'.ownsRow w.heap.size 5 1 v (evb ⟨8, node, peer, (K : Int), (at_ : Int), mask, draw, b⟩).length (u8s (evb ⟨8, node, peer, (K : Int), (at_ : Int), mask, draw, b⟩)) ∧ Grow w w' := by
  have hused : True := by have := hbl; have := hby; have := ok2; have := ok3; have := ok4; have := ok5; have := ok6; have := ok7; trivial
  clear hused
  have hres : evb ⟨8, node, peer, (K : Int), (at_ : Int), mask, draw, b⟩ = [Vi.u8 8] ++ [Vi.u8 node] := by
    simp [evb, hb, hasN, hasL]
  rw [hres]
  obtain ⟨P0, hP0⟩ : ∃ P, P = [Vi.u8 node] := ⟨_, rfl⟩
  rw [← hP0]
  obtain ⟨Q0, hQ0⟩ : ∃ Q, Q = [Vi.u8 8] := ⟨_, rfl⟩
  rw [← hQ0]
  have hl0 : Q0.length = 1 := by rw [hQ0]; rfl
  obtain ⟨Q1, hQ1⟩ : ∃ Q, Q = Q0 ++ P0 := ⟨_, rfl⟩
  rw [← hQ1]
  have hm0 : P0.length = 1 := by rw [hP0]; rfl
  have hl1 : Q1.length = Q0.length + P0.length := by rw [hQ1, List.length_append]
  obtain ⟨W1, hW1⟩ : ∃ W, W = w.alloc (.cells #[.int .u8 8, .int .u8 (node : Int), .int .u8 (peer : Int), .int .i64 (K : Int), .int .i64 (at_ : Int), .int .u32 (mask : Int), .int .u64 (draw : Int), .slice A n c] TE) := ⟨_, rfl⟩
  have hg1 : Grow w W1 := by rw [hW1]; exact Grow.alloc _ _
  have hb1 : Blk W1 w.heap.size TE [.int .u8 8, .int .u8 (node : Int), .int .u8 (peer : Int), .int .i64 (K : Int), .int .i64 (at_ : Int), .int .u32 (mask : Int), .int .u64 (draw : Int), .slice A n c] := by rw [hW1]; exact Blk.new _ _ _ _ rfl rfl
  obtain ⟨W2, hW2⟩ : ∃ W, W = W1.alloc (.cells #[.int .u8 8] 5) := ⟨_, rfl⟩
  have hg2 : Grow W1 W2 := by rw [hW2]; exact Grow.alloc _ _
  have ho0 : W2.ownsRow W1.heap.size 5 1 (.slice (some ⟨W1.heap.size, 0, none⟩) 1 1) Q0.length (u8s Q0) := by rw [hW2, hl0, hQ0]; exact own_new W1 8 (by decide) rfl
  have hno : Calls Tryd.prog 35 #[.int .u8 8] W2 fun r w' => r = .returned (.bool true) ∧ W2 = w' := noded_any W2 8
  have x0 := hb1.cell (i := 0) rfl
  have x1 := (hb1.grow hg2).cell (i := 1) rfl
  have x0' := (hb1.grow hg2).cell (i := 0) rfl
  have HNO := Lib.hid hno
  have HO0 := Lib.hid ho0
  have HG2 := Lib.hid (hg1.trans hg2)
  have HG12 := Lib.hid hg2
  have HBX := Lib.hid hb1
  have HG1 := Lib.hid hg1
  have HW1 := Lib.hid hW1
  have HW2 := Lib.hid hW2
  have HBY := Lib.hid hby
  have HL0 := Lib.hid hl0
  have HS := Lib.hid hg1.size
  have HL1 := Lib.hid hl1
  have HM0 := Lib.hid hm0
  have HP0 := Lib.hid hP0
  have HQ1 := Lib.hid hQ1
  clear hres hno ho0 hg1 hg2 hb1 hW1 hW2 hby hl0 hQ0 hl1 hm0 hP0 hQ1
  go_enter Tryd.func22, Tryd.ntmps22
  try dsimp only
  repeat (first | with_reducible (refine wp_region_cut (k := 1) ?_) | go_values | go_guarded | go_step | go_upon | go_back)
  rw [← HW1.out]
  unfold Cut
  repeat (first | with_reducible (refine wp_region_cut (k := 2) ?_) | go_values | go_guarded | go_step | go_upon | go_back)
  rw [← HW2.out]
  unfold Cut
  go_wp2_with fail
  refine HNO.out.mono ?_
  rintro r w' ⟨rfl, rfl⟩
  have HS0 : Hid (OneS W1 W2 (.slice (some ⟨W1.heap.size, 0, none⟩) 1 1) Q0) := Lib.hid ⟨HO0.out, HG12.out⟩
  have HB0 := Lib.hid HBX.out
  go_wp2_with (at_builtin; refine append_bytes Tryd.underlying23 i8 i8z i8s i8b rfl _ _ rfl W1.heap.size _ Q0.length Q0 (HS0.out.grow (Grow.alloc W2 _)).1 rfl (some ⟨W2.heap.size, 0, none⟩) 1 1 P0 (by rw [HP0.out]; exact Bytes.new W2 [Vi.u8 node] _ _ rfl (by simp [u8s, u8v, Vi.u8_toNat (n := node) (by omega)]) rfl) rfl (by have := HL0.out; have := HL1.out; have := HM0.out; omega) (HS0.out.grow (Grow.alloc W2 _)).2.size ?_; intro v1 w0a ha hb _; obtain ⟨A1, c1, rfl, hs⟩ := (HS0.out.grow (Grow.alloc W2 _)).next ha hb HM0.out.symm HQ1.out; have HS1 := Lib.hid hs; have x0_1 := (HB0.out.grow hs.2).cell (i := 0) rfl; clear ha hb hs)
  go_ret
  exact ⟨_, rfl, own_lowB HS1.out.1 HS.out, HG1.out.trans HS1.out.2⟩
set_option maxRecDepth 100000 in
set_option maxHeartbeats 4000000 in
theorem one_9 (w : World) (node peer K at_ mask draw : Nat) (b : List UInt8) (A : Option Addr) (n c : Nat) (hby : Bytes w A n b) (hbl : b.length ≤ 100000000) (ok2 : node ≤ 255) (ok3 : peer ≤ 255) (ok4 : K ≤ 1048576) (ok5 : at_ ≤ 1048576) (ok6 : mask < 4294967296) (ok7 : draw < 18446744073709551616) :
    Calls Tryd.prog 22 #[.agg #[.int .u8 9, .int .u8 (node : Int), .int .u8 (peer : Int), .int .i64 (K : Int), .int .i64 (at_ : Int), .int .u32 (mask : Int), .int .u64 (draw : Int), .slice A n c]] w fun r w' => ∃ v, r = .returned v ∧ w'.ownsRow w.heap.size 5 1 v (evb ⟨9, node, peer, (K : Int), (at_ : Int), mask, draw, b⟩).length (u8s (evb ⟨9, node, peer, (K : Int), (at_ : Int), mask, draw, b⟩)) ∧ Grow w w' := by
  have hused : True := by have := hbl; have := hby; have := ok2; have := ok3; have := ok4; have := ok5; have := ok6; have := ok7; trivial
  clear hused
  have hres : evb ⟨9, node, peer, (K : Int), (at_ : Int), mask, draw, b⟩ = [Vi.u8 9] ++ [Vi.u8 node] ++ vb K := by
    simp [evb, hb, hasN, hasL]
  rw [hres]
  obtain ⟨P0, hP0⟩ : ∃ P, P = [Vi.u8 node] := ⟨_, rfl⟩
  obtain ⟨P1, hP1⟩ : ∃ P, P = vb K := ⟨_, rfl⟩
  rw [← hP0, ← hP1]
  obtain ⟨Q0, hQ0⟩ : ∃ Q, Q = [Vi.u8 9] := ⟨_, rfl⟩
  rw [← hQ0]
  have hl0 : Q0.length = 1 := by rw [hQ0]; rfl
  obtain ⟨Q1, hQ1⟩ : ∃ Q, Q = Q0 ++ P0 := ⟨_, rfl⟩
  rw [← hQ1]
  have hm0 : P0.length = 1 := by rw [hP0]; rfl
  have hl1 : Q1.length = Q0.length + P0.length := by rw [hQ1, List.length_append]
  obtain ⟨Q2, hQ2⟩ : ∃ Q, Q = Q1 ++ P1 := ⟨_, rfl⟩
  rw [← hQ2]
  have hm1 : P1.length ≤ 10 := by rw [hP1]; exact vb_len_le _
  have hl2 : Q2.length = Q1.length + P1.length := by rw [hQ2, List.length_append]
  obtain ⟨W1, hW1⟩ : ∃ W, W = w.alloc (.cells #[.int .u8 9, .int .u8 (node : Int), .int .u8 (peer : Int), .int .i64 (K : Int), .int .i64 (at_ : Int), .int .u32 (mask : Int), .int .u64 (draw : Int), .slice A n c] TE) := ⟨_, rfl⟩
  have hg1 : Grow w W1 := by rw [hW1]; exact Grow.alloc _ _
  have hb1 : Blk W1 w.heap.size TE [.int .u8 9, .int .u8 (node : Int), .int .u8 (peer : Int), .int .i64 (K : Int), .int .i64 (at_ : Int), .int .u32 (mask : Int), .int .u64 (draw : Int), .slice A n c] := by rw [hW1]; exact Blk.new _ _ _ _ rfl rfl
  obtain ⟨W2, hW2⟩ : ∃ W, W = W1.alloc (.cells #[.int .u8 9] 5) := ⟨_, rfl⟩
  have hg2 : Grow W1 W2 := by rw [hW2]; exact Grow.alloc _ _
  have ho0 : W2.ownsRow W1.heap.size 5 1 (.slice (some ⟨W1.heap.size, 0, none⟩) 1 1) Q0.length (u8s Q0) := by rw [hW2, hl0, hQ0]; exact own_new W1 9 (by decide) rfl
  have hno : Calls Tryd.prog 35 #[.int .u8 9] W2 fun r w' => r = .returned (.bool true) ∧ W2 = w' := noded_any W2 9
  have x0 := hb1.cell (i := 0) rfl
  have x1 := (hb1.grow hg2).cell (i := 1) rfl
  have x3 := (hb1.grow hg2).cell (i := 3) rfl
  have x0' := (hb1.grow hg2).cell (i := 0) rfl
  have HNO := Lib.hid hno
  have HO0 := Lib.hid ho0
  have HG2 := Lib.hid (hg1.trans hg2)
  have HG12 := Lib.hid hg2
  have HBX := Lib.hid hb1
  have HG1 := Lib.hid hg1
  have HW1 := Lib.hid hW1
  have HW2 := Lib.hid hW2
  have HBY := Lib.hid hby
  have HL0 := Lib.hid hl0
  have HS := Lib.hid hg1.size
  have HL1 := Lib.hid hl1
  have HM0 := Lib.hid hm0
  have HP0 := Lib.hid hP0
  have HQ1 := Lib.hid hQ1
  have HL2 := Lib.hid hl2
  have HM1 := Lib.hid hm1
  have HP1 := Lib.hid hP1
  have HQ2 := Lib.hid hQ2
  clear hres hno ho0 hg1 hg2 hb1 hW1 hW2 hby hl0 hQ0 hl1 hm0 hP0 hQ1 hl2 hm1 hP1 hQ2
  go_enter Tryd.func22, Tryd.ntmps22
  try dsimp only
  repeat (first | with_reducible (refine wp_region_cut (k := 1) ?_) | go_values | go_guarded | go_step | go_upon | go_back)
  rw [← HW1.out]
  unfold Cut
  repeat (first | with_reducible (refine wp_region_cut (k := 2) ?_) | go_values | go_guarded | go_step | go_upon | go_back)
  rw [← HW2.out]
  unfold Cut
  go_wp2_with fail
  refine HNO.out.mono ?_
  rintro r w' ⟨rfl, rfl⟩
  have HS0 : Hid (OneS W1 W2 (.slice (some ⟨W1.heap.size, 0, none⟩) 1 1) Q0) := Lib.hid ⟨HO0.out, HG12.out⟩
  have HB0 := Lib.hid HBX.out
  go_wp2_with (at_builtin; refine append_bytes Tryd.underlying23 i8 i8z i8s i8b rfl _ _ rfl W1.heap.size _ Q0.length Q0 (HS0.out.grow (Grow.alloc W2 _)).1 rfl (some ⟨W2.heap.size, 0, none⟩) 1 1 P0 (by rw [HP0.out]; exact Bytes.new W2 [Vi.u8 node] _ _ rfl (by simp [u8s, u8v, Vi.u8_toNat (n := node) (by omega)]) rfl) rfl (by have := HL0.out; have := HL1.out; have := HL2.out; have := HM0.out; have := HM1.out; omega) (HS0.out.grow (Grow.alloc W2 _)).2.size ?_; intro v1 w0a ha hb _; obtain ⟨A1, c1, rfl, hs⟩ := (HS0.out.grow (Grow.alloc W2 _)).next ha hb HM0.out.symm HQ1.out; have HS1 := Lib.hid hs; have x0_1 := (HB0.out.grow hs.2).cell (i := 0) rfl; have x3_1 := (HB0.out.grow hs.2).cell (i := 3) rfl; clear ha hb hs)
  refine (ref_bytes_own K (by omega) w0a).mono ?_
  rintro r w1c ⟨v1c, rfl, ho1c, hg1c⟩
  rw [← HP1.out] at ho1c
  obtain ⟨B1, d1, rfl, hB1⟩ := own_slB ho1c
  have HBB1 := Lib.hid hB1
  have hs := HS1.out.grow hg1c
  have HT1 := Lib.hid hs
  have x0_1c := (HB0.out.grow hs.2).cell (i := 0) rfl
  have x3_1c := (HB0.out.grow hs.2).cell (i := 3) rfl
  clear ho1c hB1 hs hg1c
  go_wp2_with (at_builtin; refine append_bytes Tryd.underlying23 i8 i8z i8s i8b rfl _ _ rfl W1.heap.size _ Q1.length Q1 HT1.out.1 rfl B1 P1.length d1 P1 HBB1.out rfl (by have := HL0.out; have := HL1.out; have := HL2.out; have := HM0.out; have := HM1.out; omega) HT1.out.2.size ?_; intro v1 w1a ha hb _; obtain ⟨A2, c2, rfl, hs⟩ := HT1.out.next ha hb rfl HQ2.out; have HS2 := Lib.hid hs; have x0_2 := (HB0.out.grow hs.2).cell (i := 0) rfl; clear ha hb hs)
  go_ret
  exact ⟨_, rfl, own_lowB HS2.out.1 HS.out, HG1.out.trans HS2.out.2⟩
set_option maxRecDepth 100000 in
set_option maxHeartbeats 4000000 in
theorem one_10 (w : World) (node peer K at_ mask draw : Nat) (b : List UInt8) (A : Option Addr) (n c : Nat) (hby : Bytes w A n b) (hbl : b.length ≤ 100000000) (ok2 : node ≤ 255) (ok3 : peer ≤ 255) (ok4 : K ≤ 1048576) (ok5 : at_ ≤ 1048576) (ok6 : mask < 4294967296) (ok7 : draw < 18446744073709551616) :
    Calls Tryd.prog 22 #[.agg #[.int .u8 10, .int .u8 (node : Int), .int .u8 (peer : Int), .int .i64 (K : Int), .int .i64 (at_ : Int), .int .u32 (mask : Int), .int .u64 (draw : Int), .slice A n c]] w fun r w' => ∃ v, r = .returned v ∧ w'.ownsRow w.heap.size 5 1 v (evb ⟨10, node, peer, (K : Int), (at_ : Int), mask, draw, b⟩).length (u8s (evb ⟨10, node, peer, (K : Int), (at_ : Int), mask, draw, b⟩)) ∧ Grow w w' := by
  have hused : True := by have := hbl; have := hby; have := ok2; have := ok3; have := ok4; have := ok5; have := ok6; have := ok7; trivial
  clear hused
  have hres : evb ⟨10, node, peer, (K : Int), (at_ : Int), mask, draw, b⟩ = [Vi.u8 10] ++ [Vi.u8 node] := by
    simp [evb, hb, hasN, hasL]
  rw [hres]
  obtain ⟨P0, hP0⟩ : ∃ P, P = [Vi.u8 node] := ⟨_, rfl⟩
  rw [← hP0]
  obtain ⟨Q0, hQ0⟩ : ∃ Q, Q = [Vi.u8 10] := ⟨_, rfl⟩
  rw [← hQ0]
  have hl0 : Q0.length = 1 := by rw [hQ0]; rfl
  obtain ⟨Q1, hQ1⟩ : ∃ Q, Q = Q0 ++ P0 := ⟨_, rfl⟩
  rw [← hQ1]
  have hm0 : P0.length = 1 := by rw [hP0]; rfl
  have hl1 : Q1.length = Q0.length + P0.length := by rw [hQ1, List.length_append]
  obtain ⟨W1, hW1⟩ : ∃ W, W = w.alloc (.cells #[.int .u8 10, .int .u8 (node : Int), .int .u8 (peer : Int), .int .i64 (K : Int), .int .i64 (at_ : Int), .int .u32 (mask : Int), .int .u64 (draw : Int), .slice A n c] TE) := ⟨_, rfl⟩
  have hg1 : Grow w W1 := by rw [hW1]; exact Grow.alloc _ _
  have hb1 : Blk W1 w.heap.size TE [.int .u8 10, .int .u8 (node : Int), .int .u8 (peer : Int), .int .i64 (K : Int), .int .i64 (at_ : Int), .int .u32 (mask : Int), .int .u64 (draw : Int), .slice A n c] := by rw [hW1]; exact Blk.new _ _ _ _ rfl rfl
  obtain ⟨W2, hW2⟩ : ∃ W, W = W1.alloc (.cells #[.int .u8 10] 5) := ⟨_, rfl⟩
  have hg2 : Grow W1 W2 := by rw [hW2]; exact Grow.alloc _ _
  have ho0 : W2.ownsRow W1.heap.size 5 1 (.slice (some ⟨W1.heap.size, 0, none⟩) 1 1) Q0.length (u8s Q0) := by rw [hW2, hl0, hQ0]; exact own_new W1 10 (by decide) rfl
  have hno : Calls Tryd.prog 35 #[.int .u8 10] W2 fun r w' => r = .returned (.bool true) ∧ W2 = w' := noded_any W2 10
  have x0 := hb1.cell (i := 0) rfl
  have x1 := (hb1.grow hg2).cell (i := 1) rfl
  have x0' := (hb1.grow hg2).cell (i := 0) rfl
  have HNO := Lib.hid hno
  have HO0 := Lib.hid ho0
  have HG2 := Lib.hid (hg1.trans hg2)
  have HG12 := Lib.hid hg2
  have HBX := Lib.hid hb1
  have HG1 := Lib.hid hg1
  have HW1 := Lib.hid hW1
  have HW2 := Lib.hid hW2
  have HBY := Lib.hid hby
  have HL0 := Lib.hid hl0
  have HS := Lib.hid hg1.size
  have HL1 := Lib.hid hl1
  have HM0 := Lib.hid hm0
  have HP0 := Lib.hid hP0
  have HQ1 := Lib.hid hQ1
  clear hres hno ho0 hg1 hg2 hb1 hW1 hW2 hby hl0 hQ0 hl1 hm0 hP0 hQ1
  go_enter Tryd.func22, Tryd.ntmps22
  try dsimp only
  repeat (first | with_reducible (refine wp_region_cut (k := 1) ?_) | go_values | go_guarded | go_step | go_upon | go_back)
  rw [← HW1.out]
  unfold Cut
  repeat (first | with_reducible (refine wp_region_cut (k := 2) ?_) | go_values | go_guarded | go_step | go_upon | go_back)
  rw [← HW2.out]
  unfold Cut
  go_wp2_with fail
  refine HNO.out.mono ?_
  rintro r w' ⟨rfl, rfl⟩
  have HS0 : Hid (OneS W1 W2 (.slice (some ⟨W1.heap.size, 0, none⟩) 1 1) Q0) := Lib.hid ⟨HO0.out, HG12.out⟩
  have HB0 := Lib.hid HBX.out
  go_wp2_with (at_builtin; refine append_bytes Tryd.underlying23 i8 i8z i8s i8b rfl _ _ rfl W1.heap.size _ Q0.length Q0 (HS0.out.grow (Grow.alloc W2 _)).1 rfl (some ⟨W2.heap.size, 0, none⟩) 1 1 P0 (by rw [HP0.out]; exact Bytes.new W2 [Vi.u8 node] _ _ rfl (by simp [u8s, u8v, Vi.u8_toNat (n := node) (by omega)]) rfl) rfl (by have := HL0.out; have := HL1.out; have := HM0.out; omega) (HS0.out.grow (Grow.alloc W2 _)).2.size ?_; intro v1 w0a ha hb _; obtain ⟨A1, c1, rfl, hs⟩ := (HS0.out.grow (Grow.alloc W2 _)).next ha hb HM0.out.symm HQ1.out; have HS1 := Lib.hid hs; have x0_1 := (HB0.out.grow hs.2).cell (i := 0) rfl; clear ha hb hs)
  go_ret
  exact ⟨_, rfl, own_lowB HS1.out.1 HS.out, HG1.out.trans HS1.out.2⟩
set_option maxRecDepth 100000 in
set_option maxHeartbeats 4000000 in
theorem one_11 (w : World) (node peer K at_ mask draw : Nat) (b : List UInt8) (A : Option Addr) (n c : Nat) (hby : Bytes w A n b) (hbl : b.length ≤ 100000000) (ok2 : node ≤ 255) (ok3 : peer ≤ 255) (ok4 : K ≤ 1048576) (ok5 : at_ ≤ 1048576) (ok6 : mask < 4294967296) (ok7 : draw < 18446744073709551616) :
    Calls Tryd.prog 22 #[.agg #[.int .u8 11, .int .u8 (node : Int), .int .u8 (peer : Int), .int .i64 (K : Int), .int .i64 (at_ : Int), .int .u32 (mask : Int), .int .u64 (draw : Int), .slice A n c]] w fun r w' => ∃ v, r = .returned v ∧ w'.ownsRow w.heap.size 5 1 v (evb ⟨11, node, peer, (K : Int), (at_ : Int), mask, draw, b⟩).length (u8s (evb ⟨11, node, peer, (K : Int), (at_ : Int), mask, draw, b⟩)) ∧ Grow w w' := by
  have hused : True := by have := hbl; have := hby; have := ok2; have := ok3; have := ok4; have := ok5; have := ok6; have := ok7; trivial
  clear hused
  have hres : evb ⟨11, node, peer, (K : Int), (at_ : Int), mask, draw, b⟩ = [Vi.u8 11] ++ [Vi.u8 node] ++ [Vi.u8 peer] := by
    simp [evb, hb, hasN, hasL]
  rw [hres]
  obtain ⟨P0, hP0⟩ : ∃ P, P = [Vi.u8 node] := ⟨_, rfl⟩
  obtain ⟨P1, hP1⟩ : ∃ P, P = [Vi.u8 peer] := ⟨_, rfl⟩
  rw [← hP0, ← hP1]
  obtain ⟨Q0, hQ0⟩ : ∃ Q, Q = [Vi.u8 11] := ⟨_, rfl⟩
  rw [← hQ0]
  have hl0 : Q0.length = 1 := by rw [hQ0]; rfl
  obtain ⟨Q1, hQ1⟩ : ∃ Q, Q = Q0 ++ P0 := ⟨_, rfl⟩
  rw [← hQ1]
  have hm0 : P0.length = 1 := by rw [hP0]; rfl
  have hl1 : Q1.length = Q0.length + P0.length := by rw [hQ1, List.length_append]
  obtain ⟨Q2, hQ2⟩ : ∃ Q, Q = Q1 ++ P1 := ⟨_, rfl⟩
  rw [← hQ2]
  have hm1 : P1.length = 1 := by rw [hP1]; rfl
  have hl2 : Q2.length = Q1.length + P1.length := by rw [hQ2, List.length_append]
  obtain ⟨W1, hW1⟩ : ∃ W, W = w.alloc (.cells #[.int .u8 11, .int .u8 (node : Int), .int .u8 (peer : Int), .int .i64 (K : Int), .int .i64 (at_ : Int), .int .u32 (mask : Int), .int .u64 (draw : Int), .slice A n c] TE) := ⟨_, rfl⟩
  have hg1 : Grow w W1 := by rw [hW1]; exact Grow.alloc _ _
  have hb1 : Blk W1 w.heap.size TE [.int .u8 11, .int .u8 (node : Int), .int .u8 (peer : Int), .int .i64 (K : Int), .int .i64 (at_ : Int), .int .u32 (mask : Int), .int .u64 (draw : Int), .slice A n c] := by rw [hW1]; exact Blk.new _ _ _ _ rfl rfl
  obtain ⟨W2, hW2⟩ : ∃ W, W = W1.alloc (.cells #[.int .u8 11] 5) := ⟨_, rfl⟩
  have hg2 : Grow W1 W2 := by rw [hW2]; exact Grow.alloc _ _
  have ho0 : W2.ownsRow W1.heap.size 5 1 (.slice (some ⟨W1.heap.size, 0, none⟩) 1 1) Q0.length (u8s Q0) := by rw [hW2, hl0, hQ0]; exact own_new W1 11 (by decide) rfl
  have hno : Calls Tryd.prog 35 #[.int .u8 11] W2 fun r w' => r = .returned (.bool true) ∧ W2 = w' := noded_any W2 11
  have x0 := hb1.cell (i := 0) rfl
  have x1 := (hb1.grow hg2).cell (i := 1) rfl
  have x2 := (hb1.grow hg2).cell (i := 2) rfl
  have x0' := (hb1.grow hg2).cell (i := 0) rfl
  have HNO := Lib.hid hno
  have HO0 := Lib.hid ho0
  have HG2 := Lib.hid (hg1.trans hg2)
  have HG12 := Lib.hid hg2
  have HBX := Lib.hid hb1
  have HG1 := Lib.hid hg1
  have HW1 := Lib.hid hW1
  have HW2 := Lib.hid hW2
  have HBY := Lib.hid hby
  have HL0 := Lib.hid hl0
  have HS := Lib.hid hg1.size
  have HL1 := Lib.hid hl1
  have HM0 := Lib.hid hm0
  have HP0 := Lib.hid hP0
  have HQ1 := Lib.hid hQ1
  have HL2 := Lib.hid hl2
  have HM1 := Lib.hid hm1
  have HP1 := Lib.hid hP1
  have HQ2 := Lib.hid hQ2
  clear hres hno ho0 hg1 hg2 hb1 hW1 hW2 hby hl0 hQ0 hl1 hm0 hP0 hQ1 hl2 hm1 hP1 hQ2
  go_enter Tryd.func22, Tryd.ntmps22
  try dsimp only
  repeat (first | with_reducible (refine wp_region_cut (k := 1) ?_) | go_values | go_guarded | go_step | go_upon | go_back)
  rw [← HW1.out]
  unfold Cut
  repeat (first | with_reducible (refine wp_region_cut (k := 2) ?_) | go_values | go_guarded | go_step | go_upon | go_back)
  rw [← HW2.out]
  unfold Cut
  go_wp2_with fail
  refine HNO.out.mono ?_
  rintro r w' ⟨rfl, rfl⟩
  have HS0 : Hid (OneS W1 W2 (.slice (some ⟨W1.heap.size, 0, none⟩) 1 1) Q0) := Lib.hid ⟨HO0.out, HG12.out⟩
  have HB0 := Lib.hid HBX.out
  go_wp2_with (first | (at_builtin; refine append_bytes Tryd.underlying23 i8 i8z i8s i8b rfl _ _ rfl W1.heap.size _ Q0.length Q0 (HS0.out.grow (Grow.alloc W2 _)).1 rfl (some ⟨W2.heap.size, 0, none⟩) 1 1 P0 (by rw [HP0.out]; exact Bytes.new W2 [Vi.u8 node] _ _ rfl (by simp [u8s, u8v, Vi.u8_toNat (n := node) (by omega)]) rfl) rfl (by have := HL0.out; have := HL1.out; have := HL2.out; have := HM0.out; have := HM1.out; omega) (HS0.out.grow (Grow.alloc W2 _)).2.size ?_; intro v1 w0a ha hb _; obtain ⟨A1, c1, rfl, hs⟩ := (HS0.out.grow (Grow.alloc W2 _)).next ha hb HM0.out.symm HQ1.out; have HS1 := Lib.hid hs; have x0_1 := (HB0.out.grow hs.2).cell (i := 0) rfl; have x2_1 := (HB0.out.grow hs.2).cell (i := 2) rfl; clear ha hb hs) | (at_builtin; refine append_bytes Tryd.underlying23 i8 i8z i8s i8b rfl _ _ rfl W1.heap.size _ Q1.length Q1 (HS1.out.grow (Grow.alloc w0a _)).1 rfl (some ⟨w0a.heap.size, 0, none⟩) 1 1 P1 (by rw [HP1.out]; exact Bytes.new w0a [Vi.u8 peer] _ _ rfl (by simp [u8s, u8v, Vi.u8_toNat (n := peer) (by omega)]) rfl) rfl (by have := HL0.out; have := HL1.out; have := HL2.out; have := HM0.out; have := HM1.out; omega) (HS1.out.grow (Grow.alloc w0a _)).2.size ?_; intro v1 w1a ha hb _; obtain ⟨A2, c2, rfl, hs⟩ := (HS1.out.grow (Grow.alloc w0a _)).next ha hb HM1.out.symm HQ2.out; have HS2 := Lib.hid hs; have x0_2 := (HB0.out.grow hs.2).cell (i := 0) rfl; clear ha hb hs))
  go_ret
  exact ⟨_, rfl, own_lowB HS2.out.1 HS.out, HG1.out.trans HS2.out.2⟩
set_option maxRecDepth 100000 in
set_option maxHeartbeats 4000000 in
theorem one_12 (w : World) (node peer K at_ mask draw : Nat) (b : List UInt8) (A : Option Addr) (n c : Nat) (hby : Bytes w A n b) (hbl : b.length ≤ 100000000) (ok2 : node ≤ 255) (ok3 : peer ≤ 255) (ok4 : K ≤ 1048576) (ok5 : at_ ≤ 1048576) (ok6 : mask < 4294967296) (ok7 : draw < 18446744073709551616) :
    Calls Tryd.prog 22 #[.agg #[.int .u8 12, .int .u8 (node : Int), .int .u8 (peer : Int), .int .i64 (K : Int), .int .i64 (at_ : Int), .int .u32 (mask : Int), .int .u64 (draw : Int), .slice A n c]] w fun r w' => ∃ v, r = .returned v ∧ w'.ownsRow w.heap.size 5 1 v (evb ⟨12, node, peer, (K : Int), (at_ : Int), mask, draw, b⟩).length (u8s (evb ⟨12, node, peer, (K : Int), (at_ : Int), mask, draw, b⟩)) ∧ Grow w w' := by
  have hused : True := by have := hbl; have := hby; have := ok2; have := ok3; have := ok4; have := ok5; have := ok6; have := ok7; trivial
  clear hused
  have hres : evb ⟨12, node, peer, (K : Int), (at_ : Int), mask, draw, b⟩ = [Vi.u8 12] := by
    simp [evb, hb, hasN, hasL]
  rw [hres]
  obtain ⟨Q0, hQ0⟩ : ∃ Q, Q = [Vi.u8 12] := ⟨_, rfl⟩
  rw [← hQ0]
  have hl0 : Q0.length = 1 := by rw [hQ0]; rfl
  obtain ⟨W1, hW1⟩ : ∃ W, W = w.alloc (.cells #[.int .u8 12, .int .u8 (node : Int), .int .u8 (peer : Int), .int .i64 (K : Int), .int .i64 (at_ : Int), .int .u32 (mask : Int), .int .u64 (draw : Int), .slice A n c] TE) := ⟨_, rfl⟩
  have hg1 : Grow w W1 := by rw [hW1]; exact Grow.alloc _ _
  have hb1 : Blk W1 w.heap.size TE [.int .u8 12, .int .u8 (node : Int), .int .u8 (peer : Int), .int .i64 (K : Int), .int .i64 (at_ : Int), .int .u32 (mask : Int), .int .u64 (draw : Int), .slice A n c] := by rw [hW1]; exact Blk.new _ _ _ _ rfl rfl
  obtain ⟨W2, hW2⟩ : ∃ W, W = W1.alloc (.cells #[.int .u8 12] 5) := ⟨_, rfl⟩
  have hg2 : Grow W1 W2 := by rw [hW2]; exact Grow.alloc _ _
  have ho0 : W2.ownsRow W1.heap.size 5 1 (.slice (some ⟨W1.heap.size, 0, none⟩) 1 1) Q0.length (u8s Q0) := by rw [hW2, hl0, hQ0]; exact own_new W1 12 (by decide) rfl
  have hno : Calls Tryd.prog 35 #[.int .u8 12] W2 fun r w' => r = .returned (.bool false) ∧ W2 = w' := noded_any W2 12
  have x0 := hb1.cell (i := 0) rfl
  have x0' := (hb1.grow hg2).cell (i := 0) rfl
  have HNO := Lib.hid hno
  have HO0 := Lib.hid ho0
  have HG2 := Lib.hid (hg1.trans hg2)
  have HG12 := Lib.hid hg2
  have HBX := Lib.hid hb1
  have HG1 := Lib.hid hg1
  have HW1 := Lib.hid hW1
  have HW2 := Lib.hid hW2
  have HBY := Lib.hid hby
  have HL0 := Lib.hid hl0
  have HS := Lib.hid hg1.size
  clear hres hno ho0 hg1 hg2 hb1 hW1 hW2 hby hl0 hQ0
  go_enter Tryd.func22, Tryd.ntmps22
  try dsimp only
  repeat (first | with_reducible (refine wp_region_cut (k := 1) ?_) | go_values | go_guarded | go_step | go_upon | go_back)
  rw [← HW1.out]
  unfold Cut
  repeat (first | with_reducible (refine wp_region_cut (k := 2) ?_) | go_values | go_guarded | go_step | go_upon | go_back)
  rw [← HW2.out]
  unfold Cut
  go_wp2_with fail
  refine HNO.out.mono ?_
  rintro r w' ⟨rfl, rfl⟩
  have HS0 : Hid (OneS W1 W2 (.slice (some ⟨W1.heap.size, 0, none⟩) 1 1) Q0) := Lib.hid ⟨HO0.out, HG12.out⟩
  have HB0 := Lib.hid HBX.out
  go_wp2_with fail
  go_ret
  exact ⟨_, rfl, own_lowB HS0.out.1 HS.out, HG1.out.trans HS0.out.2⟩
theorem rone_any (w : World) (e : Ev) (ok : e.ok) (hg : goodB e = true) (A : Option Addr) (n c : Nat) (hby : Bytes w A n e.b) (hbl : e.b.length ≤ 100000000) :
    Calls Tryd.prog 22 #[.agg #[.int .u8 (e.k : Int), .int .u8 (e.node : Int), .int .u8 (e.peer : Int), .int .i64 e.K, .int .i64 e.at_, .int .u32 (e.mask : Int), .int .u64 (e.draw : Int), .slice A n c]] w fun r w' => ∃ v, r = .returned v ∧ w'.ownsRow w.heap.size 5 1 v (evb e).length (u8s (evb e)) ∧ Grow w w' := by
  obtain ⟨h1, h2, h3, h4⟩ := good_low hg
  have hk : kindB e.k = true := by
    unfold goodB bad1 at hg
    unfold kindB
    simp only [Bool.not_eq_true', Bool.or_eq_false_iff, decide_eq_false_iff_not] at hg
    simp only [Bool.and_eq_true, decide_eq_true_eq]
    omega
  obtain ⟨k, node, peer, K, at_, mask, draw, b⟩ := e
  obtain ⟨-, o2, o3, -, -, -, -, o6, o7⟩ := ok
  dsimp only at h1 h2 h3 h4 hk o2 o3 o6 o7 hby hbl ⊢
  obtain ⟨Kn, rfl⟩ := Int.eq_ofNat_of_zero_le h1
  obtain ⟨an, rfl⟩ := Int.eq_ofNat_of_zero_le h3
  rcases kind_cases hk with rfl | rfl | rfl | rfl | rfl | rfl | rfl | rfl | rfl | rfl | rfl | rfl
  · exact one_1 w node peer Kn an mask draw b A n c hby hbl o2 o3 (by omega) (by omega) o6 o7
  · exact one_2 w node peer Kn an mask draw b A n c hby hbl o2 o3 (by omega) (by omega) o6 o7
  · exact one_3 w node peer Kn an mask draw b A n c hby hbl o2 o3 (by omega) (by omega) o6 o7
  · exact one_4 w node peer Kn an mask draw b A n c hby hbl o2 o3 (by omega) (by omega) o6 o7
  · exact one_5 w node peer Kn an mask draw b A n c hby hbl o2 o3 (by omega) (by omega) o6 o7
  · exact one_6 w node peer Kn an mask draw b A n c hby hbl o2 o3 (by omega) (by omega) o6 o7
  · exact one_7 w node peer Kn an mask draw b A n c hby hbl o2 o3 (by omega) (by omega) o6 o7
  · exact one_8 w node peer Kn an mask draw b A n c hby hbl o2 o3 (by omega) (by omega) o6 o7
  · exact one_9 w node peer Kn an mask draw b A n c hby hbl o2 o3 (by omega) (by omega) o6 o7
  · exact one_10 w node peer Kn an mask draw b A n c hby hbl o2 o3 (by omega) (by omega) o6 o7
  · exact one_11 w node peer Kn an mask draw b A n c hby hbl o2 o3 (by omega) (by omega) o6 o7
  · exact one_12 w node peer Kn an mask draw b A n c hby hbl o2 o3 (by omega) (by omega) o6 o7
end Go.Proofs.YtmekdhlcflielaaDoor.ev
