/- The walk of the document's read (printed by gen_evrr.py). -/
import Derived.Test.YtmekdhlcflielaaDoorEvO
namespace Go.Proofs.YtmekdhlcflielaaDoor.ev
open Go Go.RowKit Go.Par Go.Kit Vi Go.Proofs.YtmekdhlcflielaaDoor.bfW
open Go.Proofs.YtmekdhlcflielaaDoor.viW hiding i8 i8s i8z i8b info8

theorem k12 {k : Nat} (h : k ≤ 12) : k = 0 ∨ k = 1 ∨ k = 2 ∨ k = 3 ∨ k = 4 ∨ k = 5 ∨ k = 6 ∨ k = 7 ∨ k = 8 ∨ k = 9 ∨ k = 10 ∨ k = 11 ∨ k = 12 := by omega
theorem opt_text_len {x7 L L' : List UInt8} {e e' : Nat} (h : (x7, L', e') = opt true (rtext L e 131072) [] L e) : x7.length ≤ 131072 := by
  have := rtext_len L e
  rw [opt_t h] at this
  exact this
theorem hb0_eq {k : Nat} (h : k ≤ 12) : hb k 0 = (decide (0 < k) && nodedB k) := by
  rcases k12 h with rfl | rfl | rfl | rfl | rfl | rfl | rfl | rfl | rfl | rfl | rfl | rfl | rfl <;> decide
set_option maxRecDepth 100000 in
set_option maxHeartbeats 16000000 in
theorem rread_any (w : World) (B : Nat) (KK : Nat → Prop) (hKK : ∀ k, KK k → k < w.heap.size) (g : Nat) (L : List UInt8) (e : Nat) (h : Rdr TX w B KK g L e) :
    Calls Tryd.prog 29 #[.pointer (some ⟨g, 0, none⟩)] w fun r w' => (∃ A n c, r = .returned (.agg (evRow (.slice A n c) (rdEv L e).1).toArray) ∧ BO w' (.slice A n c) (rdEv L e).1.b) ∧ Rdr TX w' B KK g (rdEv L e).2.1 (rdEv L e).2.2 ∧ Keep B KK w w' := by
  obtain ⟨W1, hW1, hg1, hb2, hb3⟩ := boxes2 w zE zE TE TE
  obtain ⟨g2, hg2⟩ : ∃ g2, g2 = w.heap.size := ⟨_, rfl⟩
  obtain ⟨g3, hg3⟩ : ∃ g3, g3 = w.heap.size + 1 := ⟨_, rfl⟩
  rw [← hg2] at hb2
  rw [← hg3] at hb3
  have hlt := h.lt
  have hKg : ∀ i, KK i → i ≠ g := fun i hi e1 => by obtain ⟨_, _, _, _, _, _, _, _, _, h9⟩ := h; subst e1; exact h9 hi
  have hrd1 : Rdr TX W1 B (fun i => i ≠ g) g L e := (h.grow hg1).to (fun hn => hn rfl)
  have hby := ref_byte_any W1 B (fun i => i ≠ g) g L e hrd1 12
  obtain ⟨⟨k, L0, e0⟩, hr0⟩ : ∃ r, r = rbyte L e 12 := ⟨_, rfl⟩
  have hk12 : k ≤ 12 := by have := rbyte_le L e 12; rw [← hr0] at this; exact this
  obtain ⟨h0, eh0⟩ : ∃ q, q = hb k 0 := ⟨_, rfl⟩
  obtain ⟨h1, eh1⟩ : ∃ q, q = hb k 1 := ⟨_, rfl⟩
  obtain ⟨h2, eh2⟩ : ∃ q, q = hb k 2 := ⟨_, rfl⟩
  obtain ⟨h3, eh3⟩ : ∃ q, q = hb k 3 := ⟨_, rfl⟩
  obtain ⟨h4, eh4⟩ : ∃ q, q = hb k 4 := ⟨_, rfl⟩
  obtain ⟨h5, eh5⟩ : ∃ q, q = hb k 5 := ⟨_, rfl⟩
  obtain ⟨⟨x1, L1, e1⟩, hr1⟩ : ∃ r, r = opt h0 (rbyte L0 e0 64) 0 L0 e0 := ⟨_, rfl⟩
  obtain ⟨⟨x2, L2, e2⟩, hr2⟩ : ∃ r, r = opt h1 (rbyte L1 e1 64) 0 L1 e1 := ⟨_, rfl⟩
  obtain ⟨⟨x3, L3, e3⟩, hr3⟩ : ∃ r, r = opt h2 (rnum L2 e2 1048576) 0 L2 e2 := ⟨_, rfl⟩
  obtain ⟨⟨x4, L4, e4⟩, hr4⟩ : ∃ r, r = opt h3 (rnum L3 e3 1048576) 0 L3 e3 := ⟨_, rfl⟩
  obtain ⟨⟨x5, L5, e5⟩, hr5⟩ : ∃ r, r = opt h3 (rnum L4 e4 4294967295) 0 L4 e4 := ⟨_, rfl⟩
  obtain ⟨⟨x6, L6, e6⟩, hr6⟩ : ∃ r, r = opt h4 (rnum L5 e5 18446744073709551615) 0 L5 e5 := ⟨_, rfl⟩
  obtain ⟨⟨x7, L7, e7⟩, hr7⟩ : ∃ r, r = opt h5 (rtext L6 e6 131072) [] L6 e6 := ⟨_, rfl⟩
  have hres : rdEv L e = (⟨k, x1, x2, (x3 : Int), (x4 : Int), x5, x6, x7⟩, L7, e7) := by
    unfold rdEv
    dsimp only
    rw [← hr0]
    dsimp only
    rw [← eh0, ← eh1, ← eh2, ← eh3, ← eh4, ← eh5]
    rw [← hr1]
    dsimp only
    rw [← hr2]
    dsimp only
    rw [← hr3]
    dsimp only
    rw [← hr4]
    dsimp only
    rw [← hr5]
    dsimp only
    rw [← hr6]
    dsimp only
    rw [← hr7]
  rw [hres]
  rw [← hr0] at hby
  obtain ⟨q0, hq0⟩ : ∃ q, q = decide (0 < k) := ⟨_, rfl⟩
  obtain ⟨nd, hnd⟩ : ∃ q, q = nodedB k := ⟨_, rfl⟩
  have hh0 : h0 = (q0 && nd) := by rw [eh0, hb0_eq hk12, hq0, hnd]
  have hno := fun W => noded_any W k
  rw [← hnd] at hno
  have tq := hq0.symm
  have tq' : decide ((0 : Int) < (k : Int)) = q0 := by rw [hq0, decide_eq_decide]; omega
  obtain ⟨K0, hK0⟩ : ∃ K0 : Nat → Prop, K0 = fun i => i ≠ g ∧ i < w.heap.size := ⟨_, rfl⟩
  have HQ : Hid (g2 ≠ g ∧ g3 ≠ g ∧ g2 ≠ g3 ∧ B ≤ g3 ∧ ¬ K0 g3 ∧ (∀ i, K0 i → i ≠ g) ∧ ¬ K0 g2 ∧ B ≤ g2) := Lib.hid (by
    refine ⟨by omega, by omega, by omega, by omega, ?_, ?_, ?_, by omega⟩
    · rw [hK0]; rintro ⟨-, h⟩; omega
    · intro i hi; rw [hK0] at hi; exact hi.1
    · rw [hK0]; rintro ⟨-, h⟩; omega)
  have HKL : Hid (∀ i, KK i → K0 i) := Lib.hid (by intro i hi; rw [hK0]; exact ⟨hKg i hi, hKK i hi⟩)
  have HJ : Hid (JRd w TX B K0 g g2 g3 L e zE W1) := Lib.hid ⟨hrd1, hb3, hb2, Keep.of hg1 (by omega)⟩
  have HNO := Lib.hid hno
  have HBY := Lib.hid hby
  have HKG := Lib.hid hKg
  have HW1 := Lib.hid hW1
  have HG2 := Lib.hid hg2
  have HG3 := Lib.hid hg3
  have HK12 := Lib.hid hk12
  have HH0 := Lib.hid hh0
  have EH0 := Lib.hid eh0
  have EH1 := Lib.hid eh1
  have EH2 := Lib.hid eh2
  have EH3 := Lib.hid eh3
  have EH4 := Lib.hid eh4
  have EH5 := Lib.hid eh5
  have HR_1 := Lib.hid hr1
  have HR_2 := Lib.hid hr2
  have HR_3 := Lib.hid hr3
  have HR_4 := Lib.hid hr4
  have HR_5 := Lib.hid hr5
  have HR_6 := Lib.hid hr6
  have HR_7 := Lib.hid hr7
  have HBD : Hid (x1 ≤ 64 ∧ x2 ≤ 64 ∧ x3 ≤ 1048576 ∧ x4 ≤ 1048576 ∧ x5 ≤ 4294967295) := Lib.hid (by
    refine ⟨?_, ?_, ?_, ?_, ?_⟩
    · have := opt_le (q := h0) (L := L0) (e := e0) (rbyte_le L0 e0 64)
      rw [← hr1] at this
      exact this
    · have := opt_le (q := h1) (L := L1) (e := e1) (rbyte_le L1 e1 64)
      rw [← hr2] at this
      exact this
    · have := opt_le (q := h2) (L := L2) (e := e2) (rnum_le L2 e2 1048576)
      rw [← hr3] at this
      exact this
    · have := opt_le (q := h3) (L := L3) (e := e3) (rnum_le L3 e3 1048576)
      rw [← hr4] at this
      exact this
    · have := opt_le (q := h3) (L := L4) (e := e4) (rnum_le L4 e4 4294967295)
      rw [← hr5] at this
      exact this)
  clear hW1 hg1 hb2 hb3 hg2 hg3 hlt hKg hrd1 hby hr0 hres hno h hKK hq0 hnd hh0 hK0 hk12 eh0 eh1 eh2 eh3 eh4 eh5 hr1 hr2 hr3 hr4 hr5 hr6 hr7
  go_enter Tryd.func29, Tryd.ntmps29
  try dsimp only
  repeat (first | with_reducible (refine wp_region_cut (k := 2) ?_) | go_values | go_guarded | go_step | go_upon | go_back)
  rw [← HW1.out, ← HG2.out]
  unfold Cut
  rw [show g2 + 1 = g3 by rw [HG2.out, HG3.out]]
  go_wp2_with fail
  refine HBY.out.mono ?_
  rintro r w2 ⟨rfl, hr2, hk2⟩
  have hJ2 := HJ.out.call hr2 hk2 HQ.out.1 HQ.out.2.1 HQ.out.2.2.2.2.2.1
  have cf := hJ2.b3.cell (i := 0) rfl
  have ff := hJ2.b3.free 0
  have hJ3 := hJ2.set HQ.out.2.1 HQ.out.2.2.1 HQ.out.2.2.2.1 HQ.out.2.2.2.2.1 0 (.int .u8 (k : Int))
  obtain ⟨W3, hW3⟩ : ∃ W, W = w2.setCell ⟨g3, 0, none⟩ (.int .u8 (k : Int)) := ⟨_, rfl⟩
  rw [← hW3] at hJ3
  have HJ3 : Hid (JRd w TX B K0 g g2 g3 L0 e0 (eRow k 0 0 0 0 0 0 (.slice none 0 0)) W3) := Lib.hid hJ3
  have HW3 := Lib.hid hW3
  clear hr2 hk2 hJ2 hJ3 hW3 HBY HJ
  dsimp only
  repeat (first | with_reducible (refine wp_region_cut (k := 3) ?_) | with_reducible (refine wp_seq_cut (k := 3) ?_) | go_values | go_guarded | go_step | go_upon | go_back)
  rw [← HW3.out]
  unfold Cut
  clear cf ff
  repeat (first | with_reducible (refine wp_seq_cut (k := 3) ?_) | go_values | go_guarded | go_step | go_upon | go_back)
  refine wp_cut [none, none, none, none, none, none, none, none, some 8, some 9, some 10, some 11, some 12, some 13, some 14, some 15, some 16, some 17, some 18, none, none, none, none, none, none, none, none, none, none, none, none, none, none, none, none, none, none, none, none, none, none, none, none, none, none, none, none, none, none, none, none, none, none, none, none, none, none, none, none, none, none] (JR w TX B K0 g g2 g3 L1 e1 (eRow k x1 0 0 0 0 0 (.slice none 0 0))) ?cutA3 ?cutB3
  case cutB3 =>
    intro f w' A hA hJ
    replace hA : A = ⟨#[_, _, _, _, _, _, _, _, f 8, f 9, f 10, f 11, f 12, f 13, f 14, f 15, f 16, f 17, f 18, _, _, _, _, _, _, _, _, _, _, _, _, _, _, _, _, _, _, _, _, _, _, _, _, _, _, _, _, _, _, _, _, _, _, _, _, _, _, _, _, _, _], _⟩ := hA
    subst hA
    obtain ⟨wc, hww⟩ : ∃ W, W = w' := ⟨_, rfl⟩
    rw [← hww] at hJ ⊢
    clear hww
    have HJ := Lib.hid (show JRd w TX B K0 g g2 g3 L1 e1 (eRow k x1 0 0 0 0 0 (.slice none 0 0)) wc from hJ)
    clear hJ tq tq'
    have y0 := HJ.out.b3.cell (i := 0) rfl
    repeat (first | with_reducible (refine wp_block_cut (k := 0) ?_) | go_values | go_guarded | go_step | go_upon | go_back)
    refine wp_cut [none, none, none, none, none, none, none, none, none, none, none, none, none, none, none, none, none, none, none, none, none, some 21, some 22, some 23, some 24, some 25, some 26, some 27, some 28, some 29, some 30, some 31, some 32, some 33, some 34, some 35, some 36, some 37, some 38, some 39, some 40, some 41, some 42, some 43, some 44, some 45, some 46, some 47, some 48, some 49, some 50, some 51, some 52, some 53, some 54, some 55, some 56, some 57, some 58, some 59, none] (JR7 w TX B K0 g g2 g3 L7 e7 k x1 x2 x3 x4 x5 x6 x7) ?cutA5 ?cutB5
    case cutB5 =>
      intro f w' A hA hJ
      replace hA : A = ⟨#[_, _, _, _, _, _, _, _, _, _, _, _, _, _, _, _, _, _, _, _, _, f 21, f 22, f 23, f 24, f 25, f 26, f 27, f 28, f 29, f 30, f 31, f 32, f 33, f 34, f 35, f 36, f 37, f 38, f 39, f 40, f 41, f 42, f 43, f 44, f 45, f 46, f 47, f 48, f 49, f 50, f 51, f 52, f 53, f 54, f 55, f 56, f 57, f 58, f 59, _], _⟩ := hA
      subst hA
      obtain ⟨wd, hww⟩ : ∃ W, W = w' := ⟨_, rfl⟩
      rw [← hww] at hJ ⊢
      clear hww y0
      obtain ⟨v, hj, hbo, A7, n7, c7, rfl⟩ := hJ
      have hb2' := hj.b2
      have hb3' := hj.b3
      go_wp2_with (first | (refine load_blk rfl _ _ rfl g3 rfl _ _ _ hb3' undE rfl (by rw [sizeE]; rfl) ?_) | (refine store_blk rfl _ _ _ rfl g2 (eRow k x1 x2 x3 x4 x5 x6 (.slice A7 n7 c7)) rfl rfl _ _ hb2' (by rw [sizeE]; rfl) rfl rfl ?_))
      have hK2 : Keep B (fun i => i ≠ g2) wd (wd.setRow g2 (eRow k x1 x2 x3 x4 x5 x6 (.slice A7 n7 c7)).toArray) := Keep.setRow (Keep.refl wd) HQ.out.2.2.2.2.2.2.2 (fun hn => hn rfl) _
      refine ret_blk rfl g2 _ (eRow k x1 x2 x3 x4 x5 x6 (.slice A7 n7 c7)) _ rfl (hb2'.setRow _) undE rfl (by rw [sizeE]; rfl) rfl ?_
      refine ⟨⟨A7, n7, c7, rfl, hbo.keep hK2 fun j cs fz hjj e1 => ?_⟩, (hj.r.keep hK2 (fun e1 => HQ.out.1 e1.symm)).to (fun hn => HKG.out g hn rfl), ?_⟩
      · subst e1
        exact absurd (blk_ty hb2' hjj) (by decide)
      · exact (Keep.setRow (K := K0) hj.k HQ.out.2.2.2.2.2.2.2 HQ.out.2.2.2.2.2.2.1 _).less HKL.out
    rcases k12 HK12.out with rfl | rfl | rfl | rfl | rfl | rfl | rfl | rfl | rfl | rfl | rfl | rfl | rfl
    · obtain rfl : h1 = false := EH1.out
      obtain rfl : h2 = false := EH2.out
      obtain rfl : h3 = false := EH3.out
      obtain rfl : h4 = false := EH4.out
      obtain rfl : h5 = false := EH5.out
      obtain ⟨rfl, rfl, rfl⟩ := opt_f HR_2.out
      obtain ⟨rfl, rfl, rfl⟩ := opt_f HR_3.out
      obtain ⟨rfl, rfl, rfl⟩ := opt_f HR_4.out
      obtain ⟨rfl, rfl, rfl⟩ := opt_f HR_5.out
      obtain ⟨rfl, rfl, rfl⟩ := opt_f HR_6.out
      obtain ⟨rfl, rfl, rfl⟩ := opt_f HR_7.out
      go_wp2_with fail
      exact CutEnd.mk rfl ⟨_, HJ.out, BO.nil _, _, _, _, rfl⟩
    · obtain rfl : h1 = false := EH1.out
      obtain rfl : h2 = false := EH2.out
      obtain rfl : h3 = false := EH3.out
      obtain rfl : h4 = false := EH4.out
      obtain rfl : h5 = true := EH5.out
      obtain ⟨rfl, rfl, rfl⟩ := opt_f HR_2.out
      obtain ⟨rfl, rfl, rfl⟩ := opt_f HR_3.out
      obtain ⟨rfl, rfl, rfl⟩ := opt_f HR_4.out
      obtain ⟨rfl, rfl, rfl⟩ := opt_f HR_5.out
      obtain ⟨rfl, rfl, rfl⟩ := opt_f HR_6.out
      have hc := ref_text_any wc B (fun i => i ≠ g) g _ _ HJ.out.r 131072 (by decide)
      rw [opt_t HR_7.out] at hc
      have HC7 := Lib.hid hc
      clear hc
      have hx7 : x7.length ≤ 131072 := opt_text_len HR_7.out
      go_wp2_with fail
      refine HC7.out.mono ?_
      rintro r v7 ⟨rfl, hr3, hk3⟩
      have hJ7 := HJ.out.call hr3 hk3 HQ.out.1 HQ.out.2.1 HQ.out.2.2.2.2.2.1
      obtain ⟨v, W, hrun, hgW, hbo, A7, n7, c7, rfl⟩ := conv_bo v7 x7 (by unfold maxLen; omega)
      have hJ8 := hJ7.grow hgW
      have cf := hJ8.b3.cell (i := 7) rfl
      have ff := hJ8.b3.free 7
      have HBO : Hid (BO (W.setCell ⟨g3, 7, none⟩ (.slice A7 n7 c7)) (.slice A7 n7 c7) x7) := Lib.hid (hbo.keep ((Keep.refl W).setCell (B := 0) (K := fun j => j ≠ g3) (p := ⟨g3, 7, none⟩) (Nat.zero_le _) (fun hn => hn rfl) _) fun j cs fz hjj e1 => by subst e1; exact absurd (blk_ty hJ8.b3 hjj) (by decide))
      have HJ8 := Lib.hid hJ8
      clear hr3 hk3 hJ7 HC7 hgW hbo hJ8 hx7
      go_wp2_with fail
      exact CutEnd.mk rfl ⟨_, (HJ8.out.set HQ.out.2.1 HQ.out.2.2.1 HQ.out.2.2.2.1 HQ.out.2.2.2.2.1 7 (.slice A7 n7 c7)), HBO.out, _, _, _, rfl⟩
    · obtain rfl : h1 = false := EH1.out
      obtain rfl : h2 = false := EH2.out
      obtain rfl : h3 = false := EH3.out
      obtain rfl : h4 = false := EH4.out
      obtain rfl : h5 = false := EH5.out
      obtain ⟨rfl, rfl, rfl⟩ := opt_f HR_2.out
      obtain ⟨rfl, rfl, rfl⟩ := opt_f HR_3.out
      obtain ⟨rfl, rfl, rfl⟩ := opt_f HR_4.out
      obtain ⟨rfl, rfl, rfl⟩ := opt_f HR_5.out
      obtain ⟨rfl, rfl, rfl⟩ := opt_f HR_6.out
      obtain ⟨rfl, rfl, rfl⟩ := opt_f HR_7.out
      go_wp2_with fail
      exact CutEnd.mk rfl ⟨_, HJ.out, BO.nil _, _, _, _, rfl⟩
    · obtain rfl : h1 = false := EH1.out
      obtain rfl : h2 = false := EH2.out
      obtain rfl : h3 = false := EH3.out
      obtain rfl : h4 = true := EH4.out
      obtain rfl : h5 = false := EH5.out
      obtain ⟨rfl, rfl, rfl⟩ := opt_f HR_2.out
      obtain ⟨rfl, rfl, rfl⟩ := opt_f HR_3.out
      obtain ⟨rfl, rfl, rfl⟩ := opt_f HR_4.out
      obtain ⟨rfl, rfl, rfl⟩ := opt_f HR_5.out
      obtain ⟨rfl, rfl, rfl⟩ := opt_f HR_7.out
      have hc := ref_num_any wc B (fun i => i ≠ g) g _ _ HJ.out.r 18446744073709551615
      rw [opt_t HR_6.out] at hc
      have HC6 := Lib.hid hc
      clear hc
      go_wp2_with fail
      refine HC6.out.mono ?_
      rintro r v6 ⟨rfl, hr3, hk3⟩
      have hJ6 := HJ.out.call hr3 hk3 HQ.out.1 HQ.out.2.1 HQ.out.2.2.2.2.2.1
      have cf6 := hJ6.b3.cell (i := 6) rfl
      have ff6 := hJ6.b3.free 6
      have hS6 := (hJ6.set HQ.out.2.1 HQ.out.2.2.1 HQ.out.2.2.2.1 HQ.out.2.2.2.2.1 6 (.int .u64 (x6 : Int)))
      have HS6 := Lib.hid hS6
      clear hr3 hk3 hJ6 hS6 HC6
      go_wp2_with fail
      exact CutEnd.mk rfl ⟨_, HS6.out, BO.nil _, _, _, _, rfl⟩
    · obtain rfl : h1 = false := EH1.out
      obtain rfl : h2 = true := EH2.out
      obtain rfl : h3 = false := EH3.out
      obtain rfl : h4 = false := EH4.out
      obtain rfl : h5 = false := EH5.out
      obtain ⟨rfl, rfl, rfl⟩ := opt_f HR_2.out
      obtain ⟨rfl, rfl, rfl⟩ := opt_f HR_4.out
      obtain ⟨rfl, rfl, rfl⟩ := opt_f HR_5.out
      obtain ⟨rfl, rfl, rfl⟩ := opt_f HR_6.out
      obtain ⟨rfl, rfl, rfl⟩ := opt_f HR_7.out
      have hc := ref_num_any wc B (fun i => i ≠ g) g _ _ HJ.out.r 1048576
      rw [opt_t HR_3.out] at hc
      have HC3 := Lib.hid hc
      clear hc
      have hx3 : x3 ≤ 1048576 := HBD.out.2.2.1
      go_wp2_with fail
      refine HC3.out.mono ?_
      rintro r v3 ⟨rfl, hr3, hk3⟩
      have hJ3 := HJ.out.call hr3 hk3 HQ.out.1 HQ.out.2.1 HQ.out.2.2.2.2.2.1
      have cf3 := hJ3.b3.cell (i := 3) rfl
      have ff3 := hJ3.b3.free 3
      have hS3 := (hJ3.set HQ.out.2.1 HQ.out.2.2.1 HQ.out.2.2.2.1 HQ.out.2.2.2.2.1 3 (.int .i64 (x3 : Int)))
      have HS3 := Lib.hid hS3
      clear hr3 hk3 hJ3 hS3 HC3
      go_wp2_with fail
      exact CutEnd.mk rfl ⟨_, HS3.out, BO.nil _, _, _, _, rfl⟩
    · obtain rfl : h1 = false := EH1.out
      obtain rfl : h2 = true := EH2.out
      obtain rfl : h3 = false := EH3.out
      obtain rfl : h4 = false := EH4.out
      obtain rfl : h5 = false := EH5.out
      obtain ⟨rfl, rfl, rfl⟩ := opt_f HR_2.out
      obtain ⟨rfl, rfl, rfl⟩ := opt_f HR_4.out
      obtain ⟨rfl, rfl, rfl⟩ := opt_f HR_5.out
      obtain ⟨rfl, rfl, rfl⟩ := opt_f HR_6.out
      obtain ⟨rfl, rfl, rfl⟩ := opt_f HR_7.out
      have hc := ref_num_any wc B (fun i => i ≠ g) g _ _ HJ.out.r 1048576
      rw [opt_t HR_3.out] at hc
      have HC3 := Lib.hid hc
      clear hc
      have hx3 : x3 ≤ 1048576 := HBD.out.2.2.1
      go_wp2_with fail
      refine HC3.out.mono ?_
      rintro r v3 ⟨rfl, hr3, hk3⟩
      have hJ3 := HJ.out.call hr3 hk3 HQ.out.1 HQ.out.2.1 HQ.out.2.2.2.2.2.1
      have cf3 := hJ3.b3.cell (i := 3) rfl
      have ff3 := hJ3.b3.free 3
      have hS3 := (hJ3.set HQ.out.2.1 HQ.out.2.2.1 HQ.out.2.2.2.1 HQ.out.2.2.2.2.1 3 (.int .i64 (x3 : Int)))
      have HS3 := Lib.hid hS3
      clear hr3 hk3 hJ3 hS3 HC3
      go_wp2_with fail
      exact CutEnd.mk rfl ⟨_, HS3.out, BO.nil _, _, _, _, rfl⟩
    · obtain rfl : h1 = false := EH1.out
      obtain rfl : h2 = true := EH2.out
      obtain rfl : h3 = false := EH3.out
      obtain rfl : h4 = false := EH4.out
      obtain rfl : h5 = false := EH5.out
      obtain ⟨rfl, rfl, rfl⟩ := opt_f HR_2.out
      obtain ⟨rfl, rfl, rfl⟩ := opt_f HR_4.out
      obtain ⟨rfl, rfl, rfl⟩ := opt_f HR_5.out
      obtain ⟨rfl, rfl, rfl⟩ := opt_f HR_6.out
      obtain ⟨rfl, rfl, rfl⟩ := opt_f HR_7.out
      have hc := ref_num_any wc B (fun i => i ≠ g) g _ _ HJ.out.r 1048576
      rw [opt_t HR_3.out] at hc
      have HC3 := Lib.hid hc
      clear hc
      have hx3 : x3 ≤ 1048576 := HBD.out.2.2.1
      go_wp2_with fail
      refine HC3.out.mono ?_
      rintro r v3 ⟨rfl, hr3, hk3⟩
      have hJ3 := HJ.out.call hr3 hk3 HQ.out.1 HQ.out.2.1 HQ.out.2.2.2.2.2.1
      have cf3 := hJ3.b3.cell (i := 3) rfl
      have ff3 := hJ3.b3.free 3
      have hS3 := (hJ3.set HQ.out.2.1 HQ.out.2.2.1 HQ.out.2.2.2.1 HQ.out.2.2.2.2.1 3 (.int .i64 (x3 : Int)))
      have HS3 := Lib.hid hS3
      clear hr3 hk3 hJ3 hS3 HC3
      go_wp2_with fail
      exact CutEnd.mk rfl ⟨_, HS3.out, BO.nil _, _, _, _, rfl⟩
    · obtain rfl : h1 = false := EH1.out
      obtain rfl : h2 = true := EH2.out
      obtain rfl : h3 = true := EH3.out
      obtain rfl : h4 = false := EH4.out
      obtain rfl : h5 = false := EH5.out
      obtain ⟨rfl, rfl, rfl⟩ := opt_f HR_2.out
      obtain ⟨rfl, rfl, rfl⟩ := opt_f HR_6.out
      obtain ⟨rfl, rfl, rfl⟩ := opt_f HR_7.out
      have hc := ref_num_any wc B (fun i => i ≠ g) g _ _ HJ.out.r 1048576
      rw [opt_t HR_3.out] at hc
      have HC3 := Lib.hid hc
      clear hc
      have hx3 : x3 ≤ 1048576 := HBD.out.2.2.1
      go_wp2_with fail
      refine HC3.out.mono ?_
      rintro r v3 ⟨rfl, hr3, hk3⟩
      have hJ3 := HJ.out.call hr3 hk3 HQ.out.1 HQ.out.2.1 HQ.out.2.2.2.2.2.1
      have cf3 := hJ3.b3.cell (i := 3) rfl
      have ff3 := hJ3.b3.free 3
      have hS3 := (hJ3.set HQ.out.2.1 HQ.out.2.2.1 HQ.out.2.2.2.1 HQ.out.2.2.2.2.1 3 (.int .i64 (x3 : Int)))
      have HS3 := Lib.hid hS3
      clear hr3 hk3 hJ3 hS3 HC3
      have hc := ref_num_any _ B (fun i => i ≠ g) g _ _ HS3.out.r 1048576
      rw [opt_t HR_4.out] at hc
      have HC4 := Lib.hid hc
      clear hc
      have hx4 : x4 ≤ 1048576 := HBD.out.2.2.2.1
      go_wp2_with fail
      refine HC4.out.mono ?_
      rintro r v4 ⟨rfl, hr3, hk3⟩
      have hJ4 := HS3.out.call hr3 hk3 HQ.out.1 HQ.out.2.1 HQ.out.2.2.2.2.2.1
      have cf4 := hJ4.b3.cell (i := 4) rfl
      have ff4 := hJ4.b3.free 4
      have hS4 := (hJ4.set HQ.out.2.1 HQ.out.2.2.1 HQ.out.2.2.2.1 HQ.out.2.2.2.2.1 4 (.int .i64 (x4 : Int)))
      have HS4 := Lib.hid hS4
      clear hr3 hk3 hJ4 hS4 HC4
      have hc := ref_num_any _ B (fun i => i ≠ g) g _ _ HS4.out.r 4294967295
      rw [opt_t HR_5.out] at hc
      have HC5 := Lib.hid hc
      clear hc
      have hx5 : x5 ≤ 4294967295 := HBD.out.2.2.2.2
      go_wp2_with fail
      refine HC5.out.mono ?_
      rintro r v5 ⟨rfl, hr3, hk3⟩
      have hJ5 := HS4.out.call hr3 hk3 HQ.out.1 HQ.out.2.1 HQ.out.2.2.2.2.2.1
      have cf5 := hJ5.b3.cell (i := 5) rfl
      have ff5 := hJ5.b3.free 5
      have hS5 := (hJ5.set HQ.out.2.1 HQ.out.2.2.1 HQ.out.2.2.2.1 HQ.out.2.2.2.2.1 5 (.int .u32 (x5 : Int)))
      have HS5 := Lib.hid hS5
      clear hr3 hk3 hJ5 hS5 HC5
      go_wp2_with fail
      exact CutEnd.mk rfl ⟨_, HS5.out, BO.nil _, _, _, _, rfl⟩
    · obtain rfl : h1 = false := EH1.out
      obtain rfl : h2 = false := EH2.out
      obtain rfl : h3 = false := EH3.out
      obtain rfl : h4 = false := EH4.out
      obtain rfl : h5 = false := EH5.out
      obtain ⟨rfl, rfl, rfl⟩ := opt_f HR_2.out
      obtain ⟨rfl, rfl, rfl⟩ := opt_f HR_3.out
      obtain ⟨rfl, rfl, rfl⟩ := opt_f HR_4.out
      obtain ⟨rfl, rfl, rfl⟩ := opt_f HR_5.out
      obtain ⟨rfl, rfl, rfl⟩ := opt_f HR_6.out
      obtain ⟨rfl, rfl, rfl⟩ := opt_f HR_7.out
      go_wp2_with fail
      exact CutEnd.mk rfl ⟨_, HJ.out, BO.nil _, _, _, _, rfl⟩
    · obtain rfl : h1 = false := EH1.out
      obtain rfl : h2 = true := EH2.out
      obtain rfl : h3 = false := EH3.out
      obtain rfl : h4 = false := EH4.out
      obtain rfl : h5 = false := EH5.out
      obtain ⟨rfl, rfl, rfl⟩ := opt_f HR_2.out
      obtain ⟨rfl, rfl, rfl⟩ := opt_f HR_4.out
      obtain ⟨rfl, rfl, rfl⟩ := opt_f HR_5.out
      obtain ⟨rfl, rfl, rfl⟩ := opt_f HR_6.out
      obtain ⟨rfl, rfl, rfl⟩ := opt_f HR_7.out
      have hc := ref_num_any wc B (fun i => i ≠ g) g _ _ HJ.out.r 1048576
      rw [opt_t HR_3.out] at hc
      have HC3 := Lib.hid hc
      clear hc
      have hx3 : x3 ≤ 1048576 := HBD.out.2.2.1
      go_wp2_with fail
      refine HC3.out.mono ?_
      rintro r v3 ⟨rfl, hr3, hk3⟩
      have hJ3 := HJ.out.call hr3 hk3 HQ.out.1 HQ.out.2.1 HQ.out.2.2.2.2.2.1
      have cf3 := hJ3.b3.cell (i := 3) rfl
      have ff3 := hJ3.b3.free 3
      have hS3 := (hJ3.set HQ.out.2.1 HQ.out.2.2.1 HQ.out.2.2.2.1 HQ.out.2.2.2.2.1 3 (.int .i64 (x3 : Int)))
      have HS3 := Lib.hid hS3
      clear hr3 hk3 hJ3 hS3 HC3
      go_wp2_with fail
      exact CutEnd.mk rfl ⟨_, HS3.out, BO.nil _, _, _, _, rfl⟩
    · obtain rfl : h1 = false := EH1.out
      obtain rfl : h2 = false := EH2.out
      obtain rfl : h3 = false := EH3.out
      obtain rfl : h4 = false := EH4.out
      obtain rfl : h5 = false := EH5.out
      obtain ⟨rfl, rfl, rfl⟩ := opt_f HR_2.out
      obtain ⟨rfl, rfl, rfl⟩ := opt_f HR_3.out
      obtain ⟨rfl, rfl, rfl⟩ := opt_f HR_4.out
      obtain ⟨rfl, rfl, rfl⟩ := opt_f HR_5.out
      obtain ⟨rfl, rfl, rfl⟩ := opt_f HR_6.out
      obtain ⟨rfl, rfl, rfl⟩ := opt_f HR_7.out
      go_wp2_with fail
      exact CutEnd.mk rfl ⟨_, HJ.out, BO.nil _, _, _, _, rfl⟩
    · obtain rfl : h1 = true := EH1.out
      obtain rfl : h2 = false := EH2.out
      obtain rfl : h3 = false := EH3.out
      obtain rfl : h4 = false := EH4.out
      obtain rfl : h5 = false := EH5.out
      obtain ⟨rfl, rfl, rfl⟩ := opt_f HR_3.out
      obtain ⟨rfl, rfl, rfl⟩ := opt_f HR_4.out
      obtain ⟨rfl, rfl, rfl⟩ := opt_f HR_5.out
      obtain ⟨rfl, rfl, rfl⟩ := opt_f HR_6.out
      obtain ⟨rfl, rfl, rfl⟩ := opt_f HR_7.out
      have hc := ref_byte_any wc B (fun i => i ≠ g) g _ _ HJ.out.r 64
      rw [opt_t HR_2.out] at hc
      have HC2 := Lib.hid hc
      clear hc
      go_wp2_with fail
      refine HC2.out.mono ?_
      rintro r v2 ⟨rfl, hr3, hk3⟩
      have hJ2 := HJ.out.call hr3 hk3 HQ.out.1 HQ.out.2.1 HQ.out.2.2.2.2.2.1
      have cf2 := hJ2.b3.cell (i := 2) rfl
      have ff2 := hJ2.b3.free 2
      have hS2 := (hJ2.set HQ.out.2.1 HQ.out.2.2.1 HQ.out.2.2.2.1 HQ.out.2.2.2.2.1 2 (.int .u8 (x2 : Int)))
      have HS2 := Lib.hid hS2
      clear hr3 hk3 hJ2 hS2 HC2
      go_wp2_with fail
      exact CutEnd.mk rfl ⟨_, HS2.out, BO.nil _, _, _, _, rfl⟩
    · obtain rfl : h1 = false := EH1.out
      obtain rfl : h2 = false := EH2.out
      obtain rfl : h3 = false := EH3.out
      obtain rfl : h4 = false := EH4.out
      obtain rfl : h5 = false := EH5.out
      obtain ⟨rfl, rfl, rfl⟩ := opt_f HR_2.out
      obtain ⟨rfl, rfl, rfl⟩ := opt_f HR_3.out
      obtain ⟨rfl, rfl, rfl⟩ := opt_f HR_4.out
      obtain ⟨rfl, rfl, rfl⟩ := opt_f HR_5.out
      obtain ⟨rfl, rfl, rfl⟩ := opt_f HR_6.out
      obtain ⟨rfl, rfl, rfl⟩ := opt_f HR_7.out
      go_wp2_with fail
      exact CutEnd.mk rfl ⟨_, HJ.out, BO.nil _, _, _, _, rfl⟩
  have z0 := HJ3.out.b3.cell (i := 0) rfl
  cases q0
  · obtain rfl : h0 = false := HH0.out
    obtain ⟨rfl, rfl, rfl⟩ := opt_f HR_1.out
    go_wp2_with fail
    exact CutEnd.mk rfl (show JRd _ _ _ _ _ _ _ _ _ _ _ from HJ3.out)
  · cases nd
    · obtain rfl : h0 = false := HH0.out
      obtain ⟨rfl, rfl, rfl⟩ := opt_f HR_1.out
      go_wp2_with (go_at_call 35; refine (HNO.out W3).mono ?_; rintro r w' ⟨rfl, rfl⟩)
      exact CutEnd.mk rfl (show JRd _ _ _ _ _ _ _ _ _ _ _ from HJ3.out)
    · obtain rfl : h0 = true := HH0.out
      have hc := ref_byte_any W3 B (fun i => i ≠ g) g L0 e0 HJ3.out.r 64
      rw [opt_t HR_1.out] at hc
      have HC := Lib.hid hc
      clear hc
      go_wp2_with (go_at_call 35; refine (HNO.out W3).mono ?_; rintro r w' ⟨rfl, rfl⟩)
      refine HC.out.mono ?_
      rintro r w4 ⟨rfl, hr3, hk3⟩
      have hJ4 := HJ3.out.call hr3 hk3 HQ.out.1 HQ.out.2.1 HQ.out.2.2.2.2.2.1
      have cf := hJ4.b3.cell (i := 1) rfl
      have ff := hJ4.b3.free 1
      have HJ4 := Lib.hid hJ4
      clear hr3 hk3 hJ4 HC z0
      go_wp2_with fail
      exact CutEnd.mk rfl (HJ4.out.set HQ.out.2.1 HQ.out.2.2.1 HQ.out.2.2.2.1 HQ.out.2.2.2.2.1 1 (.int .u8 (x1 : Int)))
end Go.Proofs.YtmekdhlcflielaaDoor.ev
