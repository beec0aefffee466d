/- The statements of frames: FrameLong. -/
import Derived.Test.YtmkbkophpmkcbaaDoorFrmL
namespace Go.Proofs.YtmkbkophpmkcbaaDoor.frL
open Go Go.RowKit Go.Par Go.Kit Vi Go.Proofs.YtmkbkophpmkcbaaDoor.cl Go.Proofs.YtmkbkophpmkcbaaDoor.slW Go.Proofs.YtmkbkophpmkcbaaDoor.frm Go.Proofs.YtmkbkophpmkcbaaDoor.frW Go.Proofs.YtmkbkophpmkcbaaDoor.crcW

theorem vb3 (N : Nat) (h1 : 16384 ≤ N) (h2 : N < 2097152) : vb N = [Vi.u8 (N % 128 + 128), Vi.u8 (N / 128 % 128 + 128), Vi.u8 (N / 16384)] := by
  have e : N / 128 / 128 = N / 16384 := by omega
  unfold vb
  rw [vbF, if_neg (by omega), vbF, if_neg (by omega), vbF, e, if_pos (by omega)]
theorem next_big (N : Nat) (h1 : 65536 < N) (h2 : N < 2097152) (more : List UInt8) : next8 (vb N ++ more) = ([], 0, 3) := by
  unfold next8
  rw [rd_vb N more (by omega)]
  simp only
  rw [if_neg (by decide), if_pos h1]
theorem four_new (N : Nat) (h1 : 16384 ≤ N) (h2 : N < 2097152) (s : UInt8) (w : World) : Bytes (w.alloc (.cells #[.int .u8 (bits .or .u8 ((N : Int) % 256) 128), .int .u8 (bits .or .u8 ((N : Int) / 128 % 256) 128), .int .u8 ((N : Int) / 16384), .int .u8 (s.toNat : Int)] 5)) (some ⟨w.heap.size, 0, none⟩) 4 (vb N ++ [s]) := by
  have e1 := or_top N rfl
  have e2 := or_top (a := (N : Int) / 128 % 256) (N / 128) (by omega)
  have e3 : (N : Int) / 16384 = ((N / 16384 : Nat) : Int) := by omega
  refine Bytes.new w _ _ _ rfl ?_ (by rw [vb3 N h1 h2]; rfl)
  rw [vb3 N h1 h2, e1, e2, e3]
  simp only [u8s, u8v, List.cons_append, List.nil_append, List.map_cons, List.map_nil, Vi.u8_toNat (show N % 128 + 128 < 256 by omega), Vi.u8_toNat (show N / 128 % 128 + 128 < 256 by omega), Vi.u8_toNat (show N / 16384 < 256 by omega)]

set_option maxRecDepth 100000 in
set_option maxHeartbeats 1000000 in
theorem long_walk (s : UInt8) (z : Int) (w : World) (hz0 : 0 ≤ z) (hz1 : z ≤ 255) (ht : Tab w) :
    Calls Tryd.prog 12 #[.int .u8 (s.toNat : Int), .int .u8 z] w fun e w' => e = .returned (.bool true) ∧ Grow w w' := by
  obtain ⟨N, hN, hN0, hN1⟩ : ∃ N : Nat, 65436 + z = (N : Int) ∧ 65436 ≤ N ∧ N ≤ 65691 := ⟨(65436 + z).toNat, by omega, by omega, by omega⟩
  have hmk := make_row (P := Tryd.prog) (z := .int .u8 0) Tryd.underlying25 i8 i8z i8s rfl N (by rw [i8b]; omega) (by omega)
  obtain ⟨g, hg0⟩ : ∃ g, g = w.heap.size := ⟨_, rfl⟩
  have HE := Lib.hid hg0
  have H0 : Hid ((w.alloc (.cells (Array.replicate N (.int .u8 0)) 5)).ownsRow w.heap.size 5 1 (.slice (some ⟨w.heap.size, 0, none⟩) N N) N (u8s (List.replicate N 0))) := Lib.hid
    (own_lit (Blk.new w _ _ _ (by simp [u8s, u8v]) rfl) (Nat.le_refl _) (by simp [u8s]) (by unfold maxLen; omega))
  have hslt := s.toNat_lt
  clear hg0
  go_enter Tryd.func12, Tryd.ntmps12
  go_wp2_with fail
  go_loopw [21] (fun i wr => ∃ (k : Nat) (L : List UInt8), k ≤ N ∧ i = .int .i64 (k : Int) ∧ wr.ownsRow w.heap.size 5 1 (.slice (some ⟨w.heap.size, 0, none⟩) N N) N (u8s L) ∧ Grow w wr) (fun i _ => N - (intOf i).toNat)
  case atStart => exact ⟨0, _, by omega, rfl, H0.out, Grow.alloc _ _⟩
  case round =>
    obtain ⟨k, L, hk, rfl, ho, hg⟩ := hrel
    clear H0 hmk
    have hLl : L.length = N := by have := ho.1; simpa [u8s] using this
    by_cases hlt : k < N
    · have hyl : k < L.length := by omega
      have hcell : wr.cell? ⟨w.heap.size, k, none⟩ = some (.int .u8 (L[k].toNat : Int)) := by rw [ho.cellAt _ (by omega)]; simp [u8s, u8v, hyl]
      have hf := ho.frozenAt k
      have HO := Lib.hid ho
      have HG := Lib.hid hg
      generalize L[k] = y at hcell
      clear ho hg hyl hLl
      go_wp2_with fail
      go_roundw
      case rel => exact ⟨k + 1, L.set k s, by omega, by go_num, by rw [u8s, List.map_set]; exact (HO.out.stored k _).1, Grow.set_ HG.out (Nat.le_refl _) _⟩
      case measure => simp [intOf] <;> omega
    · obtain rfl : k = N := by omega
      obtain ⟨A, c, e, a1, a2, a3⟩ := own_form ho
      rw [Nat.mul_one] at a3
      injection e with e1 e2 e3
      subst e1; subst e3
      have HB : Hid (Bytes wr (some ⟨w.heap.size, 0, none⟩) k L) := Lib.hid a3
      have HG := Lib.hid hg
      have hT := ht.grow hg
      by_cases h6 : k ≤ 65536
      · have hfr := frame_any (some ⟨w.heap.size, 0, none⟩) k k L wr a3 h6 hT
        obtain ⟨F, hF⟩ : ∃ F, F = frame8 L := ⟨_, rfl⟩
        have hFl : F.length ≤ 65560 := by rw [hF, frame8_len, hLl]; have := vb_len_le k; omega
        have HFN : Hid (next8 F = (L, F.length, 0)) := Lib.hid (by rw [hF]; exact next_frame0 L (by omega))
        rw [← hF] at hfr
        have HFR := Lib.hid hfr
        have t1 : decide ((k : Int) ≤ 65536) = true := decide_eq_true (by omega)
        have t2 : decide (k ≤ 65536) = true := decide_eq_true h6
        clear hfr hF ho a3 hg hT hLl h6
        go_wp2_with fail
        refine HFR.out.mono ?_
        rintro e w1 ⟨v1, rfl, ho1, hg1⟩
        obtain ⟨A1, c1, rfl, b1, b2, b3⟩ := own_form ho1
        rw [Nat.mul_one] at b3
        have HG1 := Lib.hid (HG.out.trans hg1)
        have hnx := next_any A1 F.length c1 F w1 b3 b1 b2 (by omega) (ht.grow HG1.out)
        rw [HFN.out] at hnx
        have HN := Lib.hid hnx
        have HB1 := Lib.hid (HB.out.grow hg1)
        clear hnx ho1 b3 b2 hg1 HFR
        go_wp2_with fail
        refine HN.out.mono ?_
        rintro e w2 ⟨v2, rfl, hu2, hg2⟩
        have hs2 := hu2.sl
        obtain ⟨A2, n2, c2, rfl, -, -, -, -⟩ := hu2
        have HG2 := Lib.hid (HG1.out.trans hg2)
        have k1 := conv_str (P := Tryd.prog) Tryd.underlying25 Tryd.underlying5 Tryd.underlying9 (sl_bytes hs2) c2
        have k2 := conv_str (P := Tryd.prog) Tryd.underlying25 Tryd.underlying5 Tryd.underlying9 (HB1.out.grow hg2) k
        have HW := Lib.hid (works_any w2 (ht.grow HG2.out))
        clear hs2 hg2 HN
        go_wp2_with fail
        refine HW.out.mono ?_
        rintro e w3 ⟨rfl, hg3⟩
        go_wp2_with fail
        go_ret
        exact ⟨rfl, HG2.out.trans hg3⟩
      · have HFR := Lib.hid (frame_long (some ⟨w.heap.size, 0, none⟩) k k wr (by omega))
        have t1 : decide ((k : Int) ≤ 65536) = false := decide_eq_false (by omega)
        have t2 : decide (k ≤ 65536) = false := decide_eq_false h6
        have HT := Lib.hid hT
        have h65 : 65536 < k := by omega
        clear ho a3 hg hT hLl h6
        go_wp2_with fail
        refine HFR.out.mono ?_
        rintro e w1 ⟨rfl, rfl⟩
        go_wp2_with fail
        have hnx := next_any (some ⟨wr.heap.size, 0, none⟩) 4 4 (vb k ++ [s]) _ (four_new k (by omega) (by omega) s wr) (by decide) (by decide) (by decide) (HT.out.grow (Grow.alloc wr _))
        rw [next_big k (by omega) (by omega)] at hnx
        have HN := Lib.hid hnx
        clear hnx
        refine HN.out.mono ?_
        rintro e w2 ⟨v2, rfl, hu2, hg2⟩
        obtain ⟨A2, n2, c2, rfl, -, -, -, -⟩ := hu2
        have HG2 := Lib.hid ((HG.out.trans (Grow.alloc wr _)).trans hg2)
        have HW := Lib.hid (works_any w2 (ht.grow HG2.out))
        clear hg2 HN
        go_wp2_with fail
        refine HW.out.mono ?_
        rintro e w3 ⟨rfl, hg3⟩
        go_wp2_with fail
        go_ret
        exact ⟨rfl, HG2.out.trans hg3⟩
end Go.Proofs.YtmkbkophpmkcbaaDoor.frL
