/- The walk of TcodeLong. -/
import Derived.Test.YtacgfpjoaikfbaaTcL
namespace Go.Proofs.Ytacgfpjoaikfbaa.tc
open Go Go.RowKit Go.Par Go.Kit Vi Go.Proofs.Ytacgfpjoaikfbaa.bfW
open Go.Proofs.Ytacgfpjoaikfbaa.viW

def zs (k : Nat) : List UInt8 := List.replicate k 0
def lf (k : Nat) : Fil := ⟨zs k, [], []⟩
theorem vb3 (k : Nat) (h1 : 130972 ≤ k) (h2 : k ≤ 131227) : (vb k).length = 3 := by
  show (vbF 9 k).length = 3
  rw [vbF, if_neg (by omega), vbF, if_neg (by omega), vbF, if_pos (by omega)]
  rfl
theorem lf_len (k : Nat) (h1 : 130972 ≤ k) (h2 : k ≤ 131227) : (treb [lf k]).length = k + 6 := by
  have h3 := vb3 k h1 h2
  have e : treb [lf k] = vb 1 ++ ((vb k ++ zs k) ++ (vb 0 ++ vb 0)) := by simp [treb, filf, filb, tx, txs, txf, lf, zs]
  rw [e]
  have h4 : (vb 1).length = 1 := rfl
  have h5 : (vb 0).length = 1 := rfl
  have h6 : (zs k).length = k := List.length_replicate
  simp only [List.length_append, h3, h4, h5, h6]
  omega
theorem lf_ok (k : Nat) (h : k ≤ 131072) : (lf k).ok := ⟨by show (zs k).length ≤ 131072; unfold zs; rw [List.length_replicate]; exact h, (fun t h => by cases h), (fun t h => by cases h), (by show 0 < 18446744073709551616; omega), (by show 0 < 18446744073709551616; omega)⟩
theorem zs_bytes (w : World) (k : Nat) : Bytes (w.alloc (.cells (Array.replicate k (.int .u8 0)) 5)) (some ⟨w.heap.size, 0, none⟩) k (zs k) := by
  have := Row.new w (u8s (zs k)) 5 (0, 0)
  have e : (u8s (zs k)).toArray = Array.replicate k (.int .u8 0) := by simp [u8s, zs, u8v]
  rw [e] at this
  have hl : (u8s (zs k)).length = k := by simp [u8s, zs]
  rw [hl] at this
  exact this
set_option maxRecDepth 100000 in
set_option maxHeartbeats 1000000 in
theorem long_walk (w : World) (m : Nat) (hm : m ≤ 255) : Calls Try.prog 5 #[.int .u8 (m : Int)] w fun r w' => r = .returned (.bool true) ∧ Grow w w' := by
  obtain ⟨k, hk⟩ : ∃ k : Nat, k = 130972 + m := ⟨_, rfl⟩
  have hki : (130972 : Int) + (m : Int) = (k : Int) := by omega
  have hmk := make_row (P := Try.prog) Try.underlying24 i8 i8z i8s rfl k (by rw [i8b]; omega) (by omega) w
  rw [← hki] at hmk
  obtain ⟨W1, hW1⟩ : ∃ W, W = w.alloc (.cells (Array.replicate k (.int .u8 0)) 5) := ⟨_, rfl⟩
  have hs1 : W1.heap.size = w.heap.size + 1 := by rw [hW1]; simp
  have hby : Bytes W1 (some ⟨w.heap.size, 0, none⟩) k (zs k) := by rw [hW1]; exact zs_bytes w k
  have hcs := conv_str (P := Try.prog) Try.underlying24 Try.underlying5 Try.underlying9 hby k
  have hg1 : Grow w W1 := by rw [hW1]; exact Grow.alloc _ _
  rw [← hW1] at hmk
  have HM := Lib.hid hm
  have HK := Lib.hid hk
  have HBY := Lib.hid hby
  have HG1 := Lib.hid hg1
  have HS1 := Lib.hid hs1
  clear hby hg1 hW1 hs1 hk hki
  go_enter Try.func5, Try.ntmps5
  go_wp2_with fail
  obtain ⟨W2, hW2⟩ : ∃ W, W = W1.alloc (.cells #[.string (str (zs k)), .slice none 0 0, .slice none 0 0] TF) := ⟨_, rfl⟩
  have hg2 : Grow W1 W2 := by rw [hW2]; exact Grow.alloc _ _
  have hfs : Fils W2 (some ⟨W1.heap.size, 0, none⟩) 1 [lf k] := by
    rw [hW2]
    exact fils_one W1 (.slice none 0 0) (.slice none 0 0) (lf k) (SlS.nil _) (SlS.nil _) _ rfl
  rw [← hW2]
  have hlen : (treb [lf k]).length = k + 6 := lf_len k (by have := HK.out; omega) (by have := HK.out; have := HM.out; omega)
  have hkb : k ≤ 131227 := by have := HK.out; have := HM.out; omega
  have hen := encode_any W2 (some ⟨W1.heap.size, 0, none⟩) 1 1 [lf k] hfs (by omega) (by omega)
  obtain ⟨fs, hfs2⟩ : ∃ fs, fs = [lf k] := ⟨_, rfl⟩
  rw [← hfs2] at hen hfs hlen
  have hl1 : fs.length = 1 := by rw [hfs2]; rfl
  have hok : k ≤ 131072 → ∀ f ∈ fs, f.ok := fun h f hf => by rw [hfs2] at hf; rw [List.mem_singleton.1 hf]; exact lf_ok k h
  have HFS := Lib.hid hfs
  have HBA := Lib.hid (fun (w' : World) (hg : Grow W2 w') => bytes_any w' (some ⟨W1.heap.size, 0, none⟩) 1 1 fs (hfs.grow hg) (by omega))
  have HLEN := Lib.hid hlen
  have HEN := Lib.hid hen
  have HOK := Lib.hid hok
  have HL1 := Lib.hid hl1
  have HG2 := Lib.hid (HG1.out.trans hg2)
  obtain ⟨Z, hZ⟩ : ∃ Z, Z = treb fs := ⟨_, rfl⟩
  have HZ := Lib.hid hZ
  rw [← hZ] at HBA HLEN
  by_cases hbig : 131072 < k + 6
  · have he : encT fs = ([], 3) := by unfold encT; rw [← hZ, HLEN.out, if_pos hbig]
    rw [he] at HEN
    have t1 : decide (131072 < k + 6) = true := decide_eq_true hbig
    have t1' : decide ((131072 : Int) < (k : Int) + 6) = true := decide_eq_true (by omega)
    have hdt : decT Z = ([], 3) := by unfold decT; rw [HLEN.out, if_pos hbig]
    have HDT := Lib.hid hdt
    clear hW2 hg2 hfs hlen hen hfs2 hl1 hok hZ he hdt hmk hcs hbig
    refine HEN.out.mono ?_
    rintro r w3 ⟨⟨v3, rfl, A3, c3, rfl, -⟩, hg3⟩
    have HG3 := Lib.hid hg3
    clear hg3
    dsimp only
    go_wp2_with fail
    refine (HBA.out w3 HG3.out).mono ?_
    rintro r w4 ⟨v4, rfl, ho4, hg4⟩
    obtain ⟨A4, c4, rfl, -⟩ := own_form ho4
    have HG4 := Lib.hid (HG3.out.trans hg4)
    rw [HLEN.out]
    clear ho4 hg4
    go_wp2_with fail
    refine (HBA.out w4 HG4.out).mono ?_
    rintro r w5 ⟨v5, rfl, ho5, hg5⟩
    obtain ⟨A5, c5, rfl, e1, e2, e3⟩ := own_form ho5
    rw [Nat.mul_one] at e3
    rw [HLEN.out] at e1 e3 ⊢
    have hde := decode_any w5 A5 (k + 6) c5 Z e3 e1 e2
    rw [HDT.out] at hde
    have HDE := Lib.hid hde
    have HG5 := Lib.hid (HG4.out.trans hg5)
    clear ho5 hg5 e1 e2 e3 hde
    go_wp2_with fail
    refine HDE.out.mono ?_
    rintro r w6 ⟨⟨v6, rfl, A6, c6, rfl, -⟩, hg6⟩
    have HG6 := Lib.hid (HG5.out.trans hg6)
    clear hg6
    dsimp only
    go_wp2_with fail
    refine (works_any w6).mono ?_
    rintro r w7 ⟨rfl, hg7⟩
    have HG7 := Lib.hid (HG6.out.trans hg7)
    clear hg7
    go_wp2_with fail
    go_ret
    exact ⟨rfl, HG2.out.trans HG7.out⟩
  · have he : encT fs = (Z, 0) := by unfold encT; rw [← hZ, HLEN.out, if_neg hbig]
    rw [he] at HEN
    have t1 : decide (131072 < k + 6) = false := decide_eq_false hbig
    have t1' : decide ((131072 : Int) < (k : Int) + 6) = false := decide_eq_false (by omega)
    have hdt : decT Z = (fs, 0) := by rw [hZ]; exact dec_enc (hok (by omega)) (by rw [← hZ, HLEN.out]; omega)
    have HDT := Lib.hid hdt
    clear hW2 hg2 hfs hlen hen hfs2 hl1 hok hZ he hdt hmk hcs hbig
    refine HEN.out.mono ?_
    rintro r w3 ⟨⟨v3, rfl, A3, c3, rfl, e1, e2, e3⟩, hg3⟩
    rw [HLEN.out] at e1 e3
    have HE3 := Lib.hid (And.intro e1 (And.intro e2 e3))
    have HG3 := Lib.hid hg3
    dsimp only
    rw [HLEN.out]
    clear hg3 e1 e2 e3
    go_wp2_with fail
    refine (HBA.out w3 HG3.out).mono ?_
    rintro r w4 ⟨v4, rfl, ho4, hg4⟩
    obtain ⟨A4, c4, rfl, -⟩ := own_form ho4
    have HG4 := Lib.hid (HG3.out.trans hg4)
    have hde := decode_any w4 A3 (k + 6) c3 Z (Row.grow HE3.out.2.2 hg4) HE3.out.1 HE3.out.2.1
    rw [HDT.out] at hde
    have HDE := Lib.hid hde
    rw [HLEN.out]
    clear ho4 hg4 hde
    go_wp2_with fail
    refine HDE.out.mono ?_
    rintro r w6 ⟨⟨v6, rfl, A6, c6, rfl, d1, d2, d3⟩, hg6⟩
    rw [HL1.out] at d1 d3
    have HG6 := Lib.hid (HG4.out.trans hg6)
    have HSM := Lib.hid (same_any w6 _ A6 1 1 c6 fs (HFS.out.grow HG6.out) d3 (by decide))
    dsimp only
    rw [HL1.out]
    clear hg6 d1 d2 d3
    go_wp2_with fail
    refine HSM.out.mono ?_
    rintro r w7 ⟨rfl, hg7⟩
    have HG7 := Lib.hid (HG6.out.trans hg7)
    clear hg7
    go_wp2_with fail
    refine (works_any w7).mono ?_
    rintro r w8 ⟨rfl, hg8⟩
    have HG8 := Lib.hid (HG7.out.trans hg8)
    clear hg8
    go_wp2_with fail
    go_ret
    exact ⟨rfl, HG2.out.trans HG8.out⟩
end Go.Proofs.Ytacgfpjoaikfbaa.tc
