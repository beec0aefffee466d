/- The walks of the numbers in bytes: varint.Bytes, Size, and the document's Bytes. -/
import Derived.Test.YthclgmpjmhacdaaStr
import Derived.Lib.Hide
import Derived.Test.YthclgmpjmhacdaaVi
namespace Go.Proofs.Ythclgmpjmhacdaa.viW
open Go Go.RowKit Go.Par Go.Kit Vi

theorem info8 : (Try.prog.info? 5).isSome = true := by kernel_rfl
theorem i8 : Try.prog.info? 5 = some ((Try.prog.info? 5).get info8) := by simp
theorem i8s : ((Try.prog.info? 5).get info8).size = 1 := by kernel_rfl
theorem i8z : ((Try.prog.info? 5).get info8).zero = some (.int .u8 0) := by kernel_rfl
theorem i8b : ((Try.prog.info? 5).get info8).bytes = 1 := by kernel_rfl

theorem vbF_step {k m : Nat} (h : 128 ≤ m) (hm : m < 128 ^ (k + 1)) : ∃ j, k = j + 1 ∧ vbF k m = u8 (m % 128 + 128) :: vbF j (m / 128) ∧ m / 128 < 128 ^ (j + 1) := by
  cases k with
  | zero => simp at hm; omega
  | succ j =>
    refine ⟨j, rfl, by rw [vbF, if_neg (by omega)], ?_⟩
    rw [Nat.pow_succ] at hm
    omega
theorem vbF_low {k m : Nat} (h : m < 128) : vbF k m = [u8 m] := by
  cases k with
  | zero => rfl
  | succ j => rw [vbF, if_pos h]
theorem u8s_snoc (l : List UInt8) (x : UInt8) {z : Int} (h : z = x.toNat) : u8s l ++ [.int .u8 z] = u8s (l ++ [x]) := by subst h; simp [u8s, u8v]

set_option maxRecDepth 100000 in
set_option maxHeartbeats 400000 in
theorem ref_bytes_own (n : Nat) (hn : n < 18446744073709551616) (w : World) :
    Calls Try.prog 51 #[.int .u64 (n : Int)] w fun e w' => ∃ v, e = .returned v ∧ w'.ownsRow w.heap.size 5 1 v (vb n).length (u8s (vb n)) ∧ Grow w w' := by
  obtain ⟨B, hB⟩ : ∃ B, B = vb n := ⟨_, rfl⟩
  rw [← hB]
  have H0 : [] ++ vbF 9 n = B := by rw [hB]; rfl
  have H0 := Lib.hid H0
  have hb : n < 128 ^ (9 + 1) := by omega
  clear hB
  go_enter Try.func51, Try.ntmps51
  go_wp2_with fail
  go_loopw [0, 3] (fun a v wr => ∃ (m k : Nat) (pre : List UInt8), a = .int .u64 (m : Int) ∧ wr.ownsRow w.heap.size 5 1 v pre.length (u8s pre) ∧ Hid (pre ++ vbF k m = B) ∧ pre.length + k = 9 ∧ Hid (m < 128 ^ (k + 1)) ∧ m < 18446744073709551616 ∧ Grow w wr) (fun a _ _ => (intOf a).toNat)
  case atStart => exact ⟨n, 9, [], rfl, World.ownsRow_nil _ _ _ _, H0, rfl, Lib.hid hb, hn, Grow.refl _⟩
  case round =>
    obtain ⟨m, k, pre, rfl, hown, h1, hk, h2, h3, hg⟩ := hrel
    have hsz := hg.size
    have HG := Lib.hid hg
    by_cases hlt : 128 ≤ m
    · obtain ⟨j, rfl, hv, hj⟩ := vbF_step hlt h2.out
      have h1' := h1.out
      rw [hv, List.append_cons] at h1'
      have HS := Lib.hid h1'
      have HJ := Lib.hid hj
      have hx := u8_toNat (n := m % 128 + 128) (by omega)
      generalize Vi.u8 (m % 128 + 128) = x at hx HS
      have HX := Lib.hid hx
      clear hv h1 h1' h2 hj hb hg H0 hx
      go_wp2_with (at_builtin; refine append_fresh 1 Try.underlying22 i8 i8z i8s i8b rfl rfl _ _ rfl w.heap.size _ _ _ hown rfl rfl rfl ?_ ?_ ?_ ?_; (unfold maxLen; omega); omega; exact hsz; intro v1 w1 hown1 hgb1 hh1)
      go_roundw
      case rel =>
        refine ⟨m / 128, j, pre ++ [x], by go_num, ?_, HS, by simp; omega, HJ, by omega, grow_by (HG.out.trans (Grow.alloc wr _)) hgb1 (own_base hown)⟩
        have hx := HX.out
        rw [u8s_snoc pre x (by omega)] at hown1
        simpa using hown1
      case measure => simp [intOf] <;> omega
    · have h1' := h1.out
      rw [vbF_low (by omega)] at h1'
      have HS := Lib.hid h1'
      have hx := u8_toNat (n := m) (by omega)
      generalize Vi.u8 m = x at hx HS h1'
      have HX := Lib.hid hx
      clear h1 h2 hb hg H0 hx h1'
      go_wp2_with (at_builtin; refine append_fresh 1 Try.underlying22 i8 i8z i8s i8b rfl rfl _ _ rfl w.heap.size _ _ _ hown rfl rfl rfl ?_ ?_ ?_ ?_; (unfold maxLen; omega); omega; exact hsz; intro v1 w1 hown1 hgb1 hh1)
      have hx := HX.out
      rw [u8s_snoc pre x (by omega), HS.out] at hown1
      have hl : pre.length + 1 = B.length := by rw [← HS.out]; simp
      rw [hl] at hown1
      obtain ⟨A, c, rfl, -, -, -⟩ := own_form hown1
      go_wp2_with fail
      go_ret
      exact ⟨_, rfl, hown1, grow_by (HG.out.trans (Grow.alloc wr _)) hgb1 (own_base hown)⟩

theorem ref_bytes_any (n : Nat) (hn : n < 18446744073709551616) (w : World) :
    Calls Try.prog 51 #[.int .u64 (n : Int)] w fun e w' => ∃ A c, e = .returned (.slice A (vb n).length c) ∧ (vb n).length ≤ c ∧ c ≤ maxLen ∧ Bytes w' A (vb n).length (vb n) ∧ Grow w w' :=
  (ref_bytes_own n hn w).mono fun e w' ⟨v, he, ho, hg⟩ => by
    obtain ⟨A, c, rfl, a1, a2, a3⟩ := own_form ho
    rw [Nat.mul_one] at a3
    exact ⟨A, c, he, a1, a2, a3, hg⟩

set_option maxRecDepth 100000 in
set_option maxHeartbeats 400000 in
theorem bytes_own (n : Nat) (hn : n < 18446744073709551616) (w : World) :
    Calls Try.prog 61 #[.int .u64 (n : Int)] w fun e w' => ∃ v, e = .returned v ∧ w'.ownsRow w.heap.size 5 1 v (vb n).length (u8s (vb n)) ∧ Grow w w' := by
  obtain ⟨B, hB⟩ : ∃ B, B = vb n := ⟨_, rfl⟩
  rw [← hB]
  have H0 : [] ++ vbF 9 n = B := by rw [hB]; rfl
  have H0 := Lib.hid H0
  have hb : n < 128 ^ (9 + 1) := by omega
  have hmk := make_cap (P := Try.prog) (z := .int .u8 0) Try.underlying22 i8 i8z i8s rfl 10 (by rw [i8b]; omega) (by omega)
  simp only [show ((10 : Nat) : Int) = 10 from rfl] at hmk
  clear hB
  go_enter Try.func61, Try.ntmps61
  go_wp2_with fail
  clear hmk
  generalize hw0 : w.alloc (.cells (Array.replicate 10 (Value.int .u8 0)) 5) = w0
  have hg0 : Grow w w0 := by rw [← hw0]; exact Grow.alloc _ _
  have hown0 : w0.ownsRow w.heap.size 5 1 (.slice (some ⟨w.heap.size, 0, none⟩) 0 10) 0 [] := by rw [← hw0]; exact own_made rfl (Nat.le_refl _) _ _ 10 (by decide)
  clear hw0
  go_loopw [0, 3] (fun a v wr => ∃ (m k : Nat) (pre : List UInt8), a = .int .u64 (m : Int) ∧ wr.ownsRow w.heap.size 5 1 v pre.length (u8s pre) ∧ Hid (pre ++ vbF k m = B) ∧ pre.length + k = 9 ∧ Hid (m < 128 ^ (k + 1)) ∧ m < 18446744073709551616 ∧ Grow w wr) (fun a _ _ => (intOf a).toNat)
  case atStart => exact ⟨n, 9, [], rfl, hown0, H0, rfl, Lib.hid hb, hn, hg0⟩
  case round =>
    clear hown0 hg0
    obtain ⟨m, k, pre, rfl, hown, h1, hk, h2, h3, hg⟩ := hrel
    have hsz := hg.size
    have HG := Lib.hid hg
    by_cases hlt : 128 ≤ m
    · obtain ⟨j, rfl, hv, hj⟩ := vbF_step hlt h2.out
      have h1' := h1.out
      rw [hv, List.append_cons] at h1'
      have HS := Lib.hid h1'
      have HJ := Lib.hid hj
      have hx := u8_toNat (n := m % 128 + 128) (by omega)
      have hor := or_top m rfl
      rw [← hx] at hor
      generalize Vi.u8 (m % 128 + 128) = x at hx HS hor
      have HX := Lib.hid hx
      clear hv h1 h1' h2 hj hb hg H0 hx
      go_wp2_with (at_builtin; refine append_fresh 1 Try.underlying22 i8 i8z i8s i8b rfl rfl _ _ rfl w.heap.size _ _ _ hown rfl rfl rfl ?_ ?_ ?_ ?_; (unfold maxLen; omega); omega; exact hsz; intro v1 w1 hown1 hgb1 hh1)
      go_roundw
      case rel =>
        refine ⟨m / 128, j, pre ++ [x], by go_num, ?_, HS, by simp; omega, HJ, by omega, grow_by (HG.out.trans (Grow.alloc wr _)) hgb1 (own_base hown)⟩
        have hx := HX.out
        rw [u8s_snoc pre x rfl] at hown1
        simpa using hown1
      case measure => simp [intOf] <;> omega
    · have h1' := h1.out
      rw [vbF_low (by omega)] at h1'
      have HS := Lib.hid h1'
      have hx := u8_toNat (n := m) (by omega)
      generalize Vi.u8 m = x at hx HS h1'
      have HX := Lib.hid hx
      clear h1 h2 hb hg H0 hx h1'
      go_wp2_with (at_builtin; refine append_fresh 1 Try.underlying22 i8 i8z i8s i8b rfl rfl _ _ rfl w.heap.size _ _ _ hown rfl rfl rfl ?_ ?_ ?_ ?_; (unfold maxLen; omega); omega; exact hsz; intro v1 w1 hown1 hgb1 hh1)
      have hx := HX.out
      rw [u8s_snoc pre x (by omega), HS.out] at hown1
      have hl : pre.length + 1 = B.length := by rw [← HS.out]; simp
      rw [hl] at hown1
      obtain ⟨A, c, rfl, -, -, -⟩ := own_form hown1
      go_wp2_with fail
      go_ret
      exact ⟨_, rfl, hown1, grow_by (HG.out.trans (Grow.alloc wr _)) hgb1 (own_base hown)⟩
theorem bytes_any (n : Nat) (hn : n < 18446744073709551616) (w : World) :
    Calls Try.prog 61 #[.int .u64 (n : Int)] w fun e w' => ∃ A c, e = .returned (.slice A (vb n).length c) ∧ (vb n).length ≤ c ∧ c ≤ maxLen ∧ Bytes w' A (vb n).length (vb n) ∧ Grow w w' :=
  (bytes_own n hn w).mono fun e w' ⟨v, he, ho, hg⟩ => by
    obtain ⟨A, c, rfl, a1, a2, a3⟩ := own_form ho
    rw [Nat.mul_one] at a3
    exact ⟨A, c, he, a1, a2, a3, hg⟩

end Go.Proofs.Ythclgmpjmhacdaa.viW
