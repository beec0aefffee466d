/- The walks of the document's bits, the last: Mix, Zig; and the chapter's example. -/
import Derived.Test.YtgpcijpadelcfaaBtR3
namespace Go.Proofs.Ytgpcijpadelcfaa.btW
open Go Go.RowKit Go.Par Go.Kit

theorem own64 {w : World} {base : Nat} {v : Value} {l : List Bool} (h : OwnBools w base 4 v l) (hl : l.length = 64) : ∃ A c, v = .slice A 64 c ∧ Bools w A 64 l := by
  obtain ⟨A, c, rfl, _, _, h3⟩ := h.form
  rw [hl] at h3
  exact ⟨A, c, by rw [hl], h3⟩
theorem turnedL_len (a b : List Bool) (h1 : a.length = 64) (h2 : b.length = 64) : (turnedL a b).length = 64 := by simp [turnedL, h1, h2]

set_option maxHeartbeats 400000 in
theorem ref_mix_any (x : BitVec 64) (w : World) : Calls Try.prog 25 #[.int .u64 (x.toNat : Int)] w fun e w' => e = .returned (.int .u64 ((Bt.mix x).toNat : Int)) ∧ Grow w w' := by
  have hl0 := Bt.bitsOf_len x
  have hl1 := movedL_len (Bt.bitsOf x) (13 : Nat)
  have hu1 := moved_up x 13
  have hl2 := movedL_len (Bt.bitsOf (Bt.up 13 x)) (-(7 : Nat))
  have hu2 := moved_dn (Bt.up 13 x) 7
  have hl3 := movedL_len (Bt.bitsOf (Bt.dn 7 (Bt.up 13 x))) (17 : Nat)
  have hu3 := moved_up (Bt.dn 7 (Bt.up 13 x)) 17
  go_enter Try.func25, Try.ntmps25
  go_wp2_with fail
  refine (ref_bits_any x w).mono ?_
  rintro e w1 ⟨v1, rfl, ho1, hg1⟩
  obtain ⟨A1, c1, rfl, b1⟩ := own64 ho1 (Bt.bitsOf_len _)
  go_wp2_with fail
  refine (ref_moved_any A1 c1 (Bt.bitsOf x) 13 w1 b1 (by decide) (by decide)).mono ?_
  rintro e w2 ⟨v2, rfl, ho2, hg2⟩
  obtain ⟨A2, c2, rfl, b2⟩ := own64 ho2 (movedL_len _ _)
  go_wp2_with fail
  refine (ref_turned_any A1 c1 _ A2 c2 _ w2 (b1.grow hg2) b2).mono ?_
  rintro e w3 ⟨v3, rfl, ho3, hg3⟩
  rw [show turnedL (Bt.bitsOf x) (movedL (Bt.bitsOf x) 13) = Bt.bitsOf (Bt.up 13 x) from moved_up x 13] at ho3
  obtain ⟨A3, c3, rfl, b3⟩ := own64 ho3 (Bt.bitsOf_len _)
  go_wp2_with fail
  refine (ref_moved_any A3 c3 _ (-7) w3 b3 (by decide) (by decide)).mono ?_
  rintro e w4 ⟨v4, rfl, ho4, hg4⟩
  obtain ⟨A4, c4, rfl, b4⟩ := own64 ho4 (movedL_len _ _)
  go_wp2_with fail
  refine (ref_turned_any A3 c3 _ A4 c4 _ w4 (b3.grow hg4) b4).mono ?_
  rintro e w5 ⟨v5, rfl, ho5, hg5⟩
  rw [show turnedL (Bt.bitsOf (Bt.up 13 x)) (movedL (Bt.bitsOf (Bt.up 13 x)) (-7)) = Bt.bitsOf (Bt.dn 7 (Bt.up 13 x)) from moved_dn _ 7] at ho5
  obtain ⟨A5, c5, rfl, b5⟩ := own64 ho5 (Bt.bitsOf_len _)
  go_wp2_with fail
  refine (ref_moved_any A5 c5 _ 17 w5 b5 (by decide) (by decide)).mono ?_
  rintro e w6 ⟨v6, rfl, ho6, hg6⟩
  obtain ⟨A6, c6, rfl, b6⟩ := own64 ho6 (movedL_len _ _)
  go_wp2_with fail
  refine (ref_turned_any A5 c5 _ A6 c6 _ w6 (b5.grow hg6) b6).mono ?_
  rintro e w7 ⟨v7, rfl, ho7, hg7⟩
  rw [show turnedL (Bt.bitsOf (Bt.dn 7 (Bt.up 13 x))) (movedL (Bt.bitsOf (Bt.dn 7 (Bt.up 13 x))) 17) = Bt.bitsOf (Bt.mix x) from moved_up _ 17] at ho7
  obtain ⟨A7, c7, rfl, b7⟩ := own64 ho7 (Bt.bitsOf_len _)
  go_wp2_with fail
  refine (ref_num_any A7 64 c7 _ w7 b7 (by decide)).mono ?_
  rintro e w8 ⟨rfl, rfl⟩
  go_wp2_with fail
  go_ret
  exact ⟨ret_int (by rw [Bt.num_bits]), hg1.trans (hg2.trans (hg3.trans (hg4.trans (hg5.trans (hg6.trans hg7)))))⟩

/-- the document's zig -/
theorem zig_doc (b : BitVec 64) : (0 ≤ b.toInt → (Bt.zig b).toNat = 2 * b.toNat) ∧ (b.toInt < 0 → ((Bt.zig b).toNat : Int) = 2 * (-1 - b.toInt) + 1) := by
  have hlt := b.isLt
  have hm : b.msb = decide (b.toInt < 0) := by rw [BitVec.msb_eq_toInt]
  constructor
  · intro h
    have hm0 : b.msb = false := by rw [hm]; simp; omega
    have hs : b.sshiftRight 63 = 0#64 := Bt.ext64 fun i hi => by rw [Bt.sign_at b i hi, hm0]; simp
    unfold Bt.zig
    rw [hs, BitVec.xor_zero, BitVec.toNat_shiftLeft, Nat.shiftLeft_eq]
    rw [BitVec.msb_eq_decide] at hm0
    simp at hm0
    omega
  · intro h
    have hm0 : b.msb = true := by rw [hm]; simpa using h
    have hs : b.sshiftRight 63 = BitVec.allOnes 64 := Bt.ext64 fun i hi => by rw [Bt.sign_at b i hi, hm0, BitVec.getLsbD_allOnes, decide_eq_true hi]
    unfold Bt.zig
    rw [hs, BitVec.xor_allOnes, BitVec.toNat_not, BitVec.toNat_shiftLeft, Nat.shiftLeft_eq]
    rw [BitVec.msb_eq_decide] at hm0
    simp at hm0
    rw [BitVec.toInt_eq_toNat_cond]
    split <;> omega
theorem ref_zig_any (b : BitVec 64) (w : World) : Calls Try.prog 27 #[.int .i64 b.toInt] w fun e w' => e = .returned (.int .u64 ((Bt.zig b).toNat : Int)) ∧ w = w' := by
  obtain ⟨h1, h2⟩ := zig_doc b
  have hlt := b.isLt
  have hz := (Bt.zig b).isLt
  have hb1 := BitVec.le_toInt b
  have hb2 := BitVec.toInt_lt (x := b)
  have hc : b.toInt = if 2 * b.toNat < 2 ^ 64 then (b.toNat : Int) else (b.toNat : Int) - 2 ^ 64 := BitVec.toInt_eq_toNat_cond b
  generalize (Bt.zig b).toNat = r at h1 h2 hz ⊢
  generalize b.toInt = z at h1 h2 hb1 hb2 hc ⊢
  by_cases h0 : 0 ≤ z
  · have e0 := h1 h0
    have e1 : z = (b.toNat : Int) := by split at hc <;> omega
    have d0 : decide (0 ≤ z) = true := decide_eq_true h0
    have HE : Hid ((r : Int) = 2 * z) := by show (r : Int) = 2 * z; omega
    have hz2 : 2 * z ≤ 18446744073709551615 := by omega
    have ew := Lib.hid (show IntKind.u64.wrap (2 * z) = (r : Int) by rw [HE.out, wrap_u64]; omega)
    have ez : IntKind.u64.wrap z = z := by rw [wrap_u64]; omega
    clear h1 h2 hc e0 e1 hlt
    go_enter Try.func27, Try.ntmps27
    go_wp2
    go_ret
    exact ⟨ret_int (by first | exact ew.out | (have := HE.out; omega)), rfl⟩
  · have e0 := h2 (by omega)
    have d0 : decide (0 ≤ z) = false := decide_eq_false h0
    have HE : Hid ((r : Int) = 2 * (-1 - z) + 1) := e0
    clear h1 h2 hc hlt e0
    go_enter Try.func27, Try.ntmps27
    go_wp2
    go_ret
    refine ⟨ret_int ?_, rfl⟩
    have := HE.out
    omega

theorem w1 (w : World) : Calls Try.prog 17 #[.int .u64 1, .int .i64 (-1)] w fun e w' => e = .returned (.int .u64 9223372036854775808) ∧ w = w' := by
  have h := rot_any 1#64 (-1) w
  rw [show ((Bt.rot 1#64 (Bt.kmod (-1))).toNat : Int) = 9223372036854775808 by decide +kernel] at h
  exact h
theorem w2 (w : World) : Calls Try.prog 26 #[.int .i64 (-2)] w fun e w' => e = .returned (.int .u64 3) ∧ w = w' := by
  have h := zig_any (-2#64) w
  rw [show ((Bt.zig (-2#64)).toNat : Int) = 3 by decide +kernel, show (-2#64).toInt = -2 by decide +kernel] at h
  exact h
theorem w3 (w : World) : Calls Try.prog 24 #[.int .u64 9223372036854775808] w fun e w' => e = .returned (.int .u64 9295429630892703744) ∧ w = w' := by
  have h := mix_any 9223372036854775808#64 w
  rw [show ((Bt.mix 9223372036854775808#64).toNat : Int) = 9295429630892703744 by decide +kernel] at h
  exact h
theorem w4 (w : World) : Calls Try.prog 15 #[.int .u64 7, .int .i64 2] w fun e w' => e = .returned (.int .u64 3) ∧ w = w' := by
  have h := low_any 7#64 2 w
  rw [show ((Bt.low 7#64 2).toNat : Int) = 3 by decide +kernel] at h
  exact h
theorem w5 (w : World) : Calls Try.prog 21 #[.int .u64 8] w fun e w' => e = .returned (.int .i64 3) ∧ w = w' := by
  have h := first_any 8#64 w
  rw [show ((Bt.first 8#64 : Nat) : Int) = 3 by decide +kernel] at h
  exact h
theorem w6 (w : World) : Calls Try.prog 19 #[.int .u64 7] w fun e w' => e = .returned (.int .i64 3) ∧ w = w' := by
  have h := ones_any 7#64 w
  rw [show ((Bt.ones 7#64 : Nat) : Int) = 3 by decide +kernel] at h
  exact h
theorem works_any (w : World) : Calls Try.prog 23 #[] w fun e w' => e = .returned (.bool true) ∧ w = w' := by
  go_enter Try.func23, Try.ntmps23
  go_wp2_with (first | (go_at_call 17; refine (w1 _).mono ?_; rintro e w' ⟨rfl, rfl⟩) | (go_at_call 26; refine (w2 _).mono ?_; rintro e w' ⟨rfl, rfl⟩) | (go_at_call 24; refine (w3 _).mono ?_; rintro e w' ⟨rfl, rfl⟩) | (go_at_call 15; refine (w4 _).mono ?_; rintro e w' ⟨rfl, rfl⟩) | (go_at_call 21; refine (w5 _).mono ?_; rintro e w' ⟨rfl, rfl⟩) | (go_at_call 19; refine (w6 _).mono ?_; rintro e w' ⟨rfl, rfl⟩))
  go_ret
  exact ⟨rfl, rfl⟩
end Go.Proofs.Ytgpcijpadelcfaa.btW
