/- The statements of the bits: the walks of the laws. -/
import Derived.Test.YtgpcijpadelcfaaBtR4
namespace Go.Proofs.Ytgpcijpadelcfaa.btL
open Go Go.RowKit Go.Par Go.Kit Go.Proofs.Ytgpcijpadelcfaa.btW

theorem mix_walk (x : BitVec 64) (w : World) : Calls Try.prog 4 #[.int .u64 (x.toNat : Int)] w fun e w' => e = .returned (.bool true) ∧ Grow w w' := by
  go_enter Try.func4, Try.ntmps4
  have h1 := Lib.hid (mix_any x)
  have h2 := Lib.hid (ref_mix_any x)
  generalize Bt.mix x = y at h1 h2
  go_wp2_with fail
  refine (h1.out _).mono ?_
  rintro e w1 ⟨rfl, rfl⟩
  go_wp2_with fail
  refine (h2.out _).mono ?_
  rintro e w1 ⟨rfl, hg⟩
  go_wp2_with (go_at_call 23; refine (works_any _).mono ?_; rintro e w' ⟨rfl, rfl⟩)
  go_ret
  exact ⟨rfl, hg⟩

theorem tell_walk (x : BitVec 64) (n : Int) (w : World) : Calls Try.prog 3 #[.int .u64 (x.toNat : Int), .int .i64 n] w fun e w' => e = .returned (.bool true) ∧ Grow w w' := by
  go_enter Try.func3, Try.ntmps3
  have h1 := Lib.hid (low_any x n)
  have h2 := Lib.hid (ref_low_any x n)
  generalize Bt.low x n = y1 at h1 h2
  have h3 := Lib.hid (rot_any x n)
  have h4 := Lib.hid (ref_rot_any x n)
  generalize Bt.rot x (Bt.kmod n) = y2 at h3 h4
  have h5 := Lib.hid (ones_any x)
  have h6 := Lib.hid (ref_ones_any x)
  generalize Bt.ones x = y3 at h5 h6
  have h7 := Lib.hid (first_any x)
  have h8 := Lib.hid (ref_first_any x)
  generalize Bt.first x = y4 at h7 h8
  go_wp2_with fail
  refine (h1.out _).mono ?_
  rintro e w1 ⟨rfl, rfl⟩
  go_wp2_with fail
  refine (h2.out _).mono ?_
  rintro e w1 ⟨rfl, hg1⟩
  go_wp2_with fail
  refine (h3.out _).mono ?_
  rintro e w2 ⟨rfl, rfl⟩
  go_wp2_with fail
  refine (h4.out _).mono ?_
  rintro e w2 ⟨rfl, hg2⟩
  go_wp2_with fail
  refine (h5.out _).mono ?_
  rintro e w3 ⟨rfl, rfl⟩
  go_wp2_with fail
  refine (h6.out _).mono ?_
  rintro e w3 ⟨rfl, hg3⟩
  go_wp2_with fail
  refine (h7.out _).mono ?_
  rintro e w4 ⟨rfl, rfl⟩
  go_wp2_with fail
  refine (h8.out _).mono ?_
  rintro e w4 ⟨rfl, hg4⟩
  go_wp2_with fail
  refine (works_any _).mono ?_
  rintro e w5 ⟨rfl, rfl⟩
  go_wp2_with fail
  go_ret
  exact ⟨rfl, hg1.trans (hg2.trans (hg3.trans hg4))⟩

theorem zig_walk (b : BitVec 64) (x : BitVec 64) (w : World) : Calls Try.prog 6 #[.int .i64 b.toInt, .int .u64 (x.toNat : Int)] w fun e w' => e = .returned (.bool true) ∧ Grow w w' := by
  have h1 := zig_any b
  have h2 := ref_zig_any b
  have h3 := zag_any (Bt.zig b)
  rw [Bt.zag_zig] at h3
  generalize Bt.zig b = y at h1 h2 h3
  have h4 := zag_any x
  have h5 := zig_any (Bt.zag x)
  rw [Bt.zig_zag] at h5
  generalize (Bt.zag x).toInt = z at h4 h5
  generalize b.toInt = t at h1 h2 h3 ⊢
  have g1 := Lib.hid h1
  have g2 := Lib.hid h2
  have g3 := Lib.hid h3
  have g4 := Lib.hid h4
  have g5 := Lib.hid h5
  clear h1 h2 h3 h4 h5
  go_enter Try.func6, Try.ntmps6
  go_wp2_with fail
  refine (g1.out _).mono ?_
  rintro e w' ⟨rfl, rfl⟩
  go_wp2_with fail
  refine (g2.out _).mono ?_
  rintro e w' ⟨rfl, rfl⟩
  go_wp2_with fail
  refine (g1.out _).mono ?_
  rintro e w' ⟨rfl, rfl⟩
  go_wp2_with fail
  refine (g3.out _).mono ?_
  rintro e w' ⟨rfl, rfl⟩
  go_wp2_with fail
  refine (g4.out _).mono ?_
  rintro e w' ⟨rfl, rfl⟩
  go_wp2_with fail
  refine (g5.out _).mono ?_
  rintro e w' ⟨rfl, rfl⟩
  go_wp2_with fail
  refine (works_any _).mono ?_
  rintro e w' ⟨rfl, rfl⟩
  go_wp2_with fail
  go_ret
  exact ⟨rfl, Grow.refl _⟩

theorem back_walk (x y : BitVec 64) (w : World) : Calls Try.prog 8 #[.int .u64 (x.toNat : Int), .int .u64 (y.toNat : Int)] w fun e w' => e = .returned (.bool true) ∧ Grow w w' := by
  have h1 := mix_any x
  have h2 := unmix_any (Bt.mix x)
  rw [Bt.unmix_mix] at h2
  have h3 := unmix_any x
  have h4 := mix_any (Bt.unmix x)
  rw [Bt.mix_unmix] at h4
  have h5 := mix_any (x ^^^ y)
  have h6 := mix_any y
  have hm := Bt.mix_xor x y
  generalize Bt.unmix x = u at h3 h4
  obtain ⟨z, hz⟩ : ∃ z, z = x ^^^ y := ⟨_, rfl⟩
  rw [← hz] at h5 hm
  have e1 : bits .xor .u64 (x.toNat : Int) (y.toNat : Int) = (z.toNat : Int) := by rw [hz]; exact xor64 rfl rfl
  generalize Bt.mix x = mx at h1 h2 hm
  generalize Bt.mix y = my at h6 hm
  generalize Bt.mix z = mz at h5 hm
  have e2 : bits .xor .u64 (mx.toNat : Int) (my.toNat : Int) = (mz.toNat : Int) := by rw [hm]; exact xor64 rfl rfl
  have g1 := Lib.hid h1
  have g2 := Lib.hid h2
  have g3 := Lib.hid h3
  have g4 := Lib.hid h4
  have g5 := Lib.hid h5
  have g6 := Lib.hid h6
  clear h1 h2 h3 h4 h5 h6 hm hz
  go_enter Try.func8, Try.ntmps8
  go_wp2_with fail
  refine (g1.out _).mono ?_
  rintro e w' ⟨rfl, rfl⟩
  go_wp2_with fail
  refine (g2.out _).mono ?_
  rintro e w' ⟨rfl, rfl⟩
  go_wp2_with fail
  refine (g3.out _).mono ?_
  rintro e w' ⟨rfl, rfl⟩
  go_wp2_with fail
  refine (g4.out _).mono ?_
  rintro e w' ⟨rfl, rfl⟩
  go_wp2_with fail
  refine (g5.out _).mono ?_
  rintro e w' ⟨rfl, rfl⟩
  go_wp2_with fail
  refine (g1.out _).mono ?_
  rintro e w' ⟨rfl, rfl⟩
  go_wp2_with fail
  refine (g6.out _).mono ?_
  rintro e w' ⟨rfl, rfl⟩
  go_wp2_with fail
  refine (works_any _).mono ?_
  rintro e w' ⟨rfl, rfl⟩
  go_wp2_with fail
  go_ret
  exact ⟨rfl, Grow.refl _⟩

theorem turns_walk (x : BitVec 64) (a b : Int) (w : World) (ha : -32768 ≤ a ∧ a ≤ 32767) (hb : -32768 ≤ b ∧ b ≤ 32767) :
    Calls Try.prog 5 #[.int .u64 (x.toNat : Int), .int .i16 a, .int .i16 b] w fun e w' => e = .returned (.bool true) ∧ Grow w w' := by
  have h1 := rot_any x a
  have h2 := rot_any (Bt.rot x (Bt.kmod a)) (-a)
  rw [Bt.rot_rot, show Bt.kmod (a + -a) = 0 from by unfold Bt.kmod; omega, Bt.rot_zero] at h2
  have h3 := rot_any (Bt.rot x (Bt.kmod a)) b
  rw [Bt.rot_rot] at h3
  have h4 := rot_any x (a + b)
  have h5 := ones_any (Bt.rot x (Bt.kmod a))
  rw [Bt.ones_rot _ _ (Bt.kmod_lt a)] at h5
  have h6 := ones_any x
  have h7 := rot_any x 64
  rw [show Bt.kmod 64 = 0 from by decide, Bt.rot_zero] at h7
  generalize Bt.rot x (Bt.kmod (a + b)) = z at h3 h4
  generalize Bt.rot x (Bt.kmod a) = y at h1 h2 h3 h5
  generalize Bt.ones x = n at h5 h6
  have g1 := Lib.hid h1
  have g2 := Lib.hid h2
  have g3 := Lib.hid h3
  have g4 := Lib.hid h4
  have g5 := Lib.hid h5
  have g6 := Lib.hid h6
  have g7 := Lib.hid h7
  clear h1 h2 h3 h4 h5 h6 h7
  obtain ⟨ha1, ha2⟩ := ha
  obtain ⟨hb1, hb2⟩ := hb
  go_enter Try.func5, Try.ntmps5
  go_wp2_with fail
  refine (g1.out _).mono ?_
  rintro e w' ⟨rfl, rfl⟩
  go_wp2_with fail
  refine (g2.out _).mono ?_
  rintro e w' ⟨rfl, rfl⟩
  go_wp2_with fail
  refine (g1.out _).mono ?_
  rintro e w' ⟨rfl, rfl⟩
  go_wp2_with fail
  refine (g3.out _).mono ?_
  rintro e w' ⟨rfl, rfl⟩
  go_wp2_with fail
  refine (g4.out _).mono ?_
  rintro e w' ⟨rfl, rfl⟩
  go_wp2_with fail
  refine (g1.out _).mono ?_
  rintro e w' ⟨rfl, rfl⟩
  go_wp2_with fail
  refine (g5.out _).mono ?_
  rintro e w' ⟨rfl, rfl⟩
  go_wp2_with fail
  refine (g6.out _).mono ?_
  rintro e w' ⟨rfl, rfl⟩
  go_wp2_with fail
  refine (g7.out _).mono ?_
  rintro e w' ⟨rfl, rfl⟩
  go_wp2_with fail
  refine (works_any _).mono ?_
  rintro e w' ⟨rfl, rfl⟩
  go_wp2_with fail
  go_ret
  exact ⟨rfl, Grow.refl _⟩

theorem halves_walk (hi lo : Nat) (x : BitVec 64) (w : World) (h1 : hi < 4294967296) (h2 : lo < 4294967296) :
    Calls Try.prog 7 #[.int .u32 (hi : Int), .int .u32 (lo : Int), .int .u64 (x.toNat : Int)] w fun e w' => e = .returned (.bool true) ∧ Grow w w' := by
  have hx := x.isLt
  obtain ⟨j, hj⟩ : ∃ j : BitVec 64, (hi : Int) * 4294967296 + lo = (j.toNat : Int) := ⟨BitVec.ofNat 64 (hi * 4294967296 + lo), by rw [BitVec.toNat_ofNat]; omega⟩
  have c1 := join_any hi lo h1 h2
  rw [hj] at c1
  have c2 := halves_any j
  rw [show (j.toNat : Int) / 4294967296 = hi by omega, show (j.toNat : Int) % 4294967296 = lo by omega] at c2
  have c3 := halves_any x
  obtain ⟨c, hc⟩ : ∃ c : Nat, (x.toNat : Int) / 4294967296 = c := ⟨x.toNat / 4294967296, by omega⟩
  obtain ⟨d, hd⟩ : ∃ d : Nat, (x.toNat : Int) % 4294967296 = d := ⟨x.toNat % 4294967296, by omega⟩
  have c4 := join_any c d (by omega) (by omega)
  rw [show (c : Int) * 4294967296 + d = x.toNat by omega] at c4
  rw [hc, hd] at c3
  have c5 := low_any x 32
  have hl : ((Bt.low x 32).toNat : Int) = d := by
    have e : Bt.low x 32 = x &&& (1#64 <<< 32 - 1#64) := rfl
    have e2 : (1#64 <<< 32 - 1#64) = 4294967295#64 := by decide
    rw [e, e2, BitVec.toNat_and, show (4294967295#64).toNat = 4294967295 from rfl, nat_mask32]
    omega
  rw [hl] at c5
  have hjh : (j.toNat : Int) / 4294967296 = (hi : Int) := by omega
  have hjl := j.isLt
  have g1 := Lib.hid c1
  have g2 := Lib.hid c2
  have g3 := Lib.hid c3
  have g4 := Lib.hid c4
  have g5 := Lib.hid c5
  have hd2 : d < 4294967296 := by omega
  clear c1 c2 c3 c4 c5 hj hc hd hl
  go_enter Try.func7, Try.ntmps7
  go_wp2_with fail
  refine (g1.out _).mono ?_
  rintro e w' ⟨rfl, rfl⟩
  go_wp2_with fail
  refine (g2.out _).mono ?_
  rintro e w' ⟨rfl, rfl⟩
  go_wp2_with fail
  refine (g3.out _).mono ?_
  rintro e w' ⟨rfl, rfl⟩
  go_wp2_with fail
  refine (g4.out _).mono ?_
  rintro e w' ⟨rfl, rfl⟩
  go_wp2_with fail
  refine (g5.out _).mono ?_
  rintro e w' ⟨rfl, rfl⟩
  go_wp2_with fail
  refine (g1.out _).mono ?_
  rintro e w' ⟨rfl, rfl⟩
  go_wp2_with fail
  refine (works_any _).mono ?_
  rintro e w' ⟨rfl, rfl⟩
  go_wp2_with fail
  go_ret
  exact ⟨rfl, Grow.refl _⟩

theorem fit_walk (n : Int) (w : World) (hn1 : -9223372036854775808 ≤ n) (hn2 : n ≤ 9223372036854775807) :
    Calls Try.prog 9 #[.int .i64 n] w fun e w' => e = .returned (.bool true) ∧ Grow w w' := by
  have h1 := fit8_any n
  have h2 := fit16_any n
  have hc : (0 ≤ n ∧ n < 256) ∨ (0 ≤ n ∧ 256 ≤ n ∧ n < 65536) ∨ n < 0 ∨ (0 ≤ n ∧ 65536 ≤ n) := by omega
  rcases hc with ⟨a, b⟩ | ⟨a, b, c⟩ | a | ⟨a, b⟩
  · rw [if_pos (by omega), decide_eq_true (by omega : n % 256 = n)] at h1
    rw [if_pos (by omega), decide_eq_true (by omega : n % 65536 = n)] at h2
    have d1 : decide (0 ≤ n) = true := decide_eq_true a
    have d2 : decide (n < 256) = true := decide_eq_true b
    have d3 : decide (n < 65536) = true := decide_eq_true (by omega)
    have g1 := Lib.hid h1
    have g2 := Lib.hid h2
    clear h1 h2
    go_enter Try.func9, Try.ntmps9
    go_wp2_with (first | (go_at_call 32; refine (g1.out _).mono ?_; rintro e w' ⟨rfl, rfl⟩) | (go_at_call 33; refine (g2.out _).mono ?_; rintro e w' ⟨rfl, rfl⟩) | (go_at_call 23; refine (works_any _).mono ?_; rintro e w' ⟨rfl, rfl⟩))
    go_ret
    exact ⟨rfl, Grow.refl _⟩
  · rw [if_neg (by omega), decide_eq_false (by omega : ¬ n % 256 = n)] at h1
    rw [if_pos (by omega), decide_eq_true (by omega : n % 65536 = n)] at h2
    have d1 : decide (0 ≤ n) = true := decide_eq_true a
    have d2 : decide (n < 256) = false := decide_eq_false (by omega)
    have d3 : decide (n < 65536) = true := decide_eq_true (by omega)
    have g1 := Lib.hid h1
    have g2 := Lib.hid h2
    clear h1 h2
    go_enter Try.func9, Try.ntmps9
    go_wp2_with (first | (go_at_call 32; refine (g1.out _).mono ?_; rintro e w' ⟨rfl, rfl⟩) | (go_at_call 33; refine (g2.out _).mono ?_; rintro e w' ⟨rfl, rfl⟩) | (go_at_call 23; refine (works_any _).mono ?_; rintro e w' ⟨rfl, rfl⟩))
    go_ret
    exact ⟨rfl, Grow.refl _⟩
  · rw [if_neg (by omega), decide_eq_false (by omega : ¬ n % 256 = n)] at h1
    rw [if_neg (by omega), decide_eq_false (by omega : ¬ n % 65536 = n)] at h2
    have d1 : decide (0 ≤ n) = false := decide_eq_false (by omega)
    have g1 := Lib.hid h1
    have g2 := Lib.hid h2
    clear h1 h2
    go_enter Try.func9, Try.ntmps9
    go_wp2_with (first | (go_at_call 32; refine (g1.out _).mono ?_; rintro e w' ⟨rfl, rfl⟩) | (go_at_call 33; refine (g2.out _).mono ?_; rintro e w' ⟨rfl, rfl⟩) | (go_at_call 23; refine (works_any _).mono ?_; rintro e w' ⟨rfl, rfl⟩))
    go_ret
    exact ⟨rfl, Grow.refl _⟩
  · rw [if_neg (by omega), decide_eq_false (by omega : ¬ n % 256 = n)] at h1
    rw [if_neg (by omega), decide_eq_false (by omega : ¬ n % 65536 = n)] at h2
    have d1 : decide (0 ≤ n) = true := decide_eq_true a
    have d2 : decide (n < 256) = false := decide_eq_false (by omega)
    have d3 : decide (n < 65536) = false := decide_eq_false (by omega)
    have g1 := Lib.hid h1
    have g2 := Lib.hid h2
    clear h1 h2
    go_enter Try.func9, Try.ntmps9
    go_wp2_with (first | (go_at_call 32; refine (g1.out _).mono ?_; rintro e w' ⟨rfl, rfl⟩) | (go_at_call 33; refine (g2.out _).mono ?_; rintro e w' ⟨rfl, rfl⟩) | (go_at_call 23; refine (works_any _).mono ?_; rintro e w' ⟨rfl, rfl⟩))
    go_ret
    exact ⟨rfl, Grow.refl _⟩
end Go.Proofs.Ytgpcijpadelcfaa.btL
