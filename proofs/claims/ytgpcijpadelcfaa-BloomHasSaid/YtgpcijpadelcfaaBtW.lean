/- The walks of bits: what each function of the package hands back. -/
import Derived.Test.YtgpcijpadelcfaaBits
import Derived.Test.YtgpcijpadelcfaaBt
import Derived.Lib.Hide
namespace Go.Proofs.Ytgpcijpadelcfaa.btW
open Go Go.RowKit Go.Par Go.Kit

theorem ret_int {k : IntKind} {a b : Int} (h : a = b) : Ending.returned (.int k a) = .returned (.int k b) := by rw [h]
theorem wrap_u64 (n : Int) : IntKind.u64.wrap n = n % 18446744073709551616 := by simp [IntKind.wrap, IntKind.bits, IntKind.signed]
theorem wshl (x : BitVec 64) (k : Nat) (c : Int) (hc : c = 2 ^ k) : IntKind.u64.wrap ((x.toNat : Int) * c) = ((x <<< k).toNat : Int) := by
  rw [wrap_u64, shl64, hc]
/-- one step up: the shifted, and the turned -/
theorem up_stage (x : BitVec 64) (k : Nat) (c : Int) (hc : c = 2 ^ k) : ∃ s y : BitVec 64, y = Bt.up k x ∧ IntKind.u64.wrap ((x.toNat : Int) * c) = (s.toNat : Int) ∧ bits .xor .u64 (x.toNat : Int) (s.toNat : Int) = (y.toNat : Int) :=
  ⟨_, _, rfl, wshl x k c hc, xor64 rfl rfl⟩
theorem dn_stage (x : BitVec 64) (k : Nat) (c : Int) (hc : c = 2 ^ k) : ∃ s y : BitVec 64, y = Bt.dn k x ∧ (x.toNat : Int) / c = (s.toNat : Int) ∧ bits .xor .u64 (x.toNat : Int) (s.toNat : Int) = (y.toNat : Int) :=
  ⟨x >>> k, _, rfl, by rw [shr64, hc], xor64 rfl rfl⟩

theorem mix_any (x : BitVec 64) (w : World) : Calls Try.prog 24 #[.int .u64 (x.toNat : Int)] w fun e w' => e = .returned (.int .u64 ((Bt.mix x).toNat : Int)) ∧ w = w' := by
  obtain ⟨s1, a, ha, e1, e2⟩ := up_stage x 13 8192 rfl
  obtain ⟨s2, b, hb, e3, e4⟩ := dn_stage a 7 128 rfl
  obtain ⟨s3, c, hc, e5, e6⟩ := up_stage b 17 131072 rfl
  have h : Bt.mix x = c := by rw [hc, hb, ha]; rfl
  rw [h]
  clear ha hb hc h
  go_enter Try.func24, Try.ntmps24
  go_wp2
  go_ret
  exact ⟨rfl, rfl⟩
theorem unmix_any (x : BitVec 64) (w : World) : Calls Try.prog 31 #[.int .u64 (x.toNat : Int)] w fun e w' => e = .returned (.int .u64 ((Bt.unmix x).toNat : Int)) ∧ w = w' := by
  obtain ⟨s1, a1, h1, e1, g1⟩ := up_stage x 17 131072 rfl
  obtain ⟨s2, a2, h2, e2, g2⟩ := up_stage a1 34 17179869184 rfl
  obtain ⟨s3, a3, h3, e3, g3⟩ := dn_stage a2 7 128 rfl
  obtain ⟨s4, a4, h4, e4, g4⟩ := dn_stage a3 14 16384 rfl
  obtain ⟨s5, a5, h5, e5, g5⟩ := dn_stage a4 28 268435456 rfl
  obtain ⟨s6, a6, h6, e6, g6⟩ := dn_stage a5 56 72057594037927936 rfl
  obtain ⟨s7, a7, h7, e7, g7⟩ := up_stage a6 13 8192 rfl
  obtain ⟨s8, a8, h8, e8, g8⟩ := up_stage a7 26 67108864 rfl
  obtain ⟨s9, a9, h9, e9, g9⟩ := up_stage a8 52 4503599627370496 rfl
  have h : Bt.unmix x = a9 := by rw [h9, h8, h7, h6, h5, h4, h3, h2, h1]; rfl
  rw [h]
  clear h1 h2 h3 h4 h5 h6 h7 h8 h9 h
  go_enter Try.func31, Try.ntmps31
  go_wp2
  go_ret
  exact ⟨rfl, rfl⟩

theorem low_any (x : BitVec 64) (n : Int) (w : World) : Calls Try.prog 15 #[.int .u64 (x.toNat : Int), .int .i64 n] w fun e w' => e = .returned (.int .u64 ((Bt.low x n).toNat : Int)) ∧ w = w' := by
  obtain ⟨r, hr⟩ : ∃ r, r = Bt.low x n := ⟨_, rfl⟩
  rw [← hr]
  by_cases h1 : n ≤ 0
  · have : r = 0#64 := by rw [hr]; unfold Bt.low; rw [if_pos h1]
    subst this
    clear hr
    go_enter Try.func15, Try.ntmps15
    go_wp2
    go_ret
    exact ⟨rfl, rfl⟩
  · by_cases h2 : 64 ≤ n
    · have : r = x := by rw [hr]; unfold Bt.low; rw [if_neg h1, if_pos h2]
      subst this
      clear hr
      go_enter Try.func15, Try.ntmps15
      go_wp2
      go_ret
      exact ⟨rfl, rfl⟩
    · obtain ⟨k, rfl⟩ : ∃ k : Nat, n = k := ⟨n.toNat, by omega⟩
      have e : r = x &&& (1#64 <<< k - 1#64) := by rw [hr]; unfold Bt.low; rw [if_neg h1, if_neg h2]; rfl
      obtain ⟨s, hs⟩ : ∃ s, s = 1#64 <<< k := ⟨_, rfl⟩
      obtain ⟨t, ht⟩ : ∃ t, t = s - 1#64 := ⟨_, rfl⟩
      have e1 : IntKind.u64.wrap (2 ^ k) = (s.toNat : Int) := by
        have := wshl 1#64 k (2 ^ k) rfl
        rw [hs, ← this]
        congr 1
        simp
      have e2 : IntKind.u64.wrap ((s.toNat : Int) - 1) = (t.toNat : Int) := by
        rw [ht, wrap_u64, BitVec.toNat_sub]
        have := s.isLt
        simp
        omega
      have e3 : bits .and .u64 (x.toNat : Int) (t.toNat : Int) = (r.toNat : Int) := by rw [e, ← hs, ← ht]; exact and64 rfl rfl
      have h3 : 0 < k := by omega
      have h4 : k < 64 := by omega
      clear hr e hs ht h1 h2
      go_enter Try.func15, Try.ntmps15
      go_wp2
      go_ret
      exact ⟨rfl, rfl⟩

theorem and_63 (n : Int) : bits .and .u64 (IntKind.u64.wrap n) 63 = (Bt.kmod n : Int) := by
  obtain ⟨y, hy⟩ : ∃ y : BitVec 64, IntKind.u64.wrap n = (y.toNat : Int) := ⟨BitVec.ofInt 64 n, by rw [wrap_u64, BitVec.toNat_ofInt]; omega⟩
  have e : bits .and .u64 (y.toNat : Int) 63 = ((y &&& 63#64).toNat : Int) := and64 rfl rfl
  rw [hy, e, BitVec.toNat_and]
  have h63 : y.toNat &&& (63#64).toNat = y.toNat % 64 := Nat.and_two_pow_sub_one_eq_mod y.toNat 6
  rw [h63]
  rw [wrap_u64] at hy
  unfold Bt.kmod
  omega
theorem rot_any (x : BitVec 64) (n : Int) (w : World) : Calls Try.prog 17 #[.int .u64 (x.toNat : Int), .int .i64 n] w fun e w' => e = .returned (.int .u64 ((Bt.rot x (Bt.kmod n)).toNat : Int)) ∧ w = w' := by
  have e0 := and_63 n
  have hk := Bt.kmod_lt n
  generalize Bt.kmod n = k at e0 hk ⊢
  obtain ⟨r, hr⟩ : ∃ r, r = Bt.rot x k := ⟨_, rfl⟩
  rw [← hr]
  obtain ⟨s, hs⟩ : ∃ s, s = x <<< k := ⟨_, rfl⟩
  obtain ⟨t, ht⟩ : ∃ t, t = x >>> (64 - k) := ⟨_, rfl⟩
  have e1 : IntKind.u64.wrap ((x.toNat : Int) * 2 ^ k) = (s.toNat : Int) := by rw [hs]; exact wshl x k _ rfl
  have e2 : (x.toNat : Int) / 2 ^ (64 - k) = (t.toNat : Int) := by rw [ht, shr64]
  have e3 : bits .or .u64 (s.toNat : Int) (t.toNat : Int) = (r.toNat : Int) := by rw [hr]; unfold Bt.rot; rw [← hs, ← ht]; exact or64 rfl rfl
  clear hr hs ht
  go_enter Try.func17, Try.ntmps17
  go_wp2
  go_ret
  exact ⟨rfl, rfl⟩
end Go.Proofs.Ytgpcijpadelcfaa.btW
