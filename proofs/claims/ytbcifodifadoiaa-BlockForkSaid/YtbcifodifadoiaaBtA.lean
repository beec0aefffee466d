/- The walks of bits: Low, Ones, First alone. -/
import Derived.Test.YtbcifodifadoiaaBits
import Derived.Test.YtbcifodifadoiaaBt
import Derived.Lib.Hide
namespace Go.Proofs.Ytbcifodifadoiaa.btW
open Go Go.RowKit Go.Par Go.Kit

theorem ret_int {k : IntKind} {a b : Int} (h : a = b) : Ending.returned (.int k a) = .returned (.int k b) := by rw [h]
theorem wrap_u64 (n : Int) : IntKind.u64.wrap n = n % 18446744073709551616 := by simp [IntKind.wrap, IntKind.bits, IntKind.signed]
theorem wshl (x : BitVec 64) (k : Nat) (c : Int) (hc : c = 2 ^ k) : IntKind.u64.wrap ((x.toNat : Int) * c) = ((x <<< k).toNat : Int) := by
  rw [wrap_u64, shl64, hc]
theorem low_any (x : BitVec 64) (n : Int) (w : World) : Calls Try.prog 44 #[.int .u64 (x.toNat : Int), .int .i64 n] w fun e w' => e = .returned (.int .u64 ((Bt.low x n).toNat : Int)) ∧ w = w' := by
  obtain ⟨r, hr⟩ : ∃ r, r = Bt.low x n := ⟨_, rfl⟩
  rw [← hr]
  by_cases h1 : n ≤ 0
  · have : r = 0#64 := by rw [hr]; unfold Bt.low; rw [if_pos h1]
    subst this
    clear hr
    go_enter Try.func44, Try.ntmps44
    go_wp2
    go_ret
    exact ⟨rfl, rfl⟩
  · by_cases h2 : 64 ≤ n
    · have : r = x := by rw [hr]; unfold Bt.low; rw [if_neg h1, if_pos h2]
      subst this
      clear hr
      go_enter Try.func44, Try.ntmps44
      go_wp2
      go_ret
      exact ⟨rfl, rfl⟩
    · obtain ⟨k, rfl⟩ : ∃ k : Nat, n = k := ⟨n.toNat, by omega⟩
      have e : r = x &&& (1#64 <<< k - 1#64) := by rw [hr]; unfold Bt.low; rw [if_neg h1, if_neg h2]; rfl
      obtain ⟨s, hs⟩ : ∃ s, s = 1#64 <<< k := ⟨_, rfl⟩
      obtain ⟨t, ht⟩ : ∃ t, t = s - 1#64 := ⟨_, rfl⟩
      have e1 : IntKind.u64.wrap (2 ^ k) = (s.toNat : Int) := by
        have := wshl 1#64 k (2 ^ k) rfl
        rw [hs, ← this]
        congr 1
        simp
      have e2 : IntKind.u64.wrap ((s.toNat : Int) - 1) = (t.toNat : Int) := by
        rw [ht, wrap_u64, BitVec.toNat_sub]
        have := s.isLt
        simp
        omega
      have e3 : bits .and .u64 (x.toNat : Int) (t.toNat : Int) = (r.toNat : Int) := by rw [e, ← hs, ← ht]; exact and64 rfl rfl
      have h3 : 0 < k := by omega
      have h4 : k < 64 := by omega
      clear hr e hs ht h1 h2
      go_enter Try.func44, Try.ntmps44
      go_wp2
      go_ret
      exact ⟨rfl, rfl⟩

theorem and_63 (n : Int) : bits .and .u64 (IntKind.u64.wrap n) 63 = (Bt.kmod n : Int) := by
  obtain ⟨y, hy⟩ : ∃ y : BitVec 64, IntKind.u64.wrap n = (y.toNat : Int) := ⟨BitVec.ofInt 64 n, by rw [wrap_u64, BitVec.toNat_ofInt]; omega⟩
  have e : bits .and .u64 (y.toNat : Int) 63 = ((y &&& 63#64).toNat : Int) := and64 rfl rfl
  rw [hy, e, BitVec.toNat_and]
  have h63 : y.toNat &&& (63#64).toNat = y.toNat % 64 := Nat.and_two_pow_sub_one_eq_mod y.toNat 6
  rw [h63]
  rw [wrap_u64] at hy
  unfold Bt.kmod
  omega
theorem ne_zero_of {x : BitVec 64} (h : ((x.toNat : Int) != 0) = true) : x ≠ 0#64 := by
  intro e
  subst e
  exact absurd h (by decide)
theorem first_any (x : BitVec 64) (w : World) : Calls Try.prog 48 #[.int .u64 (x.toNat : Int)] w fun e w' => e = .returned (.int .i64 (Bt.first x : Int)) ∧ w = w' := by
  obtain ⟨N, hN⟩ : ∃ N, N = Bt.first x := ⟨_, rfl⟩
  have hle := Bt.first_le x
  rw [← hN] at hle ⊢
  have HN := Lib.hid hN
  clear hN
  go_enter Try.func48, Try.ntmps48
  go_wp2
  go_loop [0, 3, 4] (fun v n h => ∃ (k q : Nat), q ≤ 32 ∧ (2 * q = 64 ∨ 2 * q = 32 ∨ 2 * q = 16 ∨ 2 * q = 8 ∨ 2 * q = 4 ∨ 2 * q = 2 ∨ q = 0) ∧ v = .int .u64 ((x >>> k).toNat : Int) ∧ n = .int .i64 k ∧ h = .int .i64 q ∧ Bt.Found x k (if q = 0 then 1 else 2 * q)) (fun _ _ h => (intOf h).toNat)
  case atStart => exact ⟨0, 32, by omega, by omega, by simp, rfl, rfl, Bt.found_start x⟩
  case round =>
    obtain ⟨k, q, hq, hqs, rfl, rfl, rfl, hf⟩ := hrel
    have hk : k ≤ 64 := by have := hf.2.1; omega
    by_cases h0 : q = 0
    · subst h0
      have hend := Bt.found_end (x := x) (n := k) (by simpa using hf)
      have hk1 : k + 1 ≤ 64 := by have := hf.2.1; simpa using this
      have et : bits .and .u64 ((x >>> k).toNat : Int) 1 = (((x >>> k) &&& 1#64).toNat : Int) := and64 rfl rfl
      cases hb : (x >>> k).getLsbD 0
      · have : ((x >>> k) &&& 1#64).toNat = 0 := by rw [BitVec.and_one_eq_setWidth_ofBool_getLsbD, hb]; rfl
        rw [this] at et
        rw [hb] at hend
        have hNk : N = k + 1 := by rw [HN.out, hend]; rfl
        subst hNk
        generalize (x >>> k) = y at et ⊢
        clear hend hf hqs this hb
        go_wp2
        go_ret
        exact ⟨ret_int (by omega), rfl⟩
      · have : ((x >>> k) &&& 1#64).toNat = 1 := by rw [BitVec.and_one_eq_setWidth_ofBool_getLsbD, hb]; rfl
        rw [this] at et
        rw [hb] at hend
        have hNk : N = k := by rw [HN.out, hend]; rfl
        subst hNk
        generalize (x >>> N) = y at et ⊢
        clear hend hf hqs this hb
        go_wp2
        go_ret
        exact ⟨rfl, rfl⟩
    · have hf2 : Bt.Found x k (2 * q) := by rwa [if_neg h0] at hf
      have hsh := BitVec.shiftRight_add x k q
      have hfy := fun h => Bt.found_yes (x := x) (n := k) (h := q) hf2 h
      have hfn := fun h => Bt.found_no (x := x) (n := k) (h := q) hf2 h
      have hkq : k + q ≤ 64 := by have := hf2.2.1; omega
      have hq2 : (if q / 2 = 0 then 1 else 2 * (q / 2)) = q := by split <;> omega
      have HQ2 := Lib.hid hq2
      obtain ⟨y, hy⟩ : ∃ y, y = x >>> k := ⟨_, rfl⟩
      obtain ⟨z, hz⟩ : ∃ z, z = y >>> q := ⟨_, rfl⟩
      have hxz : x >>> (k + q) = z := by rw [hsh, hz, hy]
      rw [← hy] at hfy hfn ⊢
      have e1 : (y.toNat : Int) / 2 ^ q = (z.toNat : Int) := by rw [hz, shr64]
      have HXZ := Lib.hid hxz
      have HY := Lib.hid hy
      clear hsh hz hxz hy hq2 hf hf2
      have hl := low_any y (q : Int)
      obtain ⟨r, hr⟩ : ∃ r, r = Bt.low y (q : Int) := ⟨_, rfl⟩
      rw [← hr] at hl hfy hfn
      have HL := Lib.hid hl
      clear hl hr
      cases hb : ((r.toNat : Int) == 0)
      · have hne : r ≠ 0#64 := by
          intro e
          subst e
          exact absurd hb (by decide)
        have hF := Lib.hid (hfn hne)
        clear hfy hfn hne
        go_wp2_with (go_at_call 44; refine (HL.out _).mono ?_; rintro e w' ⟨rfl, rfl⟩)
        go_round
        case rel => exact ⟨k, q / 2, by omega, by omega, by rw [← HY.out], rfl, by go_num, by rw [HQ2.out]; exact hF.out⟩
        case measure => simp [intOf]; omega
      · have hz0 : r = 0#64 := BitVec.eq_of_toNat_eq (by
          have := beq_iff_eq.1 hb
          simpa using this)
        have hF := Lib.hid (hfy hz0)
        clear hfy hfn hz0
        go_wp2_with (go_at_call 44; refine (HL.out _).mono ?_; rintro e w' ⟨rfl, rfl⟩)
        go_round
        case rel => exact ⟨k + q, q / 2, by omega, by omega, by rw [HXZ.out], by go_num, by go_num, by rw [HQ2.out]; exact hF.out⟩
        case measure => simp [intOf]; omega
end Go.Proofs.Ytbcifodifadoiaa.btW
