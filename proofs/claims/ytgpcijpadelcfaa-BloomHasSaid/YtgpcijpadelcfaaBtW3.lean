/- The walks of bits, further: Zig, Zag, Halves, Join, Fit8, Fit16. -/
import Derived.Test.YtgpcijpadelcfaaBtW2
namespace Go.Proofs.Ytgpcijpadelcfaa.btW
open Go Go.RowKit Go.Par Go.Kit

theorem wrap_toInt (b : BitVec 64) : IntKind.u64.wrap b.toInt = (b.toNat : Int) := by
  rw [wrap_u64, BitVec.toInt_eq_toNat_cond]
  have := b.isLt
  split <;> omega
theorem wrap_i64_nat (b : BitVec 64) : IntKind.i64.wrap (b.toNat : Int) = b.toInt := by
  rw [IntKind.wrap_i64, BitVec.toInt_eq_toNat_cond]
  have := b.isLt
  split <;> omega
theorem xori64 {a b : Int} {p q : BitVec 64} (ha : a = p.toInt) (hb : b = q.toInt) : bits .xor .i64 a b = (p ^^^ q).toInt := by
  subst ha; subst hb
  show IntKind.i64.wrap ((BitVec.ofInt 64 p.toInt ^^^ BitVec.ofInt 64 q.toInt).toNat : Int) = _
  rw [BitVec.ofInt_toInt, BitVec.ofInt_toInt, wrap_i64_nat]

theorem zig_any (b : BitVec 64) (w : World) : Calls Try.prog 26 #[.int .i64 b.toInt] w fun e w' => e = .returned (.int .u64 ((Bt.zig b).toNat : Int)) ∧ w = w' := by
  obtain ⟨s, hs⟩ : ∃ s, s = b <<< 1 := ⟨_, rfl⟩
  obtain ⟨t, ht⟩ : ∃ t, t = b.sshiftRight 63 := ⟨_, rfl⟩
  obtain ⟨r, hr⟩ : ∃ r, r = Bt.zig b := ⟨_, rfl⟩
  rw [← hr]
  have e1 := wrap_toInt b
  have e2 : IntKind.u64.wrap ((b.toNat : Int) * 2) = (s.toNat : Int) := by rw [hs]; exact wshl b 1 2 rfl
  have e3 : IntKind.u64.wrap (b.toInt / 9223372036854775808) = (t.toNat : Int) := by
    have h : b.toInt / 9223372036854775808 = t.toInt := by rw [ht, BitVec.toInt_sshiftRight, Int.shiftRight_eq_div_pow]; rfl
    rw [h, wrap_toInt]
  have e4 : bits .xor .u64 (s.toNat : Int) (t.toNat : Int) = (r.toNat : Int) := by rw [hr]; unfold Bt.zig; rw [← hs, ← ht]; exact xor64 rfl rfl
  have hb1 := BitVec.le_toInt b
  have hb2 := BitVec.toInt_lt (x := b)
  generalize b.toInt = z at e1 e3 hb1 hb2 ⊢
  clear hs ht hr
  go_enter Try.func26, Try.ntmps26
  go_wp2
  go_ret
  exact ⟨rfl, rfl⟩
theorem zag_any (x : BitVec 64) (w : World) : Calls Try.prog 28 #[.int .u64 (x.toNat : Int)] w fun e w' => e = .returned (.int .i64 (Bt.zag x).toInt) ∧ w = w' := by
  obtain ⟨a, ha⟩ : ∃ a, a = x &&& 1#64 := ⟨_, rfl⟩
  obtain ⟨r, hr⟩ : ∃ r, r = (Bt.zag x).toInt := ⟨_, rfl⟩
  rw [← hr]
  have e1 : bits .and .u64 (x.toNat : Int) 1 = (a.toNat : Int) := by rw [ha]; exact and64 rfl rfl
  have ha1 : a.toNat ≤ 1 := by
    rw [ha, BitVec.toNat_and]
    exact Nat.and_le_right
  have e2 : bits .xor .i64 ((x.toNat : Int) / 2) (-(a.toNat : Int)) = r := by
    rw [hr]
    unfold Bt.zag
    rw [← ha]
    refine xori64 ?_ ?_
    · rw [BitVec.toInt_eq_toNat_cond, BitVec.toNat_ushiftRight, Nat.shiftRight_eq_div_pow]
      have := x.isLt
      split <;> omega
    · rw [BitVec.toInt_eq_toNat_cond, BitVec.toNat_sub]
      simp
      split <;> omega
  have hx := x.isLt
  clear ha hr
  go_enter Try.func28, Try.ntmps28
  go_wp2
  go_ret
  exact ⟨rfl, rfl⟩
theorem halves_any (x : BitVec 64) (w : World) : Calls Try.prog 29 #[.int .u64 (x.toNat : Int)] w fun e w' => e = .returned (.tuple #[.int .u32 ((x.toNat : Int) / 4294967296), .int .u32 ((x.toNat : Int) % 4294967296)]) ∧ w = w' := by
  have hx := x.isLt
  go_enter Try.func29, Try.ntmps29
  go_wp2
  go_ret2
  exact ⟨rfl, rfl⟩
theorem join_or (x y : Nat) (hx : x < 4294967296) (hy : y < 4294967296) : bits .or .u64 ((x : Int) * 4294967296) (y : Int) = (x : Int) * 4294967296 + y := by
  have e : ((x : Int) * 4294967296) = ((x * 4294967296 : Nat) : Int) := by omega
  rw [e, u64_or_nat _ _ (by omega) (by omega)]
  have := nat_join 32 (x * 4294967296) y (by omega) (by omega)
  rw [this]
  omega
theorem join_any (x y : Nat) (hx : x < 4294967296) (hy : y < 4294967296) (w : World) : Calls Try.prog 30 #[.int .u32 (x : Int), .int .u32 (y : Int)] w fun e w' => e = .returned (.int .u64 ((x : Int) * 4294967296 + y)) ∧ w = w' := by
  have e := join_or x y hx hy
  have E := Lib.hid e
  clear e
  go_enter Try.func30, Try.ntmps30
  go_wp2
  go_ret
  exact ⟨ret_int E.out, rfl⟩
theorem fit8_any (n : Int) (w : World) : Calls Try.prog 32 #[.int .i64 n] w fun e w' => e = .returned (.tuple #[.int .u8 (if n % 256 = n then n else 0), .bool (decide (n % 256 = n))]) ∧ w = w' := by
  by_cases h : n % 256 = n
  · have hb : (n % 256 != n) = false := bne_eq_false_iff_eq.2 h
    rw [if_pos h, decide_eq_true h]
    have H := Lib.hid h
    clear h
    go_enter Try.func32, Try.ntmps32
    go_wp2
    go_ret2
    refine ⟨?_, rfl⟩
    simp [H.out]
  · have hb : (n % 256 != n) = true := bne_iff_ne.2 h
    rw [if_neg h, decide_eq_false h]
    clear h
    go_enter Try.func32, Try.ntmps32
    go_wp2
    go_ret2
    exact ⟨rfl, rfl⟩
theorem fit16_any (n : Int) (w : World) : Calls Try.prog 33 #[.int .i64 n] w fun e w' => e = .returned (.tuple #[.int .u16 (if n % 65536 = n then n else 0), .bool (decide (n % 65536 = n))]) ∧ w = w' := by
  have hw : IntKind.u16.wrap n = n % 65536 := IntKind.wrap_u16 n
  by_cases h : n % 65536 = n
  · have hb : (n % 65536 != n) = false := bne_eq_false_iff_eq.2 h
    rw [if_pos h, decide_eq_true h]
    have H := Lib.hid h
    clear h
    go_enter Try.func33, Try.ntmps33
    go_wp2
    go_ret2
    refine ⟨?_, rfl⟩
    simp [H.out]
  · have hb : (n % 65536 != n) = true := bne_iff_ne.2 h
    rw [if_neg h, decide_eq_false h]
    clear h
    go_enter Try.func33, Try.ntmps33
    go_wp2
    go_ret2
    exact ⟨rfl, rfl⟩
end Go.Proofs.Ytgpcijpadelcfaa.btW
