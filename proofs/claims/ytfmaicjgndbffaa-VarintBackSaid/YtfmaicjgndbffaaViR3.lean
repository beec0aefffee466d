/- varint.Read of a slice of which only the first cells are known, a whole number's bytes. -/
import Derived.Test.YtfmaicjgndbffaaViL
import Derived.Test.YtfmaicjgndbffaaRoom
namespace Go.Proofs.Ytfmaicjgndbffaa.viL
open Go Go.RowKit Go.Par Go.Kit Vi viW

theorem lead_vb (n : Nat) (h : n < 18446744073709551616) : lead (vb n) + 1 = (vb n).length := by
  have := (vbF_lead 9 n [] (by omega)).1
  rwa [List.append_nil] at this
theorem rd_vb0 (n : Nat) (h : n < 18446744073709551616) : rd (vb n) = (n, (vb n).length, 0) := by
  have := rd_vb n [] h
  rwa [List.append_nil] at this
theorem good_of {l : List UInt8} {k N b : Nat} {x : UInt8} (h : lead l = k) (hk : k < 10) (hx : l[k]? = some x) (hrd : rd l = (N, b, 0)) (hb : k + 1 = b) : ¬ ((x.toNat = 0 ∧ 0 < k) ∨ (k = 9 ∧ 1 < x.toNat)) ∧ val (l.take (k + 1)) = N := by
  rw [rd_at h hk hx] at hrd
  split at hrd
  · simp only [Prod.mk.injEq] at hrd; omega
  · rename_i hbad
    simp only [Prod.mk.injEq] at hrd
    exact ⟨hbad, hrd.1⟩

set_option maxRecDepth 100000 in
set_option maxHeartbeats 1000000 in
theorem read_pre (A : Option Addr) (n c b : Nat) (l : List UInt8) (w : World) (hr : Bytes w A b l) (hbn : b ≤ n) (hc : n ≤ c) (hn : n ≤ maxLen) (hb10 : b ≤ 10) (N : Nat) (hrd : rd l = (N, b, 0)) (hld : lead l + 1 = b) :
    Calls Try.prog 18 #[.slice A n c] w fun e w' => e = .returned (.tuple #[.int .u64 (N : Int), .int .i64 (b : Int), .int .i64 0]) ∧ w = w' := by
  unfold maxLen at hn
  have hlen := hr.len
  obtain ⟨m, hm⟩ : ∃ m, m = min n 10 := ⟨_, rfl⟩
  have hmin := fun ts t W => run_min2 (P := Try.prog) ts t n 10 m hm W
  simp only [show ((10 : Nat) : Int) = 10 from rfl] at hmin
  have hs1 := slice_hi (P := Try.prog) Try.underlying23 i8 A n c m (by omega)
  have hm1 : b ≤ m := by omega
  have hm2 : m ≤ 10 := by omega
  have HL := Lib.hid hlen
  have HR := Lib.hid hrd
  have HD := Lib.hid hld
  clear hm hlen hrd hld
  go_enter Try.func18, Try.ntmps18
  go_wp2_with fail
  clear hmin hs1
  go_loop [5, 6, 7, 14] (fun r _ _ i => ∃ k : Nat, k < b ∧ i = .int .i64 k ∧ r = .int .u64 ((val (l.take k) % 18446744073709551616 : Nat) : Int) ∧ Hid (Up l k)) (fun _ _ _ i => m - (intOf i).toNat)
  case atStart => exact ⟨0, by have := HD.out; omega, rfl, rfl, Lib.hid (Up.zero l)⟩
  case round =>
    obtain ⟨k, hk, rfl, rfl, HU⟩ := hrel
    have hlt : k < m := by omega
    have hk9 : k ≤ 9 := by omega
    obtain ⟨bb, off, x, rfl, hx, hcell⟩ := hr.at_ (k := k) (by omega)
    have hxlt := x.toNat_lt
    obtain ⟨hor, hv⟩ := val_step hx hk9
    have hfit := val_fit hx hk9
    obtain ⟨y, hy⟩ : ∃ y, y = x.toNat % 128 := ⟨_, rfl⟩
    have hand := and_low x
    rw [← hy] at hand
    obtain ⟨q, hq⟩ : ∃ q, q = 7 * k := ⟨_, rfl⟩
    have hq1 : (7 : Int) * (k : Int) = (q : Int) := by omega
    have hq63 : q ≤ 63 := by omega
    obtain ⟨z, hz⟩ : ∃ z, z = y * 2 ^ q % 18446744073709551616 := ⟨_, rfl⟩
    have hsh := wshl_nat y q z hz
    rw [← hy, ← hq, ← hz] at hor
    have hmod : val (l.take k) % 18446744073709551616 = val (l.take k) := Nat.mod_eq_of_lt (by omega)
    rw [hmod]
    have hy128 : y < 128 := by omega
    have hz64 : z < 18446744073709551616 := by rw [hz]; exact Nat.mod_lt _ (by decide)
    obtain ⟨v', hv'⟩ : ∃ v', v' = val (l.take (k + 1)) % 18446744073709551616 := ⟨_, rfl⟩
    rw [← hv'] at hor
    have hvlt : v' < 18446744073709551616 := by rw [hv']; exact Nat.mod_lt _ (by decide)
    generalize val (l.take k) = v at hor hv ⊢
    have HV := Lib.hid hv'
    have HF := Lib.hid hfit
    have HX := Lib.hid hx
    clear hv' hfit hx hmod hz hq hy
    by_cases h128 : 128 ≤ x.toNat
    · have HU' := Lib.hid (HU.out.succ HX.out h128)
      have hk2 : k + 1 < b := by
        have h1 := lead_ge HU'.out (by have := HL.out; omega)
        have h2 := HD.out
        omega
      go_wp2_with fail
      go_round
      case rel => exact ⟨k + 1, hk2, by go_num, by rw [HV.out], HU'⟩
      case measure => simp [intOf] <;> omega
    · have hle := HU.out.is HX.out (by omega)
      have hkb : k + 1 = b := by have := HD.out; omega
      obtain ⟨hbad, hval⟩ := good_of hle (by omega) HX.out HR.out hkb
      have hf := HF.out (fun h => hbad (.inr h))
      have hvN : v' = N := by rw [HV.out, Nat.mod_eq_of_lt hf, hval]
      have hE : (Ending.returned (.tuple #[.int .u64 (v' : Int), .int .i64 ((k : Int) + 1), .int .i64 0])) = .returned (.tuple #[.int .u64 (N : Int), .int .i64 (b : Int), .int .i64 0]) := by
        rw [hvN, ← hkb]; rfl
      have HE := Lib.hid hE
      have hcs : (x.toNat = 0 ∧ k = 0) ∨ (0 < x.toNat ∧ k ≠ 9) ∨ (0 < x.toNat ∧ k = 9 ∧ x.toNat ≤ 1) := by omega
      clear hE hf hbad hvN hval hle hkb
      rcases hcs with ⟨h0, h1⟩ | ⟨h0, h1⟩ | ⟨h0, h1, h2⟩
      · have t1 : ((x.toNat : Int) == 0) = true := beq_iff_eq.2 (by omega)
        have t2 : decide (0 < k) = false := decide_eq_false (by omega)
        have t3 : ((k : Int) == 9) = false := beq_false_of_ne (by omega)
        clear h0 h1
        go_wp2_with fail
        go_ret3
        exact ⟨HE.out, rfl⟩
      · have t1 : ((x.toNat : Int) == 0) = false := beq_false_of_ne (by omega)
        have t3 : ((k : Int) == 9) = false := beq_false_of_ne (by omega)
        clear h0 h1
        go_wp2_with fail
        go_ret3
        exact ⟨HE.out, rfl⟩
      · have t1 : ((x.toNat : Int) == 0) = false := beq_false_of_ne (by omega)
        have t3 : ((k : Int) == 9) = true := beq_iff_eq.2 (by omega)
        have t4 : decide ((1 : Int) < (x.toNat : Int)) = false := decide_eq_false (by omega)
        clear h0 h1 h2
        go_wp2_with fail
        go_ret3
        exact ⟨HE.out, rfl⟩
end Go.Proofs.Ytfmaicjgndbffaa.viL
