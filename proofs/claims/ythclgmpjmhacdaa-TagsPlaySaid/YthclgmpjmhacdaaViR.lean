/- The walks of the numbers in bytes: varint.Read and the document's Read. -/
import Derived.Test.YthclgmpjmhacdaaViW
namespace Go.Proofs.Ythclgmpjmhacdaa.viW
open Go Go.RowKit Go.Par Go.Kit Vi

def rdE (l : List UInt8) : Ending := .returned (.tuple #[.int .u64 ((rd l).1 : Int), .int .i64 ((rd l).2.1 : Int), .int .i64 ((rd l).2.2 : Int)])

theorem rd_long {l : List UInt8} (h : 10 ≤ lead l) : rd l = (0, 0, 4) := by rw [rd, if_pos h]
theorem rd_short {l : List UInt8} (h : ¬ 10 ≤ lead l) (h2 : lead l = l.length) : rd l = (0, 0, 2) := by
  rw [rd, if_neg h, h2, List.getElem?_eq_none (Nat.le_refl _)]
theorem rd_at {l : List UInt8} {k : Nat} {x : UInt8} (h : lead l = k) (hk : k < 10) (hx : l[k]? = some x) :
    rd l = if (x.toNat = 0 ∧ 0 < k) ∨ (k = 9 ∧ 1 < x.toNat) then (0, 0, 4) else (val (l.take (k + 1)), k + 1, 0) := by
  rw [rd, if_neg (by omega), h, hx]
/-- all of the first k bytes go on -/
def Up (l : List UInt8) (k : Nat) : Prop := ∀ j x, j < k → l[j]? = some x → 128 ≤ x.toNat
theorem Up.zero (l : List UInt8) : Up l 0 := fun j x h => absurd h (by omega)
theorem Up.succ {l : List UInt8} {k : Nat} {x : UInt8} (h : Up l k) (hx : l[k]? = some x) (h2 : 128 ≤ x.toNat) : Up l (k + 1) := by
  intro j y hj hy
  by_cases hjk : j < k
  · exact h j y hjk hy
  · obtain rfl : j = k := by omega
    rw [hx] at hy
    injection hy with hy
    subst hy; exact h2
theorem Up.is {l : List UInt8} {k : Nat} {x : UInt8} (h : Up l k) (hx : l[k]? = some x) (h2 : x.toNat < 128) : lead l = k :=
  lead_eq l k h (by have := (List.getElem?_eq_some_iff.1 hx).1; omega) (fun y hy => by rw [hx] at hy; injection hy with hy; subst hy; exact h2)
theorem Up.all {l : List UInt8} (h : Up l l.length) : lead l = l.length := lead_eq l l.length h (Nat.le_refl _) (fun x hx => by simp at hx)
theorem val_step {l : List UInt8} {k : Nat} {x : UInt8} (hx : l[k]? = some x) (hk : k ≤ 9) :
    bits .or .u64 ((val (l.take k) : Nat) : Int) (((x.toNat % 128 * 2 ^ (7 * k) % 18446744073709551616 : Nat)) : Int) = ((val (l.take (k + 1)) % 18446744073709551616 : Nat) : Int) ∧ val (l.take k) < 9223372036854775808 := by
  have hlt := (List.getElem?_eq_some_iff.1 hx).1
  have hl : (l.take k).length = k := by rw [List.length_take]; omega
  have h1 := val_lt (l.take k)
  rw [hl, show 128 = 2 ^ 7 from rfl, ← Nat.pow_mul] at h1
  have h63 : 2 ^ (7 * k) ≤ 2 ^ 63 := Nat.pow_le_pow_right (by decide) (by omega)
  have e : val (l.take (k + 1)) = val (l.take k) + 2 ^ (7 * k) * (x.toNat % 128) := by
    rw [List.take_succ_eq_append_getElem hlt, val_snoc, hl, show 128 ^ k = 2 ^ (7 * k) by rw [Nat.pow_mul], (List.getElem?_eq_some_iff.1 hx).2]
  exact ⟨by rw [e]; exact join_up h1 (by omega), by omega⟩
theorem val_fit {l : List UInt8} {k : Nat} {x : UInt8} (hx : l[k]? = some x) (hk : k ≤ 9) (h : ¬ (k = 9 ∧ 1 < x.toNat)) : val (l.take (k + 1)) < 18446744073709551616 := by
  have hlt := (List.getElem?_eq_some_iff.1 hx).1
  have hl : (l.take k).length = k := by rw [List.length_take]; omega
  have h1 := val_lt (l.take k)
  have e : val (l.take (k + 1)) = val (l.take k) + 128 ^ k * (x.toNat % 128) := by
    rw [List.take_succ_eq_append_getElem hlt, val_snoc, hl, (List.getElem?_eq_some_iff.1 hx).2]
  rw [hl] at h1
  by_cases h9 : k = 9
  · subst h9
    have : x.toNat = 0 ∨ x.toNat = 1 := by omega
    rcases this with h0 | h0 <;> (rw [h0] at e; omega)
  · have h2 := val_lt (l.take (k + 1))
    have hl2 : (l.take (k + 1)).length = k + 1 := by rw [List.length_take]; omega
    rw [hl2] at h2
    have : 128 ^ (k + 1) ≤ 128 ^ 9 := Nat.pow_le_pow_right (by decide) (by omega)
    omega
theorem wshl_nat (y q z : Nat) (hz : z = y * 2 ^ q % 18446744073709551616) : IntKind.u64.wrap ((y : Int) * 2 ^ q) = (z : Int) := by
  rw [IntKind.wrap_u64, hz, Int.natCast_emod, Int.natCast_mul, Int.natCast_pow]; rfl

set_option maxRecDepth 100000 in
set_option maxHeartbeats 1000000 in
theorem read_any (A : Option Addr) (n c : Nat) (l : List UInt8) (w : World) (hr : Bytes w A n l) (hc : n ≤ c) (hn : n ≤ maxLen) :
    Calls Try.prog 55 #[.slice A n c] w fun e w' => e = rdE l ∧ w = w' := by
  unfold maxLen at hn
  have hlen := hr.len
  obtain ⟨m, hm⟩ : ∃ m, m = min n 10 := ⟨_, rfl⟩
  have hmin := fun ts t W => run_min2 (P := Try.prog) ts t n 10 m hm W
  simp only [show ((10 : Nat) : Int) = 10 from rfl] at hmin
  have hs1 := slice_hi (P := Try.prog) Try.underlying22 i8 A n c m (by omega)
  have hm1 : m ≤ n := by omega
  have hm2 : m ≤ 10 := by omega
  have HM := Lib.hid hm
  have HL := Lib.hid hlen
  clear hm hlen
  go_enter Try.func55, Try.ntmps55
  go_wp2_with fail
  clear hmin hs1
  go_loop [5, 6, 7, 14] (fun r _ _ i => ∃ k : Nat, k ≤ m ∧ i = .int .i64 k ∧ r = .int .u64 ((val (l.take k) % 18446744073709551616 : Nat) : Int) ∧ Hid (Up l k)) (fun _ _ _ i => m - (intOf i).toNat)
  case atStart => exact ⟨0, Nat.zero_le _, rfl, rfl, Lib.hid (Up.zero l)⟩
  case round =>
    obtain ⟨k, hk, rfl, rfl, HU⟩ := hrel
    by_cases hlt : k < m
    · have hk9 : k ≤ 9 := by omega
      obtain ⟨b, off, x, rfl, hx, hcell⟩ := hr.at_ (k := k) (by omega)
      have hxlt := x.toNat_lt
      obtain ⟨hor, hv⟩ := val_step hx hk9
      have hfit := val_fit hx hk9
      obtain ⟨y, hy⟩ : ∃ y, y = x.toNat % 128 := ⟨_, rfl⟩
      have hand := and_low x
      rw [← hy] at hand
      obtain ⟨q, hq⟩ : ∃ q, q = 7 * k := ⟨_, rfl⟩
      have hq1 : (7 : Int) * (k : Int) = (q : Int) := by omega
      have hq63 : q ≤ 63 := by omega
      obtain ⟨z, hz⟩ : ∃ z, z = y * 2 ^ q % 18446744073709551616 := ⟨_, rfl⟩
      have hsh := wshl_nat y q z hz
      rw [← hy, ← hq, ← hz] at hor
      have hmod : val (l.take k) % 18446744073709551616 = val (l.take k) := Nat.mod_eq_of_lt (by omega)
      rw [hmod]
      have hy128 : y < 128 := by omega
      have hz64 : z < 18446744073709551616 := by rw [hz]; exact Nat.mod_lt _ (by decide)
      obtain ⟨v', hv'⟩ : ∃ v', v' = val (l.take (k + 1)) % 18446744073709551616 := ⟨_, rfl⟩
      rw [← hv'] at hor
      have hvlt : v' < 18446744073709551616 := by rw [hv']; exact Nat.mod_lt _ (by decide)
      generalize val (l.take k) = v at hor hv ⊢
      have HV := Lib.hid hv'
      have HF := Lib.hid hfit
      have HX := Lib.hid hx
      clear hv' hfit hx hmod hz hq hy
      by_cases h128 : 128 ≤ x.toNat
      · have HU' := Lib.hid (HU.out.succ HX.out h128)
        go_wp2_with fail
        go_round
        case rel => exact ⟨k + 1, by omega, by go_num, by rw [HV.out], HU'⟩
        case measure => simp [intOf] <;> omega
      · have hrd := rd_at (HU.out.is HX.out (by omega)) (by omega) HX.out
        by_cases hbad : (x.toNat = 0 ∧ 0 < k) ∨ (k = 9 ∧ 1 < x.toNat)
        · rw [if_pos hbad] at hrd
          have hE : rdE l = .returned (.tuple #[.int .u64 0, .int .i64 0, .int .i64 4]) := by rw [rdE, hrd]; rfl
          have HE := Lib.hid hE
          clear hE hrd
          rcases hbad with ⟨h0, h1⟩ | ⟨h0, h1⟩
          · have t1 : ((x.toNat : Int) == 0) = true := beq_iff_eq.2 (by omega)
            have t2 : decide (0 < k) = true := decide_eq_true (by omega)
            clear h0 h1
            go_wp2_with fail
            go_ret3
            exact ⟨HE.out.symm, rfl⟩
          · have t1 : ((x.toNat : Int) == 0) = false := beq_false_of_ne (by omega)
            have t3 : ((k : Int) == 9) = true := beq_iff_eq.2 (by omega)
            have t4 : decide ((1 : Int) < (x.toNat : Int)) = true := decide_eq_true (by omega)
            clear h0 h1
            go_wp2_with fail
            go_ret3
            exact ⟨HE.out.symm, rfl⟩
        · rw [if_neg hbad] at hrd
          have hf := HF.out (fun h => hbad (.inr h))
          have hE : rdE l = .returned (.tuple #[.int .u64 (v' : Int), .int .i64 ((k : Int) + 1), .int .i64 0]) := by
            rw [rdE, hrd, HV.out, Nat.mod_eq_of_lt hf]; rfl
          have HE := Lib.hid hE
          have hcs : (x.toNat = 0 ∧ k = 0) ∨ (0 < x.toNat ∧ k ≠ 9) ∨ (0 < x.toNat ∧ k = 9 ∧ x.toNat ≤ 1) := by omega
          clear hE hrd hf hbad
          rcases hcs with ⟨h0, h1⟩ | ⟨h0, h1⟩ | ⟨h0, h1, h2⟩
          · have t1 : ((x.toNat : Int) == 0) = true := beq_iff_eq.2 (by omega)
            have t2 : decide (0 < k) = false := decide_eq_false (by omega)
            have t3 : ((k : Int) == 9) = false := beq_false_of_ne (by omega)
            clear h0 h1
            go_wp2_with fail
            go_ret3
            exact ⟨HE.out.symm, rfl⟩
          · have t1 : ((x.toNat : Int) == 0) = false := beq_false_of_ne (by omega)
            have t3 : ((k : Int) == 9) = false := beq_false_of_ne (by omega)
            clear h0 h1
            go_wp2_with fail
            go_ret3
            exact ⟨HE.out.symm, rfl⟩
          · have t1 : ((x.toNat : Int) == 0) = false := beq_false_of_ne (by omega)
            have t3 : ((k : Int) == 9) = true := beq_iff_eq.2 (by omega)
            have t4 : decide ((1 : Int) < (x.toNat : Int)) = false := decide_eq_false (by omega)
            clear h0 h1 h2
            go_wp2_with fail
            go_ret3
            exact ⟨HE.out.symm, rfl⟩
    · obtain rfl : k = m := by omega
      by_cases h10 : 10 ≤ n
      · have hE : rdE l = .returned (.tuple #[.int .u64 0, .int .i64 0, .int .i64 4]) := by
          have h1 := HM.out
          obtain rfl : k = 10 := by omega
          rw [rdE, rd_long (lead_ge HU.out (by have := HL.out; omega))]; rfl
        have HE := Lib.hid hE
        clear hE
        go_wp2_with fail
        go_ret3
        exact ⟨HE.out.symm, rfl⟩
      · have hE : rdE l = .returned (.tuple #[.int .u64 0, .int .i64 0, .int .i64 2]) := by
          have h1 := HM.out
          have h2 := HL.out
          obtain rfl : k = l.length := by omega
          have := Up.all HU.out
          rw [rdE, rd_short (by omega) this]; rfl
        have HE := Lib.hid hE
        clear hE
        go_wp2_with fail
        go_ret3
        exact ⟨HE.out.symm, rfl⟩
end Go.Proofs.Ythclgmpjmhacdaa.viW
