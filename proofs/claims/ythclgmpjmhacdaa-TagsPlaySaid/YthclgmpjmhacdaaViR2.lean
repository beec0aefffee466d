/- The walk of the document's Read. -/
import Derived.Test.YthclgmpjmhacdaaViR
namespace Go.Proofs.Ythclgmpjmhacdaa.viW
open Go Go.RowKit Go.Par Go.Kit Vi

theorem val_drop_le : ∀ (L : List UInt8) (p : Nat), val (L.drop p) ≤ val L
  | [], p => by simp [val]
  | x :: L, 0 => by simp
  | x :: L, p + 1 => by
    have := val_drop_le L p
    simp only [List.drop_succ_cons, val]; omega
theorem val_drop_step {L : List UInt8} {p : Nat} {x : UInt8} (h : L[p]? = some x) : val (L.drop p) = val (L.drop (p + 1)) * 128 + x.toNat % 128 := by
  obtain ⟨h1, h2⟩ := List.getElem?_eq_some_iff.1 h
  rw [List.drop_eq_getElem_cons h1, val, h2]; omega
theorem val_top {l : List UInt8} {k : Nat} {x : UInt8} (hx : l[k]? = some x) (h : x.toNat < 128) : val ((l.take (k + 1)).drop k) = x.toNat := by
  have hlt := (List.getElem?_eq_some_iff.1 hx).1
  have hl : (l.take k).length = k := by rw [List.length_take]; omega
  rw [List.take_succ_eq_append_getElem hlt, List.drop_append, hl, List.drop_of_length_le (by omega), Nat.sub_self, (List.getElem?_eq_some_iff.1 hx).2]
  simp only [List.nil_append, List.drop_zero, val]
  omega

set_option maxRecDepth 100000 in
set_option maxHeartbeats 1000000 in
theorem ref_read_any (A : Option Addr) (n c : Nat) (l : List UInt8) (w : World) (hr : Bytes w A n l) (hn : n ≤ maxLen) :
    Calls Try.prog 60 #[.slice A n c] w fun e w' => e = rdE l ∧ w = w' := by
  unfold maxLen at hn
  have hlen := Lib.hid hr.len
  go_enter Try.func60, Try.ntmps60
  go_wp2_with fail
  go_loop [5] (fun i => ∃ k : Nat, k ≤ n ∧ k ≤ 9 ∧ i = .int .i64 k ∧ Hid (Up l k)) (fun i => n - (intOf i).toNat)
  case atStart => exact ⟨0, Nat.zero_le _, by omega, rfl, Lib.hid (Up.zero l)⟩
  case round =>
    obtain ⟨k, hk, hk9, rfl, HU⟩ := hrel
    by_cases hlt : k < n
    · obtain ⟨b, off, x, hA, hx, hcell⟩ := hr.at_ (k := k) (by omega)
      subst hA
      have hxlt := x.toNat_lt
      have HX := Lib.hid hx
      clear hx
      by_cases h128 : 128 ≤ x.toNat
      · have HU' := Lib.hid (HU.out.succ HX.out h128)
        by_cases h10 : k + 1 = 10
        · have hE : rdE l = .returned (.tuple #[.int .u64 0, .int .i64 0, .int .i64 4]) := by
            rw [rdE, rd_long (lead_ge (by rw [← h10]; exact HU'.out) (by have := hlen.out; omega))]; rfl
          have HE := Lib.hid hE
          clear hE
          go_wp2_with fail
          go_ret3
          exact ⟨HE.out.symm, rfl⟩
        · go_wp2_with fail
          go_round
          case rel => exact ⟨k + 1, by omega, by omega, by go_num, HU'⟩
          case measure => simp [intOf] <;> omega
      · have hrd := rd_at (HU.out.is HX.out (by omega)) (by omega) HX.out
        by_cases hbad : (x.toNat = 0 ∧ 0 < k) ∨ (k = 9 ∧ 1 < x.toNat)
        · rw [if_pos hbad] at hrd
          have hE : rdE l = .returned (.tuple #[.int .u64 0, .int .i64 0, .int .i64 4]) := by rw [rdE, hrd]; rfl
          have HE := Lib.hid hE
          clear hE hrd
          rcases hbad with ⟨h0, h1⟩ | ⟨h0, h1⟩
          · have t1 : ((x.toNat : Int) == 0) = true := beq_iff_eq.2 (by omega)
            have t2 : decide (0 < k) = true := decide_eq_true (by omega)
            clear h0 h1
            go_wp2_with fail
            go_ret3
            exact ⟨HE.out.symm, rfl⟩
          · have t1 : ((x.toNat : Int) == 0) = false := beq_false_of_ne (by omega)
            have t3 : ((k : Int) == 9) = true := beq_iff_eq.2 (by omega)
            have t4 : decide ((1 : Int) < (x.toNat : Int)) = true := decide_eq_true (by omega)
            clear h0 h1
            go_wp2_with fail
            go_ret3
            exact ⟨HE.out.symm, rfl⟩
        · rw [if_neg hbad] at hrd
          have hf := val_fit HX.out hk9 (fun h => hbad (.inr h))
          have htop := val_top HX.out (by omega)
          have hcs : (((x.toNat : Int) == 0) = true ∧ decide (0 < k) = false ∧ ((k : Int) == 9) = false) ∨ (((x.toNat : Int) == 0) = false ∧ ((k : Int) == 9) = false) ∨ (((x.toNat : Int) == 0) = false ∧ ((k : Int) == 9) = true ∧ decide ((1 : Int) < (x.toNat : Int)) = false) := by
            simp only [beq_iff_eq, beq_eq_false_iff_ne, decide_eq_false_iff_not]
            omega
          have HE := Lib.hid (show rdE l = .returned (.tuple #[.int .u64 ((val (l.take (k + 1)) : Nat) : Int), .int .i64 ((k : Int) + 1), .int .i64 0]) by rw [rdE, hrd]; rfl)
          have HF := Lib.hid hf
          have HT := Lib.hid htop
          clear hrd hbad hf htop
          rcases hcs with ⟨h0, h1, h2⟩ | ⟨h0, h1⟩ | ⟨h0, h1, h2⟩
          all_goals
            go_wp2_with fail
            go_loop [6, 7] (fun r i => ∃ (p : Nat) (z : Int), p ≤ k ∧ i = .int .i64 z ∧ z = (p : Int) - 1 ∧ r = .int .u64 ((val ((l.take (k + 1)).drop p) : Nat) : Int)) (fun _ i => (intOf i + 1).toNat)
            case atStart => exact ⟨k, _, Nat.le_refl _, rfl, by first | rfl | (go_num; done) | omega, by rw [HT.out] <;> first | rfl | (simp [*]; done)⟩
            case round =>
              obtain ⟨p, z, hp, rfl, hz, rfl⟩ := hrel
              rcases p with _ | p
              · have t5 : decide ((0 : Int) ≤ z) = false := decide_eq_false (by omega)
                rw [List.drop_zero]
                generalize val (l.take (k + 1)) = vv at HE
                clear hz
                go_wp2_with fail
                go_ret3
                exact ⟨HE.out.symm, rfl⟩
              · obtain rfl : z = (p : Int) := by omega
                clear hz
                obtain ⟨b', off', y, hA, hy, hcell'⟩ := hr.at_ (k := p) (by omega)
                injection hA with hA
                injection hA with hA1 hA2
                subst hA1; subst hA2
                have hy128 := HU.out p y (by omega) hy
                have hylt := y.toNat_lt
                have hst := val_drop_step (L := l.take (k + 1)) (p := p) (x := y) (by rw [List.getElem?_take_of_lt (by omega)]; exact hy)
                have hle := val_drop_le (l.take (k + 1)) p
                have hf := HF.out
                obtain ⟨v', hv'⟩ : ∃ v', v' = val ((l.take (k + 1)).drop p) := ⟨_, rfl⟩
                rw [← hv'] at hst hle
                have hvlt : v' < 18446744073709551616 := by omega
                generalize val ((l.take (k + 1)).drop (p + 1)) = v at hst ⊢
                have hv1 : v * 128 + y.toNat % 128 < 18446744073709551616 := by omega
                have HV := Lib.hid hv'
                have HS := Lib.hid hst
                clear hv' hst hle hf hvlt hy
                go_wp2_with fail
                go_round
                case rel => exact ⟨p, _, by omega, rfl, by first | rfl | omega, by rw [← HV.out, HS.out]; congr 1; omega⟩
                case measure => simp [intOf] <;> omega
    · have hE : rdE l = .returned (.tuple #[.int .u64 0, .int .i64 0, .int .i64 2]) := by
        have h2 := hlen.out
        obtain rfl : k = l.length := by omega
        have := Up.all HU.out
        rw [rdE, rd_short (by omega) this]; rfl
      have HE := Lib.hid hE
      clear hE
      obtain rfl : k = n := by omega
      go_wp2_with fail
      go_ret3
      exact ⟨HE.out.symm, rfl⟩
end Go.Proofs.Ythclgmpjmhacdaa.viW
