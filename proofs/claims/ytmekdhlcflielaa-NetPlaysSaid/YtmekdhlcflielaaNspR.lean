/- The walks of the document's Spoil. -/
import Derived.Test.YtmekdhlcflielaaNspW
namespace Go.Proofs.Ytmekdhlcflielaa.slW
open Go Go.RowKit Go.Par Go.Kit Go.Proofs.Ytmekdhlcflielaa.cl Go.Proofs.Ytmekdhlcflielaa.crcW

theorem bit_mod (m : BitVec 32) (k q : Nat) (hq : q = m.toNat / 2 ^ k) : ((q : Int) % 2 == 1) = m.getLsbD k := by
  have h : m.getLsbD k = decide (m.toNat / 2 ^ k % 2 = 1) := by
    rw [← BitVec.testBit_toNat, Nat.testBit_eq_decide_div_mod_eq]
  rw [h, ← hq, Bool.eq_iff_iff]
  simp; omega

set_option maxHeartbeats 400000 in
theorem bit_any (m : BitVec 32) (i : Nat) (hi : i ≤ 31) (w : World) :
    Calls Try.prog 41 #[.int .u32 (m.toNat : Int), .int .i64 (i : Int)] w fun e w' => e = .returned (.bool (m.getLsbD (31 - i))) ∧ w = w' := by
  have hm := m.isLt
  have H0 : Hid (m.toNat = m.toNat / 2 ^ (31 - 31)) := Lib.hid (by simp)
  go_enter Try.func41, Try.ntmps41
  go_wp2_with fail
  go_loop [0, 5] (fun mm k => ∃ j q : Nat, i ≤ j ∧ j ≤ 31 ∧ k = .int .i64 (j : Int) ∧ mm = .int .u32 (q : Int) ∧ Hid (q = m.toNat / 2 ^ (31 - j)) ∧ q < 4294967296) (fun _ k => (intOf k).toNat)
  case atStart => exact ⟨31, m.toNat, hi, by omega, rfl, rfl, H0, hm⟩
  case round =>
    obtain ⟨j, q, h1, h2, rfl, rfl, hq, hq2⟩ := hrel
    by_cases hlt : i < j
    · have HQ : Hid (q / 2 = m.toNat / 2 ^ (31 - (j - 1))) := Lib.hid (by
        rw [hq.out, Nat.div_div_eq_div_mul, ← Nat.pow_succ]; congr 2; omega)
      clear hq
      go_wp2_with fail
      go_round
      case rel => exact ⟨j - 1, q / 2, by omega, by omega, by go_num, by go_num, HQ, by omega⟩
      case measure => simp [intOf] <;> omega
    · obtain rfl : j = i := by omega
      have HT := bit_mod m (31 - j) q hq.out
      clear hq H0
      go_wp2_with fail
      go_ret
      exact ⟨rfl, rfl⟩

/-- is the bit at j turned? -/
def cnd (a : Int) (m : BitVec 32) (j : Nat) : Bool := decide (a ≤ j ∧ (j : Int) < a + 32) && m.getLsbD (31 - ((j : Int) - a).toNat)
/-- a byte of which the first k bits are turned -/
def Turned (l : List UInt8) (a : Int) (m : BitVec 32) (i k : Nat) (y : UInt8) : Prop := ∀ b, b < 8 → y.toBitVec.getLsbD (7 - b) = (Crc.bitAt (bv l) (8 * i + b) ^^ (decide (b < k) && cnd a m (8 * i + b)))
theorem bitAt_of {l : List UInt8} {i b : Nat} {x : UInt8} (hx : l[i]? = some x) (hb : b < 8) : Crc.bitAt (bv l) (8 * i + b) = x.toBitVec.getLsbD (7 - b) := by
  unfold Crc.bitAt
  rw [show (8 * i + b) / 8 = i by omega, show (8 * i + b) % 8 = b by omega]
  simp [bv, hx]
theorem Turned.zero {l : List UInt8} (a : Int) (m : BitVec 32) {i : Nat} {x : UInt8} (hx : l[i]? = some x) : Turned l a m i 0 x := by
  intro b hb
  rw [bitAt_of hx hb]; simp
theorem Turned.same {l : List UInt8} {a : Int} {m : BitVec 32} {i k : Nat} {y : UInt8} (h : Turned l a m i k y) (hc : cnd a m (8 * i + k) = false) : Turned l a m i (k + 1) y := by
  intro b hb
  rw [h b hb]
  by_cases hk : b = k
  · subst hk; simp [hc]
  · have : decide (b < k) = decide (b < k + 1) := by simp; omega
    rw [this]
theorem Turned.turn {l : List UInt8} {a : Int} {m : BitVec 32} {i k : Nat} {y z : UInt8} (h : Turned l a m i k y) (hc : cnd a m (8 * i + k) = true) (hk : k < 8) (hz : z.toBitVec = y.toBitVec ^^^ (128#8 >>> k)) : Turned l a m i (k + 1) z := by
  intro b hb
  rw [hz, BitVec.getLsbD_xor, h b hb, Crc.one_bit k b hk hb]
  by_cases hbk : b = k
  · subst hbk; simp [hc]
  · have : decide (b < k) = decide (b < k + 1) := by simp; omega
    rw [this]
    simp [hbk]
theorem Turned.is {l : List UInt8} {a : Int} {m : BitVec 32} {i : Nat} {y : UInt8} (h : Turned l a m i 8 y) (hi : i < l.length) : (spo l a m 32)[i]? = some y := by
  have hl : (spo l a m 32).length = l.length := spo_len _ _ _ _
  have hlt : i < (spo l a m 32).length := by omega
  rw [List.getElem?_eq_getElem hlt]
  congr 1
  have e : (spo l a m 32)[i].toBitVec = y.toBitVec := by
    apply BitVec.eq_of_getLsbD_eq
    intro b hb
    have hx : (spo l a m 32)[i]? = some (spo l a m 32)[i] := List.getElem?_eq_getElem hlt
    have h1 := bitAt_of hx (b := 7 - b) (by omega)
    rw [spo_bv] at h1
    have h2 := Sea.bitAt_spoil (bv l) a m (8 * i + (7 - b)) (by rw [bv_len]; omega)
    have h3 := h (7 - b) (by omega)
    rw [show 7 - (7 - b) = b by omega] at h1 h3
    rw [← h1, h3]
    unfold Sea.spoil at h2
    rw [h2, decide_eq_true (by omega : 7 - b < 8), Bool.true_and]
    rfl
  have := congrArg UInt8.ofBitVec e
  simpa using this
theorem one_at {k : Nat} (hk : k < 8) : ((128 / 2 ^ k : Nat) : Int) = ((128#8 >>> k).toNat : Int) := by
  have h8 : ∀ p : Fin 8, ((128 / 2 ^ p.val : Nat) : Int) = ((128#8 >>> p.val).toNat : Int) := by decide
  exact h8 ⟨k, hk⟩

set_option maxRecDepth 100000 in
set_option maxHeartbeats 1000000 in
theorem ref_spoil_any (A : Option Addr) (n c : Nat) (l : List UInt8) (a : Int) (m : BitVec 32) (w : World) (hb : Bytes w A n l) (hn : n ≤ 100000) (ha0 : -9223372036854775808 ≤ a) (ha1 : a ≤ 9223372036854775807) :
    Calls Try.prog 21 #[.slice A n c, .int .i64 a, .int .u32 (m.toNat : Int)] w fun e w' => ∃ v, e = .returned v ∧ w'.ownsRow w.heap.size 5 1 v n (u8s (spo l a m 32)) ∧ Grow w w' := by
  have hlen := hb.len
  obtain ⟨L, hL⟩ : ∃ L, L = spo l a m 32 := ⟨_, rfl⟩
  rw [← hL]
  have hLl : L.length = n := by rw [hL, spo_len, hlen]
  have HIS : Hid (∀ i y, i < n → Turned l a m i 8 y → L[i]? = some y) := Lib.hid (fun i y hi h => by rw [hL]; exact h.is (by omega))
  have HLL := Lib.hid hLl
  clear hL hLl hlen
  go_enter Try.func21, Try.ntmps21
  go_wp2_with fail
  go_loopw [7, 8] (fun v i wr => ∃ k : Nat, k ≤ n ∧ i = .int .i64 (k : Int) ∧ wr.ownsRow w.heap.size 5 1 v k (u8s (L.take k)) ∧ Grow w wr) (fun _ i _ => n - (intOf i).toNat)
  case atStart => exact ⟨0, by omega, rfl, own_none _ _ _, Grow.refl _⟩
  case round =>
    obtain ⟨i, hi, rfl, ho, hg⟩ := hrel
    by_cases hlt : i < n
    · obtain ⟨b, off, x, rfl, hx, hcell⟩ := (hb.grow hg).at_ hlt
      have hxlt := x.toNat_lt
      have HO := Lib.hid ho
      have HG := Lib.hid hg
      have HT0 := Lib.hid (Turned.zero a m hx)
      clear ho hg hx
      go_wp2_with fail
      go_loop [9, 10] (fun y k => ∃ (j : Nat) (z : UInt8), j ≤ 8 ∧ k = .int .i64 (j : Int) ∧ y = .int .u8 (z.toNat : Int) ∧ Hid (Turned l a m i j z)) (fun _ k => 8 - (intOf k).toNat)
      case atStart => exact ⟨0, x, by omega, rfl, rfl, HT0⟩
      case round =>
        obtain ⟨j, y, hj, rfl, rfl, HT⟩ := hrel
        have hylt := y.toNat_lt
        clear HT0 hcell hxlt
        by_cases hjlt : j < 8
        · have hplace : 8 * (i : Int) + (j : Int) = ((8 * i + j : Nat) : Int) := by omega
          obtain ⟨p, hp⟩ : ∃ p : Nat, p = 8 * i + j := ⟨_, rfl⟩
          rw [← hp] at hplace
          by_cases hc1 : a ≤ (p : Int)
          · by_cases hc2 : (p : Int) - 32 < a
            · obtain ⟨q, hq⟩ : ∃ q : Nat, (p : Int) - a = (q : Int) := ⟨((p : Int) - a).toNat, by omega⟩
              have hq31 : q ≤ 31 := by omega
              have hcn : cnd a m p = m.getLsbD (31 - q) := by
                unfold cnd
                rw [decide_eq_true (by omega), hq, Bool.true_and]; rfl
              have HB := Lib.hid (fun W => bit_any m q hq31 W)
              cases hbit : m.getLsbD (31 - q)
              · have HTS := Lib.hid (HT.out.same (by rw [← hp, hcn, hbit]))
                have HBB := Lib.hid hbit
                clear hcn hbit HT hp
                go_wp2_with fail
                refine (HB.out _).mono ?_
                rintro e w1 ⟨rfl, rfl⟩
                rw [HBB.out]
                go_wp2_with fail
                go_round
                case rel => exact ⟨j + 1, y, by omega, by go_num, rfl, HTS⟩
                case measure => simp [intOf] <;> omega
              · obtain ⟨z, hz⟩ : ∃ z : UInt8, z = ⟨y.toBitVec ^^^ (128#8 >>> j)⟩ := ⟨_, rfl⟩
                have HTS := Lib.hid (HT.out.turn (z := z) (by rw [← hp, hcn, hbit]) hjlt (by rw [hz]))
                have hx8 : bits .xor .u8 (y.toNat : Int) ((128 / 2 ^ j : Nat) : Int) = (z.toNat : Int) := by
                  rw [one_at hjlt, hz]; exact xor8 rfl rfl
                have HX8 := Lib.hid hx8
                have HBB := Lib.hid hbit
                clear hcn hbit HT hp hz hx8
                go_wp2_with fail
                refine (HB.out _).mono ?_
                rintro e w1 ⟨rfl, rfl⟩
                rw [HBB.out]
                go_wp2_with fail
                go_loop [12, 13] (fun o k => ∃ t q : Nat, t ≤ j ∧ k = .int .i64 (t : Int) ∧ o = .int .u8 (q : Int) ∧ Hid (q = 128 / 2 ^ t) ∧ q ≤ 128) (fun _ k => j - (intOf k).toNat)
                case atStart => exact ⟨0, 128, by omega, rfl, rfl, Lib.hid rfl, by omega⟩
                case round =>
                  obtain ⟨t, q, ht, rfl, rfl, hq, hq2⟩ := hrel
                  by_cases htl : t < j
                  · have HQ : Hid (q / 2 = 128 / 2 ^ (t + 1)) := Lib.hid (by rw [hq.out, Nat.div_div_eq_div_mul, ← Nat.pow_succ])
                    clear hq
                    go_wp2_with fail
                    go_round
                    case rel => exact ⟨t + 1, q / 2, by omega, by go_num, by go_num, HQ, by omega⟩
                    case measure => simp [intOf] <;> omega
                  · obtain rfl : t = j := by omega
                    have hx := HX8.out
                    rw [← hq.out] at hx
                    clear hq
                    go_wp2_with fail
                    go_round
                    case rel => exact ⟨t + 1, z, by omega, by go_num, rfl, HTS⟩
                    case measure => simp [intOf] <;> omega
            · have HTS := Lib.hid (HT.out.same (by rw [← hp]; unfold cnd; rw [decide_eq_false (by omega)]; rfl))
              have t2 : decide ((p : Int) - 32 < a) = false := decide_eq_false hc2
              clear HT hp
              go_wp2_with fail
              go_round
              case rel => exact ⟨j + 1, y, by omega, by go_num, rfl, HTS⟩
              case measure => simp [intOf] <;> omega
          · have HTS := Lib.hid (HT.out.same (by rw [← hp]; unfold cnd; rw [decide_eq_false (by omega)]; rfl))
            clear HT hp
            go_wp2_with fail
            go_round
            case rel => exact ⟨j + 1, y, by omega, by go_num, rfl, HTS⟩
            case measure => simp [intOf] <;> omega
        · obtain rfl : j = 8 := by omega
          have hy := HIS.out i y hlt HT.out
          have HT1 : Hid (L.take (i + 1) = L.take i ++ [y]) := Lib.hid (by rw [List.take_add_one, hy]; rfl)
          have hown := HO.out
          have hsz : w.heap.size ≤ wr.heap.size := HG.out.size
          clear hy HT
          go_wp2_with (at_builtin; refine append_fresh 1 Try.underlying26 i8 i8z i8s i8b rfl rfl _ _ rfl w.heap.size _ _ _ hown rfl rfl rfl ?_ ?_ ?_ ?_; (unfold maxLen; omega); omega; exact hsz; intro v1 w1 hown1 hgb1 hh1)
          go_roundw
          case rel =>
            refine ⟨i + 1, by omega, by go_num, ?_, grow_by (HG.out.trans (Grow.alloc wr _)) hgb1 (own_base hown)⟩
            rw [HT1.out]
            simpa [u8s, u8v] using hown1
          case measure => simp [intOf] <;> omega
    · obtain rfl : i = n := by omega
      have e : L.take i = L := List.take_of_length_le (by have := HLL.out; omega)
      rw [e] at ho
      have HO := Lib.hid ho
      clear e ho
      obtain ⟨A1, c1, rfl, -, -, -⟩ := own_form HO.out
      go_wp2_with fail
      go_ret
      exact ⟨_, rfl, HO.out, hg⟩
end Go.Proofs.Ytmekdhlcflielaa.slW
