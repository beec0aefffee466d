/- The walk of Spoil. -/
import Derived.Test.YtmekdhlcflielaaNsp
namespace Go.Proofs.Ytmekdhlcflielaa.slW
open Go Go.RowKit Go.Par Go.Kit Go.Proofs.Ytmekdhlcflielaa.cl Go.Proofs.Ytmekdhlcflielaa.crcW

theorem own_some {w : World} {base e n c : Nat} {A : Option Addr} {xs : List Value} (h : w.ownsRow base e 1 (.slice A n c) n xs) (hn : 0 < n) : ∃ g, A = some ⟨g, 0, none⟩ ∧ base ≤ g := by
  obtain ⟨g, cap, hv, h1, _⟩ := h.form hn
  injection hv with e1
  exact ⟨g, e1, h1⟩
theorem xor_at {x y : UInt8} {p : Nat} (hp : p < 8) (h : y.toBitVec = x.toBitVec ^^^ (128#8 >>> p)) : bits .xor .u8 (x.toNat : Int) (2 ^ (7 - p) % 256) = (y.toNat : Int) := by
  have e : (2 : Int) ^ (7 - p) % 256 = ((128#8 >>> p).toNat : Int) := by
    have h8 : ∀ p : Fin 8, (2 : Int) ^ (7 - p.val) % 256 = ((128#8 >>> p.val).toNat : Int) := by decide
    exact h8 ⟨p, hp⟩
  have e2 : bits .xor .u8 (x.toNat : Int) ((128#8 >>> p).toNat : Int) = ((x.toBitVec ^^^ 128#8 >>> p).toNat : Int) := xor8 rfl rfl
  rw [e, e2, ← h]; rfl
theorem bit_test (m : BitVec 32) (k : Nat) : (bits .and .u32 ((m.toNat : Int) / 2 ^ k) 1 == 1) = m.getLsbD k := by
  have e : bits .and .u32 ((m.toNat : Int) / 2 ^ k) 1 = ((m >>> k &&& 1#32).toNat : Int) := and32 (shr32 m k).symm rfl
  have h2 : m >>> k &&& 1#32 = if m.getLsbD k then 1#32 else 0#32 := by
    apply BitVec.eq_of_getLsbD_eq
    intro i hi
    rw [BitVec.getLsbD_and, BitVec.getLsbD_ushiftRight]
    rcases Nat.eq_zero_or_pos i with h | h
    · subst h
      cases m.getLsbD k <;> simp
    · have : (1#32).getLsbD i = false := by simp [BitVec.getLsbD_one]; omega
      rw [this]
      cases m.getLsbD k <;> simp <;> omega
  rw [e, h2]
  cases m.getLsbD k <;> rfl

set_option maxHeartbeats 400000 in
theorem spoil_any (A : Option Addr) (n c : Nat) (l : List UInt8) (a : Int) (m : BitVec 32) (w : World) (hb : Bytes w A n l) (hn : n ≤ 100000) :
    Calls Try.prog 42 #[.slice A n c, .int .i64 a, .int .u32 (m.toNat : Int)] w fun e w' => ∃ v, e = .returned v ∧ w'.ownsRow w.heap.size 5 1 v n (u8s (spo l a m 32)) ∧ Grow w w' := by
  have hlen := hb.len
  have HCL := Lib.hid (clone_any A n c l w hb (by omega))
  obtain ⟨B, hB⟩ : ∃ B, B = w.heap.size := ⟨_, rfl⟩
  rw [← hB]
  have HB := Lib.hid hB
  by_cases h1 : a ≤ -32
  · have he := spo_ahead l a m 32 (by omega)
    rw [he]
    have HL := Lib.hid hlen
    clear he hlen hB
    go_enter Try.func42, Try.ntmps42
    go_wp2_with fail
    refine HCL.out.mono ?_
    rintro e w1 ⟨v, rfl, ho, hg⟩
    rw [HL.out] at ho
    obtain ⟨A1, c1, rfl, -, -, -⟩ := own_form ho
    have HO := Lib.hid ho
    clear ho
    go_wp2_with fail
    go_ret
    exact ⟨_, rfl, by rw [HB.out]; exact HO.out, hg⟩
  · by_cases h2 : 8 * (n : Int) ≤ a
    · have he : spo l a m 32 = spo l a m 0 := spo_behind l a m 0 (by omega) 32
      rw [spo_zero] at he
      rw [he]
      have HL := Lib.hid hlen
      clear he hlen hB
      go_enter Try.func42, Try.ntmps42
      go_wp2_with fail
      refine HCL.out.mono ?_
      rintro e w1 ⟨v, rfl, ho, hg⟩
      rw [HL.out] at ho
      obtain ⟨A1, c1, rfl, -, -, -⟩ := own_form ho
      have HO := Lib.hid ho
      clear ho
      go_wp2_with fail
      go_ret
      exact ⟨_, rfl, by rw [HB.out]; exact HO.out, hg⟩
    · obtain ⟨st, hst⟩ : ∃ st : Nat, st = (-a).toNat := ⟨_, rfl⟩
      have hmax := fun ts t W => run_max2i (P := Try.prog) ts t 0 (-a) (st : Int) (by omega) W
      have hs32 : st ≤ 32 := by omega
      have hsp : Hid (spo l a m st = l) := Lib.hid (by
        rcases Nat.eq_zero_or_pos st with h | h
        · rw [h, spo_zero]
        · exact spo_ahead l a m st (by omega))
      have HL := Lib.hid hlen
      have HST := Lib.hid hst
      clear hlen hB hst
      go_enter Try.func42, Try.ntmps42
      go_wp2_with fail
      refine HCL.out.mono ?_
      rintro e w1 ⟨v, rfl, ho, hg⟩
      rw [HL.out] at ho
      obtain ⟨A1, c1, rfl, -, -, -⟩ := own_form ho
      have HO := Lib.hid ho
      have HG := Lib.hid hg
      clear ho hg
      go_wp2_with fail
      go_loopw [8] (fun i wr => ∃ k : Nat, st ≤ k ∧ k ≤ 32 ∧ i = .int .i64 (k : Int) ∧ wr.ownsRow B 5 1 (.slice A1 n c1) n (u8s (spo l a m k)) ∧ Grow w wr) (fun i _ => 32 - (intOf i).toNat)
      case atStart => exact ⟨st, Nat.le_refl _, hs32, rfl, by rw [hsp.out]; exact own_lower HO.out (Nat.le_of_eq HB.out), HG.out⟩
      case round =>
        obtain ⟨k, hk0, hk, rfl, ho, hgr⟩ := hrel
        by_cases hlt : k < 32
        · by_cases hin : a + (k : Int) < 8 * (n : Int)
          · obtain ⟨j, hj⟩ : ∃ j : Nat, a + (k : Int) = (j : Int) := ⟨(a + (k : Int)).toNat, by have := HST.out; omega⟩
            have hib : Sea.inB a l.length k = true := by unfold Sea.inB; rw [decide_eq_true (by omega), decide_eq_true (by have := HL.out; omega)]; rfl
            cases hbit : m.getLsbD (31 - k)
            · have hsame := spo_same (l := l) (a := a) (m := m) (k := k) (by rw [hbit]; rfl)
              have HT : (bits .and .u32 ((m.toNat : Int) / 2 ^ (31 - k)) 1 == 1) = false := by rw [bit_test, hbit]
              rw [← hsame] at ho
              have HO := Lib.hid ho
              have HGR := Lib.hid hgr
              clear ho hgr hsame hbit hib
              go_wp2_with fail
              go_roundw
              case rel => exact ⟨k + 1, by omega, by omega, by go_num, HO.out, HGR.out⟩
              case measure => simp [intOf] <;> omega
            · have HT : (bits .and .u32 ((m.toNat : Int) / 2 ^ (31 - k)) 1 == 1) = true := by rw [bit_test, hbit]
              have hj8 : j / 8 < n := by omega
              obtain ⟨g, rfl, hgB⟩ := own_some ho (by omega)
              have hxl : j / 8 < (spo l a m k).length := by rw [spo_len]; have := HL.out; omega
              obtain ⟨x, hx⟩ : ∃ x, (spo l a m k)[j / 8]? = some x := ⟨_, List.getElem?_eq_getElem hxl⟩
              have hcell : wr.cell? ⟨g, j / 8, none⟩ = some (.int .u8 (x.toNat : Int)) := by rw [ho.cellAt _ (by omega)]; simp [u8s, hx]; rfl
              have hf := ho.frozenAt (j / 8)
              have hturn := Lib.hid (spo_turn (l := l) (a := a) (m := m) (k := k) (j := j) (x := x) (by rw [hbit, hib]; rfl) hj hx)
              obtain ⟨y, hy⟩ : ∃ y : UInt8, y = ⟨x.toBitVec ^^^ (128#8 >>> (j % 8))⟩ := ⟨_, rfl⟩
              rw [← hy] at hturn
              have hxor := xor_at (x := x) (y := y) (p := j % 8) (by omega) (by rw [hy])
              have hylt := y.toNat_lt
              have hxlt := x.toNat_lt
              have HO := Lib.hid ho
              have HGR := Lib.hid hgr
              have hgb : w.heap.size ≤ g := by have := HB.out; omega
              clear ho hgr hbit hib hx hy
              go_wp2_with fail
              go_roundw
              case rel => exact ⟨k + 1, by omega, by omega, by go_num, by rw [hturn.out, u8s, List.map_set]; exact (HO.out.stored (j / 8) _).1, Grow.set_ HGR.out hgb _⟩
              case measure => simp [intOf] <;> omega
          · have hbe := fun j => spo_behind l a m k (by have := HL.out; omega) j
            have he : spo l a m k = spo l a m 32 := by have := hbe (32 - k); rw [show k + (32 - k) = 32 by omega] at this; exact this.symm
            rw [he] at ho
            have HO := Lib.hid ho
            have HGR := Lib.hid hgr
            clear ho hgr he hbe
            go_wp2_with fail
            go_ret
            exact ⟨_, rfl, HO.out, HGR.out⟩
        · obtain rfl : k = 32 := by omega
          have HO := Lib.hid ho
          have HGR := Lib.hid hgr
          clear ho hgr
          go_wp2_with fail
          go_ret
          exact ⟨_, rfl, HO.out, HGR.out⟩
end Go.Proofs.Ytmekdhlcflielaa.slW
