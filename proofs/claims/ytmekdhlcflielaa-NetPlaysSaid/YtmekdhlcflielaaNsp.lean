/- Spoiled bits: the plain law, of bytes. -/
import Derived.Test.YtmekdhlcflielaaSpB
namespace Go.Proofs.Ytmekdhlcflielaa.slW
open Go Go.RowKit Go.Par Go.Kit Go.Proofs.Ytmekdhlcflielaa.cl Go.Proofs.Ytmekdhlcflielaa.crcW

/-- the bytes behind k bits of the word -/
def spo (l : List UInt8) (a : Int) (m : BitVec 32) (k : Nat) : List UInt8 := (Sea.spoilTo (bv l) a m k).map UInt8.ofBitVec
theorem bv_of (l : List (BitVec 8)) : bv (l.map UInt8.ofBitVec) = l := by simp [bv, List.map_map, Function.comp_def]
theorem spo_bv (l : List UInt8) (a : Int) (m : BitVec 32) (k : Nat) : bv (spo l a m k) = Sea.spoilTo (bv l) a m k := bv_of _
theorem bv_len (l : List UInt8) : (bv l).length = l.length := by simp [bv]
theorem spo_len (l : List UInt8) (a : Int) (m : BitVec 32) (k : Nat) : (spo l a m k).length = l.length := by
  rw [← bv_len, spo_bv, Sea.spoilTo_len, bv_len]
theorem spo_zero (l : List UInt8) (a : Int) (m : BitVec 32) : spo l a m 0 = l := by
  apply bv_inj; rw [spo_bv]; rfl
/-- a bit that is not turned -/
theorem spo_same {l : List UInt8} {a : Int} {m : BitVec 32} {k : Nat} (h : (m.getLsbD (31 - k) && Sea.inB a l.length k) = false) : spo l a m (k + 1) = spo l a m k := by
  show List.map UInt8.ofBitVec (if (m.getLsbD (31 - k) && Sea.inB a (bv l).length k) = true then _ else _) = _
  rw [bv_len, h]
  rfl
/-- a bit that is turned -/
theorem spo_turn {l : List UInt8} {a : Int} {m : BitVec 32} {k j : Nat} {x : UInt8} (h : (m.getLsbD (31 - k) && Sea.inB a l.length k) = true) (hj : a + k = (j : Int)) (hx : (spo l a m k)[j / 8]? = some x) :
    spo l a m (k + 1) = (spo l a m k).set (j / 8) ⟨x.toBitVec ^^^ (128#8 >>> (j % 8))⟩ := by
  have e : spo l a m (k + 1) = (Crc.flip (Sea.spoilTo (bv l) a m k) (a + k).toNat).map UInt8.ofBitVec := by
    show List.map UInt8.ofBitVec (if (m.getLsbD (31 - k) && Sea.inB a (bv l).length k) = true then _ else _) = _
    rw [bv_len, h]
    rfl
  have hl := (List.getElem?_eq_some_iff.1 hx).1
  rw [e, hj, Int.toNat_natCast]
  apply bv_inj
  rw [bv_of, ← spo_bv]
  unfold Crc.flip
  apply List.ext_getElem?
  intro i
  rw [List.getElem?_modify]
  unfold bv
  rw [List.getElem?_map, List.getElem?_map, List.getElem?_set]
  by_cases hi : j / 8 = i
  · subst hi
    rw [if_pos rfl, if_pos hl, hx]
    simp
  · rw [if_neg hi]
    simp [hi]
/-- nothing is turned ahead of the bytes -/
theorem spo_ahead (l : List UInt8) (a : Int) (m : BitVec 32) : ∀ k : Nat, a + k ≤ 0 → spo l a m k = l
  | 0, _ => spo_zero l a m
  | k + 1, h => by
    rw [spo_same (by rw [show Sea.inB a l.length k = false by unfold Sea.inB; rw [decide_eq_false (by omega), Bool.false_and], Bool.and_false]), spo_ahead l a m k (by omega)]
/-- nor behind them -/
theorem spo_behind (l : List UInt8) (a : Int) (m : BitVec 32) (k : Nat) (h : 8 * (l.length : Int) ≤ a + k) : ∀ j : Nat, spo l a m (k + j) = spo l a m k
  | 0 => rfl
  | j + 1 => by
    rw [← Nat.add_assoc, spo_same (by rw [show Sea.inB a l.length (k + j) = false by unfold Sea.inB; rw [decide_eq_false (p := a + ((k + j : Nat) : Int) < 8 * (l.length : Int)) (by omega), Bool.and_false], Bool.and_false]), spo_behind l a m k h j]
end Go.Proofs.Ytmekdhlcflielaa.slW
