/- Plain law of what is sealed: four bytes of a sum, what is opened, bits that are turned anywhere. -/
import Derived.Test.YtmekdhlcflielaaBurst
namespace Go.Proofs.Ytmekdhlcflielaa.Sea
open Crc

/-- a sum's four bytes -/
def four4 (n : BitVec 32) : List (BitVec 8) := [(n >>> 24).setWidth 8, (n >>> 16).setWidth 8, (n >>> 8).setWidth 8, n.setWidth 8]
theorem four4_len (n : BitVec 32) : (four4 n).length = 4 := rfl
def join1 (s : BitVec 32) (x : BitVec 8) : BitVec 32 := s <<< 8 ||| x.setWidth 32
def join4 (l : List (BitVec 8)) : BitVec 32 := l.foldl join1 0#32
theorem at8 (n : BitVec 32) (k i : Nat) (hi : i < 8) : ((n >>> k).setWidth 8).getLsbD i = n.getLsbD (k + i) := by
  simp [hi, BitVec.getLsbD_ushiftRight]
theorem four4_bit (n : BitVec 32) (j : Nat) (hj : j < 32) : bitAt (four4 n) j = n.getLsbD (31 - j) := by
  unfold bitAt four4
  have h : j / 8 = 0 ∨ j / 8 = 1 ∨ j / 8 = 2 ∨ j / 8 = 3 := by omega
  have hlt : 7 - j % 8 < 8 := by omega
  rcases h with h | h | h | h
  · rw [h]; show ((n >>> 24).setWidth 8).getLsbD (7 - j % 8) = _; rw [at8 n 24 _ hlt]; congr 1; omega
  · rw [h]; show ((n >>> 16).setWidth 8).getLsbD (7 - j % 8) = _; rw [at8 n 16 _ hlt]; congr 1; omega
  · rw [h]; show ((n >>> 8).setWidth 8).getLsbD (7 - j % 8) = _; rw [at8 n 8 _ hlt]; congr 1; omega
  · rw [h]
    show (n.setWidth 8).getLsbD (7 - j % 8) = _
    rw [BitVec.getLsbD_setWidth]
    simp only [hlt, decide_true, Bool.true_and]
    congr 1; omega
theorem bits_ext {a b : List (BitVec 8)} (hl : a.length = b.length) (h : ∀ j, j < 8 * a.length → bitAt a j = bitAt b j) : a = b := by
  apply List.ext_getElem hl
  intro k h1 h2
  apply BitVec.eq_of_getLsbD_eq
  intro i hi
  have := h (8 * k + (7 - i)) (by omega)
  unfold bitAt at this
  rw [show (8 * k + (7 - i)) / 8 = k by omega, show 7 - (8 * k + (7 - i)) % 8 = i by omega, List.getElem?_eq_getElem h1, List.getElem?_eq_getElem h2] at this
  simpa using this
theorem join1_at (s : BitVec 32) (x : BitVec 8) (i : Nat) (hi : i < 32) : (join1 s x).getLsbD i = if i < 8 then x.getLsbD i else s.getLsbD (i - 8) := by
  unfold join1
  rw [BitVec.getLsbD_or, BitVec.getLsbD_shiftLeft, BitVec.getLsbD_setWidth]
  by_cases h : i < 8
  · simp [h, hi]
  · have : x.getLsbD i = false := BitVec.getLsbD_of_ge x i (by omega)
    simp [h, hi, this]
theorem join4_of (a b c d : BitVec 8) (i : Nat) (hi : i < 32) : (join4 [a, b, c, d]).getLsbD i = bitAt [a, b, c, d] (31 - i) := by
  unfold join4
  simp only [List.foldl_cons, List.foldl_nil]
  rw [join1_at _ _ _ hi]
  unfold bitAt
  by_cases h1 : i < 8
  · rw [if_pos h1, show (31 - i) / 8 = 3 by omega, show 7 - (31 - i) % 8 = i by omega]; rfl
  · rw [if_neg h1, join1_at _ _ _ (by omega)]
    by_cases h2 : i - 8 < 8
    · rw [if_pos h2, show (31 - i) / 8 = 2 by omega, show 7 - (31 - i) % 8 = i - 8 by omega]; rfl
    · rw [if_neg h2, join1_at _ _ _ (by omega)]
      by_cases h3 : i - 8 - 8 < 8
      · rw [if_pos h3, show (31 - i) / 8 = 1 by omega, show 7 - (31 - i) % 8 = i - 8 - 8 by omega]; rfl
      · rw [if_neg h3, join1_at _ _ _ (by omega), if_pos (by omega), show (31 - i) / 8 = 0 by omega, show 7 - (31 - i) % 8 = i - 8 - 8 - 8 by omega]; rfl
theorem four4_join {l : List (BitVec 8)} (hl : l.length = 4) : four4 (join4 l) = l := by
  obtain ⟨a, b, c, d, rfl⟩ : ∃ a b c d, l = [a, b, c, d] := by
    match l, hl with
    | [a, b, c, d], _ => exact ⟨a, b, c, d, rfl⟩
  refine bits_ext rfl fun j hj => ?_
  have hj : j < 32 := hj
  rw [four4_bit _ _ hj, join4_of _ _ _ _ _ (by omega)]
  congr 1; omega
theorem join4_four (n : BitVec 32) : join4 (four4 n) = n := by
  apply BitVec.eq_of_getLsbD_eq
  intro i hi
  unfold four4
  rw [join4_of _ _ _ _ _ hi]
  have := four4_bit n (31 - i) (by omega)
  unfold four4 at this
  rw [this]; congr 1; omega
theorem four4_word (n : BitVec 32) : allBits (four4 n) = wordBits n 32 := by
  apply List.ext_getElem?
  intro j
  by_cases hj : j < 32
  · rw [allBits_at _ j (by simpa [four4] using hj), four4_bit n j hj, wordBits_at 32 n j hj (by omega)]
  · rw [List.getElem?_eq_none (by rw [allBits_len]; simp [four4]; omega), List.getElem?_eq_none (by rw [wordBits_len]; omega)]
/-- whatever was sealed has one sum -/
theorem residue (s : BitVec 32) : more s (four4 s) = ~~~ steps 32 (BitVec.allOnes 32) := by
  unfold more
  rw [reg_bits, four4_word, word_fold 32 (by omega) s _ (fun i hi => by omega)]
  congr 2
  apply BitVec.eq_of_getLsbD_eq
  intro i hi
  rw [BitVec.getLsbD_xor, BitVec.getLsbD_not, BitVec.getLsbD_allOnes]
  simp [hi]

def sealed (l : List (BitVec 8)) : List (BitVec 8) := l ++ four4 (more 0#32 l)
theorem sealed_len (l : List (BitVec 8)) : (sealed l).length = l.length + 4 := by simp [sealed, four4_len]
theorem sealed_sum (l : List (BitVec 8)) : more 0#32 (sealed l) = ~~~ steps 32 (BitVec.allOnes 32) := by
  unfold sealed
  rw [more_append, residue]
/-- what is opened: the bytes, the error's number -/
def opened (l : List (BitVec 8)) : List (BitVec 8) × Nat :=
  if l.length < 4 then ([], 2) else
  if join4 (l.drop (l.length - 4)) = more 0#32 (l.take (l.length - 4)) then (l.take (l.length - 4), 0) else ([], 5)
theorem opened_sealed (l : List (BitVec 8)) : opened (sealed l) = (l, 0) := by
  unfold opened
  have h := sealed_len l
  have h1 : (sealed l).length - 4 = l.length := by omega
  rw [if_neg (by omega), h1]
  unfold sealed
  rw [List.drop_left, List.take_left, join4_four, if_pos rfl]
theorem opened_sum {t : List (BitVec 8)} (h : 4 ≤ t.length) (ho : join4 (t.drop (t.length - 4)) = more 0#32 (t.take (t.length - 4))) : more 0#32 t = ~~~ steps 32 (BitVec.allOnes 32) := by
  have h4 : (t.drop (t.length - 4)).length = 4 := by simp; omega
  have h1 : t = t.take (t.length - 4) ++ four4 (more 0#32 (t.take (t.length - 4))) := by
    rw [← ho, four4_join h4, List.take_append_drop]
  rw [h1]
  exact sealed_sum _

/-! bits turned anywhere -/
def inB (at_ : Int) (n k : Nat) : Bool := decide (0 ≤ at_ + k) && decide (at_ + k < 8 * n)
def spoilTo (l : List (BitVec 8)) (at_ : Int) (m : BitVec 32) : Nat → List (BitVec 8)
  | 0 => l
  | k + 1 => if m.getLsbD (31 - k) && inB at_ l.length k then flip (spoilTo l at_ m k) (at_ + k).toNat else spoilTo l at_ m k
def spoil (l : List (BitVec 8)) (at_ : Int) (m : BitVec 32) : List (BitVec 8) := spoilTo l at_ m 32
theorem spoilTo_len (l : List (BitVec 8)) (at_ : Int) (m : BitVec 32) : ∀ k, (spoilTo l at_ m k).length = l.length
  | 0 => rfl
  | k + 1 => by
    unfold spoilTo
    split
    · rw [flip_len, spoilTo_len l at_ m k]
    · exact spoilTo_len l at_ m k
theorem bitAt_spoilTo (l : List (BitVec 8)) (at_ : Int) (m : BitVec 32) (j : Nat) (hj : j < 8 * l.length) : ∀ k, bitAt (spoilTo l at_ m k) j = (bitAt l j ^^ (decide (at_ ≤ j ∧ j < at_ + k) && m.getLsbD (31 - (j - at_).toNat)))
  | 0 => by
    have : decide (at_ ≤ j ∧ j < at_ + (0 : Nat)) = false := decide_eq_false (by omega)
    rw [this]
    simp [spoilTo]
  | k + 1 => by
    have ih := bitAt_spoilTo l at_ m j hj k
    unfold spoilTo
    by_cases hk : (j : Int) = at_ + k
    · have h1 : ¬ (at_ ≤ j ∧ j < at_ + (k : Nat)) := by omega
      have h2 : decide (at_ ≤ j ∧ j < at_ + ((k + 1 : Nat) : Int)) = true := decide_eq_true (by omega)
      have h3 : (j - at_).toNat = k := by omega
      have h4 : inB at_ l.length k = true := by unfold inB; simp; omega
      have h5 : (at_ + k).toNat = j := by omega
      rw [decide_eq_false h1] at ih
      simp only [Bool.false_and, Bool.xor_false] at ih
      rw [h2, h3, h4, h5, Bool.true_and, Bool.and_true]
      by_cases hm : m.getLsbD (31 - k) = true
      · rw [if_pos hm, bitAt_flip _ _ _ (by rw [spoilTo_len]; exact hj), ih, hm]
        simp
      · rw [if_neg hm, ih]
        simp only [Bool.not_eq_true] at hm
        simp [hm]
    · have h1 : (at_ ≤ j ∧ j < at_ + ((k + 1 : Nat) : Int)) ↔ (at_ ≤ j ∧ j < at_ + (k : Nat)) := by omega
      simp only [h1]
      by_cases hm : (m.getLsbD (31 - k) && inB at_ l.length k) = true
      · rw [if_pos hm, bitAt_flip _ _ _ (by rw [spoilTo_len]; exact hj), ih]
        have h5 : ¬ j = (at_ + k).toNat := by
          simp only [Bool.and_eq_true, inB, decide_eq_true_eq] at hm
          omega
        simp [h5]
      · rw [if_neg hm, ih]
theorem spoil_len (l : List (BitVec 8)) (at_ : Int) (m : BitVec 32) : (spoil l at_ m).length = l.length := spoilTo_len l at_ m 32
theorem bitAt_spoil (l : List (BitVec 8)) (at_ : Int) (m : BitVec 32) (j : Nat) (hj : j < 8 * l.length) : bitAt (spoil l at_ m) j = (bitAt l j ^^ (decide (at_ ≤ j ∧ j < at_ + 32) && m.getLsbD (31 - (j - at_).toNat))) := bitAt_spoilTo l at_ m j hj 32
theorem spoil_back (l : List (BitVec 8)) (at_ : Int) (m : BitVec 32) : spoil (spoil l at_ m) at_ m = l := by
  refine bits_ext (by rw [spoil_len, spoil_len]) fun j hj => ?_
  rw [spoil_len, spoil_len] at hj
  rw [bitAt_spoil _ _ _ _ (by rw [spoil_len]; exact hj), bitAt_spoil _ _ _ _ hj, Bool.xor_assoc, Bool.xor_self, Bool.xor_false]
theorem spoil_out {l : List (BitVec 8)} {at_ : Int} {m : BitVec 32} (h : at_ ≤ -32 ∨ 8 * (l.length : Int) ≤ at_) : spoil l at_ m = l := by
  refine bits_ext (spoil_len _ _ _) fun j hj => ?_
  rw [spoil_len] at hj
  rw [bitAt_spoil _ _ _ _ hj]
  have : decide (at_ ≤ j ∧ (j : Int) < at_ + 32) = false := decide_eq_false (by omega)
  rw [this, Bool.false_and, Bool.xor_false]
/-- the word that is laid on from a place within -/
def inWord (at_ : Int) (m : BitVec 32) (a : Nat) (n : Nat) : BitVec 32 :=
  BitVec.ofNat 32 0 ||| (List.range 32).foldr (fun i w => if decide (at_ ≤ (a + i : Nat) ∧ ((a + i : Nat) : Int) < at_ + 32) && m.getLsbD (31 - ((a + i : Nat) - at_).toNat) && decide (a + i < 8 * n) then w ||| 1#32 <<< (31 - i) else w) 0#32
theorem one32 (k i : Nat) (hk : k < 32) (hi : i < 32) : (1#32 <<< k).getLsbD i = decide (i = k) := by
  rw [BitVec.getLsbD_shiftLeft, BitVec.getLsbD_one]
  by_cases h : i = k
  · subst h; simp [hi]
  · by_cases h2 : i < k
    · simp [h2, h]
    · simp [h, h2]; omega
theorem pick_at (f : Nat → Bool) (i : Nat) (hi : i < 32) : ∀ (l : List Nat), (∀ x ∈ l, x < 32) → (l.foldr (fun i w => if f i then w ||| 1#32 <<< (31 - i) else w) 0#32).getLsbD (31 - i) = (f i && l.contains i)
  | [], _ => by simp
  | x :: l, h => by
    have ih := pick_at f i hi l (fun y hy => h y (List.mem_cons_of_mem _ hy))
    have hx := h x List.mem_cons_self
    simp only [List.foldr_cons, List.contains_cons]
    by_cases hf : f x = true
    · rw [if_pos hf, BitVec.getLsbD_or, ih, one32 _ _ (by omega) (by omega)]
      by_cases hxi : i = x
      · subst hxi; simp [hf]
      · have : ¬ (31 - i = 31 - x) := by omega
        have h2 : (i == x) = false := beq_false_of_ne hxi
        simp [this, h2]
    · rw [if_neg hf, ih]
      by_cases hxi : i = x
      · subst hxi; simp at hf; simp [hf]
      · have h2 : (i == x) = false := beq_false_of_ne hxi
        simp [h2]
theorem inWord_at (at_ : Int) (m : BitVec 32) (a n i : Nat) (hi : i < 32) : (inWord at_ m a n).getLsbD (31 - i) = (decide (at_ ≤ (a + i : Nat) ∧ ((a + i : Nat) : Int) < at_ + 32) && m.getLsbD (31 - ((a + i : Nat) - at_).toNat) && decide (a + i < 8 * n)) := by
  unfold inWord
  rw [BitVec.getLsbD_or, pick_at (fun i => decide (at_ ≤ (a + i : Nat) ∧ ((a + i : Nat) : Int) < at_ + 32) && m.getLsbD (31 - ((a + i : Nat) - at_).toNat) && decide (a + i < 8 * n)) i hi _ (fun x hx => List.mem_range.1 hx)]
  simp [hi]
/-- **NO DAMAGE WITHIN 32 BITS IS LET THROUGH** -/
theorem spoilt_sum {l : List (BitVec 8)} {at_ : Int} {m : BitVec 32} (hl : 4 ≤ l.length) (hne : spoil l at_ m ≠ l) : more 0#32 (spoil l at_ m) ≠ more 0#32 l := by
  have hin : -32 < at_ ∧ at_ < 8 * (l.length : Int) := by
    refine Decidable.byContradiction fun h => hne (spoil_out (by omega))
  obtain ⟨a, ha⟩ : ∃ a : Nat, a + 32 ≤ 8 * l.length ∧ ∀ j : Nat, j < 8 * l.length → at_ ≤ j → (j : Int) < at_ + 32 → a ≤ j ∧ j < a + 32 := by
    by_cases h0 : at_ < 0
    · exact ⟨0, by omega, fun j h1 h2 h3 => by omega⟩
    · by_cases h1 : at_ + 32 ≤ 8 * (l.length : Int)
      · exact ⟨at_.toNat, by omega, fun j h1 h2 h3 => by omega⟩
      · exact ⟨8 * l.length - 32, by omega, fun j h1 h2 h3 => by omega⟩
  obtain ⟨ha1, ha2⟩ := ha
  have hb : ∀ j, j < 8 * l.length → bitAt (spoil l at_ m) j = (bitAt l j ^^ (decide (a ≤ j ∧ j < a + 32) && (inWord at_ m a l.length).getLsbD (31 - (j - a)))) := by
    intro j hj
    rw [bitAt_spoil _ _ _ _ hj]
    congr 1
    by_cases hw : a ≤ j ∧ j < a + 32
    · rw [decide_eq_true hw, Bool.true_and, inWord_at _ _ _ _ _ (by omega), show a + (j - a) = j by omega, decide_eq_true hj, Bool.and_true]
    · rw [decide_eq_false hw, Bool.false_and]
      have : decide (at_ ≤ j ∧ (j : Int) < at_ + 32) = false := decide_eq_false fun h => hw (ha2 j hj h.1 h.2)
      rw [this, Bool.false_and]
  refine burst_more (m := inWord at_ m a l.length) (a := a) ?_ ha1 (spoil_len _ _ _) hb 0#32
  intro h0
  refine hne (bits_ext (spoil_len _ _ _) fun j hj => ?_)
  rw [spoil_len] at hj
  rw [hb j hj, h0]; simp
theorem spoilt_opened {l : List (BitVec 8)} {at_ : Int} {m : BitVec 32} (hne : spoil (sealed l) at_ m ≠ sealed l) : opened (spoil (sealed l) at_ m) = ([], 5) := by
  have hs := sealed_len l
  have h := spoilt_sum (by omega) hne
  unfold opened
  have hl := spoil_len (sealed l) at_ m
  rw [if_neg (by omega), if_neg]
  intro ho
  exact h ((opened_sum (by omega) ho).trans (sealed_sum l).symm)
end Go.Proofs.Ytmekdhlcflielaa.Sea
