/- Plain law: bits that are turned one by one within 32 side by side; the sum is another one then. -/
import Derived.Test.YtmekdhlcflielaaCrc
namespace Go.Proofs.Ytmekdhlcflielaa.Crc

def bitAt (l : List (BitVec 8)) (j : Nat) : Bool := ((l[j / 8]?).map fun x => x.getLsbD (7 - j % 8)).getD false
theorem allBits_len : ∀ l : List (BitVec 8), (allBits l).length = 8 * l.length
  | [] => rfl
  | x :: l => by
    simp only [allBits, List.flatMap_cons, List.length_append, List.length_cons, bits8_len]
    have := allBits_len l
    simp only [allBits] at this
    omega
theorem bits8_at (x : BitVec 8) (j : Nat) (h : j < 8) : (bits8 x)[j]? = some (x.getLsbD (7 - j)) := by
  match j, h with
  | 0, _ => rfl
  | 1, _ => rfl
  | 2, _ => rfl
  | 3, _ => rfl
  | 4, _ => rfl
  | 5, _ => rfl
  | 6, _ => rfl
  | 7, _ => rfl
  | n + 8, h => omega
theorem allBits_at : ∀ (l : List (BitVec 8)) (j : Nat), j < 8 * l.length → (allBits l)[j]? = some (bitAt l j)
  | [], j, h => by simp at h
  | x :: l, j, h => by
    simp only [allBits, List.flatMap_cons]
    by_cases h8 : j < 8
    · rw [List.getElem?_append_left (by rw [bits8_len]; omega), bits8_at x j h8]
      have h1 : j / 8 = 0 := by omega
      have h2 : j % 8 = j := by omega
      simp [bitAt, h1, h2]
    · rw [List.getElem?_append_right (by rw [bits8_len]; omega), bits8_len]
      have := allBits_at l (j - 8) (by simp only [List.length_cons] at h; omega)
      simp only [allBits] at this
      rw [this]
      have h1 : j / 8 = (j - 8) / 8 + 1 := by omega
      have h2 : j % 8 = (j - 8) % 8 := by omega
      simp [bitAt, h1, h2]
/-- one bit turned -/
def flip (l : List (BitVec 8)) (p : Nat) : List (BitVec 8) := l.modify (p / 8) (fun x => x ^^^ (128#8 >>> (p % 8)))
theorem flip_len (l : List (BitVec 8)) (p : Nat) : (flip l p).length = l.length := by simp [flip]
theorem one_bit (a b : Nat) (ha : a < 8) (hb : b < 8) : (128#8 >>> a).getLsbD (7 - b) = decide (b = a) := by
  have : ∀ a b : Fin 8, (128#8 >>> a.val).getLsbD (7 - b.val) = decide (b.val = a.val) := by decide
  exact this ⟨a, ha⟩ ⟨b, hb⟩
theorem bitAt_flip (l : List (BitVec 8)) (p j : Nat) (hj : j < 8 * l.length) : bitAt (flip l p) j = (bitAt l j ^^ decide (j = p)) := by
  unfold bitAt flip
  rw [List.getElem?_modify]
  have hx : j / 8 < l.length := by omega
  rw [List.getElem?_eq_getElem hx]
  by_cases h : p / 8 = j / 8
  · show (if p / 8 = j / 8 then l[j / 8] ^^^ (128#8 >>> (p % 8)) else l[j / 8]).getLsbD (7 - j % 8) = (l[j / 8].getLsbD (7 - j % 8) ^^ _)
    rw [if_pos h, BitVec.getLsbD_xor, one_bit _ _ (by omega) (by omega)]
    congr 1
    exact decide_eq_decide.2 (by omega)
  · have h2 : decide (j = p) = false := decide_eq_false (by omega)
    show (if p / 8 = j / 8 then l[j / 8] ^^^ (128#8 >>> (p % 8)) else l[j / 8]).getLsbD (7 - j % 8) = (l[j / 8].getLsbD (7 - j % 8) ^^ _)
    rw [if_neg h, h2, Bool.xor_false]
/-- the first k bits of a word, laid on from place a -/
def turned (l : List (BitVec 8)) (a : Nat) (m : BitVec 32) : Nat → List (BitVec 8)
  | 0 => l
  | k + 1 => if m.getLsbD (31 - k) then flip (turned l a m k) (a + k) else turned l a m k
theorem turned_len (l : List (BitVec 8)) (a : Nat) (m : BitVec 32) : ∀ k, (turned l a m k).length = l.length
  | 0 => rfl
  | k + 1 => by
    unfold turned
    split
    · rw [flip_len, turned_len l a m k]
    · exact turned_len l a m k
theorem bitAt_turned (l : List (BitVec 8)) (a : Nat) (m : BitVec 32) (j : Nat) (hj : j < 8 * l.length) : ∀ k, bitAt (turned l a m k) j = (bitAt l j ^^ (decide (a ≤ j ∧ j < a + k) && m.getLsbD (31 - (j - a))))
  | 0 => by
    have : decide (a ≤ j ∧ j < a + 0) = false := decide_eq_false (by omega)
    rw [this]
    simp [turned]
  | k + 1 => by
    have ih := bitAt_turned l a m j hj k
    unfold turned
    by_cases hk : j = a + k
    · have h1 : ¬ (a ≤ j ∧ j < a + k) := by omega
      have h2 : decide (a ≤ j ∧ j < a + (k + 1)) = true := decide_eq_true (by omega)
      have h3 : j - a = k := by omega
      rw [decide_eq_false h1] at ih
      simp only [Bool.false_and, Bool.xor_false] at ih
      rw [h2, h3, Bool.true_and]
      by_cases hm : m.getLsbD (31 - k) = true
      · rw [if_pos hm, bitAt_flip _ _ _ (by rw [turned_len]; exact hj), ih, hm]
        simp [hk]
      · rw [if_neg hm, ih]
        simp only [Bool.not_eq_true] at hm
        simp [hm]
    · have h1 : (a ≤ j ∧ j < a + (k + 1)) ↔ (a ≤ j ∧ j < a + k) := by omega
      simp only [h1]
      by_cases hm : m.getLsbD (31 - k) = true
      · rw [if_pos hm, bitAt_flip _ _ _ (by rw [turned_len]; exact hj), ih]
        simp [hk]
      · rw [if_neg hm, ih]
theorem wordBits_at : ∀ (n : Nat) (m : BitVec 32) (i : Nat), i < n → n ≤ 32 → (wordBits m n)[i]? = some (m.getLsbD (31 - i))
  | 0, _, _, h, _ => by omega
  | n + 1, m, 0, _, _ => by simp [wordBits]
  | n + 1, m, i + 1, h, hn => by
    simp only [wordBits, List.getElem?_cons_succ]
    rw [wordBits_at n (m <<< 1) i (by omega) (by omega)]
    congr 1
    simp only [BitVec.getLsbD_shiftLeft]
    have h1 : 31 - i < 32 := by omega
    have h2 : ¬ (31 - i < 1) := by omega
    have h3 : 31 - i - 1 = 31 - (i + 1) := by omega
    rw [h3]
    simp [h2, h1]
/-- **A BURST IS SEEN**: whatever list has just these bits turned, has another sum. -/
theorem burst_more {l c : List (BitVec 8)} {a : Nat} {m : BitVec 32} (hm : m ≠ 0#32) (ha : a + 32 ≤ 8 * l.length) (hc : c.length = l.length)
    (hb : ∀ j, j < 8 * l.length → bitAt c j = (bitAt l j ^^ (decide (a ≤ j ∧ j < a + 32) && m.getLsbD (31 - (j - a))))) (s : BitVec 32) : more s c ≠ more s l := by
  unfold more
  intro h
  have h' : reg (~~~ s) c = reg (~~~ s) l := by
    have := congrArg (fun x => ~~~ x) h
    simpa using this
  rw [reg_bits, reg_bits] at h'
  refine burst (p := a) (q := 8 * l.length - (a + 32)) hm ?_ (by rw [allBits_len]; omega) (wordBits_len 32 m) _ h'
  apply List.ext_getElem?
  intro j
  by_cases hj : j < 8 * l.length
  · rw [allBits_at c j (by omega), List.getElem?_zipWith, allBits_at l j hj, hb j hj]
    have hw := wordBits_len 32 m
    have : (List.replicate a false ++ wordBits m 32 ++ List.replicate (8 * l.length - (a + 32)) false)[j]? = some (decide (a ≤ j ∧ j < a + 32) && m.getLsbD (31 - (j - a))) := by
      by_cases h1 : j < a
      · rw [List.append_assoc, List.getElem?_append_left (by simpa using h1), List.getElem?_replicate, if_pos h1]
        have : ¬ (a ≤ j ∧ j < a + 32) := by omega
        simp [this]
      · by_cases h2 : j < a + 32
        · rw [List.getElem?_append_left (by simp [hw]; omega), List.getElem?_append_right (by simp; omega), List.length_replicate, wordBits_at 32 m (j - a) (by omega) (by omega)]
          have : a ≤ j ∧ j < a + 32 := by omega
          simp [this]
        · rw [List.getElem?_append_right (by simp [hw]; omega), List.getElem?_replicate, if_pos (by simp [hw]; omega)]
          have : ¬ (a ≤ j ∧ j < a + 32) := by omega
          simp [this]
    rw [this]
  · rw [List.getElem?_eq_none (by rw [allBits_len]; omega), List.getElem?_eq_none (by rw [List.length_zipWith, allBits_len]; omega)]
end Go.Proofs.Ytmekdhlcflielaa.Crc
