/- Plain law of the sum: what the table's text computes, what the document's text computes, that they are one; that they turn alike; that a burst is seen. -/
import Derived.Test.YtmekdhlcflielaaRows
namespace Go.Proofs.Ytmekdhlcflielaa.Crc

def poly : BitVec 32 := 79764919#32
/-- the register goes up by one bit -/
def step1 (r : BitVec 32) : BitVec 32 := (r <<< 1) ^^^ (if r.msb then poly else 0#32)
def top (b : Bool) : BitVec 32 := if b then 0x80000000#32 else 0#32
/-- one bit of the bytes more -/
def bstep (r : BitVec 32) (b : Bool) : BitVec 32 := step1 (r ^^^ top b)
def bits8 (x : BitVec 8) : List Bool := [x.getLsbD 7, x.getLsbD 6, x.getLsbD 5, x.getLsbD 4, x.getLsbD 3, x.getLsbD 2, x.getLsbD 1, x.getLsbD 0]
/-- one byte more, bit by bit -/
def step8 (r : BitVec 32) (x : BitVec 8) : BitVec 32 := (bits8 x).foldl bstep r
def reg (r : BitVec 32) (l : List (BitVec 8)) : BitVec 32 := l.foldl step8 r
/-- THE SUM -/
def more (s : BitVec 32) (l : List (BitVec 8)) : BitVec 32 := ~~~ reg (~~~ s) l

theorem sel_xor (a b : Bool) (p : BitVec 32) : (if (a ^^ b) = true then p else 0#32) = (if a = true then p else 0#32) ^^^ (if b = true then p else 0#32) := by
  cases a <;> cases b <;> simp
theorem step1_xor (a b : BitVec 32) : step1 (a ^^^ b) = step1 a ^^^ step1 b := by
  unfold step1
  rw [BitVec.msb_xor, BitVec.shiftLeft_xor_distrib, sel_xor]
  ac_rfl
theorem step1_zero : step1 0#32 = 0#32 := by decide
theorem top_xor (a b : Bool) : top (a ^^ b) = top a ^^^ top b := sel_xor a b _
theorem bstep_xor (a b : BitVec 32) (x y : Bool) : bstep (a ^^^ b) (x ^^ y) = bstep a x ^^^ bstep b y := by
  unfold bstep
  rw [← step1_xor, top_xor]
  congr 1
  ac_rfl
theorem bfold_xor : ∀ (x y : List Bool) (a b : BitVec 32), x.length = y.length → (List.zipWith (· ^^ ·) x y).foldl bstep (a ^^^ b) = x.foldl bstep a ^^^ y.foldl bstep b
  | [], [], a, b, _ => rfl
  | [], _ :: _, _, _, h => by simp at h
  | _ :: _, [], _, _, h => by simp at h
  | p :: x, q :: y, a, b, h => by
    simp only [List.zipWith_cons_cons, List.foldl_cons]
    rw [bstep_xor]
    exact bfold_xor x y _ _ (by simpa using h)
theorem bits8_xor (x y : BitVec 8) : bits8 (x ^^^ y) = List.zipWith (· ^^ ·) (bits8 x) (bits8 y) := by simp [bits8]
theorem bits8_len (x : BitVec 8) : (bits8 x).length = 8 := rfl
theorem step8_xor (a b : BitVec 32) (x y : BitVec 8) : step8 (a ^^^ b) (x ^^^ y) = step8 a x ^^^ step8 b y := by
  unfold step8
  rw [bits8_xor]
  exact bfold_xor _ _ _ _ rfl

/-! the table -/
def four (n : Nat) : BitVec 32 := [0x00000000#32, 0x04c11db7#32, 0x09823b6e#32, 0x0d4326d9#32, 0x130476dc#32, 0x17c56b6b#32, 0x1a864db2#32, 0x1e475005#32,
  0x2608edb8#32, 0x22c9f00f#32, 0x2f8ad6d6#32, 0x2b4bcb61#32, 0x350c9b64#32, 0x31cd86d3#32, 0x3c8ea00a#32, 0x384fbdbd#32].getD n 0#32
def nib (r : BitVec 32) : BitVec 32 := (r <<< 4) ^^^ four (r >>> 28).toNat
def stepT (r : BitVec 32) (x : BitVec 8) : BitVec 32 := nib (nib (r ^^^ (x.setWidth 32 <<< 24)))

theorem step1_low {r : BitVec 32} (h : r.msb = false) : step1 r = r <<< 1 := by simp [step1, h]
/-- four bits at once -/
theorem nib_eq (r : BitVec 32) : nib r = step1 (step1 (step1 (step1 r))) := by
  have hsplit : r = (r &&& 0x0fffffff#32) ^^^ ((r >>> 28) <<< 28) := by
    apply BitVec.eq_of_getLsbD_eq
    intro i hi
    have : (0x0fffffff#32).getLsbD i = decide (i < 28) := by
      have : ∀ i : Fin 32, (0x0fffffff#32).getLsbD i.val = decide (i.val < 28) := by decide
      exact this ⟨i, hi⟩
    simp only [BitVec.getLsbD_xor, BitVec.getLsbD_and, this, BitVec.getLsbD_shiftLeft, BitVec.getLsbD_ushiftRight]
    by_cases h : i < 28
    · simp [h]
    · have : 28 + (i - 28) = i := by omega
      simp [h, this]
      omega
  have hlow : ∀ k, k ≤ 4 → ∀ i, 28 + k ≤ i → ((r &&& 0x0fffffff#32) <<< k).getLsbD i = false := by
    intro k hk i hi
    simp only [BitVec.getLsbD_shiftLeft, BitVec.getLsbD_and]
    by_cases h32 : i < 32
    · have h2 : (0x0fffffff#32).getLsbD (i - k) = false := by
        have : ∀ i : Fin 32, 28 ≤ i.val → (0x0fffffff#32).getLsbD i.val = false := by decide
        exact this ⟨i - k, by omega⟩ (by simp; omega)
      simp [h2]
    · simp [h32]
  have h1 : ∀ k, k < 4 → step1 ((r &&& 0x0fffffff#32) <<< k) = (r &&& 0x0fffffff#32) <<< (k + 1) := by
    intro k hk
    rw [step1_low, ← BitVec.shiftLeft_add]
    rw [BitVec.msb_eq_getLsbD_last]
    exact hlow k (by omega) 31 (by omega)
  have hhigh : ∀ n : Fin 16, step1 (step1 (step1 (step1 ((BitVec.ofNat 32 n.val) <<< 28)))) = four n.val := by decide
  have hn : (r >>> 28).toNat < 16 := by
    rw [BitVec.toNat_ushiftRight, Nat.shiftRight_eq_div_pow]
    have := r.isLt
    omega
  have hh := hhigh ⟨(r >>> 28).toNat, hn⟩
  simp only [BitVec.ofNat_toNat, BitVec.setWidth_eq] at hh
  have e0 := h1 0 (by omega)
  rw [BitVec.shiftLeft_zero] at e0
  have e1 := h1 1 (by omega)
  have e2 := h1 2 (by omega)
  have e3 := h1 3 (by omega)
  have hs : r <<< 4 = (r &&& 0x0fffffff#32) <<< 4 := by
    apply BitVec.eq_of_getLsbD_eq
    intro i hi
    simp only [BitVec.getLsbD_shiftLeft, BitVec.getLsbD_and]
    by_cases h : i < 4
    · simp [h]
    · have : (0x0fffffff#32).getLsbD (i - 4) = true := by
        have : ∀ i : Fin 32, i.val < 28 → (0x0fffffff#32).getLsbD i.val = true := by decide
        exact this ⟨i - 4, by omega⟩ (by simp; omega)
      simp [this]
  unfold nib
  conv => rhs; rw [hsplit]
  rw [step1_xor, step1_xor, step1_xor, step1_xor, hh, e0, e1, e2, e3, hs]

/-- a byte, of whatever place, laid at the top and shifted out bit by bit -/
theorem shift8 (x : BitVec 8) (r : BitVec 32) :
    step8 r x = step1 (step1 (step1 (step1 (step1 (step1 (step1 (step1 (r ^^^ (x.setWidth 32 <<< 24))))))))) := by
  have hr : ∀ a b : BitVec 32, ∀ y : BitVec 8, step8 (a ^^^ b) y = step1 (step1 (step1 (step1 (step1 (step1 (step1 (step1 a))))))) ^^^ step8 b y := by
    intro a b y
    have := step8_xor a b 0#8 y
    rw [BitVec.zero_xor] at this
    rw [this]
    congr 1
    simp [step8, bits8, bstep, top]
  have hx : ∀ x : BitVec 8, step8 0#32 x = step1 (step1 (step1 (step1 (step1 (step1 (step1 (step1 (x.setWidth 32 <<< 24)))))))) := by decide
  have := hr r 0#32 x
  rw [BitVec.xor_zero] at this
  rw [this, hx]
  simp only [step1_xor]
theorem stepT_eq (r : BitVec 32) (x : BitVec 8) : stepT r x = step8 r x := by
  rw [shift8]; unfold stepT; rw [nib_eq, nib_eq]

/-! what turns bytes turns the sum alike -/
theorem reg_three : ∀ (a b c : List (BitVec 8)) (r s t : BitVec 32), a.length = b.length → b.length = c.length →
    reg (r ^^^ s ^^^ t) (List.zipWith (· ^^^ ·) (List.zipWith (· ^^^ ·) a b) c) = reg r a ^^^ reg s b ^^^ reg t c
  | [], [], [], _, _, _, _, _ => rfl
  | x :: a, y :: b, z :: c, r, s, t, h1, h2 => by
    simp only [List.zipWith_cons_cons, reg, List.foldl_cons]
    rw [step8_xor, step8_xor]
    exact reg_three a b c _ _ _ (by simpa using h1) (by simpa using h2)
  | [], _ :: _, _, _, _, _, h, _ => by simp at h
  | _ :: _, [], _, _, _, _, h, _ => by simp at h
  | [], [], _ :: _, _, _, _, _, h => by simp at h
  | _ :: _, _ :: _, [], _, _, _, _, h => by simp at h
theorem not_three (a b c : BitVec 32) : ~~~ (a ^^^ b ^^^ c) = ~~~ a ^^^ ~~~ b ^^^ ~~~ c := by
  apply BitVec.eq_of_getLsbD_eq
  intro i hi
  simp [hi]
theorem more_three (a b c : List (BitVec 8)) (h1 : a.length = b.length) (h2 : b.length = c.length) :
    more 0#32 (List.zipWith (· ^^^ ·) (List.zipWith (· ^^^ ·) a b) c) = more 0#32 a ^^^ more 0#32 b ^^^ more 0#32 c := by
  unfold more
  rw [← not_three, ← reg_three a b c _ _ _ h1 h2]
  congr 2
theorem more_append (s : BitVec 32) (a b : List (BitVec 8)) : more s (a ++ b) = more (more s a) b := by
  simp [more, reg, List.foldl_append]
theorem more_nil (s : BitVec 32) : more s [] = s := by simp [more, reg]

/-! a burst is seen -/
def allBits (l : List (BitVec 8)) : List Bool := l.flatMap bits8
theorem reg_bits : ∀ (l : List (BitVec 8)) (r : BitVec 32), reg r l = (allBits l).foldl bstep r
  | [], _ => rfl
  | x :: l, r => by
    simp only [reg, List.foldl_cons, allBits, List.flatMap_cons, List.foldl_append]
    exact reg_bits l _
theorem step1_inj {r : BitVec 32} (h : step1 r = 0#32) : r = 0#32 := by
  unfold step1 at h
  have hb : (r <<< 1 ^^^ (if r.msb = true then poly else 0#32)).getLsbD 0 = (0#32).getLsbD 0 := by rw [h]
  have hm : r.msb = false := by
    cases hm : r.msb with
    | false => rfl
    | true =>
      rw [hm] at hb
      simp [poly] at hb
  rw [hm] at h
  simp only [Bool.false_eq_true, if_false, BitVec.xor_zero] at h
  apply BitVec.eq_of_getLsbD_eq
  intro i hi
  by_cases h31 : i = 31
  · subst h31
    rw [BitVec.msb_eq_getLsbD_last] at hm
    simpa using hm
  · have := congrArg (fun b => b.getLsbD (i + 1)) h
    simp only [BitVec.getLsbD_shiftLeft] at this
    simpa [show i + 1 < 32 by omega] using this
/-- bits that are not turned leave a turn as it is: it stays -/
theorem stays : ∀ (n : Nat) (r : BitVec 32), r ≠ 0#32 → (List.replicate n false).foldl bstep r ≠ 0#32
  | 0, _, h => h
  | n + 1, r, h => by
    rw [List.replicate_succ, List.foldl_cons]
    refine stays n _ fun e => h ?_
    have := step1_inj (r := r ^^^ top false) e
    simpa [top] using this
theorem stays0 : ∀ (n : Nat), (List.replicate n false).foldl bstep 0#32 = 0#32
  | 0 => rfl
  | n + 1 => by
    rw [List.replicate_succ, List.foldl_cons]
    have : bstep 0#32 false = 0#32 := by decide
    rw [this]
    exact stays0 n
def steps : Nat → BitVec 32 → BitVec 32
  | 0, r => r
  | n + 1, r => steps n (step1 r)
theorem steps_inj : ∀ (n : Nat) (r : BitVec 32), steps n r = 0#32 → r = 0#32
  | 0, _, h => h
  | n + 1, _, h => step1_inj (steps_inj n _ h)
/-- the first n bits of a word, the highest first -/
def wordBits (m : BitVec 32) : Nat → List Bool
  | 0 => []
  | n + 1 => m.getLsbD 31 :: wordBits (m <<< 1) n
/-- some bits of a word in a row: the register is as if the word had been laid over it at once -/
theorem word_fold : ∀ (n : Nat), n ≤ 32 → ∀ (m r : BitVec 32), (∀ i, i < 32 - n → m.getLsbD i = false) → (wordBits m n).foldl bstep r = steps n (r ^^^ m)
  | 0, _, m, _, h => by
    have : m = 0#32 := by
      apply BitVec.eq_of_getLsbD_eq
      intro i hi
      simpa using h i (by omega)
    subst this
    simp [wordBits, steps]
  | n + 1, hn, m, r, h => by
    simp only [wordBits, List.foldl_cons, steps]
    rw [word_fold n (by omega) (m <<< 1) _ (fun i hi => by
      simp only [BitVec.getLsbD_shiftLeft]
      by_cases h0 : i < 1
      · simp [h0]
      · simp [h (i - 1) (by omega)])]
    congr 1
    unfold bstep
    have hm : m = top (m.getLsbD 31) ^^^ (m &&& 0x7fffffff#32) := by
      apply BitVec.eq_of_getLsbD_eq
      intro i hi
      have h1 : (0x7fffffff#32).getLsbD i = decide (i < 31) := by
        have : ∀ i : Fin 32, (0x7fffffff#32).getLsbD i.val = decide (i.val < 31) := by decide
        exact this ⟨i, hi⟩
      have h2 : ∀ b, (top b).getLsbD i = (b && decide (i = 31)) := by
        have : ∀ (i : Fin 32) (b : Bool), (top b).getLsbD i.val = (b && decide (i.val = 31)) := by decide
        exact fun b => this ⟨i, hi⟩ b
      simp only [BitVec.getLsbD_xor, BitVec.getLsbD_and, h1, h2]
      by_cases h31 : i = 31
      · subst h31; simp
      · simp [h31, show i < 31 by omega]
    have hlow : step1 (m &&& 0x7fffffff#32) = m <<< 1 := by
      rw [step1_low]
      · apply BitVec.eq_of_getLsbD_eq
        intro i hi
        simp only [BitVec.getLsbD_shiftLeft, BitVec.getLsbD_and]
        by_cases h0 : i < 1
        · simp [h0]
        · have : (0x7fffffff#32).getLsbD (i - 1) = true := by
            have : ∀ i : Fin 32, i.val < 31 → (0x7fffffff#32).getLsbD i.val = true := by decide
            exact this ⟨i - 1, by omega⟩ (by simp; omega)
          simp [this]
      · rw [BitVec.msb_and]
        have : (0x7fffffff#32).msb = false := by decide
        simp [this]
    conv => rhs; rw [hm]
    rw [← BitVec.xor_assoc, step1_xor, step1_xor, hlow, step1_xor]
/-- **A BURST IS SEEN**: bits that are turned by a word's, somewhere, and by nothing else, leave the register turned. -/
theorem burst {x y : List Bool} {p q : Nat} {m : BitVec 32} (hm : m ≠ 0#32) (hy : y = List.zipWith (· ^^ ·) x (List.replicate p false ++ wordBits m 32 ++ List.replicate q false)) (hx : x.length = p + 32 + q)
    (hwl : (wordBits m 32).length = 32) (r : BitVec 32) : y.foldl bstep r ≠ x.foldl bstep r := by
  intro h
  have hz := bfold_xor x (List.replicate p false ++ wordBits m 32 ++ List.replicate q false) r 0#32 (by simp [hx, hwl]; omega)
  rw [BitVec.xor_zero, ← hy, h] at hz
  have h0 : (List.replicate p false ++ wordBits m 32 ++ List.replicate q false).foldl bstep 0#32 = 0#32 := by
    have := congrArg (fun b => x.foldl bstep r ^^^ b) hz
    simp only [BitVec.xor_self, ← BitVec.xor_assoc, BitVec.zero_xor] at this
    exact this.symm
  rw [List.foldl_append, List.foldl_append, stays0, word_fold 32 (by omega) m _ (fun i hi => by omega), BitVec.zero_xor] at h0
  refine stays q (steps 32 m) (fun e => hm (steps_inj 32 m e)) h0
theorem wordBits_len : ∀ (n : Nat) (m : BitVec 32), (wordBits m n).length = n
  | 0, _ => rfl
  | n + 1, m => by simp [wordBits, wordBits_len n]
end Go.Proofs.Ytmekdhlcflielaa.Crc
