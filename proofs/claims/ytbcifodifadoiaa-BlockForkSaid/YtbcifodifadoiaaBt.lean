/- Plain law of the bits of 64: turned round, counted, mixed, unmixed. -/
import Derived.Test.YtbcifodifadoiaaRows
namespace Go.Proofs.Ytbcifodifadoiaa.Bt

theorem ext64 {a b : BitVec 64} (h : ∀ i, i < 64 → a.getLsbD i = b.getLsbD i) : a = b := BitVec.eq_of_getLsbD_eq h

/-! the document's bits -/
def bitsOf (x : BitVec 64) : List Bool := (List.range 64).map x.getLsbD
theorem bitsOf_len (x : BitVec 64) : (bitsOf x).length = 64 := by simp [bitsOf]
theorem bitsOf_at (x : BitVec 64) (i : Nat) (h : i < 64) : (bitsOf x)[i]? = some (x.getLsbD i) := by simp [bitsOf, h]
def one (b : Bool) : BitVec 64 := if b then 1#64 else 0#64
def num (l : List Bool) : BitVec 64 := l.foldr (fun b n => n <<< 1 ||| one b) 0#64
theorem one_at (b : Bool) (i : Nat) : (one b).getLsbD i = (b && decide (i = 0)) := by
  cases b
  · simp [one]
  · simp [one, BitVec.getLsbD_one]
theorem num_at : ∀ (l : List Bool) (i : Nat), i < 64 → (num l).getLsbD i = l[i]?.getD false
  | [], i, _ => by simp [num]
  | b :: l, i, h => by
    have e : num (b :: l) = num l <<< 1 ||| one b := rfl
    rw [e, BitVec.getLsbD_or, BitVec.getLsbD_shiftLeft, one_at]
    cases i with
    | zero => simp
    | succ i =>
      have ih := num_at l i (by omega)
      simp [h, ih]
theorem num_bits (x : BitVec 64) : num (bitsOf x) = x := ext64 fun i h => by rw [num_at _ _ h, bitsOf_at _ _ h]; rfl
theorem num_eq {l : List Bool} {x : BitVec 64} (hl : l.length = 64) (h : ∀ i b, l[i]? = some b → x.getLsbD i = b) : num l = x := ext64 fun i hi => by
  rw [num_at _ _ hi, List.getElem?_eq_getElem (by omega)]
  exact (h i _ (List.getElem?_eq_getElem (by omega))).symm

/-! Low -/
def low (x : BitVec 64) (n : Int) : BitVec 64 := if n ≤ 0 then 0#64 else if 64 ≤ n then x else x &&& (1#64 <<< n.toNat - 1#64)
theorem mask_at (k i : Nat) (hk : k < 64) : (1#64 <<< k - 1#64).getLsbD i = decide (i < k) := by
  have e : (1#64 <<< k - 1#64).toNat = 2 ^ k - 1 := by
    have h1 : (1#64 <<< k).toNat = 2 ^ k := by
      have : 2 ^ k < 2 ^ 64 := Nat.pow_lt_pow_right (by decide) hk
      rw [BitVec.toNat_shiftLeft, Nat.shiftLeft_eq, show (1#64).toNat = 1 from rfl, Nat.one_mul]
      exact Nat.mod_eq_of_lt this
    have hp : 1 ≤ 2 ^ k := Nat.one_le_two_pow
    have hlt : 2 ^ k < 2 ^ 64 := Nat.pow_lt_pow_right (by decide) hk
    rw [BitVec.toNat_sub, h1]
    simp
    omega
  rw [← BitVec.testBit_toNat, e, Nat.testBit_two_pow_sub_one]
theorem low_at (x : BitVec 64) (n : Int) (i : Nat) (hi : i < 64) : (low x n).getLsbD i = (x.getLsbD i && decide ((i : Int) < n)) := by
  unfold low
  split
  · have : ¬ ((i : Int) < n) := by omega
    simp [this]
  · split
    · have : (i : Int) < n := by omega
      simp [this]
    · rw [BitVec.getLsbD_and, mask_at _ _ (by omega)]
      congr 1
      exact decide_eq_decide.2 (by omega)

/-! Rot -/
def rot (x : BitVec 64) (k : Nat) : BitVec 64 := x <<< k ||| x >>> (64 - k)
theorem rot_at (x : BitVec 64) (k i : Nat) (hk : k < 64) (hi : i < 64) : (rot x k).getLsbD i = x.getLsbD ((i + 64 - k) % 64) := by
  unfold rot
  rw [BitVec.getLsbD_or, BitVec.getLsbD_shiftLeft, BitVec.getLsbD_ushiftRight]
  by_cases h : i < k
  · have e : (i + 64 - k) % 64 = 64 - k + i := by omega
    simp [h, e]
  · have e : (i + 64 - k) % 64 = i - k := by omega
    have e2 : x.getLsbD (64 - k + i) = false := BitVec.getLsbD_of_ge _ _ (by omega)
    simp [h, hi, e, e2]
def kmod (n : Int) : Nat := (n % 64).toNat
theorem kmod_lt (n : Int) : kmod n < 64 := by unfold kmod; omega
theorem rot_rot (x : BitVec 64) (a b : Int) : rot (rot x (kmod a)) (kmod b) = rot x (kmod (a + b)) := ext64 fun i hi => by
  rw [rot_at _ _ _ (kmod_lt _) hi, rot_at _ _ _ (kmod_lt _) (by omega), rot_at _ _ _ (kmod_lt _) hi]
  congr 1
  unfold kmod
  omega
theorem rot_zero (x : BitVec 64) : rot x 0 = x := ext64 fun i hi => by
  rw [rot_at _ _ _ (by omega) hi]
  congr 1
  omega

/-! Ones -/
def ones (x : BitVec 64) : Nat := (List.range 64).countP x.getLsbD
theorem ones_le (x : BitVec 64) : ones x ≤ 64 := by
  have := List.countP_le_length (p := x.getLsbD) (l := List.range 64)
  simpa [ones] using this
theorem ones_zero : ones 0#64 = 0 := by simp [ones]
theorem range_split (k n : Nat) (h : k ≤ n) : List.range n = List.range k ++ (List.range (n - k)).map (· + k) := by
  have := List.range_add (n := k) (m := n - k)
  rw [show k + (n - k) = n by omega] at this
  rw [this]
  congr 1
  apply List.map_congr_left
  intro a _
  omega
theorem ones_rot (x : BitVec 64) (k : Nat) (hk : k < 64) : ones (rot x k) = ones x := by
  unfold ones
  have e1 : (List.range 64).countP (rot x k).getLsbD = (List.range 64).countP (fun i => x.getLsbD ((i + 64 - k) % 64)) := by
    apply List.countP_congr
    intro i hi
    rw [rot_at x k i hk (List.mem_range.1 hi)]
  rw [e1, range_split k 64 (by omega), List.countP_append, List.countP_map]
  conv => rhs; rw [← range_split k 64 (by omega), range_split (64 - k) 64 (by omega), List.countP_append, List.countP_map]
  rw [show 64 - (64 - k) = k by omega, Nat.add_comm]
  congr 1
  · apply List.countP_congr
    intro i hi
    have := List.mem_range.1 hi
    simp only [Function.comp]
    rw [show (i + k + 64 - k) % 64 = i by omega]
  · apply List.countP_congr
    intro i hi
    have := List.mem_range.1 hi
    simp only [Function.comp]
    rw [show (i + 64 - k) % 64 = i + (64 - k) by omega]
/-- the lowest bit that is 1 is struck -/
theorem strike_at {x : BitVec 64} {p : Nat} (hp : p < 64) (h1 : x.getLsbD p = true) (h0 : ∀ i, i < p → x.getLsbD i = false) (i : Nat) : (x &&& (x - 1#64)).getLsbD i = (x.getLsbD i && decide (i ≠ p)) := by
  have hsum : x.toNat = 2 ^ (p + 1) * (x.toNat / 2 ^ (p + 1)) + 2 ^ p := by
    have hm : x.toNat % 2 ^ (p + 1) = 2 ^ p := by
      apply Nat.eq_of_testBit_eq
      intro j
      rw [Nat.testBit_mod_two_pow, Nat.testBit_two_pow]
      by_cases hj : j < p + 1
      · by_cases hjp : j = p
        · subst hjp
          have : x.toNat.testBit j = true := by rw [BitVec.testBit_toNat]; exact h1
          simp [this]
        · have : x.toNat.testBit j = false := by rw [BitVec.testBit_toNat]; exact h0 j (by omega)
          simp [this]; omega
      · simp [hj]; omega
    have := Nat.div_add_mod x.toNat (2 ^ (p + 1))
    omega
  have hpos : 1 ≤ 2 ^ p := Nat.one_le_two_pow
  have hsub : (x - 1#64).toNat = 2 ^ (p + 1) * (x.toNat / 2 ^ (p + 1)) + (2 ^ p - 1) := by
    have hlt := x.isLt
    rw [BitVec.toNat_sub]
    simp
    generalize 2 ^ (p + 1) * (x.toNat / 2 ^ (p + 1)) = q at *
    omega
  have hb : (x - 1#64).getLsbD i = if i < p + 1 then (2 ^ p - 1).testBit i else (x.toNat / 2 ^ (p + 1)).testBit (i - (p + 1)) := by
    rw [← BitVec.testBit_toNat, hsub, Nat.testBit_two_pow_mul_add _ (by rw [Nat.pow_succ]; omega)]
  have hx : x.getLsbD i = if i < p + 1 then (2 ^ p).testBit i else (x.toNat / 2 ^ (p + 1)).testBit (i - (p + 1)) := by
    rw [← BitVec.testBit_toNat]
    conv => lhs; rw [hsum]
    rw [Nat.testBit_two_pow_mul_add _ (by rw [Nat.pow_succ]; omega)]
  rw [BitVec.getLsbD_and, hb]
  by_cases hlt : i < p + 1
  · rw [if_pos hlt, Nat.testBit_two_pow_sub_one]
    by_cases hip : i = p
    · subst hip; simp
    · rw [h0 i (by omega)]; simp
  · rw [hx, if_neg hlt, if_neg hlt]
    have : i ≠ p := by omega
    simp [this]
theorem lowest (x : BitVec 64) (h : x ≠ 0#64) : ∃ p, p < 64 ∧ x.getLsbD p = true ∧ ∀ i, i < p → x.getLsbD i = false := by
  have hex : ∃ i, i < 64 ∧ x.getLsbD i = true := by
    by_cases hc : ∃ i, i < 64 ∧ x.getLsbD i = true
    · exact hc
    · exfalso
      apply h
      apply ext64
      intro i hi
      cases hb : x.getLsbD i with
      | false => simp
      | true => exact absurd ⟨i, hi, hb⟩ hc
  obtain ⟨i, hi, hb⟩ := hex
  have key : ∀ n, (∃ i, i ≤ n ∧ i < 64 ∧ x.getLsbD i = true) → ∃ p, p < 64 ∧ x.getLsbD p = true ∧ ∀ i, i < p → x.getLsbD i = false := by
    intro n
    induction n with
    | zero =>
      rintro ⟨i, h0, h1, h2⟩
      exact ⟨i, h1, h2, fun j hj => by omega⟩
    | succ n ih =>
      rintro ⟨i, h0, h1, h2⟩
      by_cases hc : ∃ i, i ≤ n ∧ i < 64 ∧ x.getLsbD i = true
      · exact ih hc
      · refine ⟨i, h1, h2, fun j hj => ?_⟩
        cases hb : x.getLsbD j with
        | false => rfl
        | true => exact absurd ⟨j, by omega, by omega, hb⟩ hc
  exact key i ⟨i, Nat.le_refl _, hi, hb⟩
theorem count_drop {f g : Nat → Bool} {p n : Nat} (hp : p < n) (h1 : f p = true) (hg : ∀ i, i < n → g i = (f i && decide (i ≠ p))) : (List.range n).countP g + 1 = (List.range n).countP f := by
  induction n with
  | zero => omega
  | succ n ih =>
    rw [List.range_succ, List.countP_append, List.countP_append, List.countP_singleton, List.countP_singleton]
    by_cases hpn : p = n
    · subst hpn
      have e : (List.range p).countP g = (List.range p).countP f := by
        apply List.countP_congr
        intro i hi
        have := List.mem_range.1 hi
        rw [hg i (by omega)]
        have : i ≠ p := by omega
        simp [this]
      rw [e, hg p (by omega), h1]
      simp
    · have := ih (by omega) (fun i hi => hg i (by omega))
      have hne : n ≠ p := fun e => hpn e.symm
      rw [hg n (by omega)]
      simp only [hne, ne_eq, not_false_eq_true, decide_true, Bool.and_true]
      omega
theorem ones_step (x : BitVec 64) (h : x ≠ 0#64) : ones (x &&& (x - 1#64)) + 1 = ones x := by
  obtain ⟨p, hp, h1, h0⟩ := lowest x h
  exact count_drop hp h1 fun i _ => strike_at hp h1 h0 i

/-! First -/
def first (x : BitVec 64) : Nat := ((List.range 64).find? x.getLsbD).getD 64
theorem first_of {x : BitVec 64} {p : Nat} (hp : p < 64) (h1 : x.getLsbD p = true) (h0 : ∀ i, i < p → x.getLsbD i = false) : first x = p := by
  unfold first
  have : (List.range 64).find? x.getLsbD = some p := by
    rw [List.find?_eq_some_iff_getElem]
    refine ⟨h1, p, by simpa using hp, by simp, fun j hj => ?_⟩
    simp [h0 j hj]
  rw [this]; rfl
theorem first_zero : first 0#64 = 64 := by
  unfold first
  have : (List.range 64).find? (0#64).getLsbD = none := by simp
  rw [this]; rfl
theorem first_none {x : BitVec 64} (h : ∀ i, i < 64 → x.getLsbD i = false) : first x = 64 := by
  have : x = 0#64 := ext64 fun i hi => by rw [h i hi]; simp
  rw [this, first_zero]
theorem first_le (x : BitVec 64) : first x ≤ 64 := by
  by_cases h : x = 0#64
  · rw [h, first_zero]; omega
  · obtain ⟨p, hp, h1, h0⟩ := lowest x h
    rw [first_of hp h1 h0]; omega
theorem low_zero_iff (x : BitVec 64) (n : Nat) : low x n = 0#64 ↔ ∀ i, i < 64 → i < n → x.getLsbD i = false := by
  constructor
  · intro h i hi hn
    have := low_at x n i hi
    rw [h] at this
    simp at this
    rcases hb : x.getLsbD i with _ | _
    · rfl
    · exact absurd (this hb) (by omega)
  · intro h
    apply ext64
    intro i hi
    rw [low_at x n i hi]
    by_cases hn : i < n
    · rw [h i hi hn]; simp
    · have : ¬ ((i : Int) < (n : Int)) := by omega
      simp [this]
/-- what the search by halves keeps: nothing below n; and, of what is not nothing, the first lies within the next h -/
def Found (x : BitVec 64) (n h : Nat) : Prop := (∀ i, i < n → x.getLsbD i = false) ∧ n + h ≤ 64 ∧ (x ≠ 0#64 → ∃ i, n ≤ i ∧ i < n + h ∧ x.getLsbD i = true) ∧ (x = 0#64 → n + h = 64)
theorem found_start (x : BitVec 64) : Found x 0 64 := by
  refine ⟨fun i h => by omega, by omega, fun h => ?_, fun _ => rfl⟩
  obtain ⟨p, hp, h1, _⟩ := lowest x h
  exact ⟨p, by omega, by omega, h1⟩
theorem shr_at (x : BitVec 64) (n i : Nat) : (x >>> n).getLsbD i = x.getLsbD (n + i) := BitVec.getLsbD_ushiftRight ..
theorem found_yes {x : BitVec 64} {n h : Nat} (hf : Found x n (2 * h)) (hl : low (x >>> n) h = 0#64) : Found x (n + h) h := by
  obtain ⟨h1, h2, h3, h4⟩ := hf
  have hz := (low_zero_iff _ _).1 hl
  have hz' : ∀ i, n ≤ i → i < n + h → x.getLsbD i = false := fun i a b => by
    have := hz (i - n) (by omega) (by omega)
    rw [shr_at, show n + (i - n) = i by omega] at this
    exact this
  refine ⟨fun i hi => ?_, by omega, fun hx => ?_, fun hx => by have := h4 hx; omega⟩
  · by_cases hin : i < n
    · exact h1 i hin
    · exact hz' i (by omega) hi
  · obtain ⟨i, a, b, c⟩ := h3 hx
    refine ⟨i, ?_, by omega, c⟩
    by_cases hi : i < n + h
    · rw [hz' i a hi] at c; cases c
    · omega
theorem found_no {x : BitVec 64} {n h : Nat} (hf : Found x n (2 * h)) (hl : low (x >>> n) h ≠ 0#64) : Found x n h := by
  obtain ⟨h1, h2, h3, h4⟩ := hf
  have hex : ∃ i, i < 64 ∧ i < h ∧ (x >>> n).getLsbD i = true := by
    by_cases hc : ∃ i, i < 64 ∧ i < h ∧ (x >>> n).getLsbD i = true
    · exact hc
    · exact absurd ((low_zero_iff _ _).2 fun i a b => by
        cases hb : (x >>> n).getLsbD i with
        | false => rfl
        | true => exact absurd ⟨i, a, b, hb⟩ hc) hl
  obtain ⟨i, a, b, c⟩ := hex
  rw [shr_at] at c
  refine ⟨h1, by omega, fun _ => ⟨n + i, by omega, by omega, c⟩, fun hx => ?_⟩
  rw [hx] at c; simp at c
theorem found_end {x : BitVec 64} {n : Nat} (hf : Found x n 1) : first x = if (x >>> n).getLsbD 0 then n else n + 1 := by
  obtain ⟨h1, h2, h3, h4⟩ := hf
  rw [shr_at, Nat.add_zero]
  by_cases hx : x = 0#64
  · have := h4 hx
    rw [hx, first_zero]; simp; omega
  · obtain ⟨i, a, b, c⟩ := h3 hx
    have : i = n := by omega
    subst this
    rw [c, first_of (by omega) c h1]; rfl

/-! Mix -/
def up (k : Nat) (x : BitVec 64) : BitVec 64 := x ^^^ x <<< k
def dn (k : Nat) (x : BitVec 64) : BitVec 64 := x ^^^ x >>> k
def mix (x : BitVec 64) : BitVec 64 := up 17 (dn 7 (up 13 x))
def unmix (x : BitVec 64) : BitVec 64 := up 52 (up 26 (up 13 (dn 56 (dn 28 (dn 14 (dn 7 (up 34 (up 17 x))))))))
theorem up_up (x : BitVec 64) (k : Nat) : up k (up k x) = up (k + k) x := by
  unfold up
  rw [BitVec.shiftLeft_xor_distrib, ← BitVec.shiftLeft_add, BitVec.xor_assoc, ← BitVec.xor_assoc (x <<< k), BitVec.xor_self, BitVec.zero_xor]
theorem dn_dn (x : BitVec 64) (k : Nat) : dn k (dn k x) = dn (k + k) x := by
  unfold dn
  rw [BitVec.ushiftRight_xor_distrib, ← BitVec.shiftRight_add, BitVec.xor_assoc, ← BitVec.xor_assoc (x >>> k), BitVec.xor_self, BitVec.zero_xor]
theorem up_out (x : BitVec 64) (k : Nat) (h : 64 ≤ k) : up k x = x := by unfold up; rw [BitVec.shiftLeft_eq_zero h, BitVec.xor_zero]
theorem dn_out (x : BitVec 64) (k : Nat) (h : 64 ≤ k) : dn k x = x := by unfold dn; rw [BitVec.ushiftRight_eq_zero h, BitVec.xor_zero]
theorem up_comm (x : BitVec 64) (j k : Nat) : up j (up k x) = up k (up j x) := by
  unfold up
  rw [BitVec.shiftLeft_xor_distrib, BitVec.shiftLeft_xor_distrib, ← BitVec.shiftLeft_add, ← BitVec.shiftLeft_add, Nat.add_comm j k]
  ac_rfl
theorem dn_comm (x : BitVec 64) (j k : Nat) : dn j (dn k x) = dn k (dn j x) := by
  unfold dn
  rw [BitVec.ushiftRight_xor_distrib, BitVec.ushiftRight_xor_distrib, ← BitVec.shiftRight_add, ← BitVec.shiftRight_add, Nat.add_comm j k]
  ac_rfl
theorem unmix_mix (x : BitVec 64) : unmix (mix x) = x := by
  unfold unmix mix
  rw [up_up _ 17, up_up _ 34, up_out _ 68 (by omega), dn_dn _ 7, dn_dn _ 14, dn_dn _ 28, dn_dn _ 56, dn_out _ 112 (by omega), up_up _ 13, up_up _ 26, up_up _ 52, up_out _ 104 (by omega)]
theorem mix_unmix (x : BitVec 64) : mix (unmix x) = x := by
  unfold unmix mix
  rw [up_comm _ 13 52, up_comm _ 13 26, up_up _ 13, up_up _ 26, up_up _ 52, up_out _ 104 (by omega),
    dn_comm _ 7 56, dn_comm _ 7 28, dn_comm _ 7 14, dn_dn _ 7, dn_dn _ 14, dn_dn _ 28, dn_dn _ 56, dn_out _ 112 (by omega),
    up_comm _ 17 34, up_up _ 17, up_up _ 34, up_out _ 68 (by omega)]
theorem up_xor (k : Nat) (x y : BitVec 64) : up k (x ^^^ y) = up k x ^^^ up k y := by unfold up; rw [BitVec.shiftLeft_xor_distrib]; ac_rfl
theorem dn_xor (k : Nat) (x y : BitVec 64) : dn k (x ^^^ y) = dn k x ^^^ dn k y := by unfold dn; rw [BitVec.ushiftRight_xor_distrib]; ac_rfl
theorem mix_xor (x y : BitVec 64) : mix (x ^^^ y) = mix x ^^^ mix y := by unfold mix; rw [up_xor, dn_xor, up_xor]

/-! Zig -/
def zig (b : BitVec 64) : BitVec 64 := b <<< 1 ^^^ b.sshiftRight 63
def zag (x : BitVec 64) : BitVec 64 := x >>> 1 ^^^ (0#64 - (x &&& 1#64))
theorem sign_at (b : BitVec 64) (i : Nat) (hi : i < 64) : (b.sshiftRight 63).getLsbD i = b.msb := by
  rw [BitVec.getLsbD_sshiftRight]
  by_cases h : 63 + i < 64
  · have : i = 0 := by omega
    subst this
    simp [BitVec.msb_eq_getLsbD_last]
  · have : ¬ (64 ≤ i) := by omega
    simp [h, this]
theorem neg_at (x : BitVec 64) (i : Nat) (hi : i < 64) : (0#64 - (x &&& 1#64)).getLsbD i = x.getLsbD 0 := by
  have h : x &&& 1#64 = one (x.getLsbD 0) := ext64 fun j hj => by
    rw [BitVec.getLsbD_and, one_at, BitVec.getLsbD_one]
    by_cases h0 : j = 0
    · subst h0; simp
    · simp [h0]
  rw [h]
  cases x.getLsbD 0
  · simp [one]
  · have : (0#64 - one true) = BitVec.allOnes 64 := by decide
    rw [this, BitVec.getLsbD_allOnes]
    simpa using hi
theorem zag_zig (b : BitVec 64) : zag (zig b) = b := ext64 fun i hi => by
  have z : ∀ j, j < 64 → (zig b).getLsbD j = ((decide (j ≠ 0) && b.getLsbD (j - 1)) ^^ b.msb) := by
    intro j hj
    unfold zig
    rw [BitVec.getLsbD_xor, BitVec.getLsbD_shiftLeft, sign_at _ _ hj]
    congr 1
    by_cases h0 : j = 0
    · simp [h0]
    · have : ¬ (j < 1) := by omega
      simp [hj, h0]
  unfold zag
  rw [BitVec.getLsbD_xor, BitVec.getLsbD_ushiftRight, neg_at _ _ hi, z 0 (by omega)]
  by_cases h63 : i = 63
  · subst h63
    rw [BitVec.getLsbD_of_ge _ _ (show 64 ≤ 1 + 63 by omega), BitVec.msb_eq_getLsbD_last]
    simp
  · rw [z (1 + i) (by omega)]
    have : 1 + i - 1 = i := by omega
    have h1 : decide (1 + i ≠ 0) = true := decide_eq_true (by omega)
    rw [this, h1]
    simp
theorem zig_zag (x : BitVec 64) : zig (zag x) = x := by
  have za : ∀ j, j < 64 → (zag x).getLsbD j = (x.getLsbD (1 + j) ^^ x.getLsbD 0) := by
    intro j hj
    unfold zag
    rw [BitVec.getLsbD_xor, BitVec.getLsbD_ushiftRight, neg_at _ _ hj]
  have hm : (zag x).msb = x.getLsbD 0 := by
    rw [BitVec.msb_eq_getLsbD_last, za _ (by omega), BitVec.getLsbD_of_ge _ _ (by omega)]
    simp
  apply ext64
  intro i hi
  unfold zig
  rw [BitVec.getLsbD_xor, BitVec.getLsbD_shiftLeft, sign_at _ _ hi, hm]
  by_cases h0 : i = 0
  · subst h0; simp
  · have h1 : ¬ (i < 1) := by omega
    have h2 : 1 + (i - 1) = i := by omega
    rw [za _ (by omega), h2]
    simp [hi, h1]
end Go.Proofs.Ytbcifodifadoiaa.Bt
