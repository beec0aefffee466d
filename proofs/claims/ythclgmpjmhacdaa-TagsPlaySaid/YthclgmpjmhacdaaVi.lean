/- Plain law of the numbers in bytes of seven bits: what is written, what is read, and that they are one another's. -/
import Derived.Test.YthclgmpjmhacdaaRows
namespace Go.Proofs.Ythclgmpjmhacdaa.Vi

def u8 (n : Nat) : UInt8 := UInt8.ofNat n
theorem u8_toNat {n : Nat} (h : n < 256) : (u8 n).toNat = n := by
  unfold u8
  rw [UInt8.toNat_ofNat']
  omega
/-- a number's bytes -/
def vbF : Nat → Nat → List UInt8
  | 0, n => [u8 n]
  | k + 1, n => if n < 128 then [u8 n] else u8 (n % 128 + 128) :: vbF k (n / 128)
def vb (n : Nat) : List UInt8 := vbF 9 n
theorem vbF_len_le : ∀ k n, (vbF k n).length ≤ k + 1
  | 0, _ => by simp [vbF]
  | k + 1, n => by
    unfold vbF
    split
    · simp
    · have := vbF_len_le k (n / 128)
      simp only [List.length_cons]; omega
theorem vbF_pos : ∀ k n, 1 ≤ (vbF k n).length
  | 0, _ => by simp [vbF]
  | k + 1, n => by
    unfold vbF
    split <;> simp
/-- how many bytes at the beginning go on -/
def lead : List UInt8 → Nat
  | [] => 0
  | x :: l => if 128 ≤ x.toNat then lead l + 1 else 0
theorem lead_le : ∀ l, lead l ≤ l.length
  | [] => by simp [lead]
  | x :: l => by
    unfold lead
    have := lead_le l
    split <;> simp <;> omega
theorem lead_high : ∀ (l : List UInt8) (j : Nat) (x : UInt8), j < lead l → l[j]? = some x → 128 ≤ x.toNat
  | [], j, x, h, _ => by simp [lead] at h
  | y :: l, j, x, h, hx => by
    unfold lead at h
    split at h
    · cases j with
      | zero =>
        simp only [List.getElem?_cons_zero, Option.some.injEq] at hx
        subst hx; assumption
      | succ j => exact lead_high l j x (by omega) (by simpa using hx)
    · omega
theorem lead_low : ∀ (l : List UInt8) (x : UInt8), l[lead l]? = some x → x.toNat < 128
  | [], x, h => by simp at h
  | y :: l, x, h => by
    unfold lead at h
    split at h
    · exact lead_low l x (by simpa using h)
    · simp only [List.getElem?_cons_zero, Option.some.injEq] at h
      subst h; omega
theorem lead_eq : ∀ (l : List UInt8) (k : Nat), (∀ j x, j < k → l[j]? = some x → 128 ≤ x.toNat) → k ≤ l.length → (∀ x, l[k]? = some x → x.toNat < 128) → lead l = k
  | [], k, _, hk, _ => by simp at hk; simp [lead, hk]
  | y :: l, 0, _, _, h2 => by
    have := h2 y (by simp)
    unfold lead
    rw [if_neg (by omega)]
  | y :: l, k + 1, h1, hk, h2 => by
    have := h1 0 y (by omega) (by simp)
    unfold lead
    rw [if_pos this, lead_eq l k (fun j x hj hx => h1 (j + 1) x (by omega) (by simpa using hx)) (by simpa using hk) (fun x hx => h2 x (by simpa using hx))]
theorem lead_ge {l : List UInt8} {k : Nat} (h : ∀ j x, j < k → l[j]? = some x → 128 ≤ x.toNat) (hk : k ≤ l.length) : k ≤ lead l := by
  rcases Nat.lt_or_ge (lead l) k with hc | hc
  · have hlt : lead l < l.length := by omega
    have h1 := lead_low l _ (List.getElem?_eq_getElem hlt)
    have h2 := h (lead l) _ hc (List.getElem?_eq_getElem hlt)
    omega
  · exact hc
/-- what bytes come to, the lowest seven bits first -/
def val : List UInt8 → Nat
  | [] => 0
  | x :: l => x.toNat % 128 + 128 * val l
theorem val_snoc : ∀ (l : List UInt8) (x : UInt8), val (l ++ [x]) = val l + 128 ^ l.length * (x.toNat % 128)
  | [], x => by simp [val]
  | y :: l, x => by
    simp only [List.cons_append, val, val_snoc l x, List.length_cons, Nat.pow_succ]
    rw [Nat.mul_add, Nat.mul_left_comm, ← Nat.mul_assoc, Nat.mul_comm (128 ^ l.length) 128, Nat.mul_assoc]
    have : 128 * (128 ^ l.length * (x.toNat % 128)) = 128 ^ l.length * (128 * (x.toNat % 128)) := by rw [Nat.mul_left_comm]
    omega
theorem val_lt : ∀ l : List UInt8, val l < 128 ^ l.length
  | [] => by simp [val]
  | x :: l => by
    have := val_lt l
    simp only [val, List.length_cons, Nat.pow_succ]
    have h := Nat.mod_lt x.toNat (show 0 < 128 by decide)
    omega
/-- what bytes are read as: the number, how many bytes it has, the error's number -/
def rd (l : List UInt8) : Nat × Nat × Nat :=
  if 10 ≤ lead l then (0, 0, 4) else
  match l[lead l]? with
  | none => (0, 0, 2)
  | some x => if (x.toNat = 0 ∧ 0 < lead l) ∨ (lead l = 9 ∧ 1 < x.toNat) then (0, 0, 4) else (val (l.take (lead l + 1)), lead l + 1, 0)

/-! what is written is read -/
theorem vbF_lead : ∀ (k n : Nat) (more : List UInt8), n < 128 ^ (k + 1) → lead (vbF k n ++ more) + 1 = (vbF k n).length ∧ val (vbF k n) = n ∧ (∃ x, (vbF k n)[(vbF k n).length - 1]? = some x ∧ x.toNat < 128 ∧ (x.toNat = 0 → (vbF k n).length = 1) ∧ 128 ^ ((vbF k n).length - 1) * x.toNat ≤ n)
  | 0, n, more, h => by
    have hn : n < 128 := by simpa using h
    have hu := u8_toNat (n := n) (by omega)
    refine ⟨?_, ?_, u8 n, by simp [vbF], by omega, by simp [vbF], by simp [vbF, hu]⟩
    · simp only [vbF, List.cons_append, List.nil_append, lead, hu, List.length_singleton]
      rw [if_neg (by omega)]
    · simp only [vbF, val, hu]; omega
  | k + 1, n, more, h => by
    unfold vbF
    by_cases hn : n < 128
    · rw [if_pos hn]
      have hu := u8_toNat (n := n) (by omega)
      refine ⟨?_, ?_, u8 n, by simp, by omega, by simp, by simp [hu]⟩
      · simp only [List.cons_append, List.nil_append, lead, hu, List.length_singleton]
        rw [if_neg (by omega)]
      · simp only [val, hu]; omega
    · rw [if_neg hn]
      have hu := u8_toNat (n := n % 128 + 128) (by omega)
      have hdiv : n / 128 < 128 ^ (k + 1) := by
        rw [Nat.pow_succ] at h
        omega
      obtain ⟨h1, h2, x, h3, h4, h5, h6⟩ := vbF_lead k (n / 128) more hdiv
      have hp := vbF_pos k (n / 128)
      refine ⟨?_, ?_, x, ?_, h4, ?_, ?_⟩
      · simp only [List.cons_append, lead, hu, List.length_cons]
        rw [if_pos (by omega)]
        omega
      · simp only [val, hu, h2]; omega
      · simp only [List.length_cons]
        rw [show (vbF k (n / 128)).length + 1 - 1 = ((vbF k (n / 128)).length - 1) + 1 by omega, List.getElem?_cons_succ]
        exact h3
      · intro h0
        exfalso
        have hl1 := h5 h0
        rw [hl1] at h6
        have hv : val (vbF k (n / 128)) = 0 := by
          obtain ⟨y, hy⟩ : ∃ y, vbF k (n / 128) = [y] := by
            cases hh : vbF k (n / 128) with
            | nil => rw [hh] at hl1; simp at hl1
            | cons y t =>
              rw [hh] at hl1
              have : t = [] := List.eq_nil_of_length_eq_zero (by simpa using hl1)
              exact ⟨y, by rw [this]⟩
          rw [hy] at h3 ⊢
          simp at h3
          subst h3
          simp [val, h0]
        rw [h2] at hv
        omega
      · simp only [List.length_cons]
        rw [show (vbF k (n / 128)).length + 1 - 1 = ((vbF k (n / 128)).length - 1) + 1 by omega, Nat.pow_succ]
        have : 128 ^ ((vbF k (n / 128)).length - 1) * 128 * x.toNat = 128 * (128 ^ ((vbF k (n / 128)).length - 1) * x.toNat) := by
          rw [Nat.mul_comm (128 ^ _) 128, Nat.mul_assoc]
        omega
theorem rd_vb (n : Nat) (more : List UInt8) (h : n < 18446744073709551616) : rd (vb n ++ more) = (n, (vb n).length, 0) := by
  obtain ⟨h1, h2, x, h3, h4, h5, h6⟩ := vbF_lead 9 n more (by omega)
  have hle := vbF_len_le 9 n
  have hp := vbF_pos 9 n
  unfold rd vb
  have hlead : lead (vbF 9 n ++ more) = (vbF 9 n).length - 1 := by omega
  rw [if_neg (by omega), hlead, List.getElem?_append_left (by omega), h3]
  simp only []
  rw [if_neg, List.take_append_of_le_length (by omega), show (vbF 9 n).length - 1 + 1 = (vbF 9 n).length by omega, List.take_length, h2]
  rintro (⟨a, b⟩ | ⟨a, b⟩)
  · have := h5 a; omega
  · rw [a] at h6
    have : 128 ^ 9 * 2 ≤ 128 ^ 9 * x.toNat := Nat.mul_le_mul_left _ b
    omega
theorem rd_cut (n k : Nat) (h : n < 18446744073709551616) (hk : k < (vb n).length) : rd ((vb n).take k) = (0, 0, 2) := by
  obtain ⟨h1, _, _⟩ := vbF_lead 9 n [] (by omega)
  rw [List.append_nil] at h1
  have hle := vbF_len_le 9 n
  have hall : ∀ j x, j < k → ((vbF 9 n).take k)[j]? = some x → 128 ≤ x.toNat := by
    intro j x hj hx
    rw [List.getElem?_take, if_pos hj] at hx
    exact lead_high _ j x (by unfold vb at hk; omega) hx
  have hlen : ((vbF 9 n).take k).length = k := by unfold vb at hk; simp; omega
  have hlead : lead ((vbF 9 n).take k) = k := lead_eq _ _ hall (by omega) (fun x hx => by
    rw [List.getElem?_eq_none (by omega)] at hx; cases hx)
  unfold rd vb
  unfold vb at hk
  rw [hlead, if_neg (by omega), List.getElem?_eq_none (by omega)]
/-- what is read is what is written -/
theorem vbF_of : ∀ (k : Nat) (l : List UInt8), l.length ≤ k + 1 → (∀ j x, j + 1 < l.length → l[j]? = some x → 128 ≤ x.toNat) → (∃ x, l[l.length - 1]? = some x ∧ x.toNat < 128 ∧ (x.toNat = 0 → l.length = 1)) → vbF k (val l) = l
  | _, [], _, _, ⟨x, h, _⟩ => by simp at h
  | k, [x], _, _, ⟨y, h, h2, _⟩ => by
    simp at h
    subst h
    have e : val [x] = x.toNat := by simp [val]; omega
    have e2 : u8 x.toNat = x := by unfold u8; simp
    rw [e]
    cases k with
    | zero => simp [vbF, e2]
    | succ k => simp [vbF, h2, e2]
  | 0, x :: y :: l, h, _, _ => by simp at h
  | k + 1, x :: y :: l, h, hh, ⟨z, h3, h4, h5⟩ => by
    have hx := hh 0 x (by simp) (by simp)
    have ih := vbF_of k (y :: l) (by simp at h ⊢; omega) (fun j u hj hu => hh (j + 1) u (by simp at hj ⊢; omega) (by simpa using hu)) ⟨z, by simpa using h3, h4, fun h0 => by have := h5 h0; simp at this⟩
    have hpos : 1 ≤ val (y :: l) := by
      rcases Nat.eq_zero_or_pos (val (y :: l)) with h0 | h0
      · exfalso
        rw [h0] at ih
        have h1 : vbF k 0 = [u8 0] := by cases k <;> simp [vbF]
        rw [h1] at ih
        injection ih with a b
        subst b
        simp at h3
        rw [← a] at h3
        subst h3
        have := h5 (by rfl)
        simp at this
      · exact h0
    have hxl := x.toNat_lt
    have hv : val (x :: y :: l) = x.toNat % 128 + 128 * val (y :: l) := rfl
    unfold vbF
    rw [if_neg (by omega), hv, show (x.toNat % 128 + 128 * val (y :: l)) / 128 = val (y :: l) by omega, ih, show (x.toNat % 128 + 128 * val (y :: l)) % 128 + 128 = x.toNat by omega]
    congr 1
    unfold u8; simp
theorem rd_once {l : List UInt8} {n k : Nat} (h : rd l = (n, k, 0)) : vb n = l.take k ∧ 1 ≤ k ∧ k ≤ l.length := by
  unfold rd at h
  split at h
  · simp at h
  rename_i h10
  split at h
  · simp at h
  · rename_i x hx
    split at h
    · simp at h
    · rename_i hbad
      simp only [Prod.mk.injEq, and_true] at h
      obtain ⟨rfl, rfl⟩ := h
      have hlt : lead l < l.length := (List.getElem?_eq_some_iff.1 hx).1
      refine ⟨?_, by omega, by omega⟩
      have hlen : (l.take (lead l + 1)).length = lead l + 1 := by simp; omega
      refine vbF_of 9 _ (by omega) (fun j y hj hy => ?_) ⟨x, ?_, lead_low l x hx, fun h0 => ?_⟩
      · rw [List.getElem?_take, if_pos (by omega)] at hy
        exact lead_high l j y (by omega) hy
      · rw [hlen, List.getElem?_take, if_pos (by omega), Nat.add_sub_cancel]; exact hx
      · rcases Nat.eq_zero_or_pos (lead l) with h | h
        · omega
        · exact absurd (.inl ⟨h0, h⟩) hbad
theorem rd_bad {l : List UInt8} {n k e : Nat} (h : rd l = (n, k, e)) (he : e ≠ 0) : n = 0 ∧ k = 0 ∧ (e = 2 ∨ e = 4) := by
  unfold rd at h
  split at h
  · simp only [Prod.mk.injEq] at h; omega
  split at h
  · simp only [Prod.mk.injEq] at h; omega
  · split at h
    · simp only [Prod.mk.injEq] at h; omega
    · simp only [Prod.mk.injEq] at h; omega
theorem vb_len_le (n : Nat) : (vb n).length ≤ 10 := vbF_len_le 9 n
theorem vb_pos (n : Nat) : 1 ≤ (vb n).length := vbF_pos 9 n
end Go.Proofs.Ythclgmpjmhacdaa.Vi
