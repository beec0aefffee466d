/- Plain law of frames. -/
import Derived.Test.YtmkbkophpmkcbaaDoorSealW3
import Derived.Test.YtmkbkophpmkcbaaDoorVi
namespace Go.Proofs.YtmkbkophpmkcbaaDoor.frm
open Go Go.Kit Vi Go.Proofs.YtmkbkophpmkcbaaDoor.slW Go.Proofs.YtmkbkophpmkcbaaDoor.crcW

def frame8 (l : List UInt8) : List UInt8 := (vb l.length ++ l) ++ four8 (sum [vb l.length ++ l])
theorem frame8_len (l : List UInt8) : (frame8 l).length = (vb l.length).length + l.length + 4 := by simp [frame8, four8_len]; omega
theorem frame8_pos (l : List UInt8) : 5 ≤ (frame8 l).length := by have := vb_pos l.length; rw [frame8_len]; omega
/-- what stands in the first frame: the bytes, how many bytes it takes, the error's number -/
def next8 (l : List UInt8) : List UInt8 × Nat × Nat :=
  if (rd l).2.2 ≠ 0 then ([], 0, (rd l).2.2) else if 65536 < (rd l).1 then ([], 0, 3) else
  if l.length < (rd l).2.1 + (rd l).1 + 4 then ([], 0, 2) else
  if (l.drop ((rd l).2.1 + (rd l).1)).take 4 = four8 (sum [l.take ((rd l).2.1 + (rd l).1)]) then ((l.drop (rd l).2.1).take (rd l).1, (rd l).2.1 + (rd l).1 + 4, 0) else ([], 0, 5)
theorem next8_bad {l : List UInt8} {x : List UInt8} {n e : Nat} (h : next8 l = (x, n, e)) (he : e ≠ 0) : x = [] ∧ n = 0 := by
  unfold next8 at h
  split at h
  · simp only [Prod.mk.injEq] at h; exact ⟨h.1.symm, h.2.1.symm⟩
  split at h
  · simp only [Prod.mk.injEq] at h; exact ⟨h.1.symm, h.2.1.symm⟩
  split at h
  · simp only [Prod.mk.injEq] at h; exact ⟨h.1.symm, h.2.1.symm⟩
  split at h
  · simp only [Prod.mk.injEq] at h; omega
  · simp only [Prod.mk.injEq] at h; exact ⟨h.1.symm, h.2.1.symm⟩
theorem next8_good {l : List UInt8} {x : List UInt8} {n : Nat} (h : next8 l = (x, n, 0)) : 4 ≤ n ∧ n ≤ l.length ∧ x.length ≤ n := by
  unfold next8 at h
  split at h
  · simp only [Prod.mk.injEq] at h; omega
  split at h
  · simp only [Prod.mk.injEq] at h; omega
  split at h
  · simp only [Prod.mk.injEq] at h; omega
  split at h
  · simp only [Prod.mk.injEq] at h
    refine ⟨by omega, by omega, ?_⟩
    rw [← h.1, List.length_take]; omega
  · simp only [Prod.mk.injEq] at h; omega
theorem next8_err (l : List UInt8) : (next8 l).2.2 ≤ 5 := by
  have : (rd l).2.2 = 0 ∨ (rd l).2.2 = 2 ∨ (rd l).2.2 = 4 := by
    by_cases h : (rd l).2.2 = 0
    · exact .inl h
    · exact .inr (rd_bad (l := l) (n := (rd l).1) (k := (rd l).2.1) (e := (rd l).2.2) rfl h).2.2
  unfold next8
  split
  · simp only; omega
  split
  · simp
  split
  · simp
  split <;> simp
/-- a frame is taken as it was, whatever is behind -/
theorem next8_frame (l more : List UInt8) (h : l.length ≤ 65536) : next8 (frame8 l ++ more) = (l, (frame8 l).length, 0) := by
  have h1 : rd (frame8 l ++ more) = (l.length, (vb l.length).length, 0) := by
    unfold frame8
    rw [List.append_assoc, List.append_assoc]
    exact rd_vb _ _ (by omega)
  have hl := frame8_len l
  unfold next8
  rw [h1]
  simp only
  rw [if_neg (by decide), if_neg (by omega), if_neg (by rw [List.length_append, hl]; omega)]
  have hA : (vb l.length ++ l).length = (vb l.length).length + l.length := by simp
  have ht : (frame8 l ++ more).take ((vb l.length).length + l.length) = vb l.length ++ l := by
    unfold frame8
    rw [List.append_assoc, ← hA, List.take_left]
  have hd : (frame8 l ++ more).drop ((vb l.length).length + l.length) = four8 (sum [vb l.length ++ l]) ++ more := by
    unfold frame8
    rw [List.append_assoc, ← hA, List.drop_left]
  rw [ht, hd, show (four8 (sum [vb l.length ++ l]) ++ more).take 4 = four8 (sum [vb l.length ++ l]) from by
    have := four8_len (sum [vb l.length ++ l])
    rw [← this, List.take_left], if_pos rfl]
  have hk : ((frame8 l ++ more).drop (vb l.length).length).take l.length = l := by
    unfold frame8
    rw [List.append_assoc, List.append_assoc, List.drop_left, List.take_left]
  rw [hk, hl]
/-- cut off, it is short -/
theorem next8_cut (l : List UInt8) (k : Nat) (h : l.length ≤ 65536) (hk : k < (frame8 l).length) : next8 ((frame8 l).take k) = ([], 0, 2) := by
  have hl := frame8_len l
  by_cases hv : k < (vb l.length).length
  · have h1 : (frame8 l).take k = (vb l.length).take k := by
      unfold frame8
      rw [List.append_assoc, List.take_append_of_le_length (by omega)]
    rw [h1]
    have h2 := rd_cut l.length k (by omega) hv
    unfold next8
    rw [h2, if_pos (by decide)]
  · have h1 : ∃ more, (frame8 l).take k = vb l.length ++ more := by
      refine ⟨(l ++ four8 (sum [vb l.length ++ l])).take (k - (vb l.length).length), ?_⟩
      unfold frame8
      rw [List.append_assoc, List.take_append, List.take_of_length_le (by omega)]
    obtain ⟨more, hm⟩ := h1
    have h2 : rd ((frame8 l).take k) = (l.length, (vb l.length).length, 0) := by rw [hm]; exact rd_vb _ _ (by omega)
    have h3 : ((frame8 l).take k).length = k := by rw [List.length_take]; omega
    unfold next8
    rw [h2, h3]
    simp only
    rw [if_neg (by decide), if_neg (by omega), if_pos (by omega)]

/-- all frames: what stands in them, where they end, the error's number -/
def all8 : Nat → List UInt8 → List (List UInt8) × Nat × Nat
  | 0, _ => ([], 0, 0)
  | f + 1, l => if l = [] then ([], 0, 0) else if (next8 l).2.2 ≠ 0 then ([], 0, (next8 l).2.2) else
    ((next8 l).1 :: (all8 f (l.drop (next8 l).2.1)).1, (next8 l).2.1 + (all8 f (l.drop (next8 l).2.1)).2.1, (all8 f (l.drop (next8 l).2.1)).2.2)
theorem all8_more : ∀ (f g : Nat) (l : List UInt8), l.length ≤ f → f ≤ g → all8 g l = all8 f l
  | 0, g, l, h, _ => by
    obtain rfl : l = [] := List.eq_nil_of_length_eq_zero (by omega)
    cases g <;> simp [all8]
  | f + 1, 0, l, h, hg => by omega
  | f + 1, g + 1, l, h, hg => by
    by_cases hn : l = []
    · subst hn; simp [all8]
    by_cases he : (next8 l).2.2 = 0
    · have h4 := next8_good (l := l) (x := (next8 l).1) (n := (next8 l).2.1) (by rw [← he])
      rw [all8, all8, all8_more f g (l.drop (next8 l).2.1) (by rw [List.length_drop]; omega) (by omega)]
    · simp [all8, he]
def all_ (l : List UInt8) : List (List UInt8) × Nat × Nat := all8 l.length l
theorem all_nil : all_ [] = ([], 0, 0) := rfl
theorem all_bad {l : List UInt8} (hl : l ≠ []) (h : (next8 l).2.2 ≠ 0) : all_ l = ([], 0, (next8 l).2.2) := by
  unfold all_
  cases l with
  | nil => exact absurd rfl hl
  | cons x l => rw [List.length_cons, all8, if_neg hl, if_pos h]
theorem all_good {l x : List UInt8} {n : Nat} (hl : l ≠ []) (h : next8 l = (x, n, 0)) : all_ l = (x :: (all_ (l.drop n)).1, n + (all_ (l.drop n)).2.1, (all_ (l.drop n)).2.2) := by
  have hg := next8_good h
  unfold all_
  obtain ⟨f, hf⟩ : ∃ f, l.length = f + 1 := ⟨l.length - 1, by omega⟩
  rw [hf, all8, if_neg hl, h]
  simp only
  rw [if_neg (by decide), all8_more (l.drop n).length f (l.drop n) (Nat.le_refl _) (by rw [List.length_drop]; omega)]
theorem all_good_pos {l x : List UInt8} {n : Nat} (h : next8 l = (x, n, 0)) : l ≠ [] := by
  have := next8_good h
  rintro rfl
  simp at this; omega
/-- how many frames are whole within the first k bytes, and where they end -/
def whole : List (List UInt8) → Nat → Nat
  | [], _ => 0
  | l :: ls, k => if (frame8 l).length ≤ k then whole ls (k - (frame8 l).length) + 1 else 0
def ends : List (List UInt8) → Nat → Nat
  | _, 0 => 0
  | [], _ => 0
  | l :: ls, i + 1 => (frame8 l).length + ends ls i
def cat (ls : List (List UInt8)) : List UInt8 := (ls.map frame8).flatten
theorem whole_le : ∀ (ls : List (List UInt8)) (k : Nat), whole ls k ≤ ls.length
  | [], _ => by simp [whole]
  | l :: ls, k => by
    unfold whole
    split
    · have := whole_le ls (k - (frame8 l).length); simp; omega
    · simp
theorem ends_succ : ∀ (ls : List (List UInt8)) (i : Nat) (l : List UInt8), ls[i]? = some l → ends ls (i + 1) = ends ls i + (frame8 l).length
  | [], i, l, h => by simp at h
  | x :: ls, 0, l, h => by
    simp at h; subst h
    cases ls <;> simp [ends]
  | x :: ls, i + 1, l, h => by
    rw [List.getElem?_cons_succ] at h
    rw [ends, ends, ends_succ ls i l h]; omega
theorem ends_mono (ls : List (List UInt8)) (i : Nat) : ends ls i ≤ ends ls (i + 1) := by
  by_cases h : i < ls.length
  · rw [ends_succ ls i _ (List.getElem?_eq_getElem h)]; omega
  · have : ∀ (ls : List (List UInt8)) (i : Nat), ls.length ≤ i → ends ls i ≤ ends ls (i + 1) := by
      intro ls
      induction ls with
      | nil => intro i _; cases i <;> simp [ends]
      | cons x ls ih =>
        intro i hi
        cases i with
        | zero => simp at hi
        | succ i => rw [ends, ends]; have := ih i (by simpa using hi); omega
    exact this ls i (by omega)
/-- the walk's count: it goes on while the next one's end is within -/
theorem whole_is : ∀ (ls : List (List UInt8)) (k n : Nat), n ≤ ls.length → (∀ i, i < n → ends ls (i + 1) ≤ k) → (n < ls.length → k < ends ls (n + 1)) → whole ls k = n
  | [], k, n, hn, _, _ => by simp at hn; simp [whole, hn]
  | l :: ls, k, 0, _, _, h => by
    have := h (by simp)
    unfold whole
    rw [if_neg]
    have e : ends (l :: ls) (0 + 1) = (frame8 l).length := by cases ls <;> simp [ends]
    omega
  | l :: ls, k, n + 1, hn, h1, h2 => by
    have h0 := h1 0 (by omega)
    have e : ends (l :: ls) (0 + 1) = (frame8 l).length := by cases ls <;> simp [ends]
    unfold whole
    rw [if_pos (by omega), whole_is ls (k - (frame8 l).length) n (by simpa using hn)]
    · intro i hi
      have := h1 (i + 1) (by omega)
      rw [ends] at this; omega
    · intro hlt
      have := h2 (by simpa using hlt)
      rw [ends] at this; omega
theorem cat_len : ∀ ls : List (List UInt8), (cat ls).length = ends ls ls.length
  | [] => rfl
  | l :: ls => by
    have := cat_len ls
    simp only [cat, List.map_cons, List.flatten_cons, List.length_append, List.length_cons, ends] at this ⊢
    omega
/-- OF WHAT IS CUT OFF THE WHOLE FRAMES ARE LEFT -/
theorem all_cut : ∀ (ls : List (List UInt8)) (k : Nat), (∀ l ∈ ls, l.length ≤ 65536) → k ≤ (cat ls).length →
    all_ ((cat ls).take k) = (ls.take (whole ls k), ends ls (whole ls k), if ends ls (whole ls k) = k then 0 else 2)
  | [], k, _, hk => by
    simp [cat] at hk
    subst hk
    rfl
  | l :: ls, k, h, hk => by
    have hl := h l (by simp)
    have hp := frame8_pos l
    have hc : cat (l :: ls) = frame8 l ++ cat ls := rfl
    rw [hc] at hk ⊢
    by_cases hin : (frame8 l).length ≤ k
    · have ht : (frame8 l ++ cat ls).take k = frame8 l ++ (cat ls).take (k - (frame8 l).length) := by
        rw [List.take_append, List.take_of_length_le hin]
      have hw : whole (l :: ls) k = whole ls (k - (frame8 l).length) + 1 := by rw [whole, if_pos hin]
      have hn := next8_frame l ((cat ls).take (k - (frame8 l).length)) hl
      rw [ht, hw, all_good (all_good_pos hn) hn, List.drop_left, all_cut ls (k - (frame8 l).length) (fun x hx => h x (by simp [hx])) (by simp at hk; omega)]
      have e2 : ends (l :: ls) (whole ls (k - (frame8 l).length) + 1) = (frame8 l).length + ends ls (whole ls (k - (frame8 l).length)) := rfl
      rw [e2, List.take_succ_cons]
      congr 2
      by_cases hh : ends ls (whole ls (k - (frame8 l).length)) = k - (frame8 l).length
      · rw [if_pos hh, if_pos (by omega)]
      · rw [if_neg hh, if_neg (by omega)]
    · have ht : (frame8 l ++ cat ls).take k = (frame8 l).take k := by rw [List.take_append_of_le_length (by omega)]
      have hw : whole (l :: ls) k = 0 := by rw [whole, if_neg hin]
      rw [ht, hw]
      rcases Nat.eq_zero_or_pos k with h0 | h0
      · subst h0; rfl
      · have hn := next8_cut l k hl (by omega)
        have hne : (frame8 l).take k ≠ [] := by
          intro e
          have h4 : ((frame8 l).take k).length = k := by rw [List.length_take]; omega
          rw [e, List.length_nil] at h4
          omega
        rw [all_bad hne (by rw [hn]; decide), hn]
        have e0 : ends (l :: ls) 0 = 0 := rfl
        rw [e0, if_neg (by omega)]
        rfl
end Go.Proofs.YtmkbkophpmkcbaaDoor.frm
