/- The plain law of sets as lists: what the document's set says is what the set says. -/
import Derived.Test.YtjfohglkpbgkaaaMkR5
namespace Go.Proofs.Ytjfohglkpbgkaaa.mkR
open Go Go.RowKit Go.Par Go.Kit Go.Proofs.Ytjfohglkpbgkaaa.Mk Go.Proofs.Ytjfohglkpbgkaaa.mkW

theorem mem_elems {n : Nat} {S : Nat → Bool} {j : Nat} : j ∈ elems n S ↔ j < n ∧ S j = true := by
  unfold elems; rw [List.mem_filter, List.mem_range]
theorem elems_succ (k : Nat) (S : Nat → Bool) : elems (k + 1) S = elems k S ++ if S k then [k] else [] := by
  unfold elems
  rw [List.range_succ, List.filter_append]
  congr 1
  cases h : S k <;> simp [h]
theorem hasB_elems {n : Nat} {S : Nat → Bool} (hl : ∀ j, S j = true → j < n) (i : Int) : hasB (elems n S) i = memI S i := by
  rw [Bool.eq_iff_iff]
  unfold hasB memI
  rw [List.any_eq_true]
  simp only [decide_eq_true_eq, Bool.and_eq_true]
  constructor
  · rintro ⟨x, hx, e⟩
    subst e
    exact ⟨by omega, by simpa using (mem_elems.1 hx).2⟩
  · rintro ⟨h1, h2⟩
    exact ⟨i.toNat, mem_elems.2 ⟨hl _ h2, h2⟩, by omega⟩
theorem nextL_elems (n : Nat) (S : Nat → Bool) (a : Int) : nextL (elems n S) a = nextN n S a := by
  unfold nextL nextN elems
  rw [List.find?_filter]
  congr 1
  congr 1
  funext x
  simp [Bool.and_comm]
theorem badP_elems {n : Nat} {S : Nat → Bool} (hl : ∀ j, S j = true → j < n) (i : Int) : (!badP n (elems n S) i) = (fitB n i && !memI S i) := by
  unfold badP fitB
  rw [hasB_elems hl]
  by_cases h1 : i < 0
  · have h2 : ¬ 0 ≤ i := by omega
    simp [h1, h2]
  · have h2 : 0 ≤ i := by omega
    by_cases h3 : (n : Int) ≤ i
    · have h4 : ¬ i < (n : Int) := by omega
      simp [h1, h2, h3, h4]
    · have h4 : i < (n : Int) := by omega
      simp [h1, h2, h3, h4]
theorem elems_lt {k m : Nat} {S : Nat → Bool} (h : k ≤ m) : (elems k S).filter (fun (x : Nat) => decide ((m : Int) < (x : Int))) = [] := by
  rw [List.filter_eq_nil_iff]
  intro x hx
  have := (mem_elems.1 hx).1
  simp only [decide_eq_true_eq]
  omega
theorem elems_ins {S : Nat → Bool} {m : Nat} (hm : S m = false) : ∀ k, elems k (ins S m) = (elems k S).filter (fun (x : Nat) => decide ((x : Int) < (m : Int))) ++ (if m < k then [m] else []) ++ (elems k S).filter (fun (x : Nat) => decide ((m : Int) < (x : Int)))
  | 0 => by simp [elems]
  | k + 1 => by
    rw [elems_succ, elems_succ, elems_ins hm k]
    by_cases h : k < m
    · have e1 : ins S m k = S k := by unfold ins; have : (k == m) = false := beq_false_of_ne (by omega); rw [this, Bool.or_false]
      have h0 : (elems k S).filter (fun (x : Nat) => decide ((m : Int) < (x : Int))) = [] := elems_lt (by omega)
      have hk : ¬ m < k := by omega
      have hk2 : k < m := by omega
      have i1 : (if m < k then [m] else []) = ([] : List Nat) := if_neg (by omega)
      have i2 : (if m < k + 1 then [m] else []) = ([] : List Nat) := if_neg (by omega)
      rw [e1, i1, i2, List.filter_append, List.filter_append, h0]
      cases S k <;> simp [hk, hk2]
    · by_cases h2 : k = m
      · subst h2
        have e1 : ins S k k = true := by unfold ins; simp
        have h0 : (elems k S).filter (fun (x : Nat) => decide ((k : Int) < (x : Int))) = [] := elems_lt (by omega)
        have i1 : (if k < k then [k] else []) = ([] : List Nat) := if_neg (by omega)
        have i2 : (if k < k + 1 then [k] else []) = [k] := if_pos (by omega)
        rw [e1, i1, i2, hm]
        simp only [Bool.false_eq_true, if_false, if_true, List.append_nil, h0]
      · have e1 : ins S m k = S k := by unfold ins; have : (k == m) = false := beq_false_of_ne h2; rw [this, Bool.or_false]
        have hk : m < k := by omega
        have hk2 : ¬ k < m := by omega
        have i1 : (if m < k then [m] else []) = [m] := if_pos (by omega)
        have i2 : (if m < k + 1 then [m] else []) = [m] := if_pos (by omega)
        rw [e1, i1, i2, List.filter_append, List.filter_append]
        cases S k <;> simp [hk, hk2]
theorem putL_elems {n : Nat} {S : Nat → Bool} (hl : ∀ j, S j = true → j < n) (i : Int) : putL n (elems n S) i = elems n (putS n S i) := by
  unfold putL
  have hb := badP_elems hl i
  cases hc : badP n (elems n S) i
  · rw [hc] at hb
    have hb2 : fitB n i = true ∧ memI S i = false := by
      have : (fitB n i && !memI S i) = true := hb.symm
      simpa using this
    have hf := hb2.1
    unfold fitB at hf
    simp only [Bool.and_eq_true, decide_eq_true_eq] at hf
    obtain ⟨m, rfl⟩ : ∃ m : Nat, i = (m : Int) := ⟨i.toNat, by omega⟩
    have hm : S m = false := by
      have h := hb2.2
      unfold memI at h
      simpa using h
    rw [if_neg (by decide)]
    unfold putS
    rw [hb2.1, if_pos rfl, Int.toNat_natCast, elems_ins hm n, if_pos (by omega)]
  · rw [hc] at hb
    rw [if_pos rfl]
    unfold putS
    cases hfit : fitB n i
    · rw [if_neg (by decide)]
    · rw [if_pos rfl]
      rw [hfit] at hb
      have hm : memI S i = true := by simpa using hb
      unfold memI at hm
      simp only [Bool.and_eq_true] at hm
      rw [ins_same hm.2]
theorem drop_elems {n : Nat} {S : Nat → Bool} (i : Int) : (elems n S).filter (fun (x : Nat) => !((x : Int) == i)) = elems n (delS S i) := by
  unfold elems
  rw [List.filter_filter]
  apply List.filter_congr
  intro x _
  unfold delS memI
  by_cases hi : 0 ≤ i
  · obtain ⟨m, rfl⟩ : ∃ m : Nat, i = (m : Int) := ⟨i.toNat, by omega⟩
    simp only [Int.toNat_natCast, hi, decide_true, Bool.true_and]
    by_cases hx : x = m
    · subst hx
      cases h : S x
      · simp [h]
      · simp [del]
    · have h1 : ((x : Int) == (m : Int)) = false := beq_false_of_ne (by omega)
      rw [h1]
      cases h : S m
      · simp
      · have h2 : (x != m) = true := by simpa using hx
        simp [del, h2]
  · have h1 : ((x : Int) == i) = false := beq_false_of_ne (by omega)
    simp [h1, hi]
theorem and_elems {n m : Nat} {S T : Nat → Bool} (hl : ∀ j, T j = true → j < m) : (elems n S).filter (fun (x : Nat) => hasB (elems m T) (x : Int)) = elems n (int S T) := by
  unfold elems
  rw [List.filter_filter]
  apply List.filter_congr
  intro x _
  have := hasB_elems hl (x : Int)
  unfold elems at this
  rw [this]
  unfold memI int
  simp [Bool.and_comm]
theorem all_elems {n m : Nat} {S T : Nat → Bool} (hl : ∀ j, T j = true → j < m) : (elems n S).all (fun (x : Nat) => hasB (elems m T) (x : Int)) = allIn n S T := by
  unfold allIn
  congr 1
  funext x
  rw [hasB_elems hl]
  unfold memI
  simp
theorem len_filter_ne {L : List Nat} {p : Nat → Bool} : (((L.filter p).length : Int) != (L.length : Int)) = L.any (fun x => !p x) := by
  induction L with
  | nil => rfl
  | cons a l ih =>
    have h1 := List.length_filter_le p l
    simp only [List.filter_cons, List.any_cons]
    cases p a
    · simp only [Bool.false_eq_true, if_false, Bool.not_false, Bool.true_or, List.length_cons]
      exact bne_iff_ne.2 (by omega)
    · simp only [if_true, Bool.not_true, Bool.false_or, List.length_cons]
      rw [← ih, Bool.eq_iff_iff, bne_iff_ne, bne_iff_ne]
      omega
theorem drop_says {n : Nat} {S : Nat → Bool} (hl : ∀ j, S j = true → j < n) (i : Int) : ((((elems n S).filter (fun (x : Nat) => !((x : Int) == i))).length : Int) != ((elems n S).length : Int)) = memI S i := by
  rw [len_filter_ne, ← hasB_elems hl]
  unfold hasB
  congr 1
  funext x
  rw [Bool.not_not]
  exact Bool.eq_iff_iff.2 (by simp)
theorem and_says {n m : Nat} {S T : Nat → Bool} (hl : ∀ j, T j = true → j < m) : ((((elems n S).filter (fun (x : Nat) => hasB (elems m T) (x : Int))).length : Int) != ((elems n S).length : Int)) = diff n S (int S T) := by
  rw [len_filter_ne]
  unfold diff
  rw [Bool.eq_iff_iff, List.any_eq_true, List.any_eq_true]
  constructor
  · rintro ⟨x, hx, h⟩
    obtain ⟨h1, h2⟩ := mem_elems.1 hx
    refine ⟨x, List.mem_range.2 h1, ?_⟩
    rw [hasB_elems hl] at h
    unfold memI at h
    unfold int
    simp at h
    simp [h2, h]
  · rintro ⟨x, hx, h⟩
    unfold int at h
    have hs : S x = true ∧ T x = false := by
      revert h
      cases S x <;> cases T x <;> simp
    refine ⟨x, mem_elems.2 ⟨List.mem_range.1 hx, hs.1⟩, ?_⟩
    rw [hasB_elems hl]
    unfold memI
    simp [hs.2]
theorem putS_lt {n : Nat} {S : Nat → Bool} (hl : ∀ j, S j = true → j < n) (i : Int) : ∀ j, putS n S i j = true → j < n := by
  intro j hj
  unfold putS at hj
  cases hf : fitB n i
  · rw [hf, if_neg (by decide)] at hj; exact hl j hj
  · rw [hf, if_pos rfl] at hj
    unfold ins at hj
    unfold fitB at hf
    simp only [Bool.and_eq_true, decide_eq_true_eq] at hf
    rcases (Bool.or_eq_true _ _).mp hj with h | h
    · exact hl j h
    · have := eq_of_beq h; omega
theorem or_fold {n : Nat} : ∀ (L2 : List Nat) (S : Nat → Bool) (c : Bool), (∀ j, S j = true → j < n) →
    L2.foldl (stepL n) (elems n S, c) = (elems n (fun j => S j || (L2.contains j && decide (j < n))), c || L2.any (fun x => decide (x < n) && !S x))
  | [], S, c, _ => by
    simp
  | x :: L2, S, c, hl => by
    rw [List.foldl_cons]
    have e : stepL n (elems n S, c) x = (elems n (putS n S (x : Int)), c || (fitB n (x : Int) && !memI S (x : Int))) := by
      unfold stepL
      rw [putL_elems hl, badP_elems hl]
    rw [e, or_fold L2 _ _ (putS_lt hl _)]
    have hm : memI S (x : Int) = S x := by unfold memI; simp
    have hf : fitB n (x : Int) = decide (x < n) := by unfold fitB; simp
    rw [hm, hf]
    by_cases hx : x < n
    · have hp : putS n S (x : Int) = ins S x := by unfold putS; rw [hf, decide_eq_true hx, if_pos rfl, Int.toNat_natCast]
      rw [hp]
      refine Prod.ext ?_ ?_
      · show elems n _ = elems n _
        congr 1
        funext j
        unfold ins
        rw [List.contains_cons]
        by_cases hj : j = x
        · subst hj; simp [hx]
        · have h1 : (j == x) = false := beq_false_of_ne hj
          simp [h1]
      · show (c || (decide (x < n) && !S x) || _) = (c || _)
        rw [List.any_cons, Bool.or_assoc]
        congr 1
        cases hs : S x
        · simp [hx]
        · rw [ins_same hs]
    · have hp : putS n S (x : Int) = S := by unfold putS; rw [hf, decide_eq_false hx, if_neg (by decide)]
      rw [hp]
      refine Prod.ext ?_ ?_
      · show elems n _ = elems n _
        congr 1
        funext j
        rw [List.contains_cons]
        by_cases hj : j = x
        · subst hj; simp [hx]
        · have h1 : (j == x) = false := beq_false_of_ne hj
          simp [h1]
      · show (c || (decide (x < n) && !S x) || _) = (c || _)
        rw [List.any_cons]
        simp [hx]
theorem or_elems {n m : Nat} {S T : Nat → Bool} (hl : ∀ j, S j = true → j < n) (ht : ∀ j, T j = true → j < m) : orL n (elems n S) (elems m T) = (elems n (uni S T n), diff n S (uni S T n)) := by
  unfold orL
  rw [or_fold _ _ _ hl]
  have hc : ∀ j, (elems m T).contains j = T j := by
    intro j
    rw [Bool.eq_iff_iff, List.contains_iff_mem, mem_elems]
    exact ⟨fun h => h.2, fun h => ⟨ht j h, h⟩⟩
  refine Prod.ext ?_ ?_
  · show elems n _ = elems n _
    congr 1
    funext j
    unfold uni
    rw [hc]
  · show (false || (elems m T).any fun x => decide (x < n) && !S x) = diff n S (uni S T n)
    rw [Bool.false_or]
    unfold diff
    rw [Bool.eq_iff_iff, List.any_eq_true, List.any_eq_true]
    constructor
    · rintro ⟨x, hx, h⟩
      obtain ⟨h1, h2⟩ := mem_elems.1 hx
      simp only [Bool.and_eq_true, decide_eq_true_eq] at h
      refine ⟨x, List.mem_range.2 h.1, ?_⟩
      unfold uni
      have h3 := h.2
      have h4 := h.1
      revert h3
      cases S x <;> simp [h2, h4]
    · rintro ⟨x, hx, h⟩
      have h1 := List.mem_range.1 hx
      unfold uni at h
      have h2 : S x = false ∧ T x = true := by
        revert h
        cases S x <;> cases T x <;> simp
      refine ⟨x, mem_elems.2 ⟨ht x h2.2, h2.2⟩, ?_⟩
      simp [h1, h2.1]
end Go.Proofs.Ytjfohglkpbgkaaa.mkR
