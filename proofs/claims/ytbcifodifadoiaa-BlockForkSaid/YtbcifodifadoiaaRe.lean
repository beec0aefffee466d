/- The plain law of steps: what leads to what, by closing over one thing after another. -/
import Derived.WalkKit
namespace Go.Proofs.Ytbcifodifadoiaa.Re

/-- steps lead from i to j -/
inductive Lead (L : List (Nat × Nat)) : Nat → Nat → Prop
  | step {i j : Nat} : (i, j) ∈ L → Lead L i j
  | cat {i k j : Nat} : Lead L i k → Lead L k j → Lead L i j
/-- .. by way of the things of K -/
inductive Via (L : List (Nat × Nat)) (K : List Nat) : Nat → Nat → Prop
  | step {i j : Nat} : (i, j) ∈ L → Via L K i j
  | cat {i k j : Nat} : Via L K i k → k ∈ K → Via L K k j → Via L K i j
theorem Lead.src {L : List (Nat × Nat)} {i j : Nat} (h : Lead L i j) : ∃ y, (i, y) ∈ L := by
  induction h with
  | step h => exact ⟨_, h⟩
  | cat _ _ ih _ => exact ih
theorem Lead.dst {L : List (Nat × Nat)} {i j : Nat} (h : Lead L i j) : ∃ y, (y, j) ∈ L := by
  induction h with
  | step h => exact ⟨_, h⟩
  | cat _ _ _ ih => exact ih
theorem Lead.mono {L L' : List (Nat × Nat)} (hs : ∀ p, p ∈ L → p ∈ L') {i j : Nat} (h : Lead L i j) : Lead L' i j := by
  induction h with
  | step h => exact .step (hs _ h)
  | cat _ _ h1 h2 => exact .cat h1 h2
theorem via_of_lead {L : List (Nat × Nat)} {K : List Nat} (hK : ∀ p ∈ L, p.1 ∈ K) {i j : Nat} (h : Lead L i j) : Via L K i j := by
  induction h with
  | step h => exact .step h
  | cat _ h2 h1 h3 =>
    obtain ⟨y, hy⟩ := h2.src
    exact .cat h1 (hK _ hy) h3
theorem via_more {L : List (Nat × Nat)} {K : List Nat} {k i j : Nat} (h : Via L (K ++ [k]) i j) : Via L K i j ∨ (Via L K i k ∧ Via L K k j) := by
  induction h with
  | step h => exact .inl (.step h)
  | @cat i m j h1 hm h2 ih1 ih2 =>
    rcases List.mem_append.1 hm with hm | hm
    · rcases ih1 with a | ⟨a, b⟩ <;> rcases ih2 with c | ⟨c, d⟩
      · exact .inl (.cat a hm c)
      · exact .inr ⟨.cat a hm c, d⟩
      · exact .inr ⟨a, .cat b hm c⟩
      · exact .inr ⟨a, d⟩
    · obtain rfl := List.mem_singleton.1 hm
      rcases ih1 with a | ⟨a, b⟩ <;> rcases ih2 with c | ⟨c, d⟩
      · exact .inr ⟨a, c⟩
      · exact .inr ⟨a, d⟩
      · exact .inr ⟨a, c⟩
      · exact .inr ⟨a, d⟩
/-- a thing more to lead by -/
def closeK (R : Nat → Nat → Bool) (k : Nat) : Nat → Nat → Bool := fun i j => R i j || (R i k && R k j)
def initR (L : List (Nat × Nat)) : Nat → Nat → Bool := fun i j => L.contains (i, j)
/-- a number behind a list, once -/
def addB (o : List Nat) (j : Nat) : List Nat := if o.contains j then o else o ++ [j]
/-- the things from which steps lead, as they come -/
def srcs (L : List (Nat × Nat)) : List Nat := L.foldl (fun o p => addB o p.1) []
/-- does it lead? -/
def leadB (L : List (Nat × Nat)) : Nat → Nat → Bool := (srcs L).foldl closeK (initR L)
theorem mem_addB {o : List Nat} {j x : Nat} : x ∈ addB o j ↔ x ∈ o ∨ x = j := by
  unfold addB
  split
  · rename_i h
    have h := List.contains_iff_mem.1 h
    constructor
    · exact .inl
    · rintro (h1 | rfl)
      · exact h1
      · exact h
  · simp
theorem nodup_addB {o : List Nat} {j : Nat} (h : o.Nodup) : (addB o j).Nodup := by
  unfold addB
  split
  · exact h
  · rename_i hc
    rw [List.nodup_append]
    refine ⟨h, by simp, ?_⟩
    intro a ha b hb e
    obtain rfl := List.mem_singleton.1 hb
    subst e
    exact hc (List.contains_iff_mem.2 ha)
theorem mem_srcs' (L : List (Nat × Nat)) : ∀ (o : List Nat) (x : Nat), x ∈ L.foldl (fun o p => addB o p.1) o ↔ x ∈ o ∨ ∃ y, (x, y) ∈ L := by
  induction L with
  | nil => intro o x; simp
  | cons p L ih =>
    intro o x
    rw [List.foldl_cons, ih, mem_addB]
    constructor
    · rintro ((h | rfl) | ⟨y, h⟩)
      · exact .inl h
      · exact .inr ⟨p.2, List.mem_cons_self⟩
      · exact .inr ⟨y, List.mem_cons_of_mem _ h⟩
    · rintro (h | ⟨y, h⟩)
      · exact .inl (.inl h)
      · rcases List.mem_cons.1 h with h | h
        · exact .inl (.inr (by rw [← h]))
        · exact .inr ⟨y, h⟩
theorem mem_srcs {L : List (Nat × Nat)} {x : Nat} : x ∈ srcs L ↔ ∃ y, (x, y) ∈ L := by
  unfold srcs
  rw [mem_srcs']
  simp
theorem nodup_srcs' (L : List (Nat × Nat)) : ∀ o : List Nat, o.Nodup → (L.foldl (fun o p => addB o p.1) o).Nodup := by
  induction L with
  | nil => intro o h; exact h
  | cons p L ih => intro o h; rw [List.foldl_cons]; exact ih _ (nodup_addB h)
theorem nodup_srcs (L : List (Nat × Nat)) : (srcs L).Nodup := nodup_srcs' L [] List.nodup_nil
theorem sound {L : List (Nat × Nat)} : ∀ (K : List Nat) (R : Nat → Nat → Bool), (∀ i j, R i j = true → Lead L i j) → ∀ i j, K.foldl closeK R i j = true → Lead L i j
  | [], R, h => h
  | k :: K, R, h => by
    refine sound K (closeK R k) fun i j hij => ?_
    unfold closeK at hij
    rcases Bool.or_eq_true _ _ ▸ hij with h1 | h1
    · exact h i j h1
    · obtain ⟨h1, h2⟩ := Bool.and_eq_true _ _ ▸ h1
      exact .cat (h _ _ h1) (h _ _ h2)
theorem complete {L : List (Nat × Nat)} : ∀ (K K0 : List Nat) (R : Nat → Nat → Bool), (∀ i j, Via L K0 i j → R i j = true) → ∀ i j, Via L (K0 ++ K) i j → K.foldl closeK R i j = true
  | [], K0, R, h => by simpa using h
  | k :: K, K0, R, h => by
    have := complete K (K0 ++ [k]) (closeK R k) fun i j hij => by
      unfold closeK
      rcases via_more hij with h1 | ⟨h1, h2⟩
      · rw [h _ _ h1, Bool.true_or]
      · rw [h _ _ h1, h _ _ h2]; simp
    simpa using this
theorem leadB_iff {L : List (Nat × Nat)} {i j : Nat} : leadB L i j = true ↔ Lead L i j := by
  constructor
  · exact sound _ _ (fun i j h => .step (by simpa [initR] using h)) i j
  · intro h
    refine complete (srcs L) [] (initR L) (fun i j h => ?_) i j (via_of_lead (fun p hp => by simpa using mem_srcs.2 ⟨p.2, hp⟩) h)
    cases h with
    | step h => simpa [initR] using h
    | cat _ h _ => cases h
theorem leadB_congr {L L' : List (Nat × Nat)} (h : ∀ p, p ∈ L ↔ p ∈ L') : leadB L = leadB L' := by
  funext i j
  rw [Bool.eq_iff_iff, leadB_iff, leadB_iff]
  exact ⟨Lead.mono fun p => (h p).1, Lead.mono fun p => (h p).2⟩
theorem leadB_trans {L : List (Nat × Nat)} {i k j : Nat} (h1 : leadB L i k = true) (h2 : leadB L k j = true) : leadB L i j = true :=
  leadB_iff.2 (.cat (leadB_iff.1 h1) (leadB_iff.1 h2))
theorem leadB_step {L : List (Nat × Nat)} {i j : Nat} (h : (i, j) ∈ L) : leadB L i j = true := leadB_iff.2 (.step h)

/-! alike, ahead, groups -/
def Tr (R : Nat → Nat → Bool) : Prop := ∀ i k j, R i k = true → R k j = true → R i j = true
theorem leadB_tr (L : List (Nat × Nat)) : Tr (leadB L) := fun _ _ _ => leadB_trans
def alikeN (R : Nat → Nat → Bool) (i j : Nat) : Bool := i == j || (R i j && R j i)
def groupN (R : Nat → Nat → Bool) (i : Nat) : Nat := ((List.range i).find? fun j => R i j && R j i).getD i
theorem alikeN_refl {R : Nat → Nat → Bool} (i : Nat) : alikeN R i i = true := by simp [alikeN]
theorem alikeN_symm {R : Nat → Nat → Bool} {i j : Nat} (h : alikeN R i j = true) : alikeN R j i = true := by
  simp only [alikeN, Bool.or_eq_true, beq_iff_eq, Bool.and_eq_true] at h ⊢
  rcases h with h | ⟨h1, h2⟩
  · exact .inl h.symm
  · exact .inr ⟨h2, h1⟩
theorem alikeN_trans {R : Nat → Nat → Bool} (ht : Tr R) {i k j : Nat} (h : alikeN R i k = true) (h' : alikeN R k j = true) : alikeN R i j = true := by
  simp only [alikeN, Bool.or_eq_true, beq_iff_eq, Bool.and_eq_true] at h h' ⊢
  rcases h with rfl | ⟨h1, h2⟩
  · exact h'
  · rcases h' with rfl | ⟨h3, h4⟩
    · exact .inr ⟨h1, h2⟩
    · exact .inr ⟨ht _ _ _ h1 h3, ht _ _ _ h4 h2⟩
theorem find_range {p : Nat → Bool} {n g : Nat} (h : (List.range n).find? p = some g) : g < n ∧ p g = true ∧ ∀ x, x < g → p x = false := by
  have h1 := List.find?_some h
  have h2 := List.mem_range.1 (List.mem_of_find?_eq_some h)
  refine ⟨h2, h1, fun x hx => ?_⟩
  obtain ⟨_, i, hi, e, hall⟩ := List.find?_eq_some_iff_getElem.1 h
  simp only [List.getElem_range] at e hall
  subst e
  have := hall x hx
  simpa using this
theorem group_spec (R : Nat → Nat → Bool) (i : Nat) : groupN R i ≤ i ∧ alikeN R i (groupN R i) = true ∧ ∀ x, x < groupN R i → alikeN R i x = false := by
  unfold groupN
  cases h : (List.range i).find? fun j => R i j && R j i with
  | none =>
    refine ⟨Nat.le_refl _, alikeN_refl i, fun x hx => ?_⟩
    have := List.find?_eq_none.1 h x (List.mem_range.2 hx)
    simp only [alikeN, Bool.or_eq_false_iff, beq_eq_false_iff_ne, ne_eq]
    exact ⟨by simp at hx; omega, by simpa using this⟩
  | some g =>
    obtain ⟨h1, h2, h3⟩ := find_range h
    refine ⟨Nat.le_of_lt h1, ?_, fun x hx => ?_⟩
    · simp [alikeN, h2]
    · simp only [Option.getD_some] at hx
      simp only [alikeN, Bool.or_eq_false_iff, beq_eq_false_iff_ne, ne_eq]
      exact ⟨by omega, h3 x hx⟩
theorem group_eq {R : Nat → Nat → Bool} {i g : Nat} (h1 : alikeN R i g = true) (h2 : ∀ x, x < g → alikeN R i x = false) : groupN R i = g := by
  obtain ⟨a, b, c⟩ := group_spec R i
  rcases Nat.lt_trichotomy (groupN R i) g with h | h | h
  · rw [h2 _ h] at b; cases b
  · exact h
  · rw [c _ h] at h1; cases h1
theorem group_alike {R : Nat → Nat → Bool} (ht : Tr R) {i j : Nat} : alikeN R i j = true ↔ groupN R i = groupN R j := by
  constructor
  · intro h
    obtain ⟨a, b, c⟩ := group_spec R j
    refine group_eq (alikeN_trans ht h b) fun x hx => ?_
    cases hc : alikeN R i x with
    | false => rfl
    | true =>
      have := alikeN_trans ht (alikeN_symm h) hc
      rw [c x hx] at this; cases this
  · intro h
    have h1 := (group_spec R i).2.1
    have h2 := (group_spec R j).2.1
    rw [h] at h1
    exact alikeN_trans ht h1 (alikeN_symm h2)

/-! what steps lead to, found by looking behind each thing that was found -/
def passL (L : List (Nat × Nat)) (x : Nat) (o : List Nat) : List Nat := L.foldl (fun o p => if p.1 == x then addB o p.2 else o) o
theorem mem_passL {L : List (Nat × Nat)} {x : Nat} : ∀ {o : List Nat} {y : Nat}, y ∈ passL L x o ↔ y ∈ o ∨ (x, y) ∈ L := by
  unfold passL
  induction L with
  | nil => intro o y; simp
  | cons p L ih =>
    intro o y
    rw [List.foldl_cons, ih]
    by_cases h : p.1 = x
    · rw [if_pos (beq_iff_eq.2 h), mem_addB]
      constructor
      · rintro ((h1 | rfl) | h1)
        · exact .inl h1
        · exact .inr (List.mem_cons.2 (.inl (by rw [← h])))
        · exact .inr (List.mem_cons_of_mem _ h1)
      · rintro (h1 | h1)
        · exact .inl (.inl h1)
        · rcases List.mem_cons.1 h1 with h1 | h1
          · exact .inl (.inr (by rw [← h1]))
          · exact .inr h1
    · rw [if_neg (fun e => h (beq_iff_eq.1 e))]
      constructor
      · rintro (h1 | h1)
        · exact .inl h1
        · exact .inr (List.mem_cons_of_mem _ h1)
      · rintro (h1 | h1)
        · exact .inl h1
        · rcases List.mem_cons.1 h1 with h1 | h1
          · exact absurd (by rw [← h1]) h
          · exact .inr h1
/-- what is kept while the list grows: all of it is led to, nothing twice, and what is behind the first ones is in it -/
structure Found (L : List (Nat × Nat)) (i : Nat) (at_ : Nat) (o : List Nat) : Prop where
  led : ∀ y ∈ o, Lead L i y
  once : o.Nodup
  first : ∀ y, (i, y) ∈ L → y ∈ o
  closed : ∀ t x, t < at_ → o[t]? = some x → ∀ y, (x, y) ∈ L → y ∈ o
theorem Found.all {L : List (Nat × Nat)} {i at_ : Nat} {o : List Nat} (h : Found L i at_ o) (ha : o.length ≤ at_) (j : Nat) : j ∈ o ↔ leadB L i j = true := by
  rw [leadB_iff]
  constructor
  · exact h.led j
  · have key : ∀ i' j, Lead L i' j → (∀ y, (i', y) ∈ L → y ∈ o) → j ∈ o := by
      intro i' j hl
      induction hl with
      | step hs => intro hf; exact hf _ hs
      | cat _ _ h1 h2 =>
        intro hf
        have hk := h1 hf
        obtain ⟨t, ht, e⟩ := List.getElem_of_mem hk
        exact h2 fun y hy => h.closed t _ (by omega) (by rw [List.getElem?_eq_getElem ht, e]) y hy
    exact fun hl => key i j hl h.first
theorem nodup_len : ∀ {o : List Nat}, o.Nodup → ∀ (l : List Nat), (∀ y ∈ o, y ∈ l) → o.length ≤ l.length
  | [], _, l, _ => Nat.zero_le _
  | a :: o, h, l, hs => by
    obtain ⟨h1, h2⟩ := List.nodup_cons.1 h
    have ha := hs a List.mem_cons_self
    have := nodup_len h2 (l.erase a) fun y hy => (List.mem_erase_of_ne (fun e => h1 (by rw [← e]; exact hy))).2 (hs y (List.mem_cons_of_mem _ hy))
    rw [List.length_erase_of_mem ha] at this
    have hp := List.length_pos_of_mem ha
    simp only [List.length_cons]
    omega
theorem Found.len {L : List (Nat × Nat)} {i at_ : Nat} {o : List Nat} (h : Found L i at_ o) : o.length ≤ L.length := by
  have := nodup_len h.once (L.map (·.2)) fun y hy => by
    obtain ⟨z, hz⟩ := (h.led y hy).dst
    exact List.mem_map_of_mem (f := (·.2)) hz
  simpa using this
end Go.Proofs.Ytbcifodifadoiaa.Re
