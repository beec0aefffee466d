/- The statement TopoFits: what is known of an order; its walk. -/
import Derived.Test.YtjfohglkpbgkaaaToL
namespace Go.Proofs.Ytjfohglkpbgkaaa.toL
open Go Go.RowKit Go.Par Go.Kit Go.Proofs.Ytjfohglkpbgkaaa.Mk Go.Proofs.Ytjfohglkpbgkaaa.mkW Go.Proofs.Ytjfohglkpbgkaaa.Re Go.Proofs.Ytjfohglkpbgkaaa.reW Go.Proofs.Ytjfohglkpbgkaaa.mkR Go.Proofs.Ytjfohglkpbgkaaa.To Go.Proofs.Ytjfohglkpbgkaaa.toW

theorem alikeI_nat {n : Nat} {R : Nat → Nat → Bool} {i j : Nat} (hi : i < n) : alikeI n R (i : Int) (j : Int) = alikeN R i j := by
  unfold alikeI alikeN
  rw [show leadI R (i : Int) (j : Int) = R i j by simp [leadI], show leadI R (j : Int) (i : Int) = R j i by simp [leadI], decide_eq_true (show (0 : Int) ≤ (i : Int) by omega), decide_eq_true (show (i : Int) < (n : Int) by omega)]
  rw [show ((i : Int) == (j : Int)) = (i == j) by rw [Bool.eq_iff_iff]; simp only [beq_iff_eq]; omega]
  rfl
/-- a part of an order fits -/
theorem fits_part {n : Nat} {R : Nat → Nat → Bool} {o : List Nat} (h1 : ∀ x ∈ o, x < n) (h2 : o.Nodup) (h3 : o.Pairwise fun a b => ahN R b a = false) : fitsB n R (o.map fun n : Nat => (n : Int)) = true := by
  refine fits_yes fun k hk => ?_
  rw [List.length_map] at hk
  refine okK_yes (z := (o[k] : Int)) (by rw [List.getElem?_map, List.getElem?_eq_getElem hk]; rfl) (fitB_of ⟨by omega, by have := h1 _ (List.getElem_mem hk); omega⟩) fun j x hj hx => ?_
  rw [List.getElem?_map, List.getElem?_eq_getElem (by omega)] at hx
  obtain rfl := Option.some.inj hx
  refine ⟨fun e => ?_, ?_⟩
  · have := (List.pairwise_iff_getElem.1 (List.nodup_iff_pairwise_ne.1 h2)) j k (by omega) hk hj
    have e' : ((o[j] : Nat) : Int) = (o[k] : Int) := e
    exact this (by omega)
  · show aheadI R ((o[k] : Nat) : Int) ((o[j] : Nat) : Int) = false
    rw [aheadI_nat]
    exact (List.pairwise_iff_getElem.1 h3) j k (by omega) hk hj
/-- the part that stays -/
def keepP (o : List Nat) (bs : List Bool) (k : Nat) : List Nat := (List.range k).filterMap fun i => if bs.length ≤ i ∨ bs[i]? = some false then o[i]? else none
theorem keepP_sub (o : List Nat) (bs : List Bool) : ∀ k, k ≤ o.length → (keepP o bs k).Sublist (o.take k)
  | 0, _ => by simp [keepP]
  | k + 1, h => by
    have ih := keepP_sub o bs k (by omega)
    unfold keepP at ih ⊢
    rw [List.range_succ, List.filterMap_append, List.take_add_one]
    refine List.Sublist.append ih ?_
    have hlt : k < o.length := by omega
    rw [List.getElem?_eq_getElem hlt]
    by_cases hc : bs.length ≤ k ∨ bs[k]? = some false
    · simp [hc, List.getElem?_eq_getElem hlt]
    · simp [hc]
theorem keepP_yes {o : List Nat} {bs : List Bool} {k x : Nat} (hx : o[k]? = some x) (h : bs.length ≤ k ∨ bs[k]? = some false) : keepP o bs (k + 1) = keepP o bs k ++ [x] := by
  unfold keepP
  rw [List.range_succ, List.filterMap_append]
  simp [h, hx]
theorem keepP_no {o : List Nat} {bs : List Bool} {k : Nat} (h : bs[k]? = some true) : keepP o bs (k + 1) = keepP o bs k := by
  unfold keepP
  rw [List.range_succ, List.filterMap_append]
  have h2 : ¬ (bs.length ≤ k ∨ bs[k]? = some false) := by
    rintro (h2 | h2)
    · rw [List.getElem?_eq_none h2] at h; cases h
    · rw [h2] at h; cases h
  simp [h2]
/-- where each thing stands, told from 1; 0 of what has not come -/
def posN (o : List Nat) (k x : Nat) : Nat := match (List.range k).find? fun i => o[i]? == some x with
  | some i => i + 1
  | none => 0
theorem posN_zero (o : List Nat) (x : Nat) : posN o 0 x = 0 := rfl
theorem posN_new {o : List Nat} (hd : o.Nodup) {k x : Nat} (hx : o[k]? = some x) : posN o k x = 0 := by
  unfold posN
  rw [List.find?_eq_none.2]
  intro i hi h
  have hi := List.mem_range.1 hi
  have e := beq_iff_eq.1 h
  obtain ⟨h1, h2⟩ := List.getElem?_eq_some_iff.1 e
  obtain ⟨h3, h4⟩ := List.getElem?_eq_some_iff.1 hx
  have := (List.pairwise_iff_getElem.1 (List.nodup_iff_pairwise_ne.1 hd)) i k h1 h3 hi
  exact this (h2.trans h4.symm)
theorem posN_step {o : List Nat} (hd : o.Nodup) {k y : Nat} (hy : o[k]? = some y) (x : Nat) : posN o (k + 1) x = if x = y then k + 1 else posN o k x := by
  unfold posN
  rw [List.range_succ, List.find?_append]
  by_cases e : x = y
  · subst e
    rw [if_pos rfl]
    have h0 := posN_new hd hy
    unfold posN at h0
    cases hf : (List.range k).find? fun i => o[i]? == some x with
    | some i => rw [hf] at h0; cases h0
    | none => simp [hy]
  · rw [if_neg e]
    have hne : ¬ o[k]? = some x := fun h => e (Option.some.inj (h.symm.trans hy))
    cases hf : (List.range k).find? fun i => o[i]? == some x with
    | some i => simp
    | none => simp [hne]
theorem posN_at {o : List Nat} (hd : o.Nodup) {i x : Nat} (hx : o[i]? = some x) : posN o o.length x = i + 1 := by
  have key : ∀ k, k ≤ o.length → posN o k x = if i < k then i + 1 else 0 := by
    intro k
    induction k with
    | zero => intro _; rfl
    | succ k ih =>
      intro hk
      have hy : o[k]? = some o[k] := List.getElem?_eq_getElem (by omega)
      rw [posN_step hd hy, ih (by omega)]
      by_cases e : x = o[k]
      · rw [if_pos e]
        obtain ⟨h1, h2⟩ := List.getElem?_eq_some_iff.1 hx
        have : i = k := by
          have H := List.pairwise_iff_getElem.1 (List.nodup_iff_pairwise_ne.1 hd)
          rcases Nat.lt_trichotomy i k with h | h | h
          · exact absurd (h2.trans e) (H i k h1 (by omega) h)
          · exact h
          · exact absurd (e.symm.trans h2.symm) (H k i (by omega) h1 h)
        rw [if_pos (by omega), this]
      · rw [if_neg e]
        have : i ≠ k := fun h => e (by rw [h] at hx; exact Option.some.inj (hx.symm.trans hy))
        by_cases hik : i < k
        · rw [if_pos hik, if_pos (by omega)]
        · rw [if_neg hik, if_neg (by omega)]
  have hlt := (List.getElem?_eq_some_iff.1 hx).1
  rw [key _ (Nat.le_refl _), if_pos hlt]
/-- what leads on stands ahead, or is alike -/
theorem pos_lead {n : Nat} {R : Nat → Nat → Bool} {o : List Nat} (h : Inv n R o) (hl : o.length = n) {a b : Nat} (ha : a < n) (hb : b < n) (hR : R a b = true) (hp : posN o o.length b < posN o o.length a) : alikeN R a b = true := by
  have all : ∀ x, x < n → ∃ i, o[i]? = some x := fun x hx => by
    refine Classical.byContradiction fun hn => ?_
    have hx2 : x ∉ o := fun hm => by
      obtain ⟨i, hi, e⟩ := List.getElem_of_mem hm
      exact hn ⟨i, by rw [List.getElem?_eq_getElem hi, e]⟩
    have := nodup_len (o := x :: o) (List.nodup_cons.2 ⟨hx2, h.nodup⟩) (List.range n) fun y hy => by
      rcases List.mem_cons.1 hy with rfl | hy
      · exact List.mem_range.2 hx
      · exact List.mem_range.2 (h.lt y hy)
    simp at this
    omega
  obtain ⟨i, hi⟩ := all a ha
  obtain ⟨j, hj⟩ := all b hb
  rw [posN_at h.nodup hi, posN_at h.nodup hj] at hp
  obtain ⟨h1, h2⟩ := List.getElem?_eq_some_iff.1 hi
  obtain ⟨h3, h4⟩ := List.getElem?_eq_some_iff.1 hj
  have := (List.pairwise_iff_getElem.1 h.ord) j i h3 h1 (by omega)
  rw [h2, h4] at this
  unfold ahN at this
  rw [hR, Bool.true_and] at this
  have hba : R b a = true := by simpa using this
  unfold alikeN
  rw [hR, hba]
  simp
end Go.Proofs.Ytjfohglkpbgkaaa.toL
