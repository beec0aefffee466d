/- The plain law of NetPlays: an act, by the net and by the document. -/
import Derived.Test.YtmekdhlcflielaaNtR9
namespace Go.Proofs.Ytmekdhlcflielaa.ntL
open Go Go.RowKit Go.Par Go.Kit Go.Proofs.Ytmekdhlcflielaa.mpA Go.Proofs.Ytmekdhlcflielaa.cl Go.Proofs.Ytmekdhlcflielaa.nt

/-- the cuts of the net are the document's -/
def RelC (C : Cuts) (cs : List (Nat × Nat)) : Prop := ∀ a b, C (min a b) (max a b) = hitR cs a b
theorem RelC.nil : RelC (fun _ _ => false) [] := fun _ _ => rfl
theorem RelC.snoc {C : Cuts} {cs : List (Nat × Nat)} (h : RelC C cs) (a b : Nat) : RelC (setC C (min a b) (max a b)) (cs ++ [(a, b)]) := fun c d => by
  have e : hitR (cs ++ [(a, b)]) c d = (hitR cs c d || ((a, b) == (c, d) || (a, b) == (d, c))) := by
    unfold hitR
    rw [List.any_append]
    simp
  rw [e, ← h c d]
  unfold setC
  congr 1
  rw [Bool.eq_iff_iff]
  simp only [Bool.and_eq_true, beq_iff_eq, Bool.or_eq_true, Prod.mk.injEq]
  omega
theorem RelC.whole {C : Cuts} {cs : List (Nat × Nat)} (h : RelC C cs) (n a b : Nat) : wholeB n C a b = wholeR n cs a b := by
  unfold wholeB wholeR
  rw [h a b]
theorem RelC.take {C : Cuts} {cs : List (Nat × Nat)} (h : RelC C cs) (n : Nat) (ps : List Pk) (K : Int) : takeS n C ps K = rtakeS n cs ps K := by
  unfold takeS rtakeS
  rcases getK ps K with _ | p
  · rfl
  · dsimp only
    rw [h.whole]
/-- an act: the net and the document agree -/
theorem RelC.step {C : Cuts} {cs : List (Nat × Nat)} (h : RelC C cs) (n : Nat) (ps : List Pk) (x : Act) :
    (doS n C ps x).1 = (toldS n cs ps x).1 ∧ (doS n C ps x).2.2 = (toldS n cs ps x).2.2 ∧ RelC (doS n C ps x).2.1 (toldS n cs ps x).2.1 ∧ (toldS n cs ps x).2.1.length ≤ cs.length + 1 := by
  unfold doS toldS
  by_cases k0 : x.k = 0
  · rw [if_pos k0, if_pos k0]; exact ⟨rfl, rfl, h, Nat.le_succ _⟩
  rw [if_neg k0, if_neg k0]
  by_cases k1 : x.k = 1
  · rw [if_pos k1, if_pos k1, h.take]; exact ⟨rfl, rfl, h, Nat.le_succ _⟩
  rw [if_neg k1, if_neg k1]
  by_cases k2 : x.k = 2
  · rw [if_pos k2, if_pos k2]; exact ⟨rfl, rfl, h, Nat.le_succ _⟩
  rw [if_neg k2, if_neg k2]
  by_cases k3 : x.k = 3
  · rw [if_pos k3, if_pos k3]; exact ⟨rfl, rfl, h, Nat.le_succ _⟩
  rw [if_neg k3, if_neg k3]
  by_cases k4 : x.k = 4
  · rw [if_pos k4, if_pos k4]; exact ⟨rfl, rfl, h, Nat.le_succ _⟩
  rw [if_neg k4, if_neg k4]
  by_cases k5 : x.k = 5
  · rw [if_pos k5, if_pos k5]
    unfold Go.Proofs.Ytmekdhlcflielaa.ntL.cutS
    by_cases hp : pairB n x.a x.b = true
    · rw [if_pos hp, if_pos hp, if_pos hp]; exact ⟨rfl, rfl, h.snoc _ _, by simp⟩
    · rw [if_neg hp, if_neg hp, if_neg hp]; exact ⟨rfl, rfl, h, Nat.le_succ _⟩
  rw [if_neg k5, if_neg k5]
  by_cases k6 : x.k = 6
  · rw [if_pos k6, if_pos k6]; exact ⟨rfl, rfl, RelC.nil, by simp⟩
  · rw [if_neg k6, if_neg k6]; exact ⟨rfl, rfl, h, Nat.le_succ _⟩
/-- every packet was sent from some node -/
def From1 (ps : List Pk) : Prop := ∀ p ∈ ps, 1 ≤ p.fr
theorem From1.snoc {ps : List Pk} {q : Pk} (h : From1 ps) (hq : 1 ≤ q.fr) : From1 (ps ++ [q]) := fun p hp => by
  rcases List.mem_append.1 hp with hp | hp
  · exact h p hp
  · rw [List.mem_singleton] at hp; subst hp; exact hq
theorem From1.del {ps : List Pk} (h : From1 ps) (k : Nat) : From1 (Go.Proofs.Ytmekdhlcflielaa.nt.del ps k) := fun p hp => by
  unfold Go.Proofs.Ytmekdhlcflielaa.nt.del at hp
  rcases List.mem_append.1 hp with hp | hp
  · exact h p (List.mem_of_mem_take hp)
  · exact h p (List.mem_of_mem_drop hp)
theorem From1.step {ps : List Pk} (h : From1 ps) (n : Nat) (C : Cuts) (x : Act) : From1 (doS n C ps x).1 := by
  unfold doS
  by_cases k0 : x.k = 0
  · rw [if_pos k0]
    show From1 (sendS n ps x.a x.b x.l).1
    unfold sendS
    split
    · rename_i hp
      split
      · refine h.snoc ?_
        unfold pairB at hp
        simp only [Bool.and_eq_true, decide_eq_true_eq] at hp
        exact hp.1
      · exact h
    · exact h
  rw [if_neg k0]
  by_cases k1 : x.k = 1
  · rw [if_pos k1]
    show From1 (takeS n C ps x.K).1
    unfold takeS
    split
    · exact h
    · split
      · exact h.del _
      · exact h.del _
  rw [if_neg k1]
  by_cases k2 : x.k = 2
  · rw [if_pos k2]
    show From1 (dropS ps x.K).1
    unfold dropS
    split
    · exact h
    · exact h.del _
  rw [if_neg k2]
  by_cases k3 : x.k = 3
  · rw [if_pos k3]
    show From1 (twiceS ps x.K).1
    unfold twiceS
    split
    · exact h
    · rename_i p hp
      split
      · exact h.snoc (h p (getK_mem hp))
      · exact h
  rw [if_neg k3]
  by_cases k4 : x.k = 4
  · rw [if_pos k4]
    show From1 (spoilS ps x.K x.at_ x.m).1
    unfold spoilS
    split
    · exact h
    · rename_i p hp
      split
      · exact h
      · intro q hq
        rcases List.mem_or_eq_of_mem_set hq with hq | rfl
        · exact h q hq
        · exact h p (getK_mem hp)
  rw [if_neg k4]
  split
  · exact h
  · split
    · exact h
    · exact h
/-- a zero packet's box is stored: the document's net stays -/
theorem RefN.awayP {w : World} {vl vc : Value} {ps : List Pk} {cs : List (Nat × Nat)} (h : RefN w vl vc ps cs) (hf : From1 ps) {g : Nat} (hb : Blk w g TP zP) (l : Array Value) : RefN (w.setRow g l) vl vc ps cs := by
  refine h.awayOff ⟨?_, ?_⟩ l
  · obtain ⟨A, c, rfl, -, -, hr, -⟩ := h.l
    rintro ad n' c' e hn rfl
    injection e with e1 e2 e3
    subst e1; subst e2; subst e3
    obtain ⟨b, off, e, hc⟩ := hr.2 (by omega)
    injection e with e
    subst e
    cases ps with
    | nil => simp at hn
    | cons p ps =>
      have h1 := hc 0 (.int .u8 (p.fr : Int)) (by rw [rrows_cons]; rfl)
      have h2 : w.cell? ⟨b, off + 0, none⟩ = zP[off + 0]? := by
        have h3 : w.heap[b]? = some (.cells zP.toArray TP (0, 0)) := hb
        unfold World.cell?
        rw [h3]
        simp
      rw [h2] at h1
      have h4 := List.mem_of_getElem? h1
      have h5 := hf p List.mem_cons_self
      simp only [List.mem_cons, List.not_mem_nil, or_false, Value.int.injEq, true_and, reduceCtorEq] at h4
      omega
  · obtain ⟨A, c, rfl, -, -, -, ht⟩ := h.c
    rintro ad n' c' e hn rfl
    injection e with e1 e2 e3
    obtain ⟨cs', h9⟩ := ht (by omega) _ e1
    exact absurd (Blk.ty_eq h9 hb) (by decide)
end Go.Proofs.Ytmekdhlcflielaa.ntL
