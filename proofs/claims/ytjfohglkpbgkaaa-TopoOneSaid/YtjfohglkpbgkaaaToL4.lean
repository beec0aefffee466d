/- The plain law of the statement TopoOne: a chain is its order; closed to a ring it is one group. -/
import Derived.Test.YtjfohglkpbgkaaaToL2
namespace Go.Proofs.Ytjfohglkpbgkaaa.toL
open Go Go.Proofs.Ytjfohglkpbgkaaa.Re Go.Proofs.Ytjfohglkpbgkaaa.To

/-- a list of all numbers below its length, each once -/
structure Alls (L : List Nat) : Prop where
  lt : ∀ x ∈ L, x < L.length
  nd : L.Nodup
theorem Alls.nil : Alls [] := ⟨fun _ h => absurd h List.not_mem_nil, List.nodup_nil⟩
def putIn (L : List Nat) (k : Nat) : List Nat := L.take k ++ L.length :: L.drop k
theorem putIn_len (L : List Nat) (k : Nat) : (putIn L k).length = L.length + 1 := by
  unfold putIn
  rw [List.length_append, List.length_cons, List.length_take, List.length_drop]
  omega
theorem Alls.put {L : List Nat} (h : Alls L) (k : Nat) : Alls (putIn L k) := by
  have hp : (putIn L k).Perm (L.length :: L) := by
    unfold putIn
    have := List.perm_middle (a := L.length) (l₁ := L.take k) (l₂ := L.drop k)
    rwa [List.take_append_drop] at this
  refine ⟨fun x hx => ?_, ?_⟩
  · rw [putIn_len]
    rcases List.mem_cons.1 (hp.mem_iff.1 hx) with rfl | hx
    · omega
    · have := h.lt x hx; omega
  · rw [hp.nodup_iff, List.nodup_cons]
    exact ⟨fun hm => by have := h.lt _ hm; omega, h.nd⟩
theorem Alls.all {L : List Nat} (h : Alls L) {x : Nat} (hx : x < L.length) : ∃ i : Nat, L[i]? = some x := by
  refine Classical.byContradiction fun hn => ?_
  have hx2 : x ∉ L := fun hm => by
    obtain ⟨i, hi, e⟩ := List.getElem_of_mem hm
    exact hn ⟨i, by rw [List.getElem?_eq_getElem hi, e]⟩
  have := nodup_len (o := x :: L) (List.nodup_cons.2 ⟨hx2, h.nd⟩) (List.range L.length) fun y hy => by
    rcases List.mem_cons.1 hy with rfl | hy
    · exact List.mem_range.2 hx
    · exact List.mem_range.2 (h.lt y hy)
  simp at this
  omega
theorem Alls.inj {L : List Nat} (h : Alls L) {i j x : Nat} (hi : L[i]? = some x) (hj : L[j]? = some x) : i = j := by
  obtain ⟨h1, h2⟩ := List.getElem?_eq_some_iff.1 hi
  obtain ⟨h3, h4⟩ := List.getElem?_eq_some_iff.1 hj
  have H := List.pairwise_iff_getElem.1 (List.nodup_iff_pairwise_ne.1 h.nd)
  rcases Nat.lt_trichotomy i j with hc | hc | hc
  · exact absurd (h2.trans h4.symm) (H i j h1 h3 hc)
  · exact hc
  · exact absurd (h4.trans h2.symm) (H j i h3 h1 hc)
/-- the steps from each to the next, up to the k-th -/
def chain (L : List Nat) (k : Nat) : List (Nat × Nat) := (List.range k).filterMap fun i => match L[i]?, L[i + 1]? with
  | some a, some b => some (a, b)
  | _, _ => none
theorem chain_step {L : List Nat} {k a b : Nat} (ha : L[k]? = some a) (hb : L[k + 1]? = some b) : chain L (k + 1) = chain L k ++ [(a, b)] := by
  unfold chain
  rw [List.range_succ, List.filterMap_append]
  simp [ha, hb]
theorem chain_len (L : List Nat) (k : Nat) : (chain L k).length ≤ k := by
  unfold chain
  exact Nat.le_trans (List.length_filterMap_le _ _) (by simp)
theorem mem_chain {L : List Nat} {k a b : Nat} : (a, b) ∈ chain L k ↔ ∃ i : Nat, i < k ∧ L[i]? = some a ∧ L[i + 1]? = some b := by
  unfold chain
  rw [List.mem_filterMap]
  constructor
  · rintro ⟨i, hi, e⟩
    refine ⟨i, List.mem_range.1 hi, ?_⟩
    split at e
    · rename_i x y h1 h2
      injection e with e
      injection e with e1 e2
      subst e1; subst e2
      exact ⟨h1, h2⟩
    · cases e
  · rintro ⟨i, hi, h1, h2⟩
    exact ⟨i, List.mem_range.2 hi, by rw [h1, h2]⟩
theorem chain_lead {L : List Nat} (h : Alls L) {k a b : Nat} (hl : Lead (chain L k) a b) : ∃ i j : Nat, L[i]? = some a ∧ L[j]? = some b ∧ i < j := by
  induction hl with
  | step hs =>
    obtain ⟨i, _, h1, h2⟩ := mem_chain.1 hs
    exact ⟨i, i + 1, h1, h2, by omega⟩
  | cat _ _ ih1 ih2 =>
    obtain ⟨i, j, h1, h2, h3⟩ := ih1
    obtain ⟨i', j', h4, h5, h6⟩ := ih2
    have := h.inj h2 h4
    exact ⟨i, j', h1, h5, by omega⟩
theorem lead_chain {L : List Nat} {k : Nat} {M : List (Nat × Nat)} (hM : ∀ p ∈ chain L k, p ∈ M) : ∀ d i a b : Nat, L[i]? = some a → L[i + d + 1]? = some b → i + d + 1 ≤ k → Lead M a b := by
  intro d
  induction d with
  | zero =>
    intro i a b ha hb hk
    exact .step (hM _ (mem_chain.2 ⟨i, by omega, ha, hb⟩))
  | succ d ih =>
    intro i a b ha hb hk
    have hlt : i + d + 1 < L.length := by have := (List.getElem?_eq_some_iff.1 hb).1; omega
    have hm : L[i + d + 1]? = some L[i + d + 1] := List.getElem?_eq_getElem hlt
    exact .cat (ih i a _ ha hm (by omega)) (.step (hM _ (mem_chain.2 ⟨i + d + 1, by omega, hm, hb⟩)))
/-- of a chain what is ahead stands ahead -/
theorem chain_ah {L : List Nat} (h : Alls L) {i j a b : Nat} (ha : L[i]? = some a) (hb : L[j]? = some b) : leadB (chain L (L.length - 1)) a b = decide (i < j) := by
  rw [Bool.eq_iff_iff, leadB_iff, decide_eq_true_eq]
  constructor
  · intro hl
    obtain ⟨i', j', h1, h2, h3⟩ := chain_lead h hl
    have e1 := h.inj ha h1
    have e2 := h.inj hb h2
    omega
  · intro hij
    have hj := (List.getElem?_eq_some_iff.1 hb).1
    have := lead_chain (L := L) (k := L.length - 1) (M := chain L (L.length - 1)) (fun _ hp => hp) (j - i - 1) i a b ha (by rw [show i + (j - i - 1) + 1 = j by omega]; exact hb) (by omega)
    exact this
theorem chain_alike {L : List Nat} (h : Alls L) {a b : Nat} (ha : a < L.length) (hb : b < L.length) (he : alikeN (leadB (chain L (L.length - 1))) a b = true) : a = b := by
  obtain ⟨i, hi⟩ := h.all ha
  obtain ⟨j, hj⟩ := h.all hb
  unfold alikeN at he
  rw [chain_ah h hi hj, chain_ah h hj hi] at he
  simp at he
  rcases he with he | he
  · exact he
  · omega
theorem chain_group {L : List Nat} (h : Alls L) {a : Nat} (ha : a < L.length) : groupN (leadB (chain L (L.length - 1))) a = a := by
  obtain ⟨h1, h2, _⟩ := group_spec (leadB (chain L (L.length - 1))) a
  exact (chain_alike h ha (by omega) h2).symm
theorem chain_members {L : List Nat} (h : Alls L) {g : Nat} (hg : g < L.length) : members L.length (leadB (chain L (L.length - 1))) g = [g] := by
  have key : ∀ n, n ≤ L.length → members n (leadB (chain L (L.length - 1))) g = if g < n then [g] else [] := by
    intro n
    induction n with
    | zero => intro _; rfl
    | succ n ih =>
      intro hn
      have e : members (n + 1) (leadB (chain L (L.length - 1))) g = members n (leadB (chain L (L.length - 1))) g ++ if n = g then [n] else [] := by
        unfold members
        rw [List.range_succ, List.filter_append]
        congr 1
        rw [List.filter_cons, List.filter_nil, chain_group h (by omega)]
        by_cases hng : n = g
        · simp [hng]
        · simp [hng]
      rw [e, ih (by omega)]
      by_cases hng : n = g
      · rw [if_pos hng, if_neg (by omega), if_pos (by omega), hng]; rfl
      · rw [if_neg hng, List.append_nil]
        by_cases hlt : g < n
        · rw [if_pos hlt, if_pos (by omega)]
        · rw [if_neg hlt, if_neg (by omega)]
  rw [key _ (Nat.le_refl _), if_pos hg]
theorem chain_ok {L : List Nat} (h : Alls L) {k g : Nat} (hg : g < L.length) (hk : okG L.length (leadB (chain L (L.length - 1))) (L.take k) g = true) (hkl : k < L.length) : L[k]? = some g := by
  obtain ⟨_, h2, h3⟩ := okG_iff.1 hk
  obtain ⟨j, hj⟩ := h.all hg
  have hjk : k ≤ j := by
    refine Decidable.byContradiction fun hn => h2 ?_
    exact List.mem_of_getElem? (by rw [List.getElem?_take_of_lt (show j < k by omega)]; exact hj)
  by_cases e : k = j
  · rw [e]; exact hj
  · exfalso
    have hk1 : L[k]? = some L[k] := List.getElem?_eq_getElem hkl
    have hm := h3 L[k] (h.lt _ (List.getElem_mem hkl)) (ah_iff.2 ⟨by rw [chain_ah h hk1 hj]; simp; omega, by rw [chain_ah h hj hk1]; simp; omega⟩)
    obtain ⟨i, hi, e2⟩ := List.getElem_of_mem hm
    rw [List.getElem_take] at e2
    rw [List.length_take] at hi
    have := h.inj (List.getElem?_eq_getElem (show i < L.length by omega)) (by rw [e2]; exact hk1)
    omega
theorem chain_okk {L : List Nat} (h : Alls L) {k g : Nat} (hk : L[k]? = some g) : okG L.length (leadB (chain L (L.length - 1))) (L.take k) g = true := by
  have hkl := (List.getElem?_eq_some_iff.1 hk).1
  refine okG_iff.2 ⟨chain_group h (h.lt _ (List.mem_of_getElem? hk)), fun hm => ?_, fun j hj ha => ?_⟩
  · obtain ⟨i, hi, e2⟩ := List.getElem_of_mem hm
    rw [List.getElem_take] at e2
    rw [List.length_take] at hi
    have := h.inj (List.getElem?_eq_getElem (show i < L.length by omega)) (by rw [e2]; exact hk)
    omega
  · obtain ⟨i, hi⟩ := h.all hj
    have := (ah_iff.1 ha).1
    rw [chain_ah h hi hk] at this
    exact List.mem_of_getElem? (by rw [List.getElem?_take_of_lt (of_decide_eq_true this)]; exact hi)
theorem chain_order {L : List Nat} (h : Alls L) : orderN L.length (leadB (chain L (L.length - 1))) = L := by
  have key : ∀ d k, k + d = L.length → orderF L.length (leadB (chain L (L.length - 1))) d (L.take k) = L := by
    intro d
    induction d with
    | zero => intro k hk; exact List.take_of_length_le (by omega)
    | succ d ih =>
      intro k hk
      have hkl : k < L.length := by omega
      have hg : L[k]? = some L[k] := List.getElem?_eq_getElem hkl
      have hgl := h.lt _ (List.getElem_mem hkl)
      have hp : pick L.length (leadB (chain L (L.length - 1))) (L.take k) = some L[k] := pick_at hgl (chain_okk h hg) fun x hx => by
        cases hc : okG L.length (leadB (chain L (L.length - 1))) (L.take k) x with
        | false => rfl
        | true =>
          have := chain_ok h (by omega) hc hkl
          rw [hg] at this
          injection this with this
          omega
      rw [orderF, if_pos (by rw [List.length_take]; omega), hp]
      show orderF _ _ d (L.take k ++ members _ _ L[k]) = L
      rw [chain_members h hgl]
      have := ih (k + 1) (by omega)
      rwa [List.take_add_one, hg] at this
  exact key L.length 0 (by omega)
/-- closed to a ring each leads to each -/
def ring (L : List Nat) : List (Nat × Nat) := chain L (L.length - 1) ++ [(L.getD (L.length - 1) 0, L.getD 0 0)]
theorem ring_up {L : List Nat} {i j a b : Nat} (hi : L[i]? = some a) (hj : L[j]? = some b) (hij : i < j) : Lead (ring L) a b := by
  have hj2 := (List.getElem?_eq_some_iff.1 hj).1
  have e : i + (j - i - 1) + 1 = j := by omega
  exact lead_chain (L := L) (k := L.length - 1) (fun p hp => List.mem_append_left _ hp) (j - i - 1) i a b hi (by rw [e]; exact hj) (by omega)
theorem ring_all {L : List Nat} (h : Alls L) {a b : Nat} (ha : a < L.length) (hb : b < L.length) : leadB (ring L) a b = true := by
  obtain ⟨i, hi⟩ := h.all ha
  obtain ⟨j, hj⟩ := h.all hb
  have hil := (List.getElem?_eq_some_iff.1 hi).1
  have hjl := (List.getElem?_eq_some_iff.1 hj).1
  rw [leadB_iff]
  have h0 : L[0]? = some (L.getD 0 0) := by rw [List.getD_eq_getElem?_getD, List.getElem?_eq_getElem (by omega)]; rfl
  have hn : L[L.length - 1]? = some (L.getD (L.length - 1) 0) := by rw [List.getD_eq_getElem?_getD, List.getElem?_eq_getElem (by omega)]; rfl
  have back : Lead (ring L) (L.getD (L.length - 1) 0) (L.getD 0 0) := .step (List.mem_append_right _ (by simp))
  have l1 : Lead (ring L) a (L.getD 0 0) := by
    by_cases e : i = L.length - 1
    · rw [e, hn] at hi
      injection hi with hi
      rw [← hi]
      exact back
    · exact .cat (ring_up hi hn (by omega)) back
  by_cases e : j = 0
  · rw [e, h0] at hj
    injection hj with hj
    rw [← hj]
    exact l1
  · exact .cat l1 (ring_up h0 hj (by omega))
theorem ring_group {L : List Nat} (h : Alls L) {a : Nat} (ha : a < L.length) : groupN (leadB (ring L)) a = 0 :=
  group_eq (by unfold alikeN; rw [ring_all h ha (by omega), ring_all h (by omega) ha]; simp) fun x hx => by omega
theorem ring_order {L : List Nat} (h : Alls L) (h0 : 0 < L.length) : orderN L.length (leadB (ring L)) = List.range L.length := by
  have ok : okG L.length (leadB (ring L)) [] 0 = true := okG_iff.2 ⟨ring_group h h0, List.not_mem_nil, fun j hj ha => by
    have := (ah_iff.1 ha).2
    rw [ring_all h h0 hj] at this
    cases this⟩
  have hp := pick_at (o := []) h0 ok fun x hx => absurd hx (by omega)
  have hm : members L.length (leadB (ring L)) 0 = List.range L.length := by
    unfold members
    rw [List.filter_eq_self]
    intro a ha
    rw [ring_group h (List.mem_range.1 ha)]
    rfl
  unfold orderN
  obtain ⟨m, hmn⟩ : ∃ m, L.length = m + 1 := ⟨L.length - 1, by omega⟩
  generalize L.length = n at *
  subst hmn
  rw [orderF, if_pos (by simp), hp]
  show orderF _ _ m ([] ++ members _ _ 0) = _
  rw [hm, List.nil_append]
  cases m with
  | zero => rfl
  | succ m => rw [orderF, if_neg (by simp)]
end Go.Proofs.Ytjfohglkpbgkaaa.toL
