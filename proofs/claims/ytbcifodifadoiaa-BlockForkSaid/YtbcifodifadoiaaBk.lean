/- What the blocks of a list are: the plain law. -/
import Derived.Test.YtbcifodifadoiaaRe
namespace Go.Proofs.Ytbcifodifadoiaa.Bk
open Go.Proofs.Ytbcifodifadoiaa.Re

/-- a block -/
inductive T where
  | mk (kind : Int) (n : Int) (subs : List T)
def T.kind : T → Int | .mk k _ _ => k
def T.n : T → Int | .mk _ n _ => n
def T.subs : T → List T | .mk _ _ s => s
mutual
def T.things : T → List Int
  | .mk k n s => if k = 1 then [n] else thingsL s
def thingsL : List T → List Int
  | [] => []
  | t :: ts => T.things t ++ thingsL ts
end
mutual
def T.odd : T → Nat
  | .mk k _ s => (if k = 2 ∨ k = 3 then 1 else 0) + (if k = 1 then 0 else oddL s)
def oddL : List T → Nat
  | [] => 0
  | t :: ts => T.odd t + oddL ts
end
/-- can a list be cut here? -/
def cutB (B : Int → Int → Bool) (l : List Int) (i : Nat) : Bool := (l.take i).all fun x => (l.drop i).all fun y => B x y
def seg (l : List Int) (a b : Nat) : List Int := (l.drop a).take (b - a)
/-- the pieces behind k things, and where the next one begins -/
def pst (B : Int → Int → Bool) (l : List Int) : Nat → Nat × List (List Int)
  | 0 => (0, [])
  | k + 1 => if decide (k + 1 = l.length) || cutB B l (k + 1) then (k + 1, (pst B l k).2 ++ [seg l (pst B l k).1 (k + 1)]) else pst B l k
def pieces (B : Int → Int → Bool) (l : List Int) : List (List Int) := (pst B l l.length).2
/-- are two things near, by their places? -/
def nr (N : Int → Int → Bool) (l : List Int) (i k : Nat) : Bool := N (l.getD i 0) (l.getD k 0)
def edg (N : Int → Int → Bool) (l : List Int) : List (Nat × Nat) := (List.range l.length).flatMap fun i => ((List.range l.length).filter (nr N l i)).map fun k => (i, k)
/-- are two places of one side? -/
def conn (N : Int → Int → Bool) (l : List Int) (i k : Nat) : Bool := (i == k) || leadB (edg N l) i k
def sideL (N : Int → Int → Bool) (l : List Int) (i : Nat) : List Nat := (List.range l.length).filter (conn N l i)
def firsts (N : Int → Int → Bool) (l : List Int) : List Nat := (List.range l.length).filter fun i => (List.range i).all fun j => !conn N l j i
def line (z : Int) : T := .mk 1 z []
def runs (N : Int → Int → Bool) (l : List Int) (i : Nat) : List Int := (sideL N l i).map fun k => l.getD k 0
def pieceT (N : Int → Int → Bool) (rec_ : List Int → List T) (l : List Int) : T :=
  if l.length = 1 then line (l.getD 0 0) else if (firsts N l).length = 1 then .mk 3 0 (l.map line) else .mk 2 0 ((firsts N l).map fun i => .mk 4 0 (rec_ (runs N l i)))
/-- the blocks of a list -/
def blocksF (B N : Int → Int → Bool) : Nat → List Int → List T
  | 0, _ => []
  | f + 1, l => (pieces B l).map (pieceT N (blocksF B N f))

theorem pst_le (B : Int → Int → Bool) (l : List Int) : ∀ k, (pst B l k).1 ≤ k
  | 0 => Nat.le_refl _
  | k + 1 => by
    unfold pst
    split
    · exact Nat.le_refl _
    · exact Nat.le_succ_of_le (pst_le B l k)
theorem seg_app (l : List Int) {a b : Nat} (h : a ≤ b) : l.take a ++ seg l a b = l.take b := by
  unfold seg
  have e : b = a + (b - a) := by omega
  have h1 := List.take_add (l := l) (i := a) (j := b - a)
  rw [← h1, ← e]
theorem pst_flat (B : Int → Int → Bool) (l : List Int) : ∀ k, (pst B l k).2.flatten = l.take (pst B l k).1
  | 0 => by simp [pst]
  | k + 1 => by
    unfold pst
    split
    · dsimp only
      rw [List.flatten_append, pst_flat B l k]
      simp only [List.flatten_cons, List.flatten_nil, List.append_nil]
      exact seg_app l (Nat.le_succ_of_le (pst_le B l k))
    · exact pst_flat B l k
theorem pst_end (B : Int → Int → Bool) (l : List Int) : (pst B l l.length).1 = l.length := by
  cases h : l.length with
  | zero => rfl
  | succ k =>
    unfold pst
    rw [if_pos (by rw [h]; simp)]
theorem pieces_flat (B : Int → Int → Bool) (l : List Int) : (pieces B l).flatten = l := by
  unfold pieces
  rw [pst_flat, pst_end, List.take_length]
theorem seg_len (l : List Int) {a b : Nat} (hb : b ≤ l.length) : (seg l a b).length = b - a := by
  unfold seg
  rw [List.length_take, List.length_drop]; omega
theorem pst_mem (B : Int → Int → Bool) (l : List Int) : ∀ k, k ≤ l.length → ∀ s ∈ (pst B l k).2, 0 < s.length ∧ s.length ≤ l.length
  | 0, _, s, h => by simp [pst] at h
  | k + 1, hk, s, h => by
    unfold pst at h
    split at h
    · rcases List.mem_append.1 h with h | h
      · exact pst_mem B l k (by omega) s h
      · rw [List.mem_singleton.1 h, seg_len l hk]
        have := pst_le B l k
        omega
    · exact pst_mem B l k (by omega) s h
theorem pieces_mem {B : Int → Int → Bool} {l s : List Int} (h : s ∈ pieces B l) : 0 < s.length ∧ s.length ≤ l.length := pst_mem B l _ (Nat.le_refl _) s h

theorem nr_symm {N : Int → Int → Bool} (hN : ∀ a b, N a b = N b a) (l : List Int) (i k : Nat) : nr N l i k = nr N l k i := hN _ _
theorem mem_edg {N : Int → Int → Bool} {l : List Int} {i k : Nat} : (i, k) ∈ edg N l ↔ i < l.length ∧ k < l.length ∧ nr N l i k = true := by
  unfold edg
  simp only [List.mem_flatMap, List.mem_map, List.mem_filter, List.mem_range, Prod.mk.injEq]
  constructor
  · rintro ⟨a, h1, b, ⟨h2, h3⟩, rfl, rfl⟩
    exact ⟨h1, h2, h3⟩
  · rintro ⟨h1, h2, h3⟩
    exact ⟨i, h1, k, ⟨h2, h3⟩, rfl, rfl⟩
/-- of one side, as a way -/
inductive Cn (N : Int → Int → Bool) (l : List Int) : Nat → Nat → Prop
  | refl (i : Nat) : Cn N l i i
  | step {i j k : Nat} : Cn N l i j → j < l.length → k < l.length → nr N l j k = true → Cn N l i k
theorem Cn.trans {N : Int → Int → Bool} {l : List Int} {i j k : Nat} (h : Cn N l i j) (h2 : Cn N l j k) : Cn N l i k := by
  induction h2 with
  | refl => exact h
  | step _ h3 h4 h5 ih => exact .step ih h3 h4 h5
theorem Cn.symm {N : Int → Int → Bool} (hN : ∀ a b, N a b = N b a) {l : List Int} {i j : Nat} (h : Cn N l i j) : Cn N l j i := by
  induction h with
  | refl => exact .refl _
  | step _ h3 h4 h5 ih => exact Cn.trans (.step (.refl _) h4 h3 (by rw [nr_symm hN]; exact h5)) ih
theorem Cn.of_lead {N : Int → Int → Bool} {l : List Int} {i k : Nat} (h : Lead (edg N l) i k) : Cn N l i k := by
  induction h with
  | step h => obtain ⟨h1, h2, h3⟩ := mem_edg.1 h; exact .step (.refl _) h1 h2 h3
  | cat _ _ h1 h2 => exact Cn.trans h1 h2
theorem conn_iff {N : Int → Int → Bool} {l : List Int} {i k : Nat} : conn N l i k = true ↔ Cn N l i k := by
  unfold conn
  rw [Bool.or_eq_true, beq_iff_eq, leadB_iff]
  constructor
  · rintro (rfl | h)
    · exact .refl _
    · exact Cn.of_lead h
  · intro h
    induction h with
    | refl => exact .inl rfl
    | @step j k _ h1 h2 h3 ih =>
      rcases ih with rfl | ih
      · exact .inr (.step (mem_edg.2 ⟨h1, h2, h3⟩))
      · exact .inr (.cat ih (.step (mem_edg.2 ⟨h1, h2, h3⟩)))
theorem Cn.lt {N : Int → Int → Bool} {l : List Int} {i k : Nat} (h : Cn N l i k) (hi : i < l.length) : k < l.length := by
  cases h with
  | refl => exact hi
  | step _ _ h _ => exact h
theorem mem_sideL {N : Int → Int → Bool} {l : List Int} {i k : Nat} : k ∈ sideL N l i ↔ k < l.length ∧ Cn N l i k := by
  unfold sideL
  rw [List.mem_filter, List.mem_range, conn_iff]
theorem mem_firsts {N : Int → Int → Bool} {l : List Int} {i : Nat} : i ∈ firsts N l ↔ i < l.length ∧ ∀ j, j < i → ¬ Cn N l j i := by
  unfold firsts
  rw [List.mem_filter, List.mem_range, List.all_eq_true]
  refine and_congr_right fun _ => ⟨fun h j hj hc => ?_, fun h j hj => ?_⟩
  · have := h j (List.mem_range.2 hj)
    rw [conn_iff.2 hc] at this
    cases this
  · have := h j (List.mem_range.1 hj)
    cases hc : conn N l j i with
    | false => rfl
    | true => exact absurd (conn_iff.1 hc) this
theorem firsts_nodup (N : Int → Int → Bool) (l : List Int) : (firsts N l).Nodup := List.Nodup.sublist List.filter_sublist List.nodup_range
theorem sideL_nodup (N : Int → Int → Bool) (l : List Int) (i : Nat) : (sideL N l i).Nodup := List.Nodup.sublist List.filter_sublist List.nodup_range
theorem sideL_lt (N : Int → Int → Bool) (l : List Int) (i : Nat) : (sideL N l i).Pairwise (· < ·) := List.Pairwise.sublist List.filter_sublist List.pairwise_lt_range
/-- each place is of a side that has a first one -/
theorem has_first (N : Int → Int → Bool) (l : List Int) {k : Nat} (hk : k < l.length) : ∃ i, i ∈ firsts N l ∧ Cn N l i k ∧ i ≤ k := by
  have key : ∀ m i, i ≤ m → i ≤ k → Cn N l i k → ∃ i, i ∈ firsts N l ∧ Cn N l i k ∧ i ≤ k := by
    intro m
    induction m with
    | zero =>
      intro i hi hik hc
      exact ⟨i, mem_firsts.2 ⟨by omega, fun j hj => by omega⟩, hc, hik⟩
    | succ m ih =>
      intro i hi hik hc
      by_cases h : ∃ j, j < i ∧ Cn N l j i
      · obtain ⟨j, hj, hc2⟩ := h
        exact ih j (by omega) (by omega) (hc2.trans hc)
      · exact ⟨i, mem_firsts.2 ⟨by omega, fun j hj hc2 => h ⟨j, hj, hc2⟩⟩, hc, hik⟩
  exact key k k (Nat.le_refl _) (Nat.le_refl _) (.refl _)
theorem first_eq {N : Int → Int → Bool} (hN : ∀ a b, N a b = N b a) {l : List Int} {i j : Nat} (hi : i ∈ firsts N l) (hj : j ∈ firsts N l) (h : Cn N l i j) : i = j := by
  obtain ⟨_, h1⟩ := mem_firsts.1 hi
  obtain ⟨_, h2⟩ := mem_firsts.1 hj
  rcases Nat.lt_trichotomy i j with h3 | h3 | h3
  · exact absurd h (h2 i h3)
  · exact h3
  · exact absurd (h.symm hN) (h1 j h3)
theorem zero_first {N : Int → Int → Bool} {l : List Int} (h : 0 < l.length) : 0 ∈ firsts N l := mem_firsts.2 ⟨h, fun j hj => by omega⟩
theorem two_mem {α : Type} [DecidableEq α] {l : List α} (hn : l.Nodup) {a : α} (ha : a ∈ l) (h : l.length ≠ 1) : ∃ b ∈ l, b ≠ a := by
  match l, hn, ha, h with
  | [x], _, _, h => exact absurd rfl h
  | x :: y :: l, hn, _, _ =>
    have hxy : x ≠ y := fun e => (List.nodup_cons.1 hn).1 (by rw [e]; exact List.mem_cons_self)
    by_cases hx : x = a
    · exact ⟨y, by simp, fun e => hxy (by rw [hx, e])⟩
    · exact ⟨x, by simp, hx⟩
theorem filter_lt {n : Nat} {p : Nat → Bool} {k : Nat} (hk : k < n) (hp : p k = false) : ((List.range n).filter p).length < n := by
  have h1 : ((List.range n).filter p).length ≤ ((List.range n).erase k).length := nodup_len (List.Nodup.sublist List.filter_sublist List.nodup_range) _ fun y hy => by
    obtain ⟨h2, h3⟩ := List.mem_filter.1 hy
    exact (List.mem_erase_of_ne (fun e => by rw [e, hp] at h3; cases h3)).2 h2
  rw [List.length_erase_of_mem (List.mem_range.2 hk), List.length_range] at h1
  omega
/-- of a piece of two sides or more each side is shorter -/
theorem side_lt {N : Int → Int → Bool} (hN : ∀ a b, N a b = N b a) {l : List Int} (h0 : 0 < l.length) (h : (firsts N l).length ≠ 1) (i : Nat) : (sideL N l i).length < l.length := by
  obtain ⟨j, hj, hj0⟩ := two_mem (firsts_nodup N l) (zero_first h0) h
  have hjl := (mem_firsts.1 hj).1
  by_cases hc : Cn N l i 0
  · refine filter_lt hjl ?_
    cases hc2 : conn N l i j with
    | false => rfl
    | true => exact absurd (first_eq hN (zero_first h0) hj ((hc.symm hN).trans (conn_iff.1 hc2))) (fun e => hj0 e.symm)
  · refine filter_lt h0 ?_
    cases hc2 : conn N l i 0 with
    | false => rfl
    | true => exact absurd (conn_iff.1 hc2) hc
theorem runs_len (N : Int → Int → Bool) (l : List Int) (i : Nat) : (runs N l i).length = (sideL N l i).length := by unfold runs; rw [List.length_map]
/-- the sides hold all places, once -/
theorem sides_perm {N : Int → Int → Bool} (hN : ∀ a b, N a b = N b a) (l : List Int) : ((firsts N l).flatMap (sideL N l)).Perm (List.range l.length) := by
  refine (List.perm_ext_iff_of_nodup ?_ List.nodup_range).2 fun k => ?_
  · unfold List.Nodup
    rw [List.pairwise_flatMap]
    refine ⟨fun i _ => sideL_nodup N l i, List.Pairwise.imp_of_mem ?_ (firsts_nodup N l)⟩
    intro i j hi hj hij x hx y hy e
    subst e
    exact hij (first_eq hN hi hj ((mem_sideL.1 hx).2.trans ((mem_sideL.1 hy).2.symm hN)))
  · rw [List.mem_flatMap, List.mem_range]
    constructor
    · rintro ⟨i, _, h⟩
      exact (mem_sideL.1 h).1
    · intro hk
      obtain ⟨i, h1, h2, _⟩ := has_first N l hk
      exact ⟨i, h1, mem_sideL.2 ⟨hk, h2⟩⟩
theorem perm_flatMap {α β : Type} {f g : α → List β} : ∀ (l : List α), (∀ i ∈ l, (f i).Perm (g i)) → (l.flatMap f).Perm (l.flatMap g)
  | [], _ => List.Perm.refl _
  | x :: l, h => by
    rw [List.flatMap_cons, List.flatMap_cons]
    exact (h x List.mem_cons_self).append (perm_flatMap l fun i hi => h i (List.mem_cons_of_mem _ hi))
theorem thingsL_map {α : Type} (f : α → T) : ∀ l : List α, thingsL (l.map f) = l.flatMap fun x => (f x).things
  | [] => rfl
  | x :: l => by rw [List.map_cons, thingsL, List.flatMap_cons, thingsL_map f l]
theorem line_things (z : Int) : (line z).things = [z] := by simp [line, T.things]
theorem flatMap_one {α : Type} : ∀ l : List α, (l.flatMap fun x => [x]) = l
  | [] => rfl
  | x :: l => by rw [List.flatMap_cons, flatMap_one l]; rfl
theorem lines_things (l : List Int) : thingsL (l.map line) = l := by
  rw [thingsL_map]
  simp only [line_things]
  exact flatMap_one l
theorem range_getD : ∀ l : List Int, (List.range l.length).map (fun k => l.getD k 0) = l := fun l => by
  refine List.ext_getElem? fun i => ?_
  rw [List.getElem?_map]
  by_cases h : i < l.length
  · rw [List.getElem?_range h]
    simp [h]
  · rw [List.getElem?_eq_none (by simpa using Nat.le_of_not_lt h), List.getElem?_eq_none (by omega)]
    rfl
theorem one_getD {l : List Int} (h : l.length = 1) : [l.getD 0 0] = l := by
  match l, h with
  | [x], _ => rfl
/-- a piece's things are the piece, in some order, when those of its sides are -/
theorem piece_perm {N : Int → Int → Bool} (hN : ∀ a b, N a b = N b a) {rec_ : List Int → List T} {l : List Int} (h0 : 0 < l.length) (ih : ∀ s : List Int, s.length < l.length → (thingsL (rec_ s)).Perm s) : (pieceT N rec_ l).things.Perm l := by
  unfold pieceT
  split
  · rename_i h
    rw [line_things, one_getD h]
  · split
    · rw [T.things, if_neg (by decide), lines_things]
    · rename_i h1 h2
      rw [T.things, if_neg (by decide), thingsL_map]
      have e1 : ((firsts N l).flatMap fun i => (T.mk 4 0 (rec_ (runs N l i))).things).Perm ((firsts N l).flatMap (runs N l)) := perm_flatMap _ fun i _ => by
        rw [T.things, if_neg (by decide)]
        exact ih _ (by rw [runs_len]; exact side_lt hN h0 h2 i)
      refine e1.trans ?_
      have e2 : (firsts N l).flatMap (runs N l) = ((firsts N l).flatMap (sideL N l)).map fun k => l.getD k 0 := by
        rw [List.map_flatMap]
        rfl
      rw [e2]
      have := (sides_perm hN l).map fun k => l.getD k 0
      rwa [range_getD] at this
theorem blocks_perm {B N : Int → Int → Bool} (hN : ∀ a b, N a b = N b a) : ∀ (f : Nat) (l : List Int), l.length ≤ f → (thingsL (blocksF B N f l)).Perm l
  | 0, l, h => by
    have : l = [] := List.eq_nil_of_length_eq_zero (by omega)
    subst this
    exact List.Perm.refl _
  | f + 1, l, h => by
    rw [blocksF, thingsL_map]
    have e1 : ((pieces B l).flatMap fun s => (pieceT N (blocksF B N f) s).things).Perm ((pieces B l).flatMap id) := perm_flatMap _ fun s hs => by
      obtain ⟨h1, h2⟩ := pieces_mem hs
      exact piece_perm hN h1 fun s' hs' => blocks_perm hN f s' (by omega)
    refine e1.trans ?_
    rw [List.flatMap_id, pieces_flat]
theorem blocks_len {B N : Int → Int → Bool} (hN : ∀ a b, N a b = N b a) {f : Nat} {l : List Int} (h : l.length ≤ f) : (thingsL (blocksF B N f l)).length = l.length := (blocks_perm hN f l h).length_eq
end Go.Proofs.Ytbcifodifadoiaa.Bk
