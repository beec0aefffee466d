/- How many blocks are not in order, and when there is none: the plain law. -/
import Derived.Test.YtbcifodifadoiaaBkL
namespace Go.Proofs.Ytbcifodifadoiaa.bk
open Go.Proofs.Ytbcifodifadoiaa.Bk

theorem oddL_map {α : Type} (g : α → T) : ∀ L : List α, oddL (L.map g) = (L.map fun x => (g x).odd).sum
  | [] => rfl
  | x :: L => by rw [List.map_cons, oddL, oddL_map g L, List.map_cons, List.sum_cons]
theorem odd_line (z : Int) : (line z).odd = 0 := by simp [line, T.odd]
theorem odd_lines : ∀ l : List Int, oddL (l.map line) = 0
  | [] => rfl
  | z :: l => by rw [List.map_cons, oddL, odd_line, odd_lines l]
theorem sum_sides {N : Int → Int → Bool} {l : List Int} {rec_ : List Int → List T} (h : ∀ i, i < l.length → oddL (rec_ (runs N l i)) + 1 ≤ (sideL N l i).length) : ∀ L : List Nat, (∀ i ∈ L, i < l.length) → ((L.map fun i => (runT rec_ N l i).odd).sum) + L.length ≤ (L.flatMap (sideL N l)).length
  | [], _ => Nat.le_refl _
  | i :: L, hL => by
    have h1 := sum_sides h L fun j hj => hL j (List.mem_cons_of_mem _ hj)
    have h2 := h i (hL i List.mem_cons_self)
    rw [List.map_cons, List.sum_cons, List.length_cons, List.flatMap_cons, List.length_append]
    have h3 : (runT rec_ N l i).odd = oddL (rec_ (runs N l i)) := by unfold runT; rw [T.odd, if_neg (by decide), if_neg (by decide), Nat.zero_add]
    omega
theorem side_self {N : Int → Int → Bool} {l : List Int} {i : Nat} (hi : i < l.length) : 0 < (sideL N l i).length := List.length_pos_of_mem (mem_sideL.2 ⟨hi, .refl i⟩)
theorem odd_piece {N : Int → Int → Bool} (hN : ∀ a b, N a b = N b a) {rec_ : List Int → List T} {l : List Int} (h0 : 0 < l.length) (ih : ∀ s : List Int, s.length < l.length → 0 < s.length → oddL (rec_ s) + 1 ≤ s.length) : (pieceT N rec_ l).odd + 1 ≤ l.length := by
  by_cases h1 : l.length = 1
  · unfold pieceT
    rw [if_pos h1, odd_line]; omega
  · by_cases h2 : (firsts N l).length = 1
    · rw [pieceT_knot h1 h2, T.odd, odd_lines]
      simp
      omega
    · rw [pieceT_fork h1 h2, T.odd, if_pos (.inl rfl), if_neg (by decide), oddL_map]
      have h3 := sum_sides (rec_ := rec_) (N := N) (l := l) (fun i hi => by
        have := ih (runs N l i) (by rw [runs_len]; exact side_lt hN h0 h2 i) (by rw [runs_len]; exact side_self hi)
        rwa [runs_len] at this) (firsts N l) fun i hi => (mem_firsts.1 hi).1
      have h4 := (sides_perm hN l).length_eq
      rw [List.length_range] at h4
      have h5 : 0 < (firsts N l).length := List.length_pos_of_mem (zero_first h0)
      omega
theorem odd_blocks {B N : Int → Int → Bool} (hN : ∀ a b, N a b = N b a) : ∀ (f : Nat) (l : List Int), l.length ≤ f → 0 < l.length → oddL (blocksF B N f l) + 1 ≤ l.length
  | 0, l, h, h0 => by omega
  | f + 1, l, h, h0 => by
    have key : ∀ ps : List (List Int), (∀ s ∈ ps, 0 < s.length ∧ s.length ≤ l.length) → oddL (ps.map (pieceT N (blocksF B N f))) + ps.length ≤ ps.flatten.length := by
      intro ps
      induction ps with
      | nil => intro _; exact Nat.le_refl _
      | cons s ps ihp =>
        intro hs
        have h1 := ihp fun x hx => hs x (List.mem_cons_of_mem _ hx)
        have h2 := odd_piece hN (hs s List.mem_cons_self).1 (rec_ := blocksF B N f) fun s' hs' h0' => odd_blocks hN f s' (by have := (hs s List.mem_cons_self).2; omega) h0'
        rw [List.map_cons, oddL, List.flatten_cons, List.length_append, List.length_cons]
        omega
    have h1 := key (pieces B l) fun s hs => pieces_mem hs
    rw [pieces_flat] at h1
    have h2 : 0 < (pieces B l).length := by
      rcases Nat.eq_zero_or_pos (pieces B l).length with h3 | h3
      · have h4 : (pieces B l).flatten = l := pieces_flat B l
        rw [List.eq_nil_of_length_eq_zero h3] at h4
        rw [← h4] at h0
        exact absurd h0 (by decide)
      · exact h3
    rw [blocksF]
    omega
theorem odd_le {B N : Int → Int → Bool} (hN : ∀ a b, N a b = N b a) {f : Nat} {l : List Int} (h : l.length ≤ f) : oddL (blocksF B N f l) ≤ l.length := by
  rcases Nat.eq_zero_or_pos l.length with h0 | h0
  · have : l = [] := List.eq_nil_of_length_eq_zero h0
    subst this
    cases f with
    | zero => exact Nat.le_refl _
    | succ f => exact Nat.le_refl _
  · have := odd_blocks (B := B) hN f l h h0
    omega
/-- is each thing ahead of all behind it, up to a place? -/
def allK (B : Int → Int → Bool) (l : List Int) (i k : Nat) : Bool := (List.range k).all fun j => B (l.getD j 0) (l.getD i 0)
def allTo (B : Int → Int → Bool) (l : List Int) (i : Nat) : Bool := (List.range i).all fun j => allK B l j j
theorem allK_succ (B : Int → Int → Bool) (l : List Int) (i k : Nat) : allK B l i (k + 1) = (allK B l i k && B (l.getD k 0) (l.getD i 0)) := by
  unfold allK
  rw [List.range_succ, List.all_append]
  simp
theorem allTo_succ (B : Int → Int → Bool) (l : List Int) (i : Nat) : allTo B l (i + 1) = (allTo B l i && allK B l i i) := by
  unfold allTo
  rw [List.range_succ, List.all_append]
  simp
theorem allTo_iff {B : Int → Int → Bool} {l : List Int} {n : Nat} : allTo B l n = true ↔ ∀ i, i < n → ∀ k, k < i → B (l.getD k 0) (l.getD i 0) = true := by
  unfold allTo allK
  simp only [List.all_eq_true, List.mem_range]
theorem getD_at {l : List Int} {k : Nat} {x : Int} (h : l[k]? = some x) : l.getD k 0 = x := by rw [List.getD_eq_getElem?_getD, h]; rfl
theorem cut_all {B : Int → Int → Bool} {l : List Int} (h : allTo B l l.length = true) {i : Nat} : cutB B l i = true := by
  refine cutB_yes fun k x hk hx m y hy => ?_
  rw [List.getElem?_drop] at hy
  have := allTo_iff.1 h (i + m) (List.getElem?_eq_some_iff.1 hy).1 k (by omega)
  rwa [getD_at hx, getD_at hy] at this
theorem pst_all {B : Int → Int → Bool} {l : List Int} (h : allTo B l l.length = true) : ∀ k, k ≤ l.length → pst B l k = (k, (l.take k).map fun z => [z])
  | 0, _ => rfl
  | k + 1, hk => by
    unfold pst
    rw [cut_all h, Bool.or_true, if_pos rfl, pst_all h k (by omega)]
    dsimp only
    have hx : l[k]? = some (l[k]'(by omega)) := List.getElem?_eq_getElem (by omega)
    rw [takeS hx, List.map_append]
    have : Bk.seg l k (k + 1) = [l[k]'(by omega)] := by
      unfold Bk.seg
      rw [show k + 1 - k = 1 by omega]
      refine List.ext_getElem? fun j => ?_
      rw [List.getElem?_take]
      cases j with
      | zero => rw [if_pos (by decide), List.getElem?_drop, Nat.add_zero, hx]; rfl
      | succ j => rw [if_neg (by omega)]; rfl
    rw [this]
    rfl
/-- if each thing is ahead of all behind it, the blocks are the things -/
theorem blocks_all {B N : Int → Int → Bool} {l : List Int} {f : Nat} (hf : l.length ≤ f) (h : allTo B l l.length = true) : blocksF B N f l = l.map line := by
  cases f with
  | zero =>
    have : l = [] := List.eq_nil_of_length_eq_zero (by omega)
    subst this
    rfl
  | succ f =>
    rw [blocksF]
    unfold pieces
    rw [pst_all h l.length (Nat.le_refl _)]
    dsimp only
    rw [List.take_length, List.map_map]
    refine List.map_congr_left fun z _ => ?_
    rfl
theorem odd_mem {t : T} : ∀ {ts : List T}, t ∈ ts → t.odd ≤ oddL ts
  | x :: ts, h => by
    rw [oddL]
    rcases List.mem_cons.1 h with rfl | h
    · omega
    · have := odd_mem h
      omega
theorem odd_two {N : Int → Int → Bool} {rec_ : List Int → List T} {l : List Int} (h : l.length ≠ 1) : 1 ≤ (pieceT N rec_ l).odd := by
  by_cases h2 : (firsts N l).length = 1
  · rw [pieceT_knot h h2, T.odd, if_pos (.inr rfl)]; omega
  · rw [pieceT_fork h h2, T.odd, if_pos (.inl rfl)]; omega
theorem pst_full {B : Int → Int → Bool} {l : List Int} : ∀ k, (pst B l k).2.length = k → ∀ j, j < k → j + 1 = l.length ∨ cutB B l (j + 1) = true
  | 0, _, j, hj => by omega
  | k + 1, h, j, hj => by
    unfold pst at h
    have h3 := pst_len B l k
    split at h
    · rename_i hc
      dsimp only at h
      rw [List.length_append, List.length_singleton] at h
      rcases Nat.lt_or_ge j k with h4 | h4
      · exact pst_full k (by omega) j h4
      · obtain rfl : j = k := by omega
        rw [Bool.or_eq_true] at hc
        rcases hc with hc | hc
        · exact .inl (of_decide_eq_true hc)
        · exact .inr hc
    · omega
theorem ones_len : ∀ ps : List (List Int), (∀ s ∈ ps, s.length = 1) → ps.flatten.length = ps.length
  | [], _ => rfl
  | s :: ps, h => by
    rw [List.flatten_cons, List.length_append, List.length_cons, ones_len ps fun x hx => h x (List.mem_cons_of_mem _ hx), h s List.mem_cons_self]
    omega
/-- and if there is nothing that is not in order, each thing is ahead of all behind it -/
theorem all_odd {B N : Int → Int → Bool} {l : List Int} {f : Nat} (hf : l.length ≤ f) (h : oddL (blocksF B N f l) = 0) : allTo B l l.length = true := by
  cases f with
  | zero =>
    have : l = [] := List.eq_nil_of_length_eq_zero (by omega)
    subst this
    rfl
  | succ f =>
    rw [blocksF] at h
    have h1 : ∀ s ∈ pieces B l, s.length = 1 := fun s hs => by
      by_cases h2 : s.length = 1
      · exact h2
      · have h3 := odd_mem (List.mem_map_of_mem (f := pieceT N (blocksF B N f)) hs)
        have h4 := odd_two (N := N) (rec_ := blocksF B N f) h2
        omega
    have h2 := ones_len _ h1
    rw [pieces_flat] at h2
    have h3 := pst_full (B := B) (l := l) l.length h2.symm
    refine allTo_iff.2 fun i hi k hk => ?_
    rcases h3 (i - 1) (by omega) with h4 | h4
    · omega
    · rw [show i - 1 + 1 = i by omega] at h4
      unfold cutB at h4
      rw [List.all_eq_true] at h4
      have hx : l[k]? = some (l[k]'(by omega)) := List.getElem?_eq_getElem (by omega)
      have hy : l[i]? = some (l[i]'hi) := List.getElem?_eq_getElem hi
      rw [getD_at hx, getD_at hy]
      have h5 := h4 _ (List.mem_of_getElem? (i := k) (by rw [List.getElem?_take, if_pos hk]; exact hx))
      rw [List.all_eq_true] at h5
      exact h5 _ (List.mem_of_getElem? (i := 0) (by rw [List.getElem?_drop, Nat.add_zero]; exact hy))
theorem odd_all {B N : Int → Int → Bool} {l : List Int} {f : Nat} (hf : l.length ≤ f) : (oddL (blocksF B N f l) == 0) = allTo B l l.length := by
  rw [Bool.eq_iff_iff, beq_iff_eq]
  exact ⟨all_odd hf, fun h => by rw [blocks_all hf h, odd_lines]⟩
end Go.Proofs.Ytbcifodifadoiaa.bk
