/- Numbers of the call's own, sorted; what the sides of a piece are, one after another: the plain law. -/
import Derived.Test.YtbcifodifadoiaaBkT
import Derived.Test.YtbcifodifadoiaaSoL
namespace Go.Proofs.Ytbcifodifadoiaa.bk
open Go Go.RowKit Go.Par Go.Kit Go.Proofs.Ytbcifodifadoiaa.Bk Go.Proofs.Ytbcifodifadoiaa.reW Go.Proofs.Ytbcifodifadoiaa.mkW

theorem _root_.Go.Kit.Keep.less {B : Nat} {K K2 : Nat → Prop} {w w' : World} (h : Keep B K w w') (hK : ∀ k, K2 k → K k) : Keep B K2 w w' := ⟨h.1, fun k h1 h2 => h.2 k (hK k h1) h2⟩
theorem sort_eq {L S : List Nat} (hp : S.Perm L) (hs : S.Pairwise (· < ·)) : ((L.map fun (n : Nat) => (n : Int)).mergeSort fun x y => decide (x ≤ y)) = S.map fun (n : Nat) => (n : Int) := by
  refine List.Perm.eq_of_pairwise (le := fun x y => decide (x ≤ y) = true) ?_ (List.pairwise_mergeSort ?_ ?_ _) ?_ ?_
  · intro a b _ _ h1 h2
    have := of_decide_eq_true h1
    have := of_decide_eq_true h2
    omega
  · intro a b c h1 h2
    have := of_decide_eq_true h1
    have := of_decide_eq_true h2
    exact decide_eq_true (by omega)
  · intro a b
    rw [Bool.or_eq_true]
    rcases Int.le_total a b with h | h
    · exact .inl (decide_eq_true h)
    · exact .inr (decide_eq_true h)
  · rw [List.pairwise_map]
    exact hs.imp fun h => decide_eq_true (by omega)
  · exact (List.mergeSort_perm _ _).trans (hp.map _).symm
/-- sorting numbers of the call's own -/
theorem sort_any (w : World) (base : Nat) (v : Value) (L S : List Nat) (h : w.ownsRow base 3 1 v L.length (L.map nv)) (h0 : 0 < L.length) (hl : L.length ≤ 1000000) (hp : S.Perm L) (hs : S.Pairwise (· < ·)) :
    Calls Try.prog 45 #[v] w fun e w' => e = .returned (.tuple #[]) ∧ w'.ownsRow base 3 1 v L.length (S.map nv) ∧ ∀ B, (∀ k, v.ownBlock = some k → B ≤ k) → Keep B (fun j => v.ownBlock ≠ some j) w w' := by
  obtain ⟨h1, h2⟩ := h
  rcases h2 with ⟨-, h2⟩ | ⟨g, cap, cur, rfl, hb, hg, hc, hm, hsz, htk⟩
  · omega
  rw [Nat.mul_one] at hsz htk
  obtain ⟨zs, hzs⟩ : ∃ zs : List Int, zs = L.map fun (n : Nat) => (n : Int) := ⟨_, rfl⟩
  have hzl : zs.length = L.length := by rw [hzs, List.length_map]
  have hcell : ∀ j, j < L.length → cur[j]? = some (.int .i64 (zs.toArray[j]!)) := fun j hj => by
    have e1 : (cur.toList.take L.length)[j]? = (L.map nv)[j]? := by rw [htk]
    rw [List.getElem?_take, if_pos hj, Array.getElem?_toList, List.getElem?_map, List.getElem?_eq_getElem hj] at e1
    rw [e1]
    have e2 : zs.toArray[j]! = (L[j] : Int) := by
      rw [getElem!_pos zs.toArray j (by simpa [hzl] using hj)]
      simp [hzs]
    rw [e2]
    rfl
  have hH : Sort.Holds (Value.int .i64) w g 0 zs.toArray := fun j hj => by
    have hj : j < L.length := by simpa [hzl] using hj
    refine ⟨?_, ?_⟩
    · simp only [Nat.zero_add]
      unfold World.cell?
      simp only [hg]
      have := hcell j hj
      simpa using this
    · exact Blk.free (t := 3) (cs := cur.toList) (by unfold Blk; simpa using hg) (0 + j)
  have hlt : g < w.heap.size := (Array.getElem?_eq_some_iff.1 hg).1
  have hcon := Any.slices_Sort_int (P := Try.prog) (ρ := Try.lays189_ren) Try.lays189 g 0 cap zs w hH hlt (by omega)
  rw [hzl] at hcon
  refine Calls.mono (show Calls Try.prog 45 _ w _ from hcon) ?_
  rintro e w' ⟨rfl, n, os, rfl⟩
  rw [hzs, sort_eq hp hs]
  have hSl : S.length = L.length := hp.length_eq
  have hhp : ∀ k, k < w.heap.size → (Sort.grow (Sort.putRow (Value.int .i64) (Sort.ahead w n) g 0 (S.map fun (n : Nat) => (n : Int)).toArray) os).heap[k]? = if k = g then some (.cells (Sort.putCells (Value.int .i64) 0 (S.map fun (n : Nat) => (n : Int)).toArray cur) 3 (0, 0)) else w.heap[k]? := fun k hk => by
    rw [Sort.heap_grow_old _ _ (by simpa using hk)]
    unfold Sort.putRow Sort.mapBlock
    simp only [Sort.heap_ahead, Array.getElem?_modify]
    by_cases h : g = k
    · subst h
      simp [hg, Sort.onCells]
    · rw [if_neg h, if_neg fun e => h e.symm]
  refine ⟨rfl, ⟨by rw [List.length_map, Nat.mul_one]; exact hSl, .inr ⟨g, cap, _, rfl, hb, (hhp g hlt).trans (if_pos rfl), hc, hm, ?_, ?_⟩⟩, fun B hB => ⟨⟨rfl, rfl, rfl, by simp, fun k hk => ?_⟩, fun k hk hl2 => ?_⟩⟩
  · rw [Nat.mul_one]; simp [Sort.putCells, hsz]
  · rw [Nat.mul_one]
    refine List.ext_getElem? fun j => ?_
    rw [List.getElem?_take]
    by_cases hj : j < L.length
    · rw [if_pos hj, Array.getElem?_toList, List.getElem?_map]
      unfold Sort.putCells
      rw [Array.getElem?_mapIdx, hcell j hj]
      have hjS : j < S.length := by omega
      rw [List.getElem?_eq_getElem hjS]
      simp only [Option.map_some]
      rw [if_pos ⟨Nat.zero_le _, by simp [hSl]; omega⟩]
      have e2 : (S.map fun (n : Nat) => (n : Int)).toArray[j - 0]! = (S[j] : Int) := by
        rw [Nat.sub_zero, getElem!_pos _ j (by simpa using hjS)]
        simp
      rw [e2]
      rfl
    · rw [if_neg hj, List.getElem?_eq_none (by rw [List.length_map]; omega)]
  · have hgB : B ≤ g := hB g rfl
    rcases Nat.lt_or_ge k w.heap.size with h | h
    · rw [hhp k h, if_neg (by omega)]
    · omega
  · rw [hhp k hl2, if_neg fun e => hk (by rw [e]; rfl)]

/-- is a place of a side that is told already? -/
def seenTo (N : Int → Int → Bool) (l : List Int) (i k : Nat) : Bool := (List.range i).any fun f => conn N l f k
def firstsTo (N : Int → Int → Bool) (l : List Int) (i : Nat) : List Nat := (List.range i).filter fun j => (List.range j).all fun f => !conn N l f j
theorem firstsTo_end (N : Int → Int → Bool) (l : List Int) : firstsTo N l l.length = firsts N l := rfl
theorem seenTo_iff {N : Int → Int → Bool} {l : List Int} {i k : Nat} : seenTo N l i k = true ↔ ∃ f, f < i ∧ Cn N l f k := by
  unfold seenTo
  rw [List.any_eq_true]
  constructor
  · rintro ⟨f, h1, h2⟩; exact ⟨f, List.mem_range.1 h1, conn_iff.1 h2⟩
  · rintro ⟨f, h1, h2⟩; exact ⟨f, List.mem_range.2 h1, conn_iff.2 h2⟩
theorem seenTo_zero (N : Int → Int → Bool) (l : List Int) (k : Nat) : seenTo N l 0 k = false := rfl
theorem seenTo_old {N : Int → Int → Bool} {l : List Int} {i : Nat} (h : seenTo N l i i = true) (k : Nat) : seenTo N l (i + 1) k = seenTo N l i k := by
  rw [Bool.eq_iff_iff, seenTo_iff, seenTo_iff]
  constructor
  · rintro ⟨f, h1, h2⟩
    rcases Nat.lt_or_ge f i with h3 | h3
    · exact ⟨f, h3, h2⟩
    · obtain rfl : f = i := by omega
      obtain ⟨f', h4, h5⟩ := seenTo_iff.1 h
      exact ⟨f', h4, h5.trans h2⟩
  · rintro ⟨f, h1, h2⟩; exact ⟨f, by omega, h2⟩
theorem seenTo_new (N : Int → Int → Bool) (l : List Int) (i k : Nat) : seenTo N l (i + 1) k = (seenTo N l i k || conn N l i k) := by
  unfold seenTo
  rw [List.range_succ, List.any_append]
  simp
theorem firstsTo_old {N : Int → Int → Bool} {l : List Int} {i : Nat} (h : seenTo N l i i = true) : firstsTo N l (i + 1) = firstsTo N l i := by
  unfold firstsTo
  rw [List.range_succ, List.filter_append]
  have : ((List.range i).all fun f => !conn N l f i) = false := by
    rw [List.all_eq_false]
    unfold seenTo at h
    obtain ⟨f, h1, h2⟩ := List.any_eq_true.1 h
    exact ⟨f, h1, by rw [h2]; simp⟩
  simp [this]
theorem firstsTo_new {N : Int → Int → Bool} {l : List Int} {i : Nat} (h : seenTo N l i i = false) : firstsTo N l (i + 1) = firstsTo N l i ++ [i] := by
  unfold firstsTo
  rw [List.range_succ, List.filter_append]
  have : ((List.range i).all fun f => !conn N l f i) = true := by
    rw [List.all_eq_true]
    unfold seenTo at h
    intro f h1
    have := List.any_eq_false.1 h f h1
    simpa using this
  simp [this]
/-- a side that is being walked: its places so far, and which are seen -/
structure Side (N : Int → Int → Bool) (l : List Int) (i : Nat) (o : List Nat) (S : Nat → Bool) (at_ kk : Nat) : Prop where
  fst : o[0]? = some i
  nod : o.Nodup
  led : ∀ x ∈ o, x < l.length ∧ Cn N l i x
  seen : ∀ k, k < l.length → S k = (seenTo N l i k || o.contains k)
  done : ∀ t x, t < at_ → o[t]? = some x → ∀ k, k < l.length → nr N l x k = true → S k = true
  part : ∀ x, o[at_]? = some x → ∀ k, k < kk → nr N l x k = true → S k = true
theorem Side.start {N : Int → Int → Bool} {l : List Int} {i : Nat} (hi : i < l.length) {S : Nat → Bool} (hS : ∀ k, k < l.length → S k = (seenTo N l i k || [i].contains k)) : Side N l i [i] S 0 0 :=
  ⟨rfl, by simp, fun x hx => by rw [List.mem_singleton.1 hx]; exact ⟨hi, .refl _⟩, hS, fun t x h => absurd h (by omega), fun x _ k h => absurd h (by omega)⟩
theorem Side.len {N : Int → Int → Bool} {l : List Int} {i : Nat} {o : List Nat} {S : Nat → Bool} {at_ kk : Nat} (h : Side N l i o S at_ kk) : o.length ≤ l.length := by
  have := Re.nodup_len h.nod (List.range l.length) fun x hx => List.mem_range.2 (h.led x hx).1
  rwa [List.length_range] at this
theorem Side.skip {N : Int → Int → Bool} {l : List Int} {i : Nat} {o : List Nat} {S : Nat → Bool} {at_ kk : Nat} (h : Side N l i o S at_ kk) {x : Nat} (hx : o[at_]? = some x) (hk : nr N l x kk = true → S kk = true) : Side N l i o S at_ (kk + 1) :=
  ⟨h.fst, h.nod, h.led, h.seen, h.done, fun y hy k hk2 hn => by
    rw [hx] at hy
    injection hy with hy
    subst hy
    rcases Nat.lt_or_ge k kk with h3 | h3
    · exact h.part x hx k h3 hn
    · obtain rfl : k = kk := by omega
      exact hk hn⟩
theorem Side.add {N : Int → Int → Bool} {l : List Int} {i : Nat} {o : List Nat} {S : Nat → Bool} {at_ kk : Nat} (h : Side N l i o S at_ kk) {x : Nat} (hx : o[at_]? = some x) (hl : kk < l.length) (hn : nr N l x kk = true) (hs : S kk = false) :
    Side N l i (o ++ [kk]) (fun k => S k || k == kk) at_ (kk + 1) := by
  have hxm := h.led x (List.mem_of_getElem? hx)
  have hnot : kk ∉ o := fun hm => by
    have := h.seen kk hl
    rw [List.contains_iff_mem.2 hm, Bool.or_true, hs] at this
    cases this
  have hatl : at_ < o.length := (List.getElem?_eq_some_iff.1 hx).1
  refine ⟨?_, ?_, fun y hy => ?_, fun k hk => ?_, fun t y ht hy k hk hn2 => ?_, fun y hy k hk hn2 => ?_⟩
  · rw [List.getElem?_append_left (by omega)]; exact h.fst
  · rw [List.nodup_append]
    refine ⟨h.nod, by simp, fun a ha b hb e => hnot ?_⟩
    rw [List.mem_singleton.1 hb] at e
    rw [← e]; exact ha
  · rcases List.mem_append.1 hy with hy | hy
    · exact h.led y hy
    · rw [List.mem_singleton.1 hy]; exact ⟨hl, .step hxm.2 hxm.1 hl hn⟩
  · rw [h.seen k hk, List.contains_append, Bool.or_assoc, List.contains_cons, List.contains_nil, Bool.or_false]
  · rw [List.getElem?_append_left (by omega)] at hy
    rw [h.done t y ht hy k hk hn2]; rfl
  · rw [List.getElem?_append_left hatl, hx] at hy
    injection hy with hy
    subst hy
    rcases Nat.lt_or_ge k kk with h3 | h3
    · rw [h.part x hx k h3 hn2]; rfl
    · obtain rfl : k = kk := by omega
      simp
theorem Side.next {N : Int → Int → Bool} {l : List Int} {i : Nat} {o : List Nat} {S : Nat → Bool} {at_ kk : Nat} (h : Side N l i o S at_ kk) (hk : l.length ≤ kk) : Side N l i o S (at_ + 1) 0 :=
  ⟨h.fst, h.nod, h.led, h.seen, fun t x ht hx k hk2 hn => by
    rcases Nat.lt_or_ge t at_ with h3 | h3
    · exact h.done t x h3 hx k hk2 hn
    · obtain rfl : t = at_ := by omega
      exact h.part x hx k (by omega) hn, fun x _ k h => absurd h (by omega)⟩
theorem Side.mem {N : Int → Int → Bool} (hN : ∀ a b, N a b = N b a) {l : List Int} {i : Nat} {o : List Nat} {S : Nat → Bool} {at_ : Nat} (h : Side N l i o S at_ 0) (ha : o.length ≤ at_) (h0 : seenTo N l i i = false) {k : Nat} : k ∈ o ↔ k ∈ sideL N l i := by
  rw [mem_sideL]
  constructor
  · exact h.led k
  · rintro ⟨_, hc⟩
    induction hc with
    | refl => exact List.mem_of_getElem? h.fst
    | @step j k hc hj hk hn ih =>
      obtain ⟨t, ht, hjt⟩ := List.getElem_of_mem (ih hj)
      have h2 := h.done t j (by omega) (by rw [List.getElem?_eq_getElem ht, hjt]) k hk hn
      rw [h.seen k hk, Bool.or_eq_true] at h2
      rcases h2 with h2 | h2
      · obtain ⟨f, h3, h4⟩ := seenTo_iff.1 h2
        have h5 : Cn N l i k := .step hc hj hk hn
        rw [seenTo_iff.2 ⟨f, h3, h4.trans (h5.symm hN)⟩] at h0
        cases h0
      · exact List.contains_iff_mem.1 h2
theorem Side.perm {N : Int → Int → Bool} (hN : ∀ a b, N a b = N b a) {l : List Int} {i : Nat} {o : List Nat} {S : Nat → Bool} {at_ : Nat} (h : Side N l i o S at_ 0) (ha : o.length ≤ at_) (h0 : seenTo N l i i = false) : (sideL N l i).Perm o :=
  (List.perm_ext_iff_of_nodup (sideL_nodup N l i) h.nod).2 fun _ => (h.mem hN ha h0).symm
theorem Side.all {N : Int → Int → Bool} (hN : ∀ a b, N a b = N b a) {l : List Int} {i : Nat} {o : List Nat} {S : Nat → Bool} {at_ : Nat} (h : Side N l i o S at_ 0) (ha : o.length ≤ at_) (h0 : seenTo N l i i = false) {k : Nat} (hk : k < l.length) : S k = seenTo N l (i + 1) k := by
  rw [h.seen k hk, seenTo_new]
  congr 1
  rw [Bool.eq_iff_iff, List.contains_iff_mem, h.mem hN ha h0, mem_sideL, conn_iff]
  exact ⟨fun h => h.2, fun h => ⟨hk, h⟩⟩
end Go.Proofs.Ytbcifodifadoiaa.bk
