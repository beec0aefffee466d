/- Arrays of integers, and blocks that are loaded, stored and handed back whole: for every program. -/
import Derived.Test.YthclgmpjmhacdaaOwn
import Derived.Laws.Rows
import Derived.Laws.Tables
import Derived.Laws.StructEq
import Derived.Laws.CopyOwn
namespace Go.Kit
open Go Go.RowKit Go.Par

theorem all_range_eqZ : ∀ (xs ys : List Int), xs.length = ys.length → ((List.range xs.length).all fun i => xs.getD i 0 == ys.getD i 0) = (xs == ys)
  | [], [], _ => rfl
  | x :: xs, y :: ys, h => by
    have ih := all_range_eqZ xs ys (by simpa using h)
    rw [List.length_cons, List.range_succ_eq_map, List.all_cons, List.all_map]
    simp only [List.getD_cons_zero, Function.comp_def, List.getD_cons_succ, ih]
    simp [List.cons_beq_cons]
  | [], _ :: _, h => by simp at h
  | _ :: _, [], h => by simp at h

section
variable {P : Program} (w : World)
def ints (k : IntKind) (l : List Int) : List Value := l.map (Value.int k)
theorem run_equalIn_ints (d : Nat) (t e : TypeId) (n : Nat) (k : IntKind) (ht : P.underlying t = some (.array n e)) (he : P.underlying e = some (.int k)) (hsz : ∀ w, (sizeOf e).run P w = .ok 1 w)
    (xs ys : List Int) (hx : xs.length = n) (hy : ys.length = n) :
    (Op.equalIn (d + 2) t (.agg (ints k xs).toArray) (.agg (ints k ys).toArray)).run P w = .ok (xs == ys) w := by
  rw [← all_range_eqZ xs ys (hx.trans hy.symm), hx, List.range_eq_range', Op.equalIn]
  simp only [Sem.run_bind, run_underlying ht, Result.andThen_ok, hsz, Std.Legacy.Range.forIn_eq_forIn_range', Std.Legacy.Range.size, Nat.sub_zero, Nat.add_sub_cancel, Nat.div_one]
  have hl : ∀ i ∈ List.range' 0 n 1, i < n := fun i hi => by simpa using (List.mem_range'_1.1 hi).2
  generalize List.range' 0 n 1 = l at hl ⊢
  induction l with
  | nil => simp
  | cons i l ih =>
    have hi : i < n := hl i (by simp)
    have px : (part e (ints k xs).toArray (i * 1)).run P w = .ok (.int k (xs.getD i 0)) w := by
      simp [ints, part, isAgg, run_underlying he, List.getD, List.getElem?_eq_getElem (show i < xs.length by omega)]
    have py : (part e (ints k ys).toArray (i * 1)).run P w = .ok (.int k (ys.getD i 0)) w := by
      simp [ints, part, isAgg, run_underlying he, List.getD, List.getElem?_eq_getElem (show i < ys.length by omega)]
    have pe : (Op.equalIn (d + 1) e (.int k (xs.getD i 0)) (.int k (ys.getD i 0))).run P w = .ok (xs.getD i 0 == ys.getD i 0) w := by
      rw [run_equalIn_int w d e k k _ _ he]
    simp only [List.forIn_cons, Sem.run_bind, px, py, pe, Result.andThen_ok, List.all_cons]
    cases hb : (xs.getD i 0 == ys.getD i 0)
    · simp
    · simp only [Bool.not_true, Bool.false_eq_true, if_false, Sem.run_pure, Result.andThen_ok, Bool.true_and]
      exact ih fun j hj => hl j (by simp [hj])
theorem run_eql_ints (t e : TypeId) (n : Nat) (k : IntKind) (ht : P.underlying t = some (.array n e)) (he : P.underlying e = some (.int k)) (hsz : ∀ w, (sizeOf e).run P w = .ok 1 w)
    (xs ys : List Int) (hx : xs.length = n) (hy : ys.length = n) :
    (binOp .eql t (.agg (ints k xs).toArray) (.agg (ints k ys).toArray)).run P w = .ok (.bool (xs == ys)) w := by
  rw [run_eql_struct, run_equalIn_ints w 9998 t e n k ht he hsz xs ys hx hy]
  rfl
theorem run_neq_ints (t e : TypeId) (n : Nat) (k : IntKind) (ht : P.underlying t = some (.array n e)) (he : P.underlying e = some (.int k)) (hsz : ∀ w, (sizeOf e).run P w = .ok 1 w)
    (xs ys : List Int) (hx : xs.length = n) (hy : ys.length = n) :
    (binOp .neq t (.agg (ints k xs).toArray) (.agg (ints k ys).toArray)).run P w = .ok (.bool (xs != ys)) w := by
  rw [run_neq_struct, run_equalIn_ints w 9998 t e n k ht he hsz xs ys hx hy]
  rfl
end

section
variable {P : Program} {ops : Array Oper} {rest : List Oper} {o : Oper} {a : Act} {w : World} {Q : Exit → Act → World → Prop}
def isRow : TypeDesc → Bool | .struct _ | .array _ _ => true | _ => false
theorem load_blk (hw : Region.wanted o (yielded ops a.tmps) = true) (ty : TypeId) (x : Operand) (ho : o.op = .load ty x) (g : Nat) (hx : a.eval x = .pointer (some ⟨g, 0, none⟩)) (t : TypeId) (cs : List Value) (d : TypeDesc) (hg : Blk w g t cs)
    (hu : P.underlying ty = some d) (hd : (match d with | .struct _ | .array _ _ => true | _ => false) = true) (hi : (P.info? ty).map (·.size) = some cs.length)
    (h : wpList P ops Q rest (a.put o.dst (.agg cs.toArray)) w) : wpList P ops Q (o :: rest) a w :=
  BigFrame.wpList_want hw fun _ hK => wp_load_row ty x ho g hx t cs.toArray (0, 0) d hg hu hd (by simpa using hi) (hK _ _ h)
theorem Blk.setRow {w : World} {g : Nat} {t : TypeId} {cs : List Value} (h : Blk w g t cs) (l : List Value) : Blk (w.setRow g l.toArray) g t l := setRow_heap w g cs.toArray l.toArray t (0, 0) h
theorem Blk.farRow {w : World} {g k : Nat} {t : TypeId} {cs : List Value} (h : Blk w g t cs) (hk : g ≠ k) (l : Array Value) : Blk (w.setRow k l) g t cs := (setRow_other w k g l hk).trans h
theorem Grow.setRow {w w' : World} (h : Grow w w') {g : Nat} (hg : w.heap.size ≤ g) (l : Array Value) : Grow w (w'.setRow g l) := below_setRow h hg l
theorem store_blk (hgd : o.guard = none) (ty : TypeId) (x y : Operand) (ho : o.op = .store ty x y) (g : Nat) (l : List Value) (hx : a.eval x = .pointer (some ⟨g, 0, none⟩)) (hy : a.eval y = .agg l.toArray)
    (t : TypeId) (cs : List Value) (hg : Blk w g t cs) (hi : (P.info? ty).map (·.size) = some l.length) (hl : cs.length = l.length) (h1 : l.all (·.oneCell') = true)
    (h : wpList P ops Q rest (a.put o.dst undef) (w.setRow g l.toArray)) : wpList P ops Q (o :: rest) a w :=
  wpList_store_row hgd ty x y ho g l.toArray hx hy t cs.toArray hg (by simpa using hi) (by simpa using hl) (by simpa using h1) h
theorem ret_blk {fn : Func} {R : Ending → World → Prop} {p : Tmp} {ty : TypeId} (hf : fn.results = #[.cell p ty]) (g : Nat) (t : TypeId) (cs : List Value) (d : TypeDesc)
    (hp : a.tmps.getD p undef = .pointer (some ⟨g, 0, none⟩)) (hg : Blk w g t cs) (hu : P.underlying ty = some d) (hd : (match d with | .struct _ | .array _ _ => true | _ => false) = true) (hi : (P.info? ty).map (·.size) = some cs.length)
    (hde : a.defers = []) (hR : R (.returned (.agg cs.toArray)) w) : bodyPost P fn R .ret a w :=
  bodyPost_ret (results_cell_row hf a.tmps w g t cs.toArray (0, 0) d hp hg hu hd (by simpa using hi)) hde hR
end

theorem Blk.by_ {w w' : World} {g : Nat} {t : TypeId} {cs : List Value} {row : Option Nat} (h : Blk w g t cs) (hg : w.grownBy w' row) (hne : ∀ k, row = some k → g + 1 ≤ k) : Blk w' g t cs := by
  obtain ⟨_, _, _, _, g5⟩ := hg
  refine (g5 g h.lt fun e => ?_).trans h
  have := hne g e.symm
  omega
theorem own_far {w : World} {base : Nat} {e : TypeId} {size : Nat} {v : Value} {n : Nat} {xs : List Value} (h : w.ownsRow base e size v n xs) (p : Addr) (u : Value) (hne : ∀ k, v.ownBlock = some k → k ≠ p.block) : (w.setCell p u).ownsRow base e size v n xs := by
  obtain ⟨h1, h2⟩ := h
  refine ⟨h1, ?_⟩
  rcases h2 with h2 | ⟨g, cap, cur, rfl, h3, h4, h5⟩
  · exact .inl h2
  · exact .inr ⟨g, cap, cur, rfl, h3, (Below.heap_setCell w p u g (hne g rfl)).trans h4, h5⟩
theorem own_far' {w : World} {base : Nat} {e : TypeId} {size g c : Nat} {n : Nat} {xs : List Value} (h : w.ownsRow base e size (.slice (some ⟨g, 0, none⟩) n c) n xs) (p : Addr) (u : Value) (hne : g ≠ p.block) : (w.setCell p u).ownsRow base e size (.slice (some ⟨g, 0, none⟩) n c) n xs :=
  own_far h p u fun k hk => by
    have : some g = some k := hk
    injection this with this
    omega
theorem own_low' {w : World} {base base' : Nat} {e : TypeId} {size g c : Nat} {n : Nat} {xs : List Value} (h : w.ownsRow base e size (.slice (some ⟨g, 0, none⟩) n c) n xs) (hb : base' ≤ g) : w.ownsRow base' e size (.slice (some ⟨g, 0, none⟩) n c) n xs := by
  obtain ⟨h1, h2⟩ := h
  refine ⟨h1, ?_⟩
  rcases h2 with h2 | ⟨g', cap, cur, hv, h3, h5⟩
  · exact .inl h2
  · refine .inr ⟨g', cap, cur, hv, ?_, h5⟩
    injection hv with hv
    injection hv with hv
    injection hv with hv
    omega
theorem own_row' {w : World} {base : Nat} {e : TypeId} {g c : Nat} {n : Nat} {xs : List Value} (h : w.ownsRow base e 1 (.slice (some ⟨g, 0, none⟩) n c) n xs) : n ≤ c ∧ c ≤ maxLen ∧ Row w (some ⟨g, 0, none⟩) n xs := by
  obtain ⟨A, c0, e0, h1, h2, h3⟩ := own_form h
  injection e0 with e0 e1 e2
  subst e0; subst e2
  rw [Nat.mul_one] at h3
  exact ⟨h1, h2, h3⟩
/-- a slice of just these cells (each element one cell) -/
def IsRow (xs : List Value) : Value → World → Prop := fun u w => ∃ A c, u = .slice A xs.length c ∧ xs.length ≤ c ∧ c ≤ maxLen ∧ Row w A xs.length xs
theorem IsRow.mono {xs : List Value} : Mono Grow (IsRow xs) := fun _ _ _ h hg => let ⟨A, c, e, h1, h2, h3⟩ := h; ⟨A, c, e, h1, h2, h3.grow hg⟩
theorem isRow_own {w : World} {base : Nat} {e : TypeId} {v : Value} {n : Nat} {xs : List Value} (h : w.ownsRow base e 1 v n xs) : IsRow xs v w := by
  obtain ⟨A, c, rfl, h1, h2, h3⟩ := own_form h
  rw [Nat.mul_one] at h3
  obtain rfl : xs.length = n := h3.1
  exact ⟨A, c, rfl, h1, h2, h3⟩
theorem Row.cell {w : World} {A : Option Addr} {n : Nat} {xs : List Value} (h : Row w A n xs) {k : Nat} {u : Value} (hu : xs[k]? = some u) : ∃ b off, A = some ⟨b, off, none⟩ ∧ w.cell? ⟨b, off + k, none⟩ = some u := by
  have hk : k < n := by rw [← h.1]; exact (List.getElem?_eq_some_iff.1 hu).1
  obtain ⟨b, off, e, hc⟩ := h.2 (by omega)
  exact ⟨b, off, e, hc k u hu⟩
theorem slice_both {P : Program} {t e : TypeId} {i : TypeInfo} (ht : P.underlying t = some (.slice e)) (hi : P.info? e = some i) (hs : i.size = 1) (A : Option Addr) (n c k m : Nat) (hk : k ≤ m) (hm : m ≤ c) (w : World) :
    (Instr.slice t (.slice A n c) (some (.int .i64 (k : Int))) (some (.int .i64 (m : Int))) none).run P w = .ok (.slice (cutAt A c k) (m - k) (c - k)) w := by
  simp [Instr.slice, run_underlying ht, Instr.sliceBounds, run_sliceBound, sizeOf, typeInfo, hi, hs, hk, hm, cutAt]
theorem Row.cutm {w : World} {A : Option Addr} {n : Nat} {xs : List Value} (h : Row w A n xs) {k m c : Nat} (hk : k ≤ m) (hm : m ≤ n) (hc : n ≤ c) : Row w (cutAt A c k) (m - k) ((xs.drop k).take (m - k)) :=
  (h.cut (by omega) hc).take (by omega)
/-- where 's[k:]' begins, of elements of S cells -/
def cutS (A : Option Addr) (c k S : Nat) : Option Addr := if c = k then A else A.map (·.add (k * S))
theorem slice_loS {P : Program} {t e : TypeId} {i : TypeInfo} {S : Nat} (ht : P.underlying t = some (.slice e)) (hi : P.info? e = some i) (hs : i.size = S) (A : Option Addr) (n c k : Nat) (hk : k ≤ n) (w : World) :
    (Instr.slice t (.slice A n c) (some (.int .i64 (k : Int))) none none).run P w = .ok (.slice (cutS A c k S) (n - k) (c - k)) w := by
  simp [Instr.slice, run_underlying ht, Instr.sliceBounds, run_sliceBound, sizeOf, typeInfo, hi, hs, hk, cutS]
theorem Row.cutS {w : World} {A : Option Addr} {n S : Nat} {xs : List Value} (h : Row w A (n * S) xs) {k c : Nat} (hk : k ≤ n) (hc : n ≤ c) : Row w (cutS A c k S) ((n - k) * S) (xs.drop (k * S)) := by
  have hl := h.1
  have e : n * S - k * S = (n - k) * S := by rw [Nat.sub_mul]
  rcases Nat.eq_zero_or_pos ((n - k) * S) with h0 | h0
  · have : xs.drop (k * S) = [] := List.drop_eq_nil_of_le (by omega)
    rw [this, h0]; exact Row.nil _ _
  · have hnk : 0 < n - k := Nat.pos_of_mul_pos_right h0
    obtain ⟨b, off, rfl, _⟩ := h.2 (by omega)
    have e2 : Kit.cutS (some ⟨b, off, none⟩) c k S = some ⟨b, off + k * S, none⟩ := by
      unfold Kit.cutS
      rw [if_neg (by omega)]
      by_cases hk0 : k * S = 0
      · rw [hk0]; rfl
      · simp [Addr.add, hk0]
    rw [e2, ← e]; exact h.drop (Nat.mul_le_mul_right S hk)
theorem run_index_arr {P : Program} {t e : TypeId} {n : Nat} {k : IntKind} (ht : P.underlying t = some (.array n e)) (he : P.underlying e = some (.int k)) (hsz : ∀ w, (sizeOf e).run P w = .ok 1 w) (cs : List Value) (j : Nat) (u : Value) (hj : j < n) (hu : cs[j]? = some u) (w : World) :
    (Instr.index t (.agg cs.toArray) (.int .i64 (j : Int))).run P w = .ok u w := by
  simp [Instr.index, asIntOf, run_underlying ht, hsz, hj, part, isAgg, run_underlying he, hu]
end Go.Kit
