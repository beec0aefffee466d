/- Rows of cells that a slice leads to, and what is kept of them while the world grows: for every program. -/
import Derived.Test.YthclgmpjmhacdaaPar
namespace Go.Kit
open Go Go.RowKit Go.Par

/-- The address A leads to the cells xs (n of them); of none nothing is asked. -/
def Row (w : World) (A : Option Addr) (n : Nat) (xs : List Value) : Prop :=
  xs.length = n ∧ (0 < n → ∃ b off, A = some ⟨b, off, none⟩ ∧ ∀ (j : Nat) (u : Value), xs[j]? = some u → w.cell? ⟨b, off + j, none⟩ = some u)

theorem Row.nil (w : World) (A : Option Addr) : Row w A 0 [] := ⟨rfl, fun h => absurd h (by omega)⟩
theorem Row.grow {w w' : World} {A : Option Addr} {n : Nat} {xs : List Value} (h : Row w A n xs) (hg : Grow w w') : Row w' A n xs :=
  ⟨h.1, fun hn => let ⟨b, off, e, hc⟩ := h.2 hn; ⟨b, off, e, fun j u hu => hg.cell (hc j u hu)⟩⟩
theorem Row.at_ {w : World} {A : Option Addr} {n : Nat} {xs : List Value} (h : Row w A n xs) {k : Nat} (hk : k < n) :
    ∃ b off u, A = some ⟨b, off, none⟩ ∧ xs[k]? = some u ∧ w.cell? ⟨b, off + k, none⟩ = some u := by
  obtain ⟨b, off, e, hc⟩ := h.2 (by omega)
  have hl : k < xs.length := by have := h.1; omega
  exact ⟨b, off, xs[k], e, List.getElem?_eq_getElem hl, hc k _ (List.getElem?_eq_getElem hl)⟩
theorem Row.take {w : World} {A : Option Addr} {n : Nat} {xs : List Value} (h : Row w A n xs) {k : Nat} (hk : k ≤ n) : Row w A k (xs.take k) := by
  refine ⟨by rw [List.length_take, h.1]; omega, fun h0 => ?_⟩
  obtain ⟨b, off, e, hc⟩ := h.2 (by omega)
  refine ⟨b, off, e, fun j u hu => hc j u ?_⟩
  rw [List.getElem?_take] at hu
  split at hu
  · exact hu
  · cases hu
theorem Row.drop {w : World} {b off n : Nat} {xs : List Value} (h : Row w (some ⟨b, off, none⟩) n xs) {k : Nat} (hk : k ≤ n) : Row w (some ⟨b, off + k, none⟩) (n - k) (xs.drop k) := by
  refine ⟨by rw [List.length_drop, h.1], fun h0 => ?_⟩
  obtain ⟨b', off', e, hc⟩ := h.2 (by omega)
  injection e with e
  injection e with e1 e2
  subst e1; subst e2
  refine ⟨b, off + k, rfl, fun j u hu => ?_⟩
  rw [List.getElem?_drop] at hu
  rw [Nat.add_assoc]
  exact hc _ u hu
/-- a new block -/
theorem Row.new (w : World) (xs : List Value) (t : TypeId) (fz : Nat × Nat) : Row (w.alloc (.cells xs.toArray t fz)) (some ⟨w.heap.size, 0, none⟩) xs.length xs := by
  refine ⟨rfl, fun _ => ⟨_, _, rfl, fun j u hu => ?_⟩⟩
  simp only [World.cell?, World.alloc, Array.getElem?_push_size, Option.isSome_none, Bool.false_eq_true, if_false, List.getElem?_toArray, Nat.zero_add]
  exact hu

/-- Bytes as cells. -/
def u8v (x : UInt8) : Value := .int .u8 (x.toNat : Int)
def u8s (l : List UInt8) : List Value := l.map u8v
def Bytes (w : World) (A : Option Addr) (n : Nat) (l : List UInt8) : Prop := Row w A n (u8s l)
theorem Bytes.len {w : World} {A : Option Addr} {n : Nat} {l : List UInt8} (h : Bytes w A n l) : l.length = n := by have := h.1; simpa [u8s] using this
theorem Bytes.grow {w w' : World} {A : Option Addr} {n : Nat} {l : List UInt8} (h : Bytes w A n l) (hg : Grow w w') : Bytes w' A n l := Row.grow h hg
theorem Bytes.at_ {w : World} {A : Option Addr} {n : Nat} {l : List UInt8} (h : Bytes w A n l) {k : Nat} (hk : k < n) :
    ∃ b off x, A = some ⟨b, off, none⟩ ∧ l[k]? = some x ∧ w.cell? ⟨b, off + k, none⟩ = some (.int .u8 (x.toNat : Int)) := by
  obtain ⟨b, off, u, e, hu, hc⟩ := Row.at_ h hk
  simp only [u8s, List.getElem?_map, Option.map_eq_some_iff] at hu
  obtain ⟨x, hx, rfl⟩ := hu
  exact ⟨b, off, x, e, hx, hc⟩
theorem Bytes.take {w : World} {A : Option Addr} {n : Nat} {l : List UInt8} (h : Bytes w A n l) {k : Nat} (hk : k ≤ n) : Bytes w A k (l.take k) := by
  have := Row.take h hk
  rwa [u8s, ← List.map_take] at this
theorem Bytes.drop {w : World} {b off n : Nat} {l : List UInt8} (h : Bytes w (some ⟨b, off, none⟩) n l) {k : Nat} (hk : k ≤ n) : Bytes w (some ⟨b, off + k, none⟩) (n - k) (l.drop k) := by
  have := Row.drop h hk
  rwa [u8s, ← List.map_drop] at this

/-- A slice of bytes, as a value. -/
def Sl (w : World) (v : Value) (l : List UInt8) : Prop := ∃ A n c, v = .slice A n c ∧ n ≤ c ∧ c ≤ maxLen ∧ Bytes w A n l
theorem Sl.grow {w w' : World} {v : Value} {l : List UInt8} (h : Sl w v l) (hg : Grow w w') : Sl w' v l :=
  let ⟨A, n, c, e, h1, h2, h3⟩ := h; ⟨A, n, c, e, h1, h2, h3.grow hg⟩
theorem Sl.none_ (w : World) : Sl w (.slice none 0 0) [] := ⟨none, 0, 0, rfl, Nat.le_refl _, Nat.zero_le _, Row.nil w none⟩
/-- A slice of slices of bytes. -/
def Parts (w : World) (A : Option Addr) (n : Nat) (ls : List (List UInt8)) : Prop := ∃ vs : List Value, Row w A n vs ∧ vs.length = ls.length ∧ ∀ (j : Nat) (v : Value) (l : List UInt8), vs[j]? = some v → ls[j]? = some l → Sl w v l
theorem Parts.grow {w w' : World} {A : Option Addr} {n : Nat} {ls : List (List UInt8)} (h : Parts w A n ls) (hg : Grow w w') : Parts w' A n ls :=
  let ⟨vs, h1, h2, h3⟩ := h; ⟨vs, h1.grow hg, h2, fun j v l hv hl => (h3 j v l hv hl).grow hg⟩
theorem Parts.len {w : World} {A : Option Addr} {n : Nat} {ls : List (List UInt8)} (h : Parts w A n ls) : ls.length = n := by
  obtain ⟨vs, h1, h2, _⟩ := h
  rw [← h2, h1.1]
theorem Parts.at_ {w : World} {A : Option Addr} {n : Nat} {ls : List (List UInt8)} (h : Parts w A n ls) {k : Nat} (hk : k < n) :
    ∃ b off A' n' c' l, A = some ⟨b, off, none⟩ ∧ ls[k]? = some l ∧ w.cell? ⟨b, off + k, none⟩ = some (.slice A' n' c') ∧ n' ≤ c' ∧ c' ≤ maxLen ∧ Bytes w A' n' l := by
  obtain ⟨vs, h1, h2, h3⟩ := h
  obtain ⟨b, off, u, e, hu, hc⟩ := h1.at_ hk
  have hl : k < ls.length := by rw [← h2, h1.1]; exact hk
  obtain ⟨A', n', c', rfl, h4, h5, h6⟩ := h3 k u ls[k] hu (List.getElem?_eq_getElem hl)
  exact ⟨b, off, A', n', c', ls[k], e, List.getElem?_eq_getElem hl, hc, h4, h5, h6⟩
theorem Parts.nil (w : World) (A : Option Addr) : Parts w A 0 [] := ⟨[], Row.nil w A, rfl, fun j v l h => by simp at h⟩
/-- one slice, or several, in a new block -/
theorem Parts.new {w : World} {vs : List Value} {ls : List (List UInt8)} (t : TypeId) (fz : Nat × Nat) (hl : vs.length = ls.length) (h : ∀ (j : Nat) (v : Value) (l : List UInt8), vs[j]? = some v → ls[j]? = some l → Sl w v l) :
    Parts (w.alloc (.cells vs.toArray t fz)) (some ⟨w.heap.size, 0, none⟩) vs.length ls :=
  ⟨vs, Row.new w vs t fz, hl, fun j v l hv hl' => (h j v l hv hl').grow (Grow.alloc w _)⟩
theorem Parts.one {w : World} {v : Value} {l : List UInt8} (t : TypeId) (fz : Nat × Nat) {g : Nat} (hg : g = w.heap.size) (h : Sl w v l) : Parts (w.alloc (.cells #[v] t fz)) (some ⟨g, 0, none⟩) 1 [l] := by
  subst hg
  refine Parts.new (vs := [v]) t fz rfl fun j u l' hu hl => ?_
  cases j with
  | zero =>
    simp only [List.getElem?_cons_zero, Option.some.injEq] at hu hl
    subst hu; subst hl
    exact h
  | succ j => simp at hu
theorem Parts.two {w : World} {v v2 : Value} {l l2 : List UInt8} (t : TypeId) (fz : Nat × Nat) {g : Nat} (hg : g = w.heap.size) (h : Sl w v l) (h2 : Sl w v2 l2) : Parts (w.alloc (.cells #[v, v2] t fz)) (some ⟨g, 0, none⟩) 2 [l, l2] := by
  subst hg
  refine Parts.new (vs := [v, v2]) t fz rfl fun j u l' hu hl => ?_
  match j with
  | 0 =>
    simp only [List.getElem?_cons_zero, Option.some.injEq] at hu hl
    subst hu; subst hl
    exact h
  | 1 =>
    simp only [List.getElem?_cons_succ, List.getElem?_cons_zero, Option.some.injEq] at hu hl
    subst hu; subst hl
    exact h2
  | j + 2 => simp at hu
theorem Bytes.new (w : World) (l : List UInt8) {cs : Array Value} (t : TypeId) (fz : Nat × Nat) {g n : Nat} (hg : g = w.heap.size) (hc : cs = (u8s l).toArray) (hn : n = l.length) : Bytes (w.alloc (.cells cs t fz)) (some ⟨g, 0, none⟩) n l := by
  subst hg; subst hc; subst hn
  have := Row.new w (u8s l) t fz
  rwa [show (u8s l).length = l.length by simp [u8s]] at this
theorem Sl.mk {w : World} {A : Option Addr} {n c : Nat} {l : List UInt8} (h : Bytes w A n l) (hc : n ≤ c) (hm : c ≤ maxLen) : Sl w (.slice A n c) l := ⟨A, n, c, rfl, hc, hm, h⟩
/-- where 's[k:]' begins: at the end of the room the model keeps the address -/
def cutAt (A : Option Addr) (c k : Nat) : Option Addr := if c = k then A else A.map (·.add k)
theorem Row.cut {w : World} {A : Option Addr} {n : Nat} {xs : List Value} (h : Row w A n xs) {k c : Nat} (hk : k ≤ n) (hc : n ≤ c) : Row w (cutAt A c k) (n - k) (xs.drop k) := by
  rcases Nat.eq_zero_or_pos (n - k) with h0 | h0
  · have : xs.drop k = [] := List.drop_eq_nil_of_le (by have := h.1; omega)
    rw [this, h0]; exact Row.nil _ _
  · obtain ⟨b, off, rfl, _⟩ := h.2 (by omega)
    have e : cutAt (some ⟨b, off, none⟩) c k = some ⟨b, off + k, none⟩ := by
      unfold cutAt
      rw [if_neg (by omega)]
      by_cases hk0 : k = 0
      · subst hk0; rfl
      · simp [Addr.add, hk0]
    rw [e]; exact h.drop hk
theorem Bytes.cut {w : World} {A : Option Addr} {n : Nat} {l : List UInt8} (h : Bytes w A n l) {k c : Nat} (hk : k ≤ n) (hc : n ≤ c) : Bytes w (cutAt A c k) (n - k) (l.drop k) := by
  have := Row.cut h hk hc
  rwa [u8s, ← List.map_drop] at this
theorem slice_lo {P : Program} {t e : TypeId} {i : TypeInfo} (ht : P.underlying t = some (.slice e)) (hi : P.info? e = some i) (hs : i.size = 1) (A : Option Addr) (n c k : Nat) (hk : k ≤ n) (w : World) :
    (Instr.slice t (.slice A n c) (some (.int .i64 (k : Int))) none none).run P w = .ok (.slice (cutAt A c k) (n - k) (c - k)) w := by
  simp [Instr.slice, run_underlying ht, Instr.sliceBounds, run_sliceBound, sizeOf, typeInfo, hi, hs, hk, cutAt]
theorem slice_hi {P : Program} {t e : TypeId} {i : TypeInfo} (ht : P.underlying t = some (.slice e)) (hi : P.info? e = some i) (A : Option Addr) (n c k : Nat) (hk : k ≤ c) (w : World) :
    (Instr.slice t (.slice A n c) none (some (.int .i64 (k : Int))) none).run P w = .ok (.slice A k c) w := by
  simp [Instr.slice, run_underlying ht, Instr.sliceBounds, run_sliceBound, sizeOf, typeInfo, hi, hk]
  intro _
  cases A <;> simp [Addr.add]
/-- a value that is a slice of slices of bytes -/
def IsParts (ls : List (List UInt8)) : Value → World → Prop := fun u w => ∃ A n c, u = .slice A n c ∧ n ≤ maxLen ∧ Parts w A n ls
theorem IsParts.mono {ls : List (List UInt8)} : Mono Grow (IsParts ls) := fun _ _ _ h hg => let ⟨A, n, c, e, h1, h2⟩ := h; ⟨A, n, c, e, h1, h2.grow hg⟩
/-- a value that is a slice of bytes -/
def IsSl (l : List UInt8) : Value → World → Prop := fun u w => Sl w u l
theorem IsSl.mono {l : List UInt8} : Mono Grow (IsSl l) := fun _ _ _ h hg => h.grow hg

/-! a block that is known whole -/
def Blk (w : World) (g : Nat) (t : TypeId) (cs : List Value) : Prop := w.heap[g]? = some (.cells cs.toArray t (0, 0))
theorem Blk.lt {w : World} {g : Nat} {t : TypeId} {cs : List Value} (h : Blk w g t cs) : g < w.heap.size := (Array.getElem?_eq_some_iff.1 h).1
theorem Blk.cell {w : World} {g : Nat} {t : TypeId} {cs : List Value} (h : Blk w g t cs) {i : Nat} {u : Value} (hu : cs[i]? = some u) : w.cell? ⟨g, i, none⟩ = some u := by
  unfold Blk at h
  simp [World.cell?, h, hu]
theorem Blk.free {w : World} {g : Nat} {t : TypeId} {cs : List Value} (h : Blk w g t cs) (i : Nat) : w.frozen? ⟨g, i, none⟩ = false := by
  unfold Blk at h
  simp [World.frozen?, h]
theorem Blk.new (w : World) (t : TypeId) (cs : Array Value) (l : List Value) (hl : cs = l.toArray) {g : Nat} (hg : g = w.heap.size) : Blk (w.alloc (.cells cs t)) g t l := by
  subst hl; subst hg
  exact heap_alloc_new w _
theorem Blk.drew {w : World} {g : Nat} {t : TypeId} {cs : List Value} (h : Blk w g t cs) : Blk w.drew g t cs := h
theorem Blk.grow {w w' : World} {g : Nat} {t : TypeId} {cs : List Value} (h : Blk w g t cs) (hg : Grow w w') : Blk w' g t cs := hg.block h
theorem Blk.set_ {w : World} {g : Nat} {t : TypeId} {cs : List Value} (h : Blk w g t cs) (i : Nat) (u : Value) : Blk (w.setCell ⟨g, i, none⟩ u) g t (cs.set i u) := by
  unfold Blk at h ⊢
  simp [World.setCell, Array.getElem?_modify, h]
theorem Blk.far {w : World} {g : Nat} {t : TypeId} {cs : List Value} (h : Blk w g t cs) {p : Addr} (hp : g ≠ p.block) (u : Value) : Blk (w.setCell p u) g t cs := (Below.heap_setCell w p u g hp).trans h
theorem Blk.row {w : World} {g : Nat} {t : TypeId} {cs : List Value} (h : Blk w g t cs) : Row w (some ⟨g, 0, none⟩) cs.length cs :=
  ⟨rfl, fun _ => ⟨g, 0, rfl, fun j u hu => by rw [Nat.zero_add]; exact h.cell hu⟩⟩
/-- a world that has grown, and of which a block of its own has been written, has grown -/
theorem Grow.set_ {w w' : World} (h : Grow w w') {p : Addr} (hp : w.heap.size ≤ p.block) (u : Value) : Grow w (w'.setCell p u) := Below.setCell h hp u

/-- make, of elements of one cell -/
theorem make_row {P : Program} {t e : TypeId} {i : TypeInfo} {z : Value} (ht : P.underlying t = some (.slice e)) (hi : P.info? e = some i) (hz : i.zero = some z) (hs : i.size = 1) (hc1 : z.cells = #[z]) (c : Nat) (hb : i.bytes * c ≤ 281474976710656) (h63 : c ≤ 9223372036854775807) (w : World) :
    (Instr.makeSlice t (.int .i64 (c : Int)) (.int .i64 (c : Int))).run P w = .ok (.slice (some ⟨w.heap.size, 0, none⟩) c c) (w.alloc (.cells (Array.replicate c z) e)) := by
  have hb' : (i.bytes : Int) * (c : Int) ≤ 281474976710656 := by
    have h : ((i.bytes * c : Nat) : Int) ≤ 281474976710656 := by omega
    rwa [Int.natCast_mul] at h
  have hr := run_make (P := P) w t e i z ht hi hz .i64 .i64 c c (by omega) (by omega) hb' (by omega)
  rw [hr]
  simp only [Int.toNat_natCast, hs, Nat.mul_one]
  congr 3
  apply Array.ext_getElem?
  intro j
  simp only [madeCells, hc1]
  by_cases hj : j < c <;> simp [hj, Nat.mod_one]
theorem run_min4 {P : Program} (ts : Array TypeId) (t : TypeId) (a b c d m : Nat) (hm : m = min (min (min a b) c) d) (w : World) :
    (Builtin.min_ ts t #[.int .i64 (a : Int), .int .i64 (b : Int), .int .i64 (c : Int), .int .i64 (d : Int)]).run P w = .ok (.int .i64 (m : Int)) w := by
  subst hm
  simp [Builtin.min_, Builtin.min2]
  omega
end Go.Kit
