/- Arguments opened: slices of integers; arrays of such slices. -/
import Derived.Test.YtbcifodifadoiaaOpen2
namespace Go.Kit
open Go Go.RowKit Go.Par Go.ChangeShapes Go.WideShapes Go.ChangeAt Go.Deep
section
variable {H : Type} {enc : TypeId × Value → H} {P : Program} {W : World}
theorem row_of_ints {k : IntKind} {a : Addr} {len cap : Nat} {zs : List Int} (hl : len ≤ cap) (hz : zs.length = cap) (hcell : ∀ i, i < zs.length → W.cell? (a.add i) = some (.int k (zs.getD i 0))) : Row W (some a) len ((zs.take len).map (Value.int k)) := by
  refine row_of_cells (by simp; omega) fun i u hu => ?_
  simp only [List.getElem?_map, Option.map_eq_some_iff] at hu
  obtain ⟨z, hz', rfl⟩ := hu
  rw [List.getElem?_take] at hz'
  split at hz'
  · rename_i hi
    have hil : i < zs.length := by omega
    rw [List.getElem?_eq_getElem hil, Option.some.injEq] at hz'
    rw [hcell i hil]
    simp [List.getD_eq_getElem?_getD, List.getElem?_eq_getElem hil, hz']
  · cases hz'
theorem open_introw {t e : TypeId} {k : IntKind} {v : Value} {d : DataW H} {p : List MemPlace} {base : Nat} (ht : P.underlying t = some (.slice e)) (he : P.underlying e = some (.int k)) (hc : P.cellsOf e = 1)
    (hok : Value.okWide P W .any base t v) (h : DataW.Trod enc P W 0 (fun _ => true) true t v d p) : ∃ (A : Option Addr) (n c : Nat) (zs : List Int), v = .slice A n c ∧ n ≤ c ∧ c ≤ maxLen ∧ Row W A n (zs.map (Value.int k)) ∧ ∀ z ∈ zs, (Lit.int k z).wf = true := by
  obtain ⟨a, len, cap, rfl⟩ := okWide_slice ht hok
  obtain ⟨fuel, hf⟩ := h
  rcases open_ints ht he hc hf with ⟨hcs, _⟩ | ⟨x, l, c, zs, hcs, _, hl, hm, hz, _, hcell, hwz⟩
  · simp [Value.cells] at hcs
    obtain ⟨rfl, rfl, rfl⟩ := hcs
    exact ⟨none, 0, 0, [], rfl, Nat.le_refl _, Nat.zero_le _, Row.nil _ _, fun z hz => by cases hz⟩
  · simp [Value.cells] at hcs
    obtain ⟨rfl, rfl, rfl⟩ := hcs
    exact ⟨_, _, _, _, rfl, hl, hm, row_of_ints hl (by simpa using hz) hcell, fun z hz => hwz z (List.mem_of_mem_take hz)⟩
/-- integers that are no less than 0, as naturals -/
theorem ints_nat {k : IntKind} : ∀ (zs : List Int), (∀ z ∈ zs, 0 ≤ z) → zs.map (Value.int k) = (zs.map Int.toNat).map (fun n : Nat => Value.int k (n : Int))
  | [], _ => rfl
  | z :: zs, h => by
    have h0 := h z List.mem_cons_self
    rw [List.map_cons, List.map_cons, List.map_cons, ints_nat zs fun y hy => h y (List.mem_cons_of_mem _ hy), Int.toNat_of_nonneg h0]
/-- a value that is a slice of integers -/
def IsInts (k : IntKind) (w : World) (v : Value) (zs : List Int) : Prop := ∃ A n c, v = .slice A n c ∧ n ≤ c ∧ c ≤ maxLen ∧ Row w A n (zs.map (Value.int k)) ∧ ∀ z ∈ zs, (Lit.int k z).wf = true
theorem rd_ints {t e : TypeId} {k : IntKind} {n : Nat} {u : Value} (ht : P.underlying t = some (.slice e)) (he : P.underlying e = some (.int k)) (hc : P.cellsOf e = 1) (h : Rd enc P W n t [u]) : ∃ zs, IsInts k W u zs := by
  obtain ⟨x, hx⟩ := h
  rcases open_ints ht he hc hx with ⟨hcs, _⟩ | ⟨x, l, c, zs, hcs, _, hl, hm, hz, _, hcell, hwz⟩
  · simp at hcs
    exact ⟨[], none, 0, 0, hcs, Nat.le_refl _, Nat.zero_le _, Row.nil _ _, fun z hz => by cases hz⟩
  · simp at hcs
    exact ⟨_, _, _, _, hcs, hl, hm, row_of_ints hl (by simpa using hz) hcell, fun z hz => hwz z (List.mem_of_mem_take hz)⟩
/-- an array, by value, of elements of one cell -/
theorem open_array {t e : TypeId} {n : Nat} {v : Value} {d : DataW H} {p : List MemPlace} {base : Nat} (ht : P.underlying t = some (.array n e)) (hc : P.cellsOf e = 1)
    (hC : P.cellsOf t = n) (hok : Value.okWide P W .any base t v) (h : DataW.Trod enc P W 0 (fun _ => true) true t v d p) : ∃ us : List Value, v = .agg us.toArray ∧ us.length = n ∧ ∀ u ∈ us, ∃ m, Rd enc P W m e [u] := by
  obtain ⟨cs, rfl, hl⟩ : ∃ cs, v = .agg cs ∧ cs.size = P.cellsOf t := by
    simp only [Value.okWide, ht] at hok
    obtain ⟨cs, h1, h2, _⟩ := hok
    exact ⟨cs, h1, h2⟩
  obtain ⟨l⟩ := cs
  obtain ⟨fuel, hf⟩ := h
  obtain ⟨xs, m, _, _, hcl, hxl, hg⟩ := DataW.trod_array ht hf
  have hcl : l.length = P.cellsOf t := by simpa [Value.cells] using hcl
  have hg : ∀ i, i < n → DataW.trod enc P W 0 (fun _ => true) true m e ((l.drop (i * P.cellsOf e)).take (P.cellsOf e)) = xs[i]? := by simpa [Value.cells] using hg
  rw [hc] at hg
  have hll : l.length = n := by rw [← hC]; exact hcl
  refine ⟨l, rfl, hll, fun u hu => ?_⟩
  obtain ⟨i, hi, rfl⟩ := List.getElem_of_mem hu
  have h1 := hg i (by omega)
  have e : (l.drop (i * 1)).take 1 = [l[i]] := by rw [Nat.mul_one, List.drop_eq_getElem_cons hi]; rfl
  rw [e, List.getElem?_eq_getElem (by omega)] at h1
  exact ⟨m, _, h1⟩
end
end Go.Kit
