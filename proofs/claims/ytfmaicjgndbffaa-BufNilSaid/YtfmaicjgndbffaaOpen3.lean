/- Arguments opened: slices of integers, slices of records. -/
import Derived.Test.YtfmaicjgndbffaaRec
namespace Go.Kit
open Go Go.RowKit Go.Par Go.ChangeShapes Go.WideShapes Go.ChangeAt Go.Deep
section
variable {H : Type} {enc : TypeId × Value → H} {P : Program} {W : World}
theorem row_of_ints {k : IntKind} {a : Addr} {len cap : Nat} {zs : List Int} (hl : len ≤ cap) (hz : zs.length = cap) (hcell : ∀ i, i < zs.length → W.cell? (a.add i) = some (.int k (zs.getD i 0))) : Row W (some a) len ((zs.take len).map (Value.int k)) := by
  refine row_of_cells (by simp; omega) fun i u hu => ?_
  simp only [List.getElem?_map, Option.map_eq_some_iff] at hu
  obtain ⟨z, hz', rfl⟩ := hu
  rw [List.getElem?_take] at hz'
  split at hz'
  · rename_i hi
    have hil : i < zs.length := by omega
    rw [List.getElem?_eq_getElem hil, Option.some.injEq] at hz'
    rw [hcell i hil]
    simp [List.getD_eq_getElem?_getD, List.getElem?_eq_getElem hil, hz']
  · cases hz'
theorem open_introw {t e : TypeId} {k : IntKind} {v : Value} {d : DataW H} {p : List MemPlace} {base : Nat} (ht : P.underlying t = some (.slice e)) (he : P.underlying e = some (.int k)) (hc : P.cellsOf e = 1)
    (hok : Value.okWide P W .any base t v) (h : DataW.Trod enc P W 0 (fun _ => true) true t v d p) : ∃ (A : Option Addr) (n c : Nat) (zs : List Int), v = .slice A n c ∧ n ≤ c ∧ c ≤ maxLen ∧ Row W A n (zs.map (Value.int k)) ∧ ∀ z ∈ zs, (Lit.int k z).wf = true := by
  obtain ⟨a, len, cap, rfl⟩ := okWide_slice ht hok
  obtain ⟨fuel, hf⟩ := h
  rcases open_ints ht he hc hf with ⟨hcs, _⟩ | ⟨x, l, c, zs, hcs, _, hl, hm, hz, _, hcell, hwz⟩
  · simp [Value.cells] at hcs
    obtain ⟨rfl, rfl, rfl⟩ := hcs
    exact ⟨none, 0, 0, [], rfl, Nat.le_refl _, Nat.zero_le _, Row.nil _ _, fun z hz => by cases hz⟩
  · simp [Value.cells] at hcs
    obtain ⟨rfl, rfl, rfl⟩ := hcs
    exact ⟨_, _, _, _, rfl, hl, hm, row_of_ints hl (by simpa using hz) hcell, fun z hz => hwz z (List.mem_of_mem_take hz)⟩
/-- integers that are no less than 0, as naturals -/
theorem ints_nat {k : IntKind} : ∀ (zs : List Int), (∀ z ∈ zs, 0 ≤ z) → zs.map (Value.int k) = (zs.map Int.toNat).map (fun n : Nat => Value.int k (n : Int))
  | [], _ => rfl
  | z :: zs, h => by
    have h0 := h z List.mem_cons_self
    rw [List.map_cons, List.map_cons, List.map_cons, ints_nat zs fun y hy => h y (List.mem_cons_of_mem _ hy), Int.toNat_of_nonneg h0]
theorem open_recs {α : Type} {S : Nat} (f : α → List Value) (ok : α → Prop) {t e : TypeId} {v : Value} {d : DataW H} {p : List MemPlace} {base : Nat} (hfl : ∀ x, (f x).length = S) (ht : P.underlying t = some (.slice e)) (hS : P.cellsOf e = S) (h0 : 0 < S)
    (key : ∀ (m : Nat) (r : List Value), Rd enc P W m e r → ∃ x, r = f x ∧ ok x)
    (hok : Value.okWide P W .any base t v) (h : DataW.Trod enc P W 0 (fun _ => true) true t v d p) :
    ∃ (A : Option Addr) (n c : Nat) (xs : List α), v = .slice A n c ∧ n ≤ c ∧ c ≤ maxLen ∧ Recs S f W A n xs ∧ ∀ x ∈ xs, ok x := by
  obtain ⟨A, n, c, rows, rfl, h1, h2, h3, h4, h5⟩ := open_rows ht hS h0 hok h
  obtain ⟨xs, rfl, hx⟩ := rows_of f ok rows fun r hr => (by
    obtain ⟨_, m, hm⟩ := h5 r hr
    exact key m r hm)
  exact ⟨A, n, c, xs, rfl, h1, h2, ⟨by simpa using h3, hfl, h4⟩, hx⟩
theorem str_of (s : ByteArray) : ∃ l : List UInt8, s = str l := ⟨s.data.toList, by cases s; rfl⟩
end
end Go.Kit
