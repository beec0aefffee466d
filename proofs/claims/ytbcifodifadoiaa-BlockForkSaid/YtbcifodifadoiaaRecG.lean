/- Slices of structs of one-cell fields, read as records, and their opener (generic: no seat's own objects). -/
import Derived.Test.YtbcifodifadoiaaOwnP
import Derived.Test.YtbcifodifadoiaaMut
import Derived.Test.YtbcifodifadoiaaOpen2
import Derived.Test.YtbcifodifadoiaaOpenI
namespace Go.Kit
open Go Go.RowKit Go.Par

def Recs {α : Type} (S : Nat) (f : α → List Value) (w : World) (A : Option Addr) (n : Nat) (xs : List α) : Prop := xs.length = n ∧ (∀ x, (f x).length = S) ∧ Row w A (n * S) (xs.map f).flatten
section
variable {α : Type} {S : Nat} {f : α → List Value} {w w' : World} {A : Option Addr} {n : Nat} {xs : List α}
theorem Recs.at_ (h : Recs S f w A n xs) (hS : 0 < S) {k : Nat} (hk : k < n) : ∃ b off x, A = some ⟨b, off, none⟩ ∧ xs[k]? = some x ∧ ∀ i u, (f x)[i]? = some u → w.cell? ⟨b, off + k * S + i, none⟩ = some u := by
  obtain ⟨h1, h2, h3⟩ := h
  obtain ⟨b, off, e, hc⟩ := h3.2 (Nat.mul_pos (by omega) hS)
  have hkx : k < xs.length := by omega
  refine ⟨b, off, xs[k], e, List.getElem?_eq_getElem hkx, fun i u hu => ?_⟩
  have hi : i < S := by rw [← h2 xs[k]]; exact (List.getElem?_eq_some_iff.1 hu).1
  have := hc (k * S + i) u (by
    rw [flatten_at hS _ _ (fun r hr => by obtain ⟨x, _, rfl⟩ := List.mem_map.1 hr; exact h2 x), Nat.mul_comm k S, Nat.mul_add_div hS, Nat.div_eq_of_lt hi, Nat.add_zero, Nat.mul_add_mod, Nat.mod_eq_of_lt hi, List.getElem?_map, List.getElem?_eq_getElem hkx]
    exact hu)
  rw [Nat.add_assoc]
  exact this
theorem Recs.grow (h : Recs S f w A n xs) (hg : Grow w w') : Recs S f w' A n xs := ⟨h.1, h.2.1, h.2.2.grow hg⟩
theorem Recs.block (h : Recs S f w A n xs) (hS : 0 < S) (hn : 0 < n) : ∀ ad, A = some ad → ad.block < w.heap.size := by
  intro ad had
  obtain ⟨b, off, x, e, hx, hc⟩ := h.at_ hS hn
  rw [e] at had
  injection had with had
  rw [← had]
  have hlen := h.2.1 x
  have h0 := hc 0 (f x)[0] (List.getElem?_eq_getElem (by omega))
  refine Decidable.byContradiction fun hh => ?_
  have : w.heap[b]? = none := Array.getElem?_eq_none (by simpa using hh)
  simp [World.cell?, this] at h0
end
end Go.Kit
namespace Go.Kit
open Go Go.RowKit Go.Par Go.ChangeShapes Go.WideShapes Go.ChangeAt Go.Deep
section
variable {H : Type} {enc : TypeId × Value → H} {P : Program} {W : World}
theorem open_recs {α : Type} {S : Nat} (f : α → List Value) (ok : α → Prop) {t e : TypeId} {v : Value} {d : DataW H} {p : List MemPlace} {base : Nat} (hfl : ∀ x, (f x).length = S) (ht : P.underlying t = some (.slice e)) (hS : P.cellsOf e = S) (h0 : 0 < S)
    (key : ∀ (m : Nat) (r : List Value), Rd enc P W m e r → ∃ x, r = f x ∧ ok x)
    (hok : Value.okWide P W .any base t v) (h : DataW.Trod enc P W 0 (fun _ => true) true t v d p) :
    ∃ (A : Option Addr) (n c : Nat) (xs : List α), v = .slice A n c ∧ n ≤ c ∧ c ≤ maxLen ∧ Recs S f W A n xs ∧ ∀ x ∈ xs, ok x := by
  obtain ⟨A, n, c, rows, rfl, h1, h2, h3, h4, h5⟩ := open_rows ht hS h0 hok h
  obtain ⟨xs, rfl, hx⟩ := rows_of f ok rows fun r hr => (by
    obtain ⟨_, m, hm⟩ := h5 r hr
    exact key m r hm)
  exact ⟨A, n, c, xs, rfl, h1, h2, ⟨by simpa using h3, hfl, h4⟩, hx⟩
theorem str_of (s : ByteArray) : ∃ l : List UInt8, s = str l := ⟨s.data.toList, by cases s; rfl⟩
end
end Go.Kit

