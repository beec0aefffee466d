/- Slices of structs of one-cell fields, read as records; what is kept of everything but one object. -/
import Derived.Test.YtfmaicjgndbffaaWr
import Derived.Test.YtfmaicjgndbffaaOpen2
namespace Go.Kit
open Go Go.RowKit Go.Par

def Recs {α : Type} (S : Nat) (f : α → List Value) (w : World) (A : Option Addr) (n : Nat) (xs : List α) : Prop := xs.length = n ∧ (∀ x, (f x).length = S) ∧ Row w A (n * S) (xs.map f).flatten
section
variable {α : Type} {S : Nat} {f : α → List Value} {w w' : World} {A : Option Addr} {n : Nat} {xs : List α}
theorem Recs.at_ (h : Recs S f w A n xs) (hS : 0 < S) {k : Nat} (hk : k < n) : ∃ b off x, A = some ⟨b, off, none⟩ ∧ xs[k]? = some x ∧ ∀ i u, (f x)[i]? = some u → w.cell? ⟨b, off + k * S + i, none⟩ = some u := by
  obtain ⟨h1, h2, h3⟩ := h
  obtain ⟨b, off, e, hc⟩ := h3.2 (Nat.mul_pos (by omega) hS)
  have hkx : k < xs.length := by omega
  refine ⟨b, off, xs[k], e, List.getElem?_eq_getElem hkx, fun i u hu => ?_⟩
  have hi : i < S := by rw [← h2 xs[k]]; exact (List.getElem?_eq_some_iff.1 hu).1
  have := hc (k * S + i) u (by
    rw [flatten_at hS _ _ (fun r hr => by obtain ⟨x, _, rfl⟩ := List.mem_map.1 hr; exact h2 x), Nat.mul_comm k S, Nat.mul_add_div hS, Nat.div_eq_of_lt hi, Nat.add_zero, Nat.mul_add_mod, Nat.mod_eq_of_lt hi, List.getElem?_map, List.getElem?_eq_getElem hkx]
    exact hu)
  rw [Nat.add_assoc]
  exact this
theorem Recs.below {B : Nat} (h : Recs S f w A n xs) (hb : Below B w w') (hA : 0 < n → ∀ ad, A = some ad → ad.block < B) : Recs S f w' A n xs := ⟨h.1, h.2.1, h.2.2.below hb (fun h0 => hA (Nat.pos_of_mul_pos_right h0))⟩
theorem Recs.grow (h : Recs S f w A n xs) (hg : Grow w w') : Recs S f w' A n xs := ⟨h.1, h.2.1, h.2.2.grow hg⟩
theorem Recs.block (h : Recs S f w A n xs) (hS : 0 < S) (hn : 0 < n) : ∀ ad, A = some ad → ad.block < w.heap.size := by
  intro ad had
  obtain ⟨b, off, x, e, hx, hc⟩ := h.at_ hS hn
  rw [e] at had
  injection had with had
  rw [← had]
  have hlen := h.2.1 x
  have h0 := hc 0 (f x)[0] (List.getElem?_eq_getElem (by omega))
  refine Decidable.byContradiction fun hh => ?_
  have : w.heap[b]? = none := Array.getElem?_eq_none (by simpa using hh)
  simp [World.cell?, this] at h0
end
theorem Row.block {w : World} {A : Option Addr} {n : Nat} {xs : List Value} (h : Row w A n xs) (hn : 0 < n) : ∀ ad, A = some ad → ad.block < w.heap.size := by
  intro ad had
  obtain ⟨b, off, e, hc⟩ := h.2 hn
  rw [e] at had
  injection had with had
  rw [← had]
  have hl : 0 < xs.length := by rw [h.1]; exact hn
  have h0 := hc 0 xs[0] (List.getElem?_eq_getElem hl)
  refine Decidable.byContradiction fun hh => ?_
  have : w.heap[b]? = none := Array.getElem?_eq_none (by simpa using hh)
  simp [World.cell?, this] at h0
/-- an address at which nothing stands can be any: of no bytes -/
def noneIf (A : Option Addr) (n : Nat) : Option Addr := if n = 0 then none else A

/-- everything that is there but one object's blocks -/
def Rest (g : Nat) (w : World) (k : Nat) : Prop := k < w.heap.size ∧ ¬ Its g w k
theorem Rest.lt {g : Nat} {w : World} : ∀ k, Rest g w k → k < w.heap.size := fun _ h => h.1
theorem Wr.rest {T e : TypeId} {w : World} {B : Nat} {K : Nat → Prop} {g : Nat} {L : List UInt8} (h : Wr T e w B K g L) : Wr T e w B (Rest g w) g L := by
  obtain ⟨v, h1, h2, h3, h4, h5⟩ := h
  exact ⟨v, h1, h2, h3, fun hh => hh.2 (.inl rfl), fun k hk => ⟨(h5 k hk).1, fun hh => hh.2 (.inr ⟨v, T, h1, hk⟩)⟩⟩
theorem Wr.its_lt {T e : TypeId} {w : World} {B : Nat} {K : Nat → Prop} {g : Nat} {L : List UInt8} (h : Wr T e w B K g L) : ∀ k, Its g w k → B ≤ k ∧ k < w.heap.size := by
  obtain ⟨v, h1, h2, h3, h4, h5⟩ := h
  rintro k (rfl | ⟨v', t, hb, hk⟩)
  · exact ⟨h3, h1.lt⟩
  · unfold Blk at h1 hb
    rw [h1] at hb
    simp at hb
    obtain ⟨e1, _⟩ := hb
    subst e1
    exact ⟨(h2.lt k hk).1, (h2.lt k hk).2⟩
/-- an append onto what is no part of it leaves an object as it is -/
theorem Wr.by_ {T e : TypeId} {w w' : World} {B : Nat} {K : Nat → Prop} {g : Nat} {L : List UInt8} {row : Option Nat} (h : Wr T e w B K g L) (hg : w.grownBy w' row) (hr : ∀ k, row = some k → B ≤ k ∧ K k) : Wr T e w' B K g L :=
  h.keep (K2 := Its g w) (Keep.by_ (Keep.refl w) h.size hg (fun k hk => ⟨(hr k hk).1, fun hi => h.apart k hi (hr k hk).2⟩)) (fun _ hk => hk)
theorem own_some {w : World} {base e n c : Nat} {A : Option Addr} {xs : List Value} (h : w.ownsRow base e 1 (.slice A n c) n xs) (hn : 0 < n) : ∃ g, A = some ⟨g, 0, none⟩ ∧ base ≤ g := by
  obtain ⟨g, cap, hv, h1, _⟩ := h.form hn
  injection hv with e1
  exact ⟨g, e1, h1⟩
theorem own_addr {w : World} {base e n c : Nat} {A : Option Addr} {xs : List Value} (h : w.ownsRow base e 1 (.slice A n c) n xs) : ∀ ad, A = some ad → base ≤ ad.block ∧ ad.block < w.heap.size := by
  intro ad had
  have hlt := h.lt
  obtain ⟨h1, h2⟩ := h
  rcases h2 with ⟨hv, _⟩ | ⟨g, cap, cur, hv, h3, h4, _⟩
  · injection hv with e1
    rw [e1] at had; cases had
  · injection hv with e1
    rw [e1] at had
    injection had with had
    rw [← had]
    exact hlt g (by rw [e1]; rfl)
end Go.Kit
