/- Slices of slices of bytes of a call's own. -/
import Derived.Test.YtbcifodifadoiaaOwn
namespace Go.Kit
open Go Go.RowKit Go.Par

theorem Row.blk_lt {w : World} {A : Option Addr} {n : Nat} {xs : List Value} (h : Row w A n xs) (hn : 0 < n) : ∀ ad, A = some ad → ad.block < w.heap.size := by
  intro ad had
  obtain ⟨b, off, e, hc⟩ := h.2 hn
  rw [e] at had
  injection had with had
  rw [← had]
  have hl : 0 < xs.length := by rw [h.1]; exact hn
  have h0 := hc 0 xs[0] (List.getElem?_eq_getElem hl)
  refine Decidable.byContradiction fun hh => ?_
  have : w.heap[b]? = none := Array.getElem?_eq_none (by simpa using hh)
  simp [World.cell?, this] at h0
theorem Row.by_ {w w' : World} {A : Option Addr} {n : Nat} {xs : List Value} {row : Option Nat} (h : Row w A n xs) (hg : w.grownBy w' row) (hr : 0 < n → ∀ ad, A = some ad → row ≠ some ad.block) : Row w' A n xs := by
  refine ⟨h.1, fun hn => ?_⟩
  obtain ⟨b, off, e, hc⟩ := h.2 hn
  have hlt := h.blk_lt hn _ e
  refine ⟨b, off, e, fun j u hu => ?_⟩
  rw [← hc j u hu]
  exact World.cell?_of_block (w := w) (w' := w') (a := ⟨b, off + j, none⟩) (hg.block b hlt (fun e' => hr hn _ e e'.symm))
theorem cut_blk {A : Option Addr} {c k : Nat} {B : Nat} (hA : ∀ ad, A = some ad → ad.block < B) : ∀ ad, cutAt A c k = some ad → ad.block < B := by
  intro ad h
  unfold cutAt at h
  split at h
  · exact hA ad h
  · cases A with
    | none => cases h
    | some a =>
      injection h with h
      have := hA a rfl
      rw [← h]
      unfold Addr.add
      split <;> exact this
/-- a row of the call's own, of just these cells -/
def OwnRow (base : Nat) (e : TypeId) (xs : List Value) : Value → World → Prop := fun v w => w.ownsRow base e 1 v xs.length xs
theorem OwnRow.mono {base : Nat} {e : TypeId} {xs : List Value} : Mono Grow (OwnRow base e xs) := fun _ _ _ h hg => own_grow h hg
theorem OwnRow.mk {base n : Nat} {e : TypeId} {xs : List Value} {v : Value} {w : World} (h : w.ownsRow base e 1 v n xs) (hl : xs.length = n) : OwnRow base e xs v w := by subst hl; exact h
theorem OwnRow.form {base : Nat} {e : TypeId} {xs : List Value} {v : Value} {w : World} (h : OwnRow base e xs v w) : ∃ A c, v = .slice A xs.length c ∧ w.ownsRow base e 1 (.slice A xs.length c) xs.length xs := by
  obtain ⟨A, c, rfl, _⟩ := own_form h
  exact ⟨A, c, rfl, h⟩
/-- bytes that lie in no block of P -/
def SlP (w : World) (v : Value) (l : List UInt8) (P : Nat → Prop) : Prop := ∃ A n c, v = .slice A n c ∧ n ≤ c ∧ c ≤ maxLen ∧ Bytes w A n l ∧ (0 < n → ∀ ad, A = some ad → P ad.block)
theorem SlP.sl {w : World} {v : Value} {l : List UInt8} {P : Nat → Prop} (h : SlP w v l P) : Sl w v l := let ⟨A, n, c, e, h1, h2, h3, _⟩ := h; ⟨A, n, c, e, h1, h2, h3⟩
theorem SlP.grow {w w' : World} {v : Value} {l : List UInt8} {P : Nat → Prop} (h : SlP w v l P) (hg : Grow w w') : SlP w' v l P := let ⟨A, n, c, e, h1, h2, h3, h4⟩ := h; ⟨A, n, c, e, h1, h2, h3.grow hg, h4⟩
theorem SlP.to {w : World} {v : Value} {l : List UInt8} {P Q : Nat → Prop} (h : SlP w v l P) (hp : ∀ k, P k → Q k) : SlP w v l Q := let ⟨A, n, c, e, h1, h2, h3, h4⟩ := h; ⟨A, n, c, e, h1, h2, h3, fun hn ad had => hp _ (h4 hn ad had)⟩
theorem SlP.by_ {w w' : World} {v : Value} {l : List UInt8} {P Q : Nat → Prop} {row : Option Nat} (h : SlP w v l P) (hg : w.grownBy w' row) (hp : ∀ k, P k → k < w.heap.size → row ≠ some k ∧ Q k) : SlP w' v l Q := by
  obtain ⟨A, n, c, e, h1, h2, h3, h4⟩ := h
  exact ⟨A, n, c, e, h1, h2, Row.by_ h3 hg (fun hn ad had => (hp _ (h4 hn ad had) (Row.blk_lt h3 hn ad had)).1), fun hn ad had => (hp _ (h4 hn ad had) (Row.blk_lt h3 hn ad had)).2⟩
/-- a value that is a slice, of the call's own, of slices of bytes -/
def OwnParts (w : World) (base : Nat) (e : TypeId) (v : Value) (ls : List (List UInt8)) : Prop :=
  ∃ vs : List Value, w.ownsRow base e 1 v vs.length vs ∧ vs.length = ls.length ∧ ∀ (j : Nat) (u : Value) (l : List UInt8), vs[j]? = some u → ls[j]? = some l → SlP w u l (fun k => v.ownBlock ≠ some k)
theorem OwnParts.nil (w : World) (base : Nat) (e : TypeId) : OwnParts w base e (.slice none 0 0) [] := ⟨[], World.ownsRow_nil _ _ _ _, rfl, fun j u l h => by simp at h⟩
theorem OwnParts.grow {w w' : World} {base : Nat} {e : TypeId} {v : Value} {ls : List (List UInt8)} (h : OwnParts w base e v ls) (hg : Grow w w') : OwnParts w' base e v ls :=
  let ⟨vs, h1, h2, h3⟩ := h; ⟨vs, own_grow h1 hg, h2, fun j u l hu hl => (h3 j u l hu hl).grow hg⟩
theorem OwnParts.form {w : World} {base : Nat} {e : TypeId} {v : Value} {ls : List (List UInt8)} (h : OwnParts w base e v ls) : ∃ A c, v = .slice A ls.length c ∧ ls.length ≤ c ∧ c ≤ maxLen ∧ Parts w A ls.length ls := by
  obtain ⟨vs, h1, h2, h3⟩ := h
  obtain ⟨A, c, rfl, a1, a2, a3⟩ := own_form h1
  rw [Nat.mul_one, h2] at a3
  rw [h2] at a1
  exact ⟨A, c, by rw [h2], a1, a2, vs, a3, h2, fun j u l hu hl => (h3 j u l hu hl).sl⟩
/-- one more -/
theorem OwnParts.snoc {w w2 : World} {base : Nat} {e : TypeId} {v v2 u : Value} {ls : List (List UInt8)} {l : List UInt8} {vs : List Value} (hl : vs.length = ls.length)
    (h3 : ∀ (j : Nat) (u : Value) (l : List UInt8), vs[j]? = some u → ls[j]? = some l → SlP w u l (fun k => v.ownBlock ≠ some k)) (hu : SlP w u l (fun k => v.ownBlock ≠ some k))
    (ho : w2.ownsRow base e 1 v2 (vs.length + 1) (vs ++ [u])) (hg : (w.alloc (.cells #[u] e)).grownBy w2 v.ownBlock) (hv : v2.ownBlock = v.ownBlock ∨ v2.ownBlock = some (w.heap.size + 1)) : OwnParts w2 base e v2 (ls ++ [l]) := by
  have key : ∀ (u : Value) (l : List UInt8), SlP w u l (fun k => v.ownBlock ≠ some k) → SlP w2 u l (fun k => v2.ownBlock ≠ some k) := by
    intro u l h
    have h' : SlP w u l (fun k => v.ownBlock ≠ some k ∧ k < w.heap.size) := by
      obtain ⟨A, n, c, e, b1, b2, b3, b4⟩ := h
      exact ⟨A, n, c, e, b1, b2, b3, fun hn ad had => ⟨b4 hn ad had, Row.blk_lt b3 hn ad had⟩⟩
    refine (h'.grow (Grow.alloc w _)).by_ hg fun k hk _ => ⟨hk.1, fun hh => ?_⟩
    rcases hv with e' | e'
    · exact hk.1 (e' ▸ hh)
    · rw [e'] at hh
      injection hh with hh
      have := hk.2
      omega
  refine ⟨vs ++ [u], by simpa using ho, by simp [hl], fun j u' l' hu' hl' => ?_⟩
  by_cases hj : j < vs.length
  · rw [List.getElem?_append_left hj] at hu'
    rw [List.getElem?_append_left (by omega)] at hl'
    exact key _ _ (h3 j u' l' hu' hl')
  · rw [List.getElem?_append_right (by omega)] at hu'
    rw [List.getElem?_append_right (by omega)] at hl'
    have h0 : j - vs.length = 0 := by
      refine Decidable.byContradiction fun hh => ?_
      rw [List.getElem?_eq_none (by simp; omega)] at hu'
      cases hu'
    rw [h0] at hu'
    rw [show j - ls.length = 0 by omega] at hl'
    simp only [List.getElem?_cons_zero, Option.some.injEq] at hu' hl'
    subst hu'; subst hl'
    exact key _ _ hu
theorem OwnParts.block {w : World} {base : Nat} {e : TypeId} {v : Value} {ls : List (List UInt8)} (h : OwnParts w base e v ls) : ∀ k, v.ownBlock = some k → base ≤ k ∧ k < w.heap.size := by
  obtain ⟨vs, h1, _⟩ := h
  exact fun k hk => ⟨(h1.lt k hk).1, (h1.lt k hk).2⟩
end Go.Kit
