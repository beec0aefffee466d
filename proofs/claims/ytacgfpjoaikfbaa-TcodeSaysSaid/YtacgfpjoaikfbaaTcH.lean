/- A tree that is small is written in few bytes. -/
import Derived.Test.YtacgfpjoaikfbaaTcG
namespace Go.Proofs.Ytacgfpjoaikfbaa.tc
open Go Go.RowKit Go.Par Go.Kit Vi Go.Proofs.Ytacgfpjoaikfbaa.bfW

theorem SmF.ok {f : Fil} (h : SmF f) : f.ok := ⟨by have := h.1; omega, fun t ht => by have := h.2.2.2.1 t ht; omega, fun t ht => by have := h.2.2.2.2 t ht; omega, by have := h.2.1; omega, by have := h.2.2.1; omega⟩
theorem txf_le : ∀ l : List (List UInt8), (∀ t ∈ l, t.length ≤ 200) → (txf l).length ≤ 210 * l.length
  | [], _ => Nat.le_refl _
  | t :: l, h => by
    have h1 := txf_le l fun x hx => h x (List.mem_cons_of_mem _ hx)
    have h2 := h t List.mem_cons_self
    have h3 := vb_len_le t.length
    rw [txf_cons, List.length_append, List.length_cons]
    unfold tx
    rw [List.length_append]
    omega
theorem SmF.len {f : Fil} (h : SmF f) : (filb f).length ≤ 30000 := by
  obtain ⟨h1, h2, h3, h4, h5⟩ := h
  have a1 := txf_le f.also h4
  have a2 := txf_le f.lines h5
  have v1 := vb_len_le f.name.length
  have v2 := vb_len_le f.also.length
  have v3 := vb_len_le f.lines.length
  unfold filb tx txs
  simp only [List.length_append]
  omega
theorem filf_sm : ∀ l : List Fil, (∀ f ∈ l, SmF f) → (filf l).length ≤ 30000 * l.length
  | [], _ => Nat.le_refl _
  | f :: l, h => by
    have h1 := filf_sm l fun x hx => h x (List.mem_cons_of_mem _ hx)
    have h2 := (h f List.mem_cons_self).len
    rw [filf_cons, List.length_append, List.length_cons]
    omega
theorem treb_sm {l : List Fil} (h : ∀ f ∈ l, SmF f) (hl : l.length ≤ 40) : (treb l).length ≤ 2000000 := by
  have h1 := filf_sm l h
  have h2 := vb_len_le l.length
  unfold treb
  rw [List.length_append]
  omega
end Go.Proofs.Ytacgfpjoaikfbaa.tc
