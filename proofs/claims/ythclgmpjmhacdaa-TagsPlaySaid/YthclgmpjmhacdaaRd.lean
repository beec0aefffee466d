/- What is read: plain law, and an object that reads. -/
import Derived.Test.YthclgmpjmhacdaaMut
import Derived.Test.YthclgmpjmhacdaaVi
namespace Go.Kit
open Go Go.RowKit Go.Par

theorem Row.below {w w' : World} {B : Nat} {A : Option Addr} {n : Nat} {xs : List Value} (h : Row w A n xs) (hb : Below B w w') (hA : 0 < n → ∀ ad, A = some ad → ad.block < B) : Row w' A n xs :=
  ⟨h.1, fun hn => let ⟨b, off, e, hc⟩ := h.2 hn; ⟨b, off, e, fun j u hu => (hb.cell (p := ⟨b, off + j, none⟩) (show b < B from hA hn ⟨b, off, none⟩ e)).trans (hc j u hu)⟩⟩
theorem Bytes.below {w w' : World} {B : Nat} {A : Option Addr} {n : Nat} {l : List UInt8} (h : Bytes w A n l) (hb : Below B w w') (hA : 0 < n → ∀ ad, A = some ad → ad.block < B) : Bytes w' A n l := Row.below h hb hA
theorem cutAt_block {A : Option Addr} {c k : Nat} {B : Nat} (hA : ∀ ad, A = some ad → ad.block < B) : ∀ ad, cutAt A c k = some ad → ad.block < B := by
  intro ad h
  unfold cutAt at h
  split at h
  · exact hA ad h
  · cases A with
    | none => cases h
    | some a =>
      injection h with h
      have := hA a rfl
      rw [← h]
      unfold Addr.add
      split <;> exact this

/-- An object that reads: what is left, and what is wrong. -/
def Rdr (T : TypeId) (w : World) (B : Nat) (K : Nat → Prop) (g : Nat) (L : List UInt8) (e : Nat) : Prop :=
  ∃ A n c, Blk w g T [.slice A n c, .int .i64 (e : Int)] ∧ n ≤ c ∧ c ≤ maxLen ∧ Bytes w A n L ∧ (0 < n → ∀ ad, A = some ad → ad.block < B) ∧ B ≤ g ∧ ¬ K g
theorem Rdr.keep {T : TypeId} {w w' : World} {B : Nat} {K K2 : Nat → Prop} {g : Nat} {L : List UInt8} {e : Nat} (h : Rdr T w B K g L e) (hk : Keep B K2 w w') (hg : K2 g) : Rdr T w' B K g L e := by
  obtain ⟨A, n, c, h1, h2, h3, h4, h5, h6⟩ := h
  exact ⟨A, n, c, hk.blk h1 hg, h2, h3, h4.below hk.1 h5, h5, h6⟩
theorem Rdr.grow {T : TypeId} {w w' : World} {B : Nat} {K : Nat → Prop} {g : Nat} {L : List UInt8} {e : Nat} (h : Rdr T w B K g L e) (hg : Grow w w') : Rdr T w' B K g L e := by
  obtain ⟨A, n, c, h1, h2, h3, h4, h5, h6⟩ := h
  exact ⟨A, n, c, h1.grow hg, h2, h3, h4.grow hg, h5, h6⟩
theorem Rdr.to {T : TypeId} {w : World} {B : Nat} {K K2 : Nat → Prop} {g : Nat} {L : List UInt8} {e : Nat} (h : Rdr T w B K g L e) (hg : ¬ K2 g) : Rdr T w B K2 g L e := by
  obtain ⟨A, n, c, h1, h2, h3, h4, h5, h6, _⟩ := h
  exact ⟨A, n, c, h1, h2, h3, h4, h5, h6, hg⟩
theorem Rdr.lt {T : TypeId} {w : World} {B : Nat} {K : Nat → Prop} {g : Nat} {L : List UInt8} {e : Nat} (h : Rdr T w B K g L e) : B ≤ g ∧ g < w.heap.size := by
  obtain ⟨A, n, c, h1, h2, h3, h4, h5, h6, _⟩ := h
  exact ⟨h6, h1.lt⟩
theorem Rdr.set1 {T : TypeId} {w : World} {B : Nat} {K : Nat → Prop} {g : Nat} {L : List UInt8} {e : Nat} (h : Rdr T w B K g L e) (e' : Nat) :
    Rdr T (w.setCell ⟨g, 1, none⟩ (.int .i64 (e' : Int))) B K g L e' ∧ Keep B K w (w.setCell ⟨g, 1, none⟩ (.int .i64 (e' : Int))) := by
  obtain ⟨A, n, c, h1, h2, h3, h4, h5, h6, h7⟩ := h
  have hk : Keep B K w (w.setCell ⟨g, 1, none⟩ (.int .i64 (e' : Int))) := (Keep.refl w).setCell h6 h7 _
  exact ⟨⟨A, n, c, h1.set_ 1 _, h2, h3, h4.below hk.1 h5, h5, h6, h7⟩, hk⟩
theorem Rdr.set0 {T : TypeId} {w : World} {B : Nat} {K : Nat → Prop} {g : Nat} {L : List UInt8} {e : Nat} {A : Option Addr} {n c : Nat} (h1 : Blk w g T [.slice A n c, .int .i64 (e : Int)]) (h2 : n ≤ c) (h3 : c ≤ maxLen) (h4 : Bytes w A n L)
    (h5 : 0 < n → ∀ ad, A = some ad → ad.block < B) (h6 : B ≤ g) (h7 : ¬ K g) {k : Nat} (hk : k ≤ n) :
    Rdr T (w.setCell ⟨g, 0, none⟩ (.slice (cutAt A c k) (n - k) (c - k))) B K g (L.drop k) e ∧ Keep B K w (w.setCell ⟨g, 0, none⟩ (.slice (cutAt A c k) (n - k) (c - k))) := by
  have hk' : Keep B K w (w.setCell ⟨g, 0, none⟩ (.slice (cutAt A c k) (n - k) (c - k))) := (Keep.refl w).setCell h6 h7 _
  exact ⟨⟨_, _, _, h1.set_ 0 _, by omega, by omega, (h4.cut hk h2).below hk'.1 (fun h => cutAt_block (h5 (by omega))), fun h => cutAt_block (h5 (by omega)), h6, h7⟩, hk'⟩
end Go.Kit
namespace Go.Proofs.Ythclgmpjmhacdaa.bfW
open Go Go.Kit Vi
/-! what is read: the thing, what is left, what is wrong -/
def rnum (L : List UInt8) (e most : Nat) : Nat × List UInt8 × Nat :=
  if e ≠ 0 then (0, L, e) else if (rd L).2.2 ≠ 0 then (0, L, (rd L).2.2) else if most < (rd L).1 then (0, L, 1) else ((rd L).1, L.drop (rd L).2.1, 0)
def rbyte (L : List UInt8) (e most : Nat) : Nat × List UInt8 × Nat :=
  if e ≠ 0 then (0, L, e) else match L with
  | [] => (0, [], 2)
  | x :: r => if most < x.toNat then (0, x :: r, 1) else (x.toNat, r, 0)
def rtext (L : List UInt8) (e : Nat) (most : Int) : List UInt8 × List UInt8 × Nat :=
  if e ≠ 0 then ([], L, e) else if (rd L).2.2 ≠ 0 then ([], L, (rd L).2.2) else if most < 0 ∨ most < ((rd L).1 : Int) then ([], L, 3) else
  if L.length < (rd L).2.1 + (rd L).1 then ([], L, 2) else ((L.drop (rd L).2.1).take (rd L).1, L.drop ((rd L).2.1 + (rd L).1), 0)
def rend (L : List UInt8) (e : Nat) : Nat := if e = 0 ∧ L ≠ [] then 4 else e
theorem rd_le {L : List UInt8} {n k : Nat} (h : rd L = (n, k, 0)) : k ≤ L.length := (rd_once h).2.2
end Go.Proofs.Ythclgmpjmhacdaa.bfW
