/- A piece of code cut in two: the first piece's ways meet again in one frame and one relation: for every program. -/
import Derived.Test.YthclgmpjmhacdaaPar
namespace Go.Par
open Go Go.RowKit

/-- where the walk halts: it does not look into it -/
def Cut (p : Prop) : Prop := p
/-- the end of the first piece: the frame with the slots of 'idx' as they are now, and the relation -/
def CutEnd (idx : List (Option Nat)) (l : List Value) (D : List Deferred) (J : (Nat → Value) → World → Prop) : Exit → Act → World → Prop :=
  fun e a w => e = .normal ∧ ∃ f, a = ⟨(merge f idx l).toArray, D⟩ ∧ J f w
theorem wp_block_cut {P : Program} {Q : Exit → Act → World → Prop} {a : Act} {w : World} {k : Nat} {c1 : Code}
    (h : Cut ((Code.block k c1).wp P Q a w)) : (Code.block k c1).wp P Q a w := h
theorem wp_cond_cut {P : Program} {Q : Exit → Act → World → Prop} {a : Act} {w : World} {k : Nat} {x y : Code}
    (h : Cut ((Code.cond (.tmp k) x y).wp P Q a w)) : (Code.cond (.tmp k) x y).wp P Q a w := h
theorem wp_region_cut {P : Program} {Q : Exit → Act → World → Prop} {a : Act} {w : World} {k : Nat} {ops : Array Oper}
    (h : Cut ((Code.region k ops false).wp P Q a w)) : (Code.region k ops false).wp P Q a w := h
theorem wp_seq_cut {P : Program} {Q : Exit → Act → World → Prop} {a : Act} {w : World} {k t : Nat} {ops : Array Oper} {x y : Code}
    (h : Cut (((Code.region k ops false).seq (.cond (.tmp t) x y)).wp P Q a w)) : ((Code.region k ops false).seq (.cond (.tmp t) x y)).wp P Q a w := h
/-- a slot that holds a word of truth; the world has not turned -/
def AtB (k : Nat) (z : Bool) (W : World) (f : Nat → Value) (w' : World) : Prop := f k = .bool z ∧ w' = W
/-- a slot that holds a number; the world has not turned -/
def AtI (k : Nat) (z : Int) (W : World) (f : Nat → Value) (w' : World) : Prop := f k = .int .i64 z ∧ w' = W
theorem wp_cut {P : Program} {Q : Exit → Act → World → Prop} {D : List Deferred} {l : List Value} {w : World} {c1 : Code} (idx : List (Option Nat)) (J : (Nat → Value) → World → Prop)
    (h1 : c1.wp P (CutEnd idx l D J) ⟨l.toArray, D⟩ w) (h2 : ∀ (f : Nat → Value) (w' : World) (A : Act), A = ⟨(merge f idx l).toArray, D⟩ → J f w' → Q .normal A w') : Cut (c1.wp P Q ⟨l.toArray, D⟩ w) :=
  wp_mono h1 fun e a w' h => by
    obtain ⟨rfl, f, e2, hJ⟩ := h
    exact h2 f w' a e2 hJ
theorem CutEnd.mk {idx : List (Option Nat)} {l l' : List Value} {D : List Deferred} {J : (Nat → Value) → World → Prop} {w : World}
    (h : merge (fun k => l'.getD k undef) idx l = l') (hJ : J (fun k => l'.getD k undef) w) : CutEnd idx l D J .normal ⟨l'.toArray, D⟩ w :=
  ⟨rfl, _, by rw [h], hJ⟩
/-- what is kept ahead of a pivot, and behind it -/
def two (P Q : World → Prop) (b : Nat) (w : World) : Prop := (b = 0 → P w) ∧ (b = 1 → Q w)
theorem two.zero {P Q : World → Prop} {w : World} (h : P w) : two P Q 0 w := ⟨fun _ => h, fun e => absurd e (by decide)⟩
theorem two.one {P Q : World → Prop} {w : World} (h : Q w) : two P Q 1 w := ⟨fun e => absurd e (by decide), fun _ => h⟩
theorem two.get0 {P Q : World → Prop} {w : World} (h : two P Q 0 w) : P w := h.1 rfl
theorem two.get1 {P Q : World → Prop} {w : World} (h : two P Q 1 w) : Q w := h.2 rfl
end Go.Par
