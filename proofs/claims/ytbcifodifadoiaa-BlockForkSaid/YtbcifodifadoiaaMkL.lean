/- The statements of sets: works, of, MaskUnites. -/
import Derived.Test.YtbcifodifadoiaaMkW6
namespace Go.Proofs.Ytbcifodifadoiaa.mkL
open Go Go.RowKit Go.Par Go.Kit Go.Proofs.Ytbcifodifadoiaa.Mk Go.Proofs.Ytbcifodifadoiaa.mkW

theorem w_elems : elems 70 (putS 70 (putS 70 (fun _ => false) 64) 3) = [3, 64] := by decide +kernel
theorem w_next : nextN 70 (putS 70 (putS 70 (fun _ => false) 64) 3) 4 = 64 := by decide +kernel
theorem free_of {B g : Nat} {h : Option Nat} {K : Nat → Prop} (h1 : B ≤ g) (h2 : ¬ K g) (h3 : ∀ k, h = some k → B ≤ k ∧ ¬ K k) : Free B K g h := ⟨⟨h1, h2⟩, h3⟩

/-- the numbers of a list -/
def ofS (N : Nat) (L : List Int) : Nat → Bool := L.foldl (fun S z => putS N S z) (fun _ => false)
theorem ofS_snoc (N : Nat) (L : List Int) (k : Nat) (z : Int) (h : L[k]? = some z) : ofS N (L.take (k + 1)) = putS N (ofS N (L.take k)) z := by
  unfold ofS; rw [List.take_add_one, h]; simp
end Go.Proofs.Ytbcifodifadoiaa.mkL
