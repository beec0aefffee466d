/- The arguments of the laws of sets, opened. -/
import Derived.Test.YtjfohglkpbgkaaaMkL2
import Derived.Test.YtjfohglkpbgkaaaOpenI
namespace Go.Proofs.Ytjfohglkpbgkaaa.mkL
open Go Go.RowKit Go.Par Go.Kit Go.Proofs.Ytjfohglkpbgkaaa.Mk Go.Proofs.Ytjfohglkpbgkaaa.mkW Go.ChangeShapes Go.WideShapes Go.ChangeAt Go.Deep
section
variable {H : Type} {enc : TypeId × Value → H} {W : World}
theorem open_three {v : Value} {d : DataW H} {p : List MemPlace} {base : Nat} (hok : Value.okWide Try.prog W .any base 23 v) (h : DataW.Trod enc Try.prog W 0 (fun _ => true) true 23 v d p) :
    ∃ u0 u1 u2 z0 z1 z2, v = .agg #[u0, u1, u2] ∧ IntSl W u0 z0 ∧ IntSl W u1 z1 ∧ IntSl W u2 z2 := by
  obtain ⟨us, rfl, hl, hr⟩ := open_array Try.underlying23 (by kernel_rfl) (by kernel_rfl) hok h
  have key : ∀ u ∈ us, ∃ zs, IntSl W u zs := fun u hu => by
    obtain ⟨m, hm⟩ := hr u hu
    obtain ⟨zs, A, n, c, e, h1, h2, h3, _⟩ := rd_ints Try.underlying22 Try.underlying3 (by kernel_rfl) hm
    exact ⟨zs, A, n, c, e, Nat.le_trans h1 h2, h3⟩
  match us, hl with
  | [u0, u1, u2], _ =>
    obtain ⟨z0, h0⟩ := key u0 (by simp)
    obtain ⟨z1, h1⟩ := key u1 (by simp)
    obtain ⟨z2, h2⟩ := key u2 (by simp)
    exact ⟨u0, u1, u2, z0, z1, z2, rfl, h0, h1, h2⟩
end
end Go.Proofs.Ytjfohglkpbgkaaa.mkL
