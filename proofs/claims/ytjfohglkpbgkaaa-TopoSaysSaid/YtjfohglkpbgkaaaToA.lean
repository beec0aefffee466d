/- Arguments of the statements on order, opened. -/
import Derived.Test.YtjfohglkpbgkaaaReA
import Derived.Test.YtjfohglkpbgkaaaOpenI
import Derived.Test.YtjfohglkpbgkaaaToW
namespace Go.Proofs.Ytjfohglkpbgkaaa.toL
open Go Go.RowKit Go.Par Go.Kit Go.Proofs.Ytjfohglkpbgkaaa.reW Go.ChangeShapes Go.WideShapes Go.ChangeAt Go.Deep
section
variable {H : Type} {enc : TypeId × Value → H} {W : World}
theorem open_ints {v : Value} {d : DataW H} {p : List MemPlace} {base : Nat} (hok : Value.okWide Try.prog W .any base 22 v) (h : DataW.Trod enc Try.prog W 0 (fun _ => true) true 22 v d p) :
    ∃ (A : Option Addr) (n c : Nat) (zs : List Int), v = .slice A n c ∧ n ≤ c ∧ c ≤ maxLen ∧ Row W A n (zs.map (Value.int .i64)) ∧ ∀ z ∈ zs, i64ok z := by
  obtain ⟨A, n, c, zs, h1, h2, h3, h4, h5⟩ := open_introw Try.underlying22 Try.underlying3 (by kernel_rfl) hok h
  exact ⟨A, n, c, zs, h1, h2, h3, h4, fun z hz => wf_i64 (h5 z hz)⟩
end
end Go.Proofs.Ytjfohglkpbgkaaa.toL
