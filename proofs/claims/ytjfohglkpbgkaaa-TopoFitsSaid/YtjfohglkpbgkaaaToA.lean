/- Arguments of the statements on order, opened. -/
import Derived.Test.YtjfohglkpbgkaaaReA
import Derived.Test.YtjfohglkpbgkaaaOpenI
import Derived.Test.YtjfohglkpbgkaaaToW
namespace Go.Proofs.Ytjfohglkpbgkaaa.toL
open Go Go.RowKit Go.Par Go.Kit Go.Proofs.Ytjfohglkpbgkaaa.reW Go.ChangeShapes Go.WideShapes Go.ChangeAt Go.Deep
section
variable {H : Type} {enc : TypeId × Value → H} {W : World}
theorem open_ints {v : Value} {d : DataW H} {p : List MemPlace} {base : Nat} (hok : Value.okWide Try.prog W .any base 22 v) (h : DataW.Trod enc Try.prog W 0 (fun _ => true) true 22 v d p) :
    ∃ (A : Option Addr) (n c : Nat) (zs : List Int), v = .slice A n c ∧ n ≤ c ∧ c ≤ maxLen ∧ Row W A n (zs.map (Value.int .i64)) ∧ ∀ z ∈ zs, i64ok z := by
  obtain ⟨A, n, c, zs, h1, h2, h3, h4, h5⟩ := open_introw Try.underlying22 Try.underlying3 (by kernel_rfl) hok h
  exact ⟨A, n, c, zs, h1, h2, h3, h4, fun z hz => wf_i64 (h5 z hz)⟩
def brow1 (b : Bool) : List Value := [.bool b]
theorem open_bools {v : Value} {d : DataW H} {p : List MemPlace} {base : Nat} (hok : Value.okWide Try.prog W .any base 77 v) (h : DataW.Trod enc Try.prog W 0 (fun _ => true) true 77 v d p) :
    ∃ (A : Option Addr) (n c : Nat) (xs : List Bool), v = .slice A n c ∧ n ≤ c ∧ c ≤ maxLen ∧ Recs 1 brow1 W A n xs := by
  have cb : Try.prog.cellsOf 4 = 1 := by kernel_rfl
  obtain ⟨A, n, c, rows, rfl, h1, h2, h3, h4, h5⟩ := open_rows Try.underlying77 cb (by decide) hok h
  obtain ⟨xs, rfl, -⟩ := rows_of brow1 (fun _ => True) rows fun r hr => (by
    obtain ⟨hl, m, hm⟩ := h5 r hr
    match r, hl with
    | [u], _ =>
      obtain ⟨b, rfl⟩ := rd_bool Try.underlying4 hm
      exact ⟨b, rfl, trivial⟩)
  exact ⟨A, n, c, xs, rfl, h1, h2, by simpa using h3, fun _ => rfl, h4⟩
end
end Go.Proofs.Ytjfohglkpbgkaaa.toL
