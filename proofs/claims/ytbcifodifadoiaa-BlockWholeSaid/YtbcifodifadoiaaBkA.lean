/- Arguments of the statements on blocks, opened. -/
import Derived.Test.YtbcifodifadoiaaBkC
import Derived.Test.YtbcifodifadoiaaOpen
import Derived.Test.YtbcifodifadoiaaOpenI
import Derived.Test.YtbcifodifadoiaaRecG
namespace Go.Proofs.Ytbcifodifadoiaa.bk
open Go Go.RowKit Go.Par Go.Kit Go.Proofs.Ytbcifodifadoiaa.reW Go.ChangeShapes Go.WideShapes Go.ChangeAt Go.Deep
section
variable {H : Type} {enc : TypeId × Value → H} {W : World}
theorem cells2 : Try.prog.cellsOf T2 = 2 := by kernel_rfl
theorem cells1 : Try.prog.cellsOf 3 = 1 := by kernel_rfl
theorem rd_pair {n : Nat} {r : List Value} (h : Rd enc Try.prog W n T2 r) : ∃ x : Int × Int, r = prow x ∧ PairOk x := by
  obtain ⟨x, hx⟩ := h
  obtain ⟨xs, m, _, _, hcl, hxl, hg⟩ := DataW.trod_array und2 hx
  rw [cells2] at hcl
  rw [cells1] at hg
  match r, hcl with
  | [u0, u1], _ =>
    have g0 := hg 0 (by decide)
    have g1 := hg 1 (by decide)
    rw [List.getElem?_eq_getElem (by omega)] at g0 g1
    obtain ⟨z0, rfl, w0⟩ := rd_int (u := u0) Try.underlying3 ⟨_, g0⟩
    obtain ⟨z1, rfl, w1⟩ := rd_int (u := u1) Try.underlying3 ⟨_, g1⟩
    exact ⟨(z0, z1), rfl, wf_i64 w0, wf_i64 w1⟩
set_option maxRecDepth 100000 in
theorem open_pairs {v : Value} {d : DataW H} {p : List MemPlace} {base : Nat} (hok : Value.okWide Try.prog W .any base 22 v) (h : DataW.Trod enc Try.prog W 0 (fun _ => true) true 22 v d p) :
    ∃ (A : Option Addr) (n c : Nat) (xs : List (Int × Int)), v = .slice A n c ∧ n ≤ c ∧ c ≤ maxLen ∧ Recs 2 prow W A n xs ∧ ∀ x ∈ xs, PairOk x :=
  open_recs prow PairOk (fun _ => rfl) Try.underlying22 cells2 (by decide) (fun _ _ hr => rd_pair hr) hok h
theorem cellsI : Try.prog.cellsOf 3 = 1 := by kernel_rfl
set_option maxRecDepth 100000 in
theorem open_ints {v : Value} {d : DataW H} {p : List MemPlace} {base : Nat} (hok : Value.okWide Try.prog W .any base 23 v) (h : DataW.Trod enc Try.prog W 0 (fun _ => true) true 23 v d p) :
    ∃ (A : Option Addr) (n c : Nat) (zs : List Int), v = .slice A n c ∧ Nums W A n c zs := by
  obtain ⟨A, n, c, zs, h1, h2, h3, h4, h5⟩ := open_introw Try.underlying23 Try.underlying3 (by kernel_rfl) hok h
  exact ⟨A, n, c, zs, h1, h4, h2, h3, fun z hz => wf_i64 (h5 z hz)⟩
def brow9 (b : Bool) : List Value := [.bool b]
theorem brow9_flat : ∀ xs : List Bool, (xs.map brow9).flatten = bools xs
  | [] => rfl
  | x :: xs => by rw [List.map_cons, List.flatten_cons, brow9_flat xs]; rfl
set_option maxRecDepth 100000 in
theorem open_bools {v : Value} {d : DataW H} {p : List MemPlace} {base : Nat} (hok : Value.okWide Try.prog W .any base 47 v) (h : DataW.Trod enc Try.prog W 0 (fun _ => true) true 47 v d p) :
    ∃ (A : Option Addr) (n c : Nat) (xs : List Bool), v = .slice A n c ∧ n ≤ c ∧ c ≤ maxLen ∧ Bools W A n xs := by
  have cb : Try.prog.cellsOf 4 = 1 := by kernel_rfl
  obtain ⟨A, n, c, rows, rfl, h1, h2, h3, h4, h5⟩ := open_rows Try.underlying47 cb (by decide) hok h
  obtain ⟨xs, rfl, -⟩ := rows_of brow9 (fun _ => True) rows fun r hr => (by
    obtain ⟨hl, m, hm⟩ := h5 r hr
    match r, hl with
    | [u], _ =>
      obtain ⟨b, rfl⟩ := rd_bool Try.underlying4 hm
      exact ⟨b, rfl, trivial⟩)
  refine ⟨A, n, c, xs, rfl, h1, h2, ?_⟩
  rw [brow9_flat, Nat.mul_one] at h4
  exact h4
end
end Go.Proofs.Ytbcifodifadoiaa.bk
