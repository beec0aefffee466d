/- Steps as arguments, opened. -/
import Derived.Test.YtjfohglkpbgkaaaReL
import Derived.Test.YtjfohglkpbgkaaaOpen
namespace Go.Proofs.Ytjfohglkpbgkaaa.reL
open Go Go.RowKit Go.Par Go.Kit Go.Proofs.Ytjfohglkpbgkaaa.reW Go.ChangeShapes Go.WideShapes Go.ChangeAt Go.Deep
section
variable {H : Type} {enc : TypeId × Value → H} {W : World}
theorem cells2 : Try.prog.cellsOf T2 = 2 := by kernel_rfl
theorem cells1 : Try.prog.cellsOf 3 = 1 := by kernel_rfl
theorem rd_pair {n : Nat} {r : List Value} (h : Rd enc Try.prog W n T2 r) : ∃ x : Int × Int, r = prow x ∧ PairOk x := by
  obtain ⟨x, hx⟩ := h
  obtain ⟨xs, m, _, _, hcl, hxl, hg⟩ := DataW.trod_array und2 hx
  rw [cells2] at hcl
  rw [cells1] at hg
  match r, hcl with
  | [u0, u1], _ =>
    have g0 := hg 0 (by decide)
    have g1 := hg 1 (by decide)
    rw [List.getElem?_eq_getElem (by omega)] at g0 g1
    obtain ⟨z0, rfl, w0⟩ := rd_int (u := u0) Try.underlying3 ⟨_, g0⟩
    obtain ⟨z1, rfl, w1⟩ := rd_int (u := u1) Try.underlying3 ⟨_, g1⟩
    exact ⟨(z0, z1), rfl, wf_i64 w0, wf_i64 w1⟩
theorem open_pairs {v : Value} {d : DataW H} {p : List MemPlace} {base : Nat} (hok : Value.okWide Try.prog W .any base 54 v) (h : DataW.Trod enc Try.prog W 0 (fun _ => true) true 54 v d p) :
    ∃ (A : Option Addr) (n c : Nat) (xs : List (Int × Int)), v = .slice A n c ∧ n ≤ c ∧ c ≤ maxLen ∧ Recs 2 prow W A n xs ∧ ∀ x ∈ xs, PairOk x :=
  open_recs prow PairOk (fun _ => rfl) Try.underlying54 cells2 (by decide) (fun _ _ hr => rd_pair hr) hok h
theorem open_pair {v : Value} {d : DataW H} {p : List MemPlace} {base : Nat} (hok : Value.okWide Try.prog W .any base T2 v) (h : DataW.Trod enc Try.prog W 0 (fun _ => true) true T2 v d p) :
    ∃ z0 z1 : Int, v = .agg #[.int .i64 z0, .int .i64 z1] ∧ i64ok z0 ∧ i64ok z1 := by
  obtain ⟨zs, rfl, hl, hw⟩ := open_arr und2 Try.underlying3 cells1 cells2 hok h
  match zs, hl with
  | [z0, z1], _ => exact ⟨z0, z1, rfl, wf_i64 (hw z0 (by simp)), wf_i64 (hw z1 (by simp))⟩
abbrev T38 : TypeId := 65
theorem und38 : Try.prog.underlying T38 = some (.array 3 5) := by kernel_rfl
theorem cells38 : Try.prog.cellsOf T38 = 3 := by kernel_rfl
theorem cells8 : Try.prog.cellsOf 5 = 1 := by kernel_rfl
theorem open_three8 {v : Value} {d : DataW H} {p : List MemPlace} {base : Nat} (hok : Value.okWide Try.prog W .any base T38 v) (h : DataW.Trod enc Try.prog W 0 (fun _ => true) true T38 v d p) :
    ∃ z0 z1 z2 : Int, v = .agg #[.int .u8 z0, .int .u8 z1, .int .u8 z2] ∧ (0 ≤ z0 ∧ z0 ≤ 255) ∧ (0 ≤ z1 ∧ z1 ≤ 255) ∧ (0 ≤ z2 ∧ z2 ≤ 255) := by
  obtain ⟨zs, rfl, hl, hw⟩ := open_arr und38 Try.underlying5 cells8 cells38 hok h
  match zs, hl with
  | [z0, z1, z2], _ => exact ⟨z0, z1, z2, rfl, wf_u8 (hw z0 (by simp)), wf_u8 (hw z1 (by simp)), wf_u8 (hw z2 (by simp))⟩
end
end Go.Proofs.Ytjfohglkpbgkaaa.reL
