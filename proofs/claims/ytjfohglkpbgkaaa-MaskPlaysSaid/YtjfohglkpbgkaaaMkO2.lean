/- The steps of MaskPlays, opened. -/
import Derived.Test.YtjfohglkpbgkaaaMkP
import Derived.Test.YtjfohglkpbgkaaaRecG
namespace Go.Proofs.Ytjfohglkpbgkaaa.mkL
open Go Go.RowKit Go.Par Go.Kit Go.Proofs.Ytjfohglkpbgkaaa.Mk Go.Proofs.Ytjfohglkpbgkaaa.mkW Go.ChangeShapes Go.WideShapes Go.ChangeAt Go.Deep

structure Op where
  kind : Nat
  i : Int
def opRow (x : Op) : List Value := [.int .u8 (x.kind : Int), .int .i64 x.i]
def OpOk (x : Op) : Prop := x.kind < 256 ∧ -9223372036854775808 ≤ x.i ∧ x.i ≤ 9223372036854775807
section
variable {H : Type} {enc : TypeId × Value → H} {W : World}
theorem undOp : Try.prog.underlying 37 = some (.struct (Try.prog.fieldsOf 37)) := by kernel_rfl
theorem oneOp : oneCellFields Try.prog (Try.prog.fieldsOf 37) = true := by kernel_rfl
theorem fldOp0 : ((Try.prog.fieldsOf 37)[0]?).map (·.type) = some 5 := by kernel_rfl
theorem fldOp1 : ((Try.prog.fieldsOf 37)[1]?).map (·.type) = some 3 := by kernel_rfl
theorem cellsOp : Try.prog.cellsOf 37 = 2 := by kernel_rfl
theorem rd_Op {n : Nat} {r : List Value} (h : Rd enc Try.prog W n 37 r) : ∃ z0 z1, r = [.int .u8 z0, .int .i64 z1] ∧ (Lit.int .u8 z0).wf = true ∧ (Lit.int .i64 z1).wf = true := by
  obtain ⟨hl, m, hf⟩ := struct_cells undOp oneOp h
  rw [cellsOp] at hl
  match r, hl with
  | [u0, u1], _ =>
    obtain ⟨g0, e0, t0⟩ := Option.map_eq_some_iff.1 fldOp0
    have h0 := hf 0 g0 u0 e0 rfl
    rw [t0] at h0
    obtain ⟨z0, rfl, w0⟩ := rd_int Try.underlying5 h0
    obtain ⟨g1, e1, t1⟩ := Option.map_eq_some_iff.1 fldOp1
    have h1 := hf 1 g1 u1 e1 rfl
    rw [t1] at h1
    obtain ⟨z1, rfl, w1⟩ := rd_int Try.underlying3 h1
    exact ⟨z0, z1, rfl, w0, w1⟩
theorem open_ops {v : Value} {d : DataW H} {p : List MemPlace} {base : Nat} (hok : Value.okWide Try.prog W .any base 31 v) (h : DataW.Trod enc Try.prog W 0 (fun _ => true) true 31 v d p) :
    ∃ (A : Option Addr) (n c : Nat) (xs : List Op), v = .slice A n c ∧ n ≤ c ∧ c ≤ maxLen ∧ Recs 2 opRow W A n xs ∧ ∀ x ∈ xs, OpOk x :=
  open_recs opRow OpOk (fun _ => rfl) Try.underlying31 cellsOp (by decide) (fun m r hr => by
    obtain ⟨z0, z1, rfl, w0, w1⟩ := rd_Op hr
    have b0 := wf_u8 w0
    have b1 := wf_i64 w1
    refine ⟨⟨z0.toNat, z1⟩, ?_, ⟨by simp; omega, b1.1, b1.2⟩⟩
    simp only [opRow, List.cons.injEq, Value.int.injEq, true_and, and_true]
    omega) hok h
end
end Go.Proofs.Ytjfohglkpbgkaaa.mkL
