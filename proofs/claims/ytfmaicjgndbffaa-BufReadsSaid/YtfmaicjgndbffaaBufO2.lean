/- The arguments of BufReads, opened. -/
import Derived.Test.YtfmaicjgndbffaaBufL4
namespace Go.Proofs.Ytfmaicjgndbffaa.bfL
open Go Go.RowKit Go.Par Go.Kit Vi Go.Proofs.Ytfmaicjgndbffaa.cl Go.Proofs.Ytfmaicjgndbffaa.bfW Go.ChangeShapes Go.WideShapes Go.ChangeAt Go.Deep

section
variable {H : Type} {enc : TypeId × Value → H} {W : World}
theorem undAsk : Try.prog.underlying 56 = some (.struct (Try.prog.fieldsOf 56)) := by kernel_rfl
theorem oneAsk : oneCellFields Try.prog (Try.prog.fieldsOf 56) = true := by kernel_rfl
theorem fldAsk0 : ((Try.prog.fieldsOf 56)[0]?).map (·.type) = some 5 := by kernel_rfl
theorem fldAsk1 : ((Try.prog.fieldsOf 56)[1]?).map (·.type) = some 22 := by kernel_rfl
theorem fldAsk2 : ((Try.prog.fieldsOf 56)[2]?).map (·.type) = some 3 := by kernel_rfl
theorem cellsAsk : Try.prog.cellsOf 56 = 3 := by kernel_rfl
theorem rd_Ask {n : Nat} {r : List Value} (h : Rd enc Try.prog W n 56 r) : ∃ z0 z1 z2, r = [.int .u8 z0, .int .u64 z1, .int .i64 z2] ∧ (Lit.int .u8 z0).wf = true ∧ (Lit.int .u64 z1).wf = true ∧ (Lit.int .i64 z2).wf = true := by
  obtain ⟨hl, m, hf⟩ := struct_cells undAsk oneAsk h
  rw [cellsAsk] at hl
  match r, hl with
  | [u0, u1, u2], _ =>
    obtain ⟨g0, e0, t0⟩ := Option.map_eq_some_iff.1 fldAsk0
    have h0 := hf 0 g0 u0 e0 rfl
    rw [t0] at h0
    obtain ⟨z0, rfl, w0⟩ := rd_int Try.underlying5 h0
    obtain ⟨g1, e1, t1⟩ := Option.map_eq_some_iff.1 fldAsk1
    have h1 := hf 1 g1 u1 e1 rfl
    rw [t1] at h1
    obtain ⟨z1, rfl, w1⟩ := rd_int Try.underlying22 h1
    obtain ⟨g2, e2, t2⟩ := Option.map_eq_some_iff.1 fldAsk2
    have h2 := hf 2 g2 u2 e2 rfl
    rw [t2] at h2
    obtain ⟨z2, rfl, w2⟩ := rd_int Try.underlying3 h2
    exact ⟨z0, z1, z2, rfl, w0, w1, w2⟩
theorem open_asks {v : Value} {d : DataW H} {p : List MemPlace} {base : Nat} (hok : Value.okWide Try.prog W .any base 49 v) (h : DataW.Trod enc Try.prog W 0 (fun _ => true) true 49 v d p) : ∃ A n c xs, v = .slice A n c ∧ n ≤ c ∧ c ≤ maxLen ∧ Asks W A n xs :=
  open_recs askRow AskOk (fun _ => rfl) Try.underlying49 cellsAsk (by decide) (fun m r hr => by
    obtain ⟨z0, z1, z2, rfl, w0, w1, w2⟩ := rd_Ask hr
    have b0 := wf_u8 w0
    have b1 := wf_u64 w1
    have b2 := wf_i64 w2
    refine ⟨⟨z0.toNat, z1.toNat, z2⟩, ?_, ⟨by simp; omega, by simp; omega, b2.1, b2.2⟩⟩
    simp only [askRow, List.cons.injEq, Value.int.injEq, true_and, and_true]
    omega) hok h
end
end Go.Proofs.Ytfmaicjgndbffaa.bfL
