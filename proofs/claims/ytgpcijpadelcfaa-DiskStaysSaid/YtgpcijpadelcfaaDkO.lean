/- The arguments of the disk's laws, opened. -/
import Derived.Test.YtgpcijpadelcfaaDkL
namespace Go.Proofs.Ytgpcijpadelcfaa.dkL
open Go Go.RowKit Go.Par Go.Kit Go.Proofs.Ytgpcijpadelcfaa.cl Go.Proofs.Ytgpcijpadelcfaa.dkW Go.ChangeShapes Go.WideShapes Go.ChangeAt Go.Deep

section
variable {H : Type} {enc : TypeId × Value → H} {W : World}
theorem undA : Try.prog.underlying 67 = some (.struct (Try.prog.fieldsOf 67)) := by kernel_rfl
theorem oneA : oneCellFields Try.prog (Try.prog.fieldsOf 67) = true := by kernel_rfl
theorem f0A : ((Try.prog.fieldsOf 67)[0]?).map (·.type) = some 5 := by kernel_rfl
theorem f1A : ((Try.prog.fieldsOf 67)[1]?).map (·.type) = some 3 := by kernel_rfl
theorem f2A : ((Try.prog.fieldsOf 67)[2]?).map (·.type) = some 65 := by kernel_rfl
theorem c3A : Try.prog.cellsOf 67 = 3 := by kernel_rfl
theorem c1u : Try.prog.cellsOf 5 = 1 := by kernel_rfl
theorem rd_act {n : Nat} {r : List Value} (h : Rd enc Try.prog W n 67 r) : ∃ a : Act, ActOk W r a := by
  obtain ⟨hl, m, hf⟩ := struct_cells undA oneA h
  rw [c3A] at hl
  match r, hl with
  | [u0, u1, u2], _ =>
    obtain ⟨g0, e0, t0⟩ := Option.map_eq_some_iff.1 f0A
    obtain ⟨g1, e1, t1⟩ := Option.map_eq_some_iff.1 f1A
    obtain ⟨g2, e2, t2⟩ := Option.map_eq_some_iff.1 f2A
    have h0 := hf 0 g0 u0 e0 rfl
    have h1 := hf 1 g1 u1 e1 rfl
    have h2 := hf 2 g2 u2 e2 rfl
    rw [t0] at h0
    rw [t1] at h1
    rw [t2] at h2
    obtain ⟨a, rfl, wa⟩ := rd_int Try.underlying5 h0
    obtain ⟨b, rfl, wb⟩ := rd_int Try.underlying3 h1
    obtain ⟨l, hl⟩ := rd_bytes Try.underlying65 Try.underlying5 c1u h2
    have ba := wf_u8 wa
    have bb := wf_i64 wb
    refine ⟨⟨a.toNat, b, l⟩, ⟨u2, ?_, hl⟩, by simp; omega, bb.1, bb.2⟩
    simp only [actRow, List.cons.injEq, Value.int.injEq, true_and, and_true]
    omega
theorem open_acts {v : Value} {d : DataW H} {p : List MemPlace} {base : Nat} (hok : Value.okWide Try.prog W .any base 59 v) (h : DataW.Trod enc Try.prog W 0 (fun _ => true) true 59 v d p) : ∃ A n c ac, v = .slice A n c ∧ n ≤ c ∧ c ≤ maxLen ∧ Acts W A n ac := by
  obtain ⟨A, n, c, rows, rfl, h1, h2, h3, h4, h5⟩ := open_rows Try.underlying59 c3A (by decide) hok h
  have key : ∀ rows : List (List Value), (∀ r ∈ rows, ∃ a, ActOk W r a) → ∃ ac : List Act, ac.length = rows.length ∧ ∀ (j : Nat) (r : List Value) (a : Act), rows[j]? = some r → ac[j]? = some a → ActOk W r a := by
    intro rows
    induction rows with
    | nil => intro _; exact ⟨[], rfl, fun j r a h => by simp at h⟩
    | cons r rows ih =>
      intro h
      obtain ⟨a, ha⟩ := h r List.mem_cons_self
      obtain ⟨ac, hl, hk⟩ := ih fun q hq => h q (List.mem_cons_of_mem _ hq)
      refine ⟨a :: ac, by simp [hl], fun j r' a' hr ha' => ?_⟩
      cases j with
      | zero =>
        simp only [List.getElem?_cons_zero, Option.some.injEq] at hr ha'
        subst hr; subst ha'
        exact ha
      | succ j => exact hk j r' a' (by simpa using hr) (by simpa using ha')
  obtain ⟨ac, hl, hk⟩ := key rows fun r hr => (by
    obtain ⟨_, m, hm⟩ := h5 r hr
    exact rd_act hm)
  exact ⟨A, n, c, ac, rfl, h1, h2, by omega, rows, h4, h3, hk⟩
end
end Go.Proofs.Ytgpcijpadelcfaa.dkL
