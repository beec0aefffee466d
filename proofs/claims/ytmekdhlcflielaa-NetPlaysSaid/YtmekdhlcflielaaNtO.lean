/- The law's acts, out of an argument. -/
import Derived.Test.YtmekdhlcflielaaNtA
namespace Go.Proofs.Ytmekdhlcflielaa.ntL
open Go Go.RowKit Go.Par Go.Kit Go.Proofs.Ytmekdhlcflielaa.cl Go.Proofs.Ytmekdhlcflielaa.nt Go.ChangeShapes Go.WideShapes Go.ChangeAt Go.Deep

section
variable {H : Type} {enc : TypeId × Value → H} {W : World}
theorem undA : Try.prog.underlying 46 = some (.struct (Try.prog.fieldsOf 46)) := by kernel_rfl
theorem oneA : oneCellFields Try.prog (Try.prog.fieldsOf 46) = true := by kernel_rfl
theorem f0A : ((Try.prog.fieldsOf 46)[0]?).map (·.type) = some 5 := by kernel_rfl
theorem f1A : ((Try.prog.fieldsOf 46)[1]?).map (·.type) = some 5 := by kernel_rfl
theorem f2A : ((Try.prog.fieldsOf 46)[2]?).map (·.type) = some 5 := by kernel_rfl
theorem f3A : ((Try.prog.fieldsOf 46)[3]?).map (·.type) = some 3 := by kernel_rfl
theorem f4A : ((Try.prog.fieldsOf 46)[4]?).map (·.type) = some 3 := by kernel_rfl
theorem f5A : ((Try.prog.fieldsOf 46)[5]?).map (·.type) = some 44 := by kernel_rfl
theorem f6A : ((Try.prog.fieldsOf 46)[6]?).map (·.type) = some 26 := by kernel_rfl
theorem c7A : Try.prog.cellsOf 46 = 7 := by kernel_rfl
theorem c1u : Try.prog.cellsOf 5 = 1 := by kernel_rfl
theorem rd_act {n : Nat} {r : List Value} (h : Rd enc Try.prog W n 46 r) : ∃ x : Act, ActOk W r x := by
  obtain ⟨hl, m, hf⟩ := struct_cells undA oneA h
  rw [c7A] at hl
  match r, hl with
  | [u0, u1, u2, u3, u4, u5, u6], _ =>
    obtain ⟨g0, e0, t0⟩ := Option.map_eq_some_iff.1 f0A
    obtain ⟨g1, e1, t1⟩ := Option.map_eq_some_iff.1 f1A
    obtain ⟨g2, e2, t2⟩ := Option.map_eq_some_iff.1 f2A
    obtain ⟨g3, e3, t3⟩ := Option.map_eq_some_iff.1 f3A
    obtain ⟨g4, e4, t4⟩ := Option.map_eq_some_iff.1 f4A
    obtain ⟨g5, e5, t5⟩ := Option.map_eq_some_iff.1 f5A
    obtain ⟨g6, e6, t6⟩ := Option.map_eq_some_iff.1 f6A
    have h0 := hf 0 g0 u0 e0 rfl
    have h1 := hf 1 g1 u1 e1 rfl
    have h2 := hf 2 g2 u2 e2 rfl
    have h3 := hf 3 g3 u3 e3 rfl
    have h4 := hf 4 g4 u4 e4 rfl
    have h5 := hf 5 g5 u5 e5 rfl
    have h6 := hf 6 g6 u6 e6 rfl
    rw [t0] at h0
    rw [t1] at h1
    rw [t2] at h2
    rw [t3] at h3
    rw [t4] at h4
    rw [t5] at h5
    rw [t6] at h6
    obtain ⟨z0, rfl, w0⟩ := rd_int Try.underlying5 h0
    obtain ⟨z1, rfl, w1⟩ := rd_int Try.underlying5 h1
    obtain ⟨z2, rfl, w2⟩ := rd_int Try.underlying5 h2
    obtain ⟨z3, rfl, w3⟩ := rd_int Try.underlying3 h3
    obtain ⟨z4, rfl, w4⟩ := rd_int Try.underlying3 h4
    obtain ⟨z5, rfl, w5⟩ := rd_int Try.underlying44 h5
    obtain ⟨l, hl⟩ := rd_bytes Try.underlying26 Try.underlying5 c1u h6
    obtain ⟨m5, rfl⟩ := u32_bv w5
    have q0 := wf_u8 w0
    have q1 := wf_u8 w1
    have q2 := wf_u8 w2
    have q3 := wf_i64 w3
    have q4 := wf_i64 w4
    refine ⟨⟨z0.toNat, z1.toNat, z2.toNat, z3, z4, m5, l⟩, ⟨u6, ?_, hl⟩, ⟨by simp; omega, by simp; omega, by simp; omega, q3.1, q3.2, q4.1, q4.2⟩⟩
    simp only [actRow, List.cons.injEq, Value.int.injEq, true_and, and_true]
    omega
theorem open_acts {v : Value} {d : DataW H} {p : List MemPlace} {base : Nat} (hok : Value.okWide Try.prog W .any base 35 v) (h : DataW.Trod enc Try.prog W 0 (fun _ => true) true 35 v d p) : ∃ A n c ac, v = .slice A n c ∧ n ≤ c ∧ c ≤ maxLen ∧ Acts W A n ac := by
  obtain ⟨A, n, c, rows, rfl, h1, h2, h3, h4, h5⟩ := open_rows Try.underlying35 c7A (by decide) hok h
  have key : ∀ rows : List (List Value), (∀ r ∈ rows, ∃ a, ActOk W r a) → ∃ ac : List Act, ac.length = rows.length ∧ ∀ (j : Nat) (r : List Value) (a : Act), rows[j]? = some r → ac[j]? = some a → ActOk W r a := by
    intro rows
    induction rows with
    | nil => intro _; exact ⟨[], rfl, fun j r a h => by simp at h⟩
    | cons r rows ih =>
      intro h
      obtain ⟨a, ha⟩ := h r List.mem_cons_self
      obtain ⟨ac, hl, hk⟩ := ih fun q hq => h q (List.mem_cons_of_mem _ hq)
      refine ⟨a :: ac, by simp [hl], fun j r' a' hr ha' => ?_⟩
      cases j with
      | zero =>
        simp only [List.getElem?_cons_zero, Option.some.injEq] at hr ha'
        subst hr; subst ha'
        exact ha
      | succ j => exact hk j r' a' (by simpa using hr) (by simpa using ha')
  obtain ⟨ac, hl, hk⟩ := key rows fun r hr => (by
    obtain ⟨_, m, hm⟩ := h5 r hr
    exact rd_act hm)
  exact ⟨A, n, c, ac, rfl, h1, h2, by omega, rows, h4, h3, hk⟩
end
end Go.Proofs.Ytmekdhlcflielaa.ntL
