/- The arguments of the laws of what is written and read, opened. -/
import Derived.Test.YtfmaicjgndbffaaBufL3
import Derived.Test.YtfmaicjgndbffaaOpen3
namespace Go.Proofs.Ytfmaicjgndbffaa.bfL
open Go Go.RowKit Go.Par Go.Kit Vi Go.Proofs.Ytfmaicjgndbffaa.cl Go.Proofs.Ytfmaicjgndbffaa.bfW Go.ChangeShapes Go.WideShapes Go.ChangeAt Go.Deep

section
variable {H : Type} {enc : TypeId × Value → H} {W : World}
theorem undItem : Try.prog.underlying 43 = some (.struct (Try.prog.fieldsOf 43)) := by kernel_rfl
theorem oneItem : oneCellFields Try.prog (Try.prog.fieldsOf 43) = true := by kernel_rfl
theorem fldItem0 : ((Try.prog.fieldsOf 43)[0]?).map (·.type) = some 5 := by kernel_rfl
theorem fldItem1 : ((Try.prog.fieldsOf 43)[1]?).map (·.type) = some 22 := by kernel_rfl
theorem fldItem2 : ((Try.prog.fieldsOf 43)[2]?).map (·.type) = some 5 := by kernel_rfl
theorem fldItem3 : ((Try.prog.fieldsOf 43)[3]?).map (·.type) = some 9 := by kernel_rfl
theorem cellsItem : Try.prog.cellsOf 43 = 4 := by kernel_rfl
theorem rd_Item {n : Nat} {r : List Value} (h : Rd enc Try.prog W n 43 r) : ∃ z0 z1 z2 z3, r = [.int .u8 z0, .int .u64 z1, .int .u8 z2, .string (str z3)] ∧ (Lit.int .u8 z0).wf = true ∧ (Lit.int .u64 z1).wf = true ∧ (Lit.int .u8 z2).wf = true := by
  obtain ⟨hl, m, hf⟩ := struct_cells undItem oneItem h
  rw [cellsItem] at hl
  match r, hl with
  | [u0, u1, u2, u3], _ =>
    obtain ⟨g0, e0, t0⟩ := Option.map_eq_some_iff.1 fldItem0
    have h0 := hf 0 g0 u0 e0 rfl
    rw [t0] at h0
    obtain ⟨z0, rfl, w0⟩ := rd_int Try.underlying5 h0
    obtain ⟨g1, e1, t1⟩ := Option.map_eq_some_iff.1 fldItem1
    have h1 := hf 1 g1 u1 e1 rfl
    rw [t1] at h1
    obtain ⟨z1, rfl, w1⟩ := rd_int Try.underlying22 h1
    obtain ⟨g2, e2, t2⟩ := Option.map_eq_some_iff.1 fldItem2
    have h2 := hf 2 g2 u2 e2 rfl
    rw [t2] at h2
    obtain ⟨z2, rfl, w2⟩ := rd_int Try.underlying5 h2
    obtain ⟨g3, e3, t3⟩ := Option.map_eq_some_iff.1 fldItem3
    have h3 := hf 3 g3 u3 e3 rfl
    rw [t3] at h3
    obtain ⟨s3, rfl, _⟩ := rd_string Try.underlying9 h3
    obtain ⟨z3, rfl⟩ := str_of s3
    exact ⟨z0, z1, z2, z3, rfl, w0, w1, w2⟩
theorem open_items {v : Value} {d : DataW H} {p : List MemPlace} {base : Nat} (hok : Value.okWide Try.prog W .any base 35 v) (h : DataW.Trod enc Try.prog W 0 (fun _ => true) true 35 v d p) : ∃ A n c xs, v = .slice A n c ∧ n ≤ c ∧ c ≤ maxLen ∧ Items W A n xs :=
  open_recs itemRow ItemOk (fun _ => rfl) Try.underlying35 cellsItem (by decide) (fun m r hr => by
    obtain ⟨z0, z1, z2, z3, rfl, w0, w1, w2⟩ := rd_Item hr
    have b0 := wf_u8 w0
    have b1 := wf_u64 w1
    have b2 := wf_u8 w2
    refine ⟨⟨z0.toNat, z1.toNat, z2.toNat, z3⟩, ?_, ⟨by simp; omega, by simp; omega, by simp; omega⟩⟩
    simp only [itemRow, List.cons.injEq, Value.int.injEq, true_and, and_true]
    omega) hok h
theorem open_item {v : Value} {d : DataW H} {p : List MemPlace} {base : Nat} (hok : Value.okWide Try.prog W .any base 43 v) (h : DataW.Trod enc Try.prog W 0 (fun _ => true) true 43 v d p) :
    ∃ x : Item, v = .agg #[.int .u8 (x.k : Int), .int .u64 (x.num : Int), .int .u8 (x.b : Int), .string (str x.t)] ∧ ItemOk x := by
  obtain ⟨l, rfl, _, n, hr⟩ := open_struct undItem hok h
  obtain ⟨z0, z1, z2, z3, rfl, w0, w1, w2⟩ := rd_Item hr
  have b0 := wf_u8 w0
  have b1 := wf_u64 w1
  have b2 := wf_u8 w2
  refine ⟨⟨z0.toNat, z1.toNat, z2.toNat, z3⟩, ?_, ⟨by simp; omega, by simp; omega, by simp; omega⟩⟩
  congr 2
  simp only [List.cons.injEq, Value.int.injEq, true_and, and_true]
  omega
theorem open_nums {v : Value} {d : DataW H} {p : List MemPlace} {base : Nat} (hok : Value.okWide Try.prog W .any base 36 v) (h : DataW.Trod enc Try.prog W 0 (fun _ => true) true 36 v d p) :
    ∃ (A : Option Addr) (n c : Nat) (ns : List Nat), v = .slice A n c ∧ n ≤ c ∧ c ≤ maxLen ∧ Row W A n (ns.map u64v) ∧ ∀ x ∈ ns, x < 18446744073709551616 := by
  obtain ⟨A, n, c, zs, rfl, h1, h2, h3, h4⟩ := open_introw Try.underlying36 Try.underlying22 (by kernel_rfl) hok h
  refine ⟨A, n, c, zs.map Int.toNat, rfl, h1, h2, ?_, fun x hx => ?_⟩
  · rw [ints_nat zs (fun z hz => (wf_u64 (h4 z hz)).1)] at h3
    exact h3
  · obtain ⟨z, hz, rfl⟩ := List.mem_map.1 hx
    have := wf_u64 (h4 z hz)
    omega
end
end Go.Proofs.Ytfmaicjgndbffaa.bfL
