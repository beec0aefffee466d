/- The arguments of the hints' laws, opened. -/
import Derived.Test.YtgpcijpadelcfaaBlmL2
import Derived.Test.YtgpcijpadelcfaaOpen2
namespace Go.Proofs.Ytgpcijpadelcfaa.blmL
open Go Go.RowKit Go.Par Go.Kit Go.Proofs.Ytgpcijpadelcfaa.btW Go.Proofs.Ytgpcijpadelcfaa.blmW Go.ChangeShapes Go.WideShapes Go.ChangeAt Go.Deep

section
variable {H : Type} {enc : TypeId × Value → H} {W : World}
theorem words_of : ∀ (zs : List Int), (∀ z ∈ zs, (Lit.int .u64 z).wf = true) → ∃ ws : List (BitVec 64), ints .u64 zs = u64s ws ∧ ws.length = zs.length
  | [], _ => ⟨[], rfl, rfl⟩
  | z :: zs, h => by
    obtain ⟨s, hs⟩ := u64_bv (h z List.mem_cons_self)
    obtain ⟨ws, h1, h2⟩ := words_of zs fun q hq => h q (List.mem_cons_of_mem _ hq)
    refine ⟨s :: ws, ?_, by simp [h2]⟩
    simp only [ints, u64s, List.map_cons, u64v] at h1 ⊢
    rw [h1, hs]
theorem open_bloom {v : Value} {d : DataW H} {p : List MemPlace} {base : Nat} (hok : Value.okWide Try.prog W .any base 47 v) (h : DataW.Trod enc Try.prog W 0 (fun _ => true) true 47 v d p) : ∃ ws, v = bv ws ∧ ws.length = 4 := by
  obtain ⟨zs, rfl, hl, hw⟩ := open_arr undB undU (by kernel_rfl) (by kernel_rfl) hok h
  obtain ⟨ws, h1, h2⟩ := words_of zs hw
  exact ⟨ws, by rw [h1], by omega⟩
theorem undP : Try.prog.underlying 49 = some (.struct ((Try.prog.fieldsOf 49))) := by kernel_rfl
theorem oneP : oneCellFields Try.prog (Try.prog.fieldsOf 49) = true := by kernel_rfl
theorem f0P : ((Try.prog.fieldsOf 49)[0]?).map (·.type) = some 5 := by kernel_rfl
theorem f1P : ((Try.prog.fieldsOf 49)[1]?).map (·.type) = some 42 := by kernel_rfl
theorem c2P : Try.prog.cellsOf 49 = 2 := by kernel_rfl
theorem rd_pid {n : Nat} {r : List Value} (h : Rd enc Try.prog W n 49 r) : ∃ p : Nat × Nat, r = [.int .u8 (p.1 : Int), .int .u16 (p.2 : Int)] ∧ p.1 < 256 ∧ p.2 < 65536 := by
  obtain ⟨hl, m, hf⟩ := struct_cells undP oneP h
  rw [c2P] at hl
  match r, hl with
  | [u0, u1], _ =>
    obtain ⟨g0, e0, t0⟩ := Option.map_eq_some_iff.1 f0P
    obtain ⟨g1, e1, t1⟩ := Option.map_eq_some_iff.1 f1P
    have h0 := hf 0 g0 u0 e0 rfl
    have h1 := hf 1 g1 u1 e1 rfl
    rw [t0] at h0
    rw [t1] at h1
    obtain ⟨a, rfl, wa⟩ := rd_int Try.underlying5 h0
    obtain ⟨b, rfl, wb⟩ := rd_int Try.underlying42 h1
    have ba := wf_u8 wa
    have bb := wf_u16 wb
    exact ⟨(a.toNat, b.toNat), by simp; omega, by simp; omega, by simp; omega⟩
theorem open_pid {v : Value} {d : DataW H} {p : List MemPlace} {base : Nat} (hok : Value.okWide Try.prog W .any base 49 v) (h : DataW.Trod enc Try.prog W 0 (fun _ => true) true 49 v d p) : ∃ a s : Nat, v = .agg #[.int .u8 (a : Int), .int .u16 (s : Int)] ∧ a < 256 ∧ s < 65536 := by
  obtain ⟨l, rfl, _, n, hr⟩ := open_struct undP hok h
  obtain ⟨p, rfl, h1, h2⟩ := rd_pid hr
  exact ⟨p.1, p.2, rfl, h1, h2⟩
theorem open_pids {v : Value} {d : DataW H} {p : List MemPlace} {base : Nat} (hok : Value.okWide Try.prog W .any base 50 v) (h : DataW.Trod enc Try.prog W 0 (fun _ => true) true 50 v d p) : ∃ A n c l, v = .slice A n c ∧ n ≤ c ∧ c ≤ maxLen ∧ Pids W A n l := by
  obtain ⟨A, n, c, rows, rfl, h1, h2, h3, h4, h5⟩ := open_rows Try.underlying50 c2P (by decide) hok h
  obtain ⟨l, rfl, hk⟩ := rows_of (fun p : Nat × Nat => [.int .u8 (p.1 : Int), .int .u16 (p.2 : Int)]) (fun p => p.1 < 256 ∧ p.2 < 65536) rows (fun r hr => by
    obtain ⟨_, m, hm⟩ := h5 r hr
    exact rd_pid hm)
  exact ⟨A, n, c, l, rfl, h1, h2, by simpa using h3, h4, hk⟩
end
end Go.Proofs.Ytgpcijpadelcfaa.blmL
