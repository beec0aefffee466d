/- Events, out of an argument; the table, as a row lists it. -/
import Derived.Test.YtmekdhlcflielaaDoorEvL
import Derived.Lib.LaidTab
namespace Go.Proofs.YtmekdhlcflielaaDoor.ev
open Go Go.RowKit Go.Par Go.Kit Go.ChangeShapes Go.WideShapes Go.ChangeAt Go.Deep Go.Proofs.YtmekdhlcflielaaDoor.bfW

theorem gHas : Tryd.prog.globalNamed "bruit/event.has" = some 0 := by kernel_rfl
theorem tab_of {W : World} (h : Lib.TabIs Tryd.prog W "bruit/event.has" .u8 [0, 33, 1, 17, 4, 4, 4, 12, 1, 5, 1, 3, 0]) : Tab W := by
  intro k hk
  have hc := fun j hj => h.cell gHas j hj
  match k, hk with
  | 0, _ => exact hc 0 (by decide)
  | 1, _ => exact hc 1 (by decide)
  | 2, _ => exact hc 2 (by decide)
  | 3, _ => exact hc 3 (by decide)
  | 4, _ => exact hc 4 (by decide)
  | 5, _ => exact hc 5 (by decide)
  | 6, _ => exact hc 6 (by decide)
  | 7, _ => exact hc 7 (by decide)
  | 8, _ => exact hc 8 (by decide)
  | 9, _ => exact hc 9 (by decide)
  | 10, _ => exact hc 10 (by decide)
  | 11, _ => exact hc 11 (by decide)
  | 12, _ => exact hc 12 (by decide)
  | n + 13, h => omega
theorem Tab.lt {W : World} (h : Tab W) : 0 < W.heap.size := by
  have h1 := h 0 (by decide)
  rcases Nat.lt_or_ge 0 W.heap.size with h2 | h2
  · exact h2
  · unfold World.cell? at h1
    dsimp only at h1
    rw [Array.getElem?_eq_none h2] at h1
    cases h1
section
variable {H : Type} {enc : TypeId × Value → H} {W : World}
theorem oneE : oneCellFields Tryd.prog (Tryd.prog.fieldsOf TE) = true := by kernel_rfl
theorem f0E : ((Tryd.prog.fieldsOf TE)[0]?).map (·.type) = some 5 := by kernel_rfl
theorem f1E : ((Tryd.prog.fieldsOf TE)[1]?).map (·.type) = some 5 := by kernel_rfl
theorem f2E : ((Tryd.prog.fieldsOf TE)[2]?).map (·.type) = some 5 := by kernel_rfl
theorem f3E : ((Tryd.prog.fieldsOf TE)[3]?).map (·.type) = some 3 := by kernel_rfl
theorem f4E : ((Tryd.prog.fieldsOf TE)[4]?).map (·.type) = some 3 := by kernel_rfl
theorem f5E : ((Tryd.prog.fieldsOf TE)[5]?).map (·.type) = some 38 := by kernel_rfl
theorem f6E : ((Tryd.prog.fieldsOf TE)[6]?).map (·.type) = some 39 := by kernel_rfl
theorem f7E : ((Tryd.prog.fieldsOf TE)[7]?).map (·.type) = some 23 := by kernel_rfl
theorem c8E : Tryd.prog.cellsOf TE = 8 := by kernel_rfl
theorem c1u : Tryd.prog.cellsOf 5 = 1 := by kernel_rfl
theorem rd_ev {n : Nat} {r : List Value} (h : Rd enc Tryd.prog W n TE r) : ∃ e : Ev, (∃ v, r = evRow v e ∧ Sl W v e.b) ∧ e.ok := by
  obtain ⟨hl, m, hf⟩ := struct_cells undE oneE h
  rw [c8E] at hl
  match r, hl with
  | [u0, u1, u2, u3, u4, u5, u6, u7], _ =>
    obtain ⟨g0, e0, t0⟩ := Option.map_eq_some_iff.1 f0E
    have h0 := hf 0 g0 u0 e0 rfl
    rw [t0] at h0
    obtain ⟨g1, e1, t1⟩ := Option.map_eq_some_iff.1 f1E
    have h1 := hf 1 g1 u1 e1 rfl
    rw [t1] at h1
    obtain ⟨g2, e2, t2⟩ := Option.map_eq_some_iff.1 f2E
    have h2 := hf 2 g2 u2 e2 rfl
    rw [t2] at h2
    obtain ⟨g3, e3, t3⟩ := Option.map_eq_some_iff.1 f3E
    have h3 := hf 3 g3 u3 e3 rfl
    rw [t3] at h3
    obtain ⟨g4, e4, t4⟩ := Option.map_eq_some_iff.1 f4E
    have h4 := hf 4 g4 u4 e4 rfl
    rw [t4] at h4
    obtain ⟨g5, e5, t5⟩ := Option.map_eq_some_iff.1 f5E
    have h5 := hf 5 g5 u5 e5 rfl
    rw [t5] at h5
    obtain ⟨g6, e6, t6⟩ := Option.map_eq_some_iff.1 f6E
    have h6 := hf 6 g6 u6 e6 rfl
    rw [t6] at h6
    obtain ⟨g7, e7, t7⟩ := Option.map_eq_some_iff.1 f7E
    have h7 := hf 7 g7 u7 e7 rfl
    rw [t7] at h7
    obtain ⟨z0, rfl, w0⟩ := rd_int Tryd.underlying5 h0
    obtain ⟨z1, rfl, w1⟩ := rd_int Tryd.underlying5 h1
    obtain ⟨z2, rfl, w2⟩ := rd_int Tryd.underlying5 h2
    obtain ⟨z3, rfl, w3⟩ := rd_int Tryd.underlying3 h3
    obtain ⟨z4, rfl, w4⟩ := rd_int Tryd.underlying3 h4
    obtain ⟨z5, rfl, w5⟩ := rd_int Tryd.underlying38 h5
    obtain ⟨z6, rfl, w6⟩ := rd_int Tryd.underlying39 h6
    obtain ⟨l, hl⟩ := rd_bytes Tryd.underlying23 Tryd.underlying5 c1u h7
    have q0 := wf_u8 w0
    have q1 := wf_u8 w1
    have q2 := wf_u8 w2
    have q3 := wf_i64 w3
    have q4 := wf_i64 w4
    have q5 := wf_u32 w5
    have q6 := wf_u64 w6
    refine ⟨⟨z0.toNat, z1.toNat, z2.toNat, z3, z4, z5.toNat, z6.toNat, l⟩, ⟨u7, ?_, hl⟩, ⟨by simp; omega, by simp; omega, by simp; omega, q3.1, q3.2, q4.1, q4.2, by simp; omega, by simp; omega⟩⟩
    simp only [evRow, List.cons.injEq, Value.int.injEq, true_and, and_true]
    omega
theorem open_ev {v : Value} {d : DataW H} {p : List MemPlace} {base : Nat} (hok : Value.okWide Tryd.prog W .any base TE v) (h : DataW.Trod enc Tryd.prog W 0 (fun _ => true) true TE v d p) :
    ∃ (e : Ev) (A : Option Addr) (n c : Nat), v = .agg #[.int .u8 (e.k : Int), .int .u8 (e.node : Int), .int .u8 (e.peer : Int), .int .i64 e.K, .int .i64 e.at_, .int .u32 (e.mask : Int), .int .u64 (e.draw : Int), .slice A n c] ∧ Bytes W A n e.b ∧ n ≤ c ∧ c ≤ maxLen ∧ e.ok := by
  obtain ⟨l, rfl, hl, n, hrd⟩ := open_struct undE hok h
  obtain ⟨e, ⟨u, rfl, A, m, c, rfl, h1, h2, h3⟩, h4⟩ := rd_ev hrd
  exact ⟨e, A, m, c, rfl, h3, h1, h2, h4⟩
theorem open_evs {v : Value} {d : DataW H} {p : List MemPlace} {base : Nat} (hok : Value.okWide Tryd.prog W .any base 22 v) (h : DataW.Trod enc Tryd.prog W 0 (fun _ => true) true 22 v d p) : ∃ A n c es, v = .slice A n c ∧ n ≤ c ∧ c ≤ maxLen ∧ Evs W A n es := by
  obtain ⟨A, n, c, rows, rfl, h1, h2, h3, h4, h5⟩ := open_rows Tryd.underlying22 c8E (by decide) hok h
  have key : ∀ rows : List (List Value), (∀ r ∈ rows, ∃ e : Ev, (∃ v, r = evRow v e ∧ Sl W v e.b) ∧ e.ok) → ∃ es : List Ev, es.length = rows.length ∧ ∀ (j : Nat) (r : List Value) (e : Ev), rows[j]? = some r → es[j]? = some e → (∃ v, r = evRow v e ∧ Sl W v e.b) ∧ e.ok := by
    intro rows
    induction rows with
    | nil => intro _; exact ⟨[], rfl, fun j r a h => by simp at h⟩
    | cons r rows ih =>
      intro h
      obtain ⟨a, ha⟩ := h r List.mem_cons_self
      obtain ⟨ac, hl, hk⟩ := ih fun q hq => h q (List.mem_cons_of_mem _ hq)
      refine ⟨a :: ac, by simp [hl], fun j r' a' hr ha' => ?_⟩
      cases j with
      | zero =>
        simp only [List.getElem?_cons_zero, Option.some.injEq] at hr ha'
        subst hr; subst ha'
        exact ha
      | succ j => exact hk j r' a' (by simpa using hr) (by simpa using ha')
  obtain ⟨es, hl, hk⟩ := key rows fun r hr => (by
    obtain ⟨_, m, hm⟩ := h5 r hr
    exact rd_ev hm)
  exact ⟨A, n, c, es, rfl, h1, h2, by omega, rows, h4, h3, hk⟩
end
end Go.Proofs.YtmekdhlcflielaaDoor.ev
