/- A tree, out of an argument. -/
import Derived.Test.YtacgfpjoaikfbaaTcN
import Derived.Test.YtacgfpjoaikfbaaOpen2
namespace Go.Proofs.Ytacgfpjoaikfbaa.tc
open Go Go.RowKit Go.Par Go.Kit Go.ChangeShapes Go.WideShapes Go.ChangeAt Go.Deep Go.Proofs.Ytacgfpjoaikfbaa.bfW
section
variable {H : Type} {enc : TypeId × Value → H} {P : Program} {W : World}
/-- a slice in a cell, whose elements have S cells each -/
theorem rd_rows {t e : TypeId} {S k : Nat} {u : Value} (ht : P.underlying t = some (.slice e)) (hS : P.cellsOf e = S) (h0 : 0 < S) (h : Rd enc P W k t [u]) :
    ∃ (A : Option Addr) (n c : Nat) (rows : List (List Value)), u = .slice A n c ∧ n ≤ c ∧ c ≤ maxLen ∧ rows.length = n ∧ Row W A (n * S) rows.flatten ∧ ∀ r ∈ rows, r.length = S ∧ ∃ m, Rd enc P W m e r := by
  obtain ⟨⟨d, p⟩, hx⟩ := h
  rcases open_slice ht hx with ⟨hcs, _⟩ | ⟨x, l, c, m, n, D, Pl, hcs, _, hl, hm, hmm, _, hi⟩
  · simp at hcs
    obtain ⟨rfl, rfl, rfl⟩ := hcs
    exact ⟨none, 0, 0, [], rfl, Nat.le_refl _, Nat.zero_le _, rfl, by rw [Nat.zero_mul]; exact Row.nil W none, fun r hr => by simp at hr⟩
  · simp at hcs
    obtain ⟨rfl, rfl, rfl⟩ := hcs
    have hmm' : m = c := hmm
    subst hmm'
    rw [hS] at hi
    obtain ⟨V, hV⟩ := choose_lt (α := List Value) (p := fun i cs' => W.cells? 0 (x.add (i * S)) S = some cs' ∧ DataW.trod enc P W 0 (fun _ => true) true n e cs' = some (D i, Pl i)) hi
    have hrl : ∀ r ∈ (List.range l).map V, r.length = S := by
      intro r hr
      simp only [List.mem_map, List.mem_range] at hr
      obtain ⟨i, hil, rfl⟩ := hr
      exact (World.cells?_some (hV i (by omega)).1).2.1
    refine ⟨_, _, _, (List.range l).map V, rfl, hl, hm, by simp, ?_, fun r hr => ⟨hrl r hr, ?_⟩⟩
    · refine row_of_cells (by rw [flatten_len _ hrl]; simp) fun i u hu => ?_
      rw [flatten_at h0 _ _ hrl] at hu
      have hiS : i / S < l := by
        rcases Nat.lt_or_ge (i / S) l with h1 | h1
        · exact h1
        · rw [List.getElem?_eq_none (by simpa using h1)] at hu; simp at hu
      simp only [List.getElem?_map, List.getElem?_range hiS, Option.map_some, Option.bind_some] at hu
      have hc := (World.cells?_some (hV (i / S) (by omega)).1).2.2 (i % S) (Nat.mod_lt _ h0)
      rw [add_add, hu] at hc
      rw [show i / S * S + i % S = i by rw [Nat.mul_comm]; exact Nat.div_add_mod i S] at hc
      exact hc
    · simp only [List.mem_map, List.mem_range] at hr
      obtain ⟨i, hil, rfl⟩ := hr
      exact ⟨n, _, (hV i (by omega)).2⟩

end
section
variable {H : Type} {enc : TypeId × Value → H} {W : World}
theorem undF' : Try.prog.underlying TF = some (.struct (Try.prog.fieldsOf TF)) := by kernel_rfl
theorem oneF : oneCellFields Try.prog (Try.prog.fieldsOf TF) = true := by kernel_rfl
theorem f0F : ((Try.prog.fieldsOf TF)[0]?).map (·.type) = some 9 := by kernel_rfl
theorem f1F : ((Try.prog.fieldsOf TF)[1]?).map (·.type) = some 37 := by kernel_rfl
theorem f2F : ((Try.prog.fieldsOf TF)[2]?).map (·.type) = some 37 := by kernel_rfl
theorem c3F : Try.prog.cellsOf TF = 3 := by kernel_rfl
theorem c1S : Try.prog.cellsOf 9 = 1 := by kernel_rfl
theorem str_of (s : ByteArray) : ∃ l : List UInt8, s = str l := ⟨s.data.toList, by cases s; rfl⟩
theorem strs_of : ∀ rows : List (List Value), (∀ r ∈ rows, ∃ t : List UInt8, r = [.string (str t)]) → ∃ l : List (List UInt8), l.length = rows.length ∧ rows.flatten = strs l
  | [], _ => ⟨[], rfl, rfl⟩
  | r :: rows, h => by
    obtain ⟨t, rfl⟩ := h r List.mem_cons_self
    obtain ⟨l, h1, h2⟩ := strs_of rows fun q hq => h q (List.mem_cons_of_mem _ hq)
    exact ⟨t :: l, by simp [h1], by simp [h2, strs]⟩
theorem rd_strs {n : Nat} {u : Value} (h : Rd enc Try.prog W n 37 [u]) : ∃ l, SlS W u l := by
  obtain ⟨A, n, c, rows, rfl, h1, h2, h3, h4, h5⟩ := rd_rows Try.underlying37 c1S (by decide) h
  obtain ⟨l, hl, hf⟩ := strs_of rows fun r hr => by
    obtain ⟨hl, m, hm⟩ := h5 r hr
    match r, hl, hm with
    | [u], _, hm =>
      obtain ⟨s, rfl, _⟩ := rd_string Try.underlying9 hm
      obtain ⟨t, rfl⟩ := str_of s
      exact ⟨t, rfl⟩
  rw [hf, Nat.mul_one] at h4
  obtain rfl : n = l.length := by omega
  exact ⟨l, A, c, rfl, h1, h2, h4⟩
theorem rd_fil {n : Nat} {r : List Value} (h : Rd enc Try.prog W n TF r) : ∃ (f : Fil) (u v : Value), r = filRow u v f ∧ SlS W u f.also ∧ SlS W v f.lines := by
  obtain ⟨hl, m, hf⟩ := struct_cells undF' oneF h
  rw [c3F] at hl
  match r, hl with
  | [u0, u1, u2], _ =>
    obtain ⟨g0, e0, t0⟩ := Option.map_eq_some_iff.1 f0F
    have h0 := hf 0 g0 u0 e0 rfl
    rw [t0] at h0
    obtain ⟨g1, e1, t1⟩ := Option.map_eq_some_iff.1 f1F
    have h1 := hf 1 g1 u1 e1 rfl
    rw [t1] at h1
    obtain ⟨g2, e2, t2⟩ := Option.map_eq_some_iff.1 f2F
    have h2 := hf 2 g2 u2 e2 rfl
    rw [t2] at h2
    obtain ⟨s, rfl, _⟩ := rd_string Try.underlying9 h0
    obtain ⟨t, rfl⟩ := str_of s
    obtain ⟨l1, q1⟩ := rd_strs h1
    obtain ⟨l2, q2⟩ := rd_strs h2
    exact ⟨⟨t, l1, l2⟩, u1, u2, rfl, q1, q2⟩
theorem open_tree {v : Value} {d : DataW H} {p : List MemPlace} {base : Nat} (hok : Value.okWide Try.prog W .any base 23 v) (h : DataW.Trod enc Try.prog W 0 (fun _ => true) true 23 v d p) :
    ∃ A n c fs, v = .slice A n c ∧ n ≤ c ∧ c ≤ maxLen ∧ Fils W A n fs := by
  obtain ⟨A, n, c, rows, rfl, h1, h2, h3, h4, h5⟩ := open_rows Try.underlying23 c3F (by decide) hok h
  have key : ∀ rows : List (List Value), (∀ r ∈ rows, ∃ (f : Fil) (u v : Value), r = filRow u v f ∧ SlS W u f.also ∧ SlS W v f.lines) → ∃ fs : List Fil, fs.length = rows.length ∧ ∀ (j : Nat) (r : List Value) (f : Fil), rows[j]? = some r → fs[j]? = some f → ∃ u v, r = filRow u v f ∧ SlS W u f.also ∧ SlS W v f.lines := by
    intro rows
    induction rows with
    | nil => intro _; exact ⟨[], rfl, fun j r a h => by simp at h⟩
    | cons r rows ih =>
      intro h
      obtain ⟨a, ha⟩ := h r List.mem_cons_self
      obtain ⟨ac, hl, hk⟩ := ih fun q hq => h q (List.mem_cons_of_mem _ hq)
      refine ⟨a :: ac, by simp [hl], fun j r' a' hr ha' => ?_⟩
      cases j with
      | zero =>
        simp only [List.getElem?_cons_zero, Option.some.injEq] at hr ha'
        subst hr; subst ha'
        exact ha
      | succ j => exact hk j r' a' (by simpa using hr) (by simpa using ha')
  obtain ⟨fs, hl, hk⟩ := key rows fun r hr => (by
    obtain ⟨_, m, hm⟩ := h5 r hr
    exact rd_fil hm)
  exact ⟨A, n, c, fs, rfl, h1, h2, by omega, rows, h4, h3, hk⟩
end
end Go.Proofs.Ytacgfpjoaikfbaa.tc
