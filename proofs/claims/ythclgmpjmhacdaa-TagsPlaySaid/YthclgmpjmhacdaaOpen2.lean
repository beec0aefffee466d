/- Arguments opened: arrays of integers, slices of structs: for every program. -/
import Derived.Test.YthclgmpjmhacdaaOpen
import Derived.Test.YthclgmpjmhacdaaArr
import Derived.Deep.Slices
import Derived.Deep.Fields
namespace Go.Kit
open Go Go.RowKit Go.Par Go.ChangeShapes Go.WideShapes Go.ChangeAt Go.Deep

theorem flatten_at {α : Type} {S : Nat} (hS : 0 < S) : ∀ (rows : List (List α)) (i : Nat), (∀ r ∈ rows, r.length = S) → rows.flatten[i]? = (rows[i / S]?).bind (·[i % S]?)
  | [], i, _ => by simp
  | r :: rows, i, h => by
    have hr := h r List.mem_cons_self
    rw [List.flatten_cons]
    by_cases hi : i < S
    · rw [List.getElem?_append_left (by omega), Nat.div_eq_of_lt hi, Nat.mod_eq_of_lt hi]
      rfl
    · rw [List.getElem?_append_right (by omega), hr, flatten_at hS rows (i - S) fun q hq => h q (List.mem_cons_of_mem _ hq)]
      have h1 : i / S = (i - S) / S + 1 := by
        have := Nat.add_div_right (i - S) hS
        rw [Nat.sub_add_cancel (by omega)] at this
        exact this
      have h2 : i % S = (i - S) % S := by
        have := Nat.add_mod_right (i - S) S
        rw [Nat.sub_add_cancel (by omega)] at this
        exact this
      rw [h1, h2, List.getElem?_cons_succ]
theorem flatten_len {α : Type} {S : Nat} : ∀ (rows : List (List α)), (∀ r ∈ rows, r.length = S) → rows.flatten.length = rows.length * S
  | [], _ => by simp
  | r :: rows, h => by
    rw [List.flatten_cons, List.length_append, h r List.mem_cons_self, flatten_len rows fun q hq => h q (List.mem_cons_of_mem _ hq), List.length_cons, Nat.succ_mul]
    omega
/-- rows that are each something's -/
theorem rows_of {α : Type} (f : α → List Value) (ok : α → Prop) : ∀ (rows : List (List Value)), (∀ r ∈ rows, ∃ p, r = f p ∧ ok p) → ∃ l : List α, rows = l.map f ∧ ∀ p ∈ l, ok p
  | [], _ => ⟨[], rfl, fun p hp => by simp at hp⟩
  | r :: rows, h => by
    obtain ⟨p, hp, ho⟩ := h r List.mem_cons_self
    obtain ⟨l, hl, hk⟩ := rows_of f ok rows fun q hq => h q (List.mem_cons_of_mem _ hq)
    refine ⟨p :: l, by rw [hp, hl]; rfl, fun q hq => ?_⟩
    rcases List.mem_cons.1 hq with rfl | hq
    · exact ho
    · exact hk q hq

section
variable {H : Type} {enc : TypeId × Value → H} {P : Program} {W : World}
abbrev Rd (enc : TypeId × Value → H) (P : Program) (W : World) (n : Nat) (t : TypeId) (cs : List Value) : Prop := ∃ x, DataW.trod enc P W 0 (fun _ => true) true n t cs = some x

/-- a slice whose elements have S cells each: the elements' cells, one behind another -/
theorem open_rows {t e : TypeId} {S : Nat} {v : Value} {d : DataW H} {p : List MemPlace} {base : Nat} (ht : P.underlying t = some (.slice e)) (hS : P.cellsOf e = S) (h0 : 0 < S)
    (hok : Value.okWide P W .any base t v) (h : DataW.Trod enc P W 0 (fun _ => true) true t v d p) :
    ∃ (A : Option Addr) (n c : Nat) (rows : List (List Value)), v = .slice A n c ∧ n ≤ c ∧ c ≤ maxLen ∧ rows.length = n ∧ Row W A (n * S) rows.flatten ∧ ∀ r ∈ rows, r.length = S ∧ ∃ m, Rd enc P W m e r := by
  obtain ⟨a, len, cap, rfl⟩ := okWide_slice ht hok
  obtain ⟨fuel, hf⟩ := h
  rcases open_slice ht hf with ⟨hcs, _⟩ | ⟨x, l, c, m, n, D, Pl, hcs, _, hl, hm, hmm, _, hi⟩
  · simp [Value.cells] at hcs
    obtain ⟨rfl, rfl, rfl⟩ := hcs
    exact ⟨none, 0, 0, [], rfl, Nat.le_refl _, Nat.zero_le _, rfl, by rw [Nat.zero_mul]; exact Row.nil W none, fun r hr => by simp at hr⟩
  · simp [Value.cells] at hcs
    obtain ⟨rfl, rfl, rfl⟩ := hcs
    have hmm' : m = cap := hmm
    subst hmm'
    rw [hS] at hi
    obtain ⟨V, hV⟩ := choose_lt (α := List Value) (p := fun i cs' => W.cells? 0 (x.add (i * S)) S = some cs' ∧ DataW.trod enc P W 0 (fun _ => true) true n e cs' = some (D i, Pl i)) hi
    have hrl : ∀ r ∈ (List.range len).map V, r.length = S := by
      intro r hr
      simp only [List.mem_map, List.mem_range] at hr
      obtain ⟨i, hil, rfl⟩ := hr
      exact (World.cells?_some (hV i (by omega)).1).2.1
    refine ⟨_, _, _, (List.range len).map V, rfl, hl, hm, by simp, ?_, fun r hr => ⟨hrl r hr, ?_⟩⟩
    · refine row_of_cells (by rw [flatten_len _ hrl]; simp) fun i u hu => ?_
      rw [flatten_at h0 _ _ hrl] at hu
      have hiS : i / S < len := by
        rcases Nat.lt_or_ge (i / S) len with h1 | h1
        · exact h1
        · rw [List.getElem?_eq_none (by simpa using h1)] at hu; simp at hu
      simp only [List.getElem?_map, List.getElem?_range hiS, Option.map_some, Option.bind_some] at hu
      have hc := (World.cells?_some (hV (i / S) (by omega)).1).2.2 (i % S) (Nat.mod_lt _ h0)
      rw [add_add, hu] at hc
      rw [show i / S * S + i % S = i by rw [Nat.mul_comm]; exact Nat.div_add_mod i S] at hc
      exact hc
    · simp only [List.mem_map, List.mem_range] at hr
      obtain ⟨i, hil, rfl⟩ := hr
      exact ⟨n, _, (hV i (by omega)).2⟩

/-- a struct of one-cell fields -/
theorem struct_cells {t : TypeId} {fs : Array Field} {n : Nat} {cs : List Value} (hs : P.underlying t = some (.struct fs)) (hone : oneCellFields P fs = true) (h : Rd enc P W n t cs) :
    cs.length = P.cellsOf t ∧ ∃ m, ∀ (j : Nat) (f : Field) (u : Value), fs[j]? = some f → cs[j]? = some u → Rd enc P W m f.type [u] := by
  obtain ⟨x, hx⟩ := h
  obtain ⟨xs, m, _, _, hl, hxl, hf⟩ := DataW.trod_struct hs hx
  refine ⟨hl, m, fun j f u hj hu => ?_⟩
  obtain ⟨ho, hk⟩ := hone_of hone j f hj
  have h1 := hf j f hj
  rw [ho, hk] at h1
  obtain ⟨hjl, hju⟩ := List.getElem?_eq_some_iff.1 hu
  have e : (cs.drop j).take 1 = [u] := by rw [List.drop_eq_getElem_cons hjl, hju]; rfl
  rw [e] at h1
  have hjx : j < xs.length := by rw [hxl]; exact (Array.getElem?_eq_some_iff.1 hj).1
  rw [List.getElem?_eq_getElem hjx] at h1
  exact ⟨_, h1⟩
theorem rd_int {t : TypeId} {k : IntKind} {n : Nat} {u : Value} (ht : P.underlying t = some (.int k)) (h : Rd enc P W n t [u]) : ∃ z, u = .int k z ∧ (Lit.int k z).wf = true := by
  obtain ⟨x, hx⟩ := h
  obtain ⟨z, hc, _, hw⟩ := DataW.trod_int ht hx
  simp at hc
  exact ⟨z, hc, hw⟩
theorem rd_bool {t : TypeId} {n : Nat} {u : Value} (ht : P.underlying t = some .bool) (h : Rd enc P W n t [u]) : ∃ b, u = .bool b := by
  obtain ⟨x, hx⟩ := h
  obtain ⟨z, hc, _⟩ := DataW.trod_bool ht hx
  simp at hc
  exact ⟨z, hc⟩
theorem rd_string {t : TypeId} {n : Nat} {u : Value} (ht : P.underlying t = some .string) (h : Rd enc P W n t [u]) : ∃ s, u = .string s ∧ s.size ≤ maxLen := by
  obtain ⟨x, hx⟩ := h
  obtain ⟨z, hc, _, hw⟩ := DataW.trod_string ht hx
  simp at hc
  exact ⟨z, hc, hw⟩
/-- bytes -/
theorem rd_bytes {t e : TypeId} {n : Nat} {u : Value} (ht : P.underlying t = some (.slice e)) (he : P.underlying e = some (.int .u8)) (hc : P.cellsOf e = 1) (h : Rd enc P W n t [u]) : ∃ l, Sl W u l := by
  obtain ⟨x, hx⟩ := h
  rcases open_ints ht he hc hx with ⟨hcs, _⟩ | ⟨x, l, c, zs, hcs, _, hl, hm, hz, _, hcell, hwz⟩
  · simp at hcs
    exact ⟨[], none, 0, 0, hcs, Nat.le_refl _, Nat.zero_le _, Row.nil _ _⟩
  · simp at hcs
    exact ⟨_, _, _, _, hcs, hl, hm, bytes_of_ints hl (by simpa using hz) hcell hwz⟩
/-- an array of integers, by value -/
theorem open_arr {t e : TypeId} {k : IntKind} {n : Nat} {v : Value} {d : DataW H} {p : List MemPlace} {base : Nat} (ht : P.underlying t = some (.array n e)) (he : P.underlying e = some (.int k)) (hc : P.cellsOf e = 1)
    (hC : P.cellsOf t = n) (hok : Value.okWide P W .any base t v) (h : DataW.Trod enc P W 0 (fun _ => true) true t v d p) : ∃ zs : List Int, v = .agg (ints k zs).toArray ∧ zs.length = n ∧ ∀ z ∈ zs, (Lit.int k z).wf = true := by
  obtain ⟨cs, rfl, hl⟩ : ∃ cs, v = .agg cs ∧ cs.size = P.cellsOf t := by
    simp only [Value.okWide, ht] at hok
    obtain ⟨cs, h1, h2, _⟩ := hok
    exact ⟨cs, h1, h2⟩
  obtain ⟨l⟩ := cs
  obtain ⟨fuel, hf⟩ := h
  obtain ⟨xs, m, _, _, hcl, hxl, hg⟩ := DataW.trod_array ht hf
  have hcl : l.length = P.cellsOf t := by simpa [Value.cells] using hcl
  have hg : ∀ i, i < n → DataW.trod enc P W 0 (fun _ => true) true m e ((l.drop (i * P.cellsOf e)).take (P.cellsOf e)) = xs[i]? := by simpa [Value.cells] using hg
  rw [hc] at hg
  have hll : l.length = n := by rw [← hC]; exact hcl
  have hz : ∀ u ∈ l, ∃ z, u = .int k z ∧ (Lit.int k z).wf = true := by
    intro u hu
    obtain ⟨i, hi, rfl⟩ := List.getElem_of_mem hu
    have h1 := hg i (by omega)
    have e : (l.drop (i * 1)).take 1 = [l[i]] := by rw [Nat.mul_one, List.drop_eq_getElem_cons hi]; rfl
    rw [e, List.getElem?_eq_getElem (by omega)] at h1
    exact rd_int he ⟨_, h1⟩
  have : ∀ l : List Value, (∀ u ∈ l, ∃ z, u = .int k z ∧ (Lit.int k z).wf = true) → ∃ zs : List Int, l = ints k zs ∧ ∀ z ∈ zs, (Lit.int k z).wf = true := by
    intro l
    induction l with
    | nil => intro _; exact ⟨[], rfl, fun z hz => by simp at hz⟩
    | cons u l ih =>
      intro h
      obtain ⟨z, hz, hw⟩ := h u List.mem_cons_self
      obtain ⟨zs, hzs, hws⟩ := ih fun q hq => h q (List.mem_cons_of_mem _ hq)
      refine ⟨z :: zs, by rw [hz, hzs]; rfl, fun q hq => ?_⟩
      rcases List.mem_cons.1 hq with rfl | hq
      · exact hw
      · exact hws q hq
  obtain ⟨zs, hzs, hws⟩ := this l hz
  refine ⟨zs, by rw [hzs], ?_, hws⟩
  rw [← hll, hzs]; simp [ints]
/-- a struct of one-cell fields, by value -/
theorem open_struct {t : TypeId} {fs : Array Field} {v : Value} {d : DataW H} {p : List MemPlace} {base : Nat} (hs : P.underlying t = some (.struct fs)) (hok : Value.okWide P W .any base t v) (h : DataW.Trod enc P W 0 (fun _ => true) true t v d p) :
    ∃ l : List Value, v = .agg l.toArray ∧ l.length = P.cellsOf t ∧ ∃ n, Rd enc P W n t l := by
  obtain ⟨cs, rfl, hsz⟩ := okWide_struct hs hok
  obtain ⟨l⟩ := cs
  obtain ⟨fuel, hf⟩ := h
  exact ⟨l, rfl, by simpa using hsz, fuel, _, by simpa [Value.cells] using hf⟩
end
end Go.Kit
