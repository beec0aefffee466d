/- Tags: the calls of the statements, opened: rows of sixty-six cells; vectors. -/
import Derived.Test.YthclgmpjmhacdaaTgU
import Derived.Test.YthclgmpjmhacdaaOpen
import Derived.Test.YthclgmpjmhacdaaOpen2
namespace Go.Proofs.Ythclgmpjmhacdaa.tg
open Go Go.RowKit Go.Par Go.Kit Go.ChangeShapes Go.WideShapes Go.ChangeAt Go.Deep

abbrev TAct : TypeId := 41
structure Ac where
  k : Int
  s : List UInt8
  v : List Int
structure AcOk (a : Ac) : Prop where
  k0 : 0 ≤ a.k
  k1 : a.k ≤ 255
  s1 : a.s.length ≤ maxLen
  v1 : VecOk a.v
def arow (a : Ac) : List Value := .int .u8 a.k :: .string (str a.s) :: ints .u16 a.v
def Acts (w : World) (A : Option Addr) (n : Nat) (l : List Ac) : Prop := l.length = n ∧ (∀ a ∈ l, AcOk a) ∧ Row w A (n * 66) (l.map arow).flatten
theorem arow_len {a : Ac} (h : AcOk a) : (arow a).length = 66 := by unfold arow; rw [List.length_cons, List.length_cons, (ints_ok h.v1).1]
theorem Acts.grow {w w' : World} {A : Option Addr} {n : Nat} {l : List Ac} (h : Acts w A n l) (hg : Grow w w') : Acts w' A n l := ⟨h.1, h.2.1, h.2.2.grow hg⟩
theorem Acts.at_ {w : World} {A : Option Addr} {n : Nat} {l : List Ac} (h : Acts w A n l) {k : Nat} (hk : k < n) : ∃ b off a, A = some ⟨b, off, none⟩ ∧ l[k]? = some a ∧ AcOk a ∧ ∀ i u, (arow a)[i]? = some u → w.cell? ⟨b, off + k * 66 + i, none⟩ = some u := by
  obtain ⟨h1, h2, h3⟩ := h
  obtain ⟨b, off, e, hc⟩ := h3.2 (Nat.mul_pos (by omega) (by decide))
  have hkx : k < l.length := by omega
  have hrl : ∀ r ∈ l.map arow, r.length = 66 := fun r hr => by obtain ⟨x, hx, rfl⟩ := List.mem_map.1 hr; exact arow_len (h2 x hx)
  refine ⟨b, off, l[k], e, List.getElem?_eq_getElem hkx, h2 _ (List.getElem_mem hkx), fun i u hu => ?_⟩
  have hi : i < 66 := by rw [← arow_len (h2 _ (List.getElem_mem hkx))]; exact (List.getElem?_eq_some_iff.1 hu).1
  have := hc (k * 66 + i) u (by
    rw [flatten_at (by decide) _ _ hrl, Nat.mul_comm k 66, Nat.mul_add_div (by decide), Nat.div_eq_of_lt hi, Nat.add_zero, Nat.mul_add_mod, Nat.mod_eq_of_lt hi, List.getElem?_map, List.getElem?_eq_getElem hkx]
    exact hu)
  rw [Nat.add_assoc]
  exact this
section
variable {H : Type} {enc : TypeId × Value → H} {W : World}
theorem undA : Try.prog.underlying TAct = some (.struct (Try.prog.fieldsOf TAct)) := by kernel_rfl
theorem fldA0 : ((Try.prog.fieldsOf TAct)[0]?).map (fun f => (f.type, f.offset)) = some (5, 0) := by kernel_rfl
theorem fldA1 : ((Try.prog.fieldsOf TAct)[1]?).map (fun f => (f.type, f.offset)) = some (9, 1) := by kernel_rfl
theorem fldA2 : ((Try.prog.fieldsOf TAct)[2]?).map (fun f => (f.type, f.offset)) = some (TV, 2) := by kernel_rfl
theorem cellsA : Try.prog.cellsOf TAct = 66 := by kernel_rfl
theorem cellsA0 : Try.prog.cellsOf 5 = 1 := by kernel_rfl
theorem cellsA1 : Try.prog.cellsOf 9 = 1 := by kernel_rfl
theorem cellsA2 : Try.prog.cellsOf TV = 64 := by kernel_rfl
theorem cellsU : Try.prog.cellsOf 35 = 1 := by kernel_rfl
theorem wf_vec {zs : List Int} (hl : zs.length = 64) (h : ∀ z ∈ zs, (Lit.int .u16 z).wf = true) : VecOk zs := ⟨hl, fun z hz => by have := wf_u16 (h z hz); omega⟩
theorem str_of' (s : ByteArray) : ∃ l : List UInt8, s = str l := ⟨s.data.toList, by cases s; rfl⟩
/-- the cells of a vector -/
theorem rd_vec {n : Nat} {cs : List Value} (h : Rd enc Try.prog W n TV cs) : ∃ v, cs = ints .u16 v ∧ VecOk v := by
  obtain ⟨x, hx⟩ := h
  obtain ⟨xs, m, _, _, hcl, hxl, hg⟩ := DataW.trod_array undV hx
  rw [cellsA2] at hcl
  rw [cellsU] at hg
  have hz : ∀ u ∈ cs, ∃ z, u = .int .u16 z ∧ (Lit.int .u16 z).wf = true := by
    intro u hu
    obtain ⟨i, hi, rfl⟩ := List.getElem_of_mem hu
    have h1 := hg i (by omega)
    have e : (cs.drop (i * 1)).take 1 = [cs[i]] := by rw [Nat.mul_one, List.drop_eq_getElem_cons hi]; rfl
    rw [e, List.getElem?_eq_getElem (by omega)] at h1
    exact rd_int Try.underlying35 ⟨_, h1⟩
  obtain ⟨rs, hrs, hok⟩ := rows_of (fun z : Int => [Value.int .u16 z]) (fun z => (Lit.int .u16 z).wf = true) (cs.map fun u => [u]) (fun r hr => by
    obtain ⟨u, hu, rfl⟩ := List.mem_map.1 hr
    obtain ⟨z, rfl, hw⟩ := hz u hu
    exact ⟨z, rfl, hw⟩)
  have e : cs = ints .u16 rs := by
    have := congrArg List.flatten hrs
    have f1 : ∀ l : List Value, (l.map fun u => [u]).flatten = l := fun l => by induction l with
      | nil => rfl
      | cons a l ih => rw [List.map_cons, List.flatten_cons, ih]; rfl
    have f2 : ∀ l : List Int, (l.map fun z : Int => [Value.int .u16 z]).flatten = ints .u16 l := fun l => by induction l with
      | nil => rfl
      | cons a l ih => rw [List.map_cons, List.flatten_cons, ih]; rfl
    rw [f1, f2] at this
    exact this
  refine ⟨rs, e, wf_vec ?_ hok⟩
  rw [e] at hcl
  simpa [ints] using hcl
theorem rd_act {n : Nat} {r : List Value} (h : Rd enc Try.prog W n TAct r) : ∃ a : Ac, r = arow a ∧ AcOk a := by
  obtain ⟨x, hx⟩ := h
  obtain ⟨xs, m, _, _, hl, hxl, hf⟩ := DataW.trod_struct undA hx
  rw [cellsA] at hl
  obtain ⟨g0, e0, t0⟩ := Option.map_eq_some_iff.1 fldA0
  obtain ⟨g1, e1, t1⟩ := Option.map_eq_some_iff.1 fldA1
  obtain ⟨g2, e2, t2⟩ := Option.map_eq_some_iff.1 fldA2
  have h0 := hf 0 g0 e0
  have h1 := hf 1 g1 e1
  have h2 := hf 2 g2 e2
  injection t0 with t0 o0
  injection t1 with t1 o1
  injection t2 with t2 o2
  rw [t0, o0, cellsA0] at h0
  rw [t1, o1, cellsA1] at h1
  rw [t2, o2, cellsA2] at h2
  have hx0 : 0 < xs.length := by rw [hxl]; exact (Array.getElem?_eq_some_iff.1 e0).1
  have hx1 : 1 < xs.length := by rw [hxl]; exact (Array.getElem?_eq_some_iff.1 e1).1
  have hx2 : 2 < xs.length := by rw [hxl]; exact (Array.getElem?_eq_some_iff.1 e2).1
  rw [List.getElem?_eq_getElem hx0] at h0
  rw [List.getElem?_eq_getElem hx1] at h1
  rw [List.getElem?_eq_getElem hx2] at h2
  cases r with
  | nil => rw [List.length_nil] at hl; omega
  | cons u0 r =>
  cases r with
  | nil => rw [List.length_cons, List.length_nil] at hl; omega
  | cons u1 r =>
    have hr : r.length = 64 := by rw [List.length_cons, List.length_cons] at hl; omega
    clear hl
    rw [show ((u0 :: u1 :: r).drop 2).take 64 = r by rw [List.drop_succ_cons, List.drop_succ_cons, List.drop_zero]; exact List.take_of_length_le (by omega)] at h2
    obtain ⟨z, rfl, w0⟩ := rd_int (u := u0) Try.underlying5 ⟨_, h0⟩
    obtain ⟨s, rfl, hs⟩ := rd_string (u := u1) Try.underlying9 ⟨_, h1⟩
    obtain ⟨v, rfl, hv⟩ := rd_vec ⟨_, h2⟩
    obtain ⟨s, rfl⟩ := str_of' s
    have := wf_u8 w0
    exact ⟨⟨z, s, v⟩, rfl, { k0 := this.1, k1 := by show z ≤ 255; omega, s1 := hs, v1 := hv }⟩
set_option maxRecDepth 100000 in
theorem open_acts {v : Value} {d : DataW H} {p : List MemPlace} {base : Nat} (hok : Value.okWide Try.prog W .any base 34 v) (h : DataW.Trod enc Try.prog W 0 (fun _ => true) true 34 v d p) :
    ∃ (A : Option Addr) (n c : Nat) (l : List Ac), v = .slice A n c ∧ n ≤ c ∧ c ≤ maxLen ∧ Acts W A n l := by
  obtain ⟨A, n, c, rows, rfl, h1, h2, h3, h4, h5⟩ := open_rows Try.underlying34 cellsA (by decide) hok h
  obtain ⟨xs, rfl, hx⟩ := rows_of arow AcOk rows fun r hr => (by
    obtain ⟨_, m, hm⟩ := h5 r hr
    exact rd_act hm)
  exact ⟨A, n, c, xs, rfl, h1, h2, by simpa using h3, hx, h4⟩
set_option maxRecDepth 100000 in
theorem open_vec {v : Value} {d : DataW H} {p : List MemPlace} {base : Nat} (hok : Value.okWide Try.prog W .any base TV v) (h : DataW.Trod enc Try.prog W 0 (fun _ => true) true TV v d p) : ∃ x, v = vv x ∧ VecOk x := by
  obtain ⟨zs, rfl, hl, hw⟩ := open_arr undV Try.underlying35 cellsU cellsA2 hok h
  exact ⟨zs, rfl, wf_vec hl hw⟩
end
end Go.Proofs.Ythclgmpjmhacdaa.tg
