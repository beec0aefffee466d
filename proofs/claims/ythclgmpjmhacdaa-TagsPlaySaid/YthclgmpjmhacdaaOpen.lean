/- A law's arguments, opened: for every program. -/
import Derived.Test.YthclgmpjmhacdaaKit
import Derived.ProofKit
import Derived.OpenShut
import Derived.Deep.Matrix
import Derived.Deep.DeepHandedRow
import Derived.Lib.LaidTab
namespace Go.Kit
open Go Go.RowKit Go.Par Go.ChangeShapes Go.WideShapes Go.ChangeAt

section
variable {H : Type} {enc : TypeId × Value → H} {P : Program} {W : World}

def toU8 (z : Int) : UInt8 := UInt8.ofNat z.toNat
theorem wf_u8 {z : Int} (h : (Lit.int .u8 z).wf = true) : 0 ≤ z ∧ z ≤ 255 := by
  simp [Lit.wf, IntKind.min, IntKind.max, IntKind.signed, IntKind.bits] at h
  omega
theorem wf_u16 {z : Int} (h : (Lit.int .u16 z).wf = true) : 0 ≤ z ∧ z ≤ 65535 := by
  simp [Lit.wf, IntKind.min, IntKind.max, IntKind.signed, IntKind.bits] at h
  omega
theorem wf_u32 {z : Int} (h : (Lit.int .u32 z).wf = true) : 0 ≤ z ∧ z ≤ 4294967295 := by
  simp [Lit.wf, IntKind.min, IntKind.max, IntKind.signed, IntKind.bits] at h
  omega
theorem wf_u64 {z : Int} (h : (Lit.int .u64 z).wf = true) : 0 ≤ z ∧ z ≤ 18446744073709551615 := by
  simp [Lit.wf, IntKind.min, IntKind.max, IntKind.signed, IntKind.bits] at h
  omega
theorem wf_i64 {z : Int} (h : (Lit.int .i64 z).wf = true) : -9223372036854775808 ≤ z ∧ z ≤ 9223372036854775807 := by
  simp [Lit.wf, IntKind.min, IntKind.max, IntKind.signed, IntKind.bits] at h
  omega
theorem wf_i16 {z : Int} (h : (Lit.int .i16 z).wf = true) : -32768 ≤ z ∧ z ≤ 32767 := by
  simp [Lit.wf, IntKind.min, IntKind.max, IntKind.signed, IntKind.bits] at h
  omega

theorem u32_bv {z : Int} (h : (Lit.int .u32 z).wf = true) : ∃ s : BitVec 32, z = (s.toNat : Int) := by
  have := wf_u32 h
  exact ⟨BitVec.ofNat 32 z.toNat, by rw [BitVec.toNat_ofNat]; omega⟩
theorem u64_bv {z : Int} (h : (Lit.int .u64 z).wf = true) : ∃ s : BitVec 64, z = (s.toNat : Int) := by
  have := wf_u64 h
  exact ⟨BitVec.ofNat 64 z.toNat, by rw [BitVec.toNat_ofNat]; omega⟩
theorem i64_bv {z : Int} (h : (Lit.int .i64 z).wf = true) : ∃ b : BitVec 64, z = b.toInt := by
  have := wf_i64 h
  exact ⟨BitVec.ofInt 64 z, by rw [BitVec.toInt_ofInt]; simp only [Int.bmod]; omega⟩
theorem u32_of {z : Int} (h : (Lit.int .u32 z).wf = true) : ∃ k : Nat, z = (k : Int) ∧ k < 4294967296 := by
  have := wf_u32 h
  exact ⟨z.toNat, by omega, by omega⟩
theorem u8_of {z : Int} (h : (Lit.int .u8 z).wf = true) : ∃ s : UInt8, z = (s.toNat : Int) := by
  have := wf_u8 h
  exact ⟨toU8 z, by unfold toU8; rw [UInt8.toNat_ofNat']; omega⟩
theorem u8v_toU8 {z : Int} (h : (Lit.int .u8 z).wf = true) : u8v (toU8 z) = .int .u8 z := by
  have := wf_u8 h
  unfold u8v toU8
  rw [UInt8.toNat_ofNat']
  congr 1
  omega

/-- cells that are read at an address are a row -/
theorem row_of_cells {a : Addr} {n : Nat} {xs : List Value} (hl : xs.length = n) (h : ∀ i u, xs[i]? = some u → W.cell? (a.add i) = some u) : Row W (some a) n xs := by
  refine ⟨hl, fun hn => ?_⟩
  have hx : xs[0]? = some xs[0] := List.getElem?_eq_getElem (by omega)
  have h0 := h 0 _ hx
  obtain ⟨b, off, spot⟩ := a
  have hs : spot = none := by simpa [Addr.add] using World.cell?_spot h0
  subst hs
  refine ⟨b, off, rfl, fun j u hu => ?_⟩
  have := h j u hu
  by_cases hj : j = 0
  · subst hj; simpa [Addr.add] using this
  · simpa [Addr.add, hj] using this

theorem bytes_of_ints {a : Addr} {len cap : Nat} {zs : List Int} (hl : len ≤ cap) (hz : zs.length = cap) (hcell : ∀ i, i < zs.length → W.cell? (a.add i) = some (.int .u8 (zs.getD i 0))) (hwz : ∀ n ∈ zs, (Lit.int .u8 n).wf = true) :
    Bytes W (some a) len ((zs.take len).map toU8) := by
  refine row_of_cells (by simp [u8s]; omega) fun i u hu => ?_
  simp only [u8s, List.map_map, List.getElem?_map, Option.map_eq_some_iff] at hu
  obtain ⟨z, hz', rfl⟩ := hu
  rw [List.getElem?_take] at hz'
  split at hz'
  · rename_i hi
    have hil : i < zs.length := by omega
    rw [List.getElem?_eq_getElem hil, Option.some.injEq] at hz'
    have hm : z ∈ zs := hz' ▸ List.getElem_mem hil
    rw [hcell i hil]
    simp only [Function.comp, u8v_toU8 (hwz z hm)]
    simp [List.getD_eq_getElem?_getD, List.getElem?_eq_getElem hil, hz']
  · cases hz'

theorem open_bytes {t e : TypeId} {v : Value} {d : DataW H} {p : List MemPlace} {base : Nat} (ht : P.underlying t = some (.slice e)) (he : P.underlying e = some (.int .u8)) (hc : P.cellsOf e = 1)
    (hok : Value.okWide P W .any base t v) (h : DataW.Trod enc P W 0 (fun _ => true) true t v d p) : ∃ A n c l, v = .slice A n c ∧ n ≤ c ∧ c ≤ maxLen ∧ Bytes W A n l := by
  obtain ⟨a, len, cap, rfl⟩ := okWide_slice ht hok
  obtain ⟨fuel, hf⟩ := h
  rcases open_ints ht he hc hf with ⟨hcs, _⟩ | ⟨x, l, c, zs, hcs, _, hl, hm, hz, _, hcell, hwz⟩
  · simp [Value.cells] at hcs
    obtain ⟨rfl, rfl, rfl⟩ := hcs
    exact ⟨none, 0, 0, [], rfl, Nat.le_refl _, Nat.zero_le _, Row.nil _ _⟩
  · simp [Value.cells] at hcs
    obtain ⟨rfl, rfl, rfl⟩ := hcs
    exact ⟨_, _, _, _, rfl, hl, hm, bytes_of_ints hl (by simpa using hz) hcell hwz⟩

theorem open_parts {t e q : TypeId} {v : Value} {d : DataW H} {p : List MemPlace} {base : Nat} (ht : P.underlying t = some (.slice e)) (he : P.underlying e = some (.slice q)) (hq : P.underlying q = some (.int .u8)) (ce : P.cellsOf e = 1) (cq : P.cellsOf q = 1)
    (hok : Value.okWide P W .any base t v) (h : DataW.Trod enc P W 0 (fun _ => true) true t v d p) : ∃ A n c ls, v = .slice A n c ∧ n ≤ c ∧ c ≤ maxLen ∧ Parts W A n ls := by
  obtain ⟨a, len, cap, rfl⟩ := okWide_slice ht hok
  obtain ⟨fuel, hf⟩ := h
  rcases Deep.open_int_rows ht he hq ce cq hf with ⟨hcs, _⟩ | ⟨x, l, c, A, L, C, Z, hcs, _, hl, hm, _, hr⟩
  · simp [Value.cells] at hcs
    obtain ⟨rfl, rfl, rfl⟩ := hcs
    exact ⟨none, 0, 0, [], rfl, Nat.le_refl _, Nat.zero_le _, Parts.nil _ _⟩
  · simp [Value.cells] at hcs
    obtain ⟨rfl, rfl, rfl⟩ := hcs
    refine ⟨_, _, _, (List.range len).map fun r => ((Z r).take (L r)).map toU8, rfl, hl, hm, (List.range len).map fun r => Value.slice (A r) (L r) (C r), ?_, by simp, ?_⟩
    · refine row_of_cells (by simp) fun i u hu => ?_
      simp only [List.getElem?_map, Option.map_eq_some_iff] at hu
      obtain ⟨r, hr', rfl⟩ := hu
      obtain ⟨hi, rfl⟩ := List.getElem?_eq_some_iff.1 hr'
      simp only [List.length_range] at hi
      rw [List.getElem_range]
      exact (hr i (by omega)).1
    · intro j v l' hv hl'
      simp only [List.getElem?_map, Option.map_eq_some_iff] at hv hl'
      obtain ⟨r, hr', rfl⟩ := hv
      obtain ⟨r2, hr2, rfl⟩ := hl'
      rw [hr'] at hr2
      obtain rfl := Option.some.inj hr2
      obtain ⟨hi, rfl⟩ := List.getElem?_eq_some_iff.1 hr'
      simp only [List.length_range] at hi
      rw [List.getElem_range]
      obtain ⟨h1, h2, h3, h4, h5, h6, h7⟩ := hr j (by omega)
      refine ⟨_, _, _, rfl, h2, h3, ?_⟩
      cases hA : A j with
      | none =>
        have := h6 hA
        have h0 : L j = 0 := by omega
        rw [h0]; simpa [Bytes, u8s] using Row.nil W none
      | some a' =>
        refine bytes_of_ints (cap := C j) h2 h4 (fun i hi => (h7 a' hA).2 i (by omega)) h5
end
end Go.Kit
