/- string(b), make, and bits of 8, for any program. -/
import Derived.Test.YthclgmpjmhacdaaOwn
import Derived.Test.YthclgmpjmhacdaaBits
import Derived.Laws.BytesArg
import Derived.Laws.MakeOwn
namespace Go.Kit
open Go Go.RowKit Go.Par

def str (l : List UInt8) : ByteArray := ⟨l.toArray⟩
theorem str_inj {a b : List UInt8} (h : str a = str b) : a = b := by simpa [str] using h
theorem str_size (l : List UInt8) : (str l).size = l.length := by simp [str, ByteArray.size]
/-- 'string(b)' -/
theorem conv_str {P : Program} {src e dst : TypeId} (hs : P.underlying src = some (.slice e)) (he : P.underlying e = some (.int .u8)) (hd : P.underlying dst = some .string)
    {w : World} {A : Option Addr} {n : Nat} {l : List UInt8} (h : Bytes w A n l) (c : Nat) : (convert src dst (.slice A n c)).run P w = .ok (.string (str l)) w := by
  have hlen := h.len
  rcases Nat.eq_zero_or_pos n with h0 | h0
  · subst h0
    have : l = [] := List.eq_nil_of_length_eq_zero hlen
    subst this
    rw [run_convert_bytes_string w src dst e _ 0 c hs he hd]
    cases A <;> simp [Conv.bytesToString, loadCells]
    all_goals rfl
  · obtain ⟨b, off, rfl, hc⟩ := h.2 h0
    rw [run_convert_bytes_arg w src e hs he b off n c (l.map fun x => (x.toNat : Int)) (by simpa using hlen) (fun i hi => by
      have hi' : i < l.length := by omega
      rw [hc i (u8v l[i]) (by simp [u8s, List.getElem?_eq_getElem hi'])]
      simp [u8v, List.getD, List.getElem?_eq_getElem hi']) dst hd]
    simp [strOfNums, str, List.map_map, Function.comp_def]

theorem make_cap {P : Program} {t e : TypeId} {i : TypeInfo} {z : Value} (ht : P.underlying t = some (.slice e)) (hi : P.info? e = some i) (hz : i.zero = some z) (hs : i.size = 1) (hc1 : z.cells = #[z]) (c : Nat) (hb : i.bytes * c ≤ 281474976710656) (h63 : c ≤ 9223372036854775807) (w : World) :
    (Instr.makeSlice t (.int .i64 0) (.int .i64 (c : Int))).run P w = .ok (.slice (some ⟨w.heap.size, 0, none⟩) 0 c) (w.alloc (.cells (Array.replicate c z) e)) := by
  have hb' : (i.bytes : Int) * (c : Int) ≤ 281474976710656 := by
    have h : ((i.bytes * c : Nat) : Int) ≤ 281474976710656 := by omega
    rwa [Int.natCast_mul] at h
  have hr := run_make (P := P) w t e i z ht hi hz .i64 .i64 0 c (by omega) (by omega) hb' (by omega)
  rw [hr]
  simp only [Int.toNat_natCast, hs, Nat.mul_one, Int.toNat_zero]
  congr 3
  apply Array.ext_getElem?
  intro j
  simp only [madeCells, hc1]
  by_cases hj : j < c <;> simp [hj, Nat.mod_one]
theorem own_made {w : World} {base g : Nat} (hg : g = w.heap.size) (hb : base ≤ w.heap.size) (e : TypeId) (z : Value) (c : Nat) (hc : c ≤ maxLen) :
    (w.alloc (.cells (Array.replicate c z) e)).ownsRow base e 1 (.slice (some ⟨g, 0, none⟩) 0 c) 0 [] := by
  subst hg
  exact ⟨rfl, .inr ⟨_, c, Array.replicate c z, rfl, hb, heap_alloc_new w _, Nat.zero_le _, hc, by simp, by simp⟩⟩

theorem or8 {a b : Int} {x y : BitVec 8} (ha : a = x.toNat) (hb : b = y.toNat) : bits .or .u8 a b = ((x ||| y).toNat : Int) := by
  subst ha; subst hb
  rw [u8_or_nat _ _ x.isLt y.isLt, BitVec.toNat_or]
theorem and8 {a b : Int} {x y : BitVec 8} (ha : a = x.toNat) (hb : b = y.toNat) : bits .and .u8 a b = ((x &&& y).toNat : Int) := by
  subst ha; subst hb
  rw [u8_and_nat _ _ x.isLt y.isLt, BitVec.toNat_and]
theorem or_top {a : Int} (m : Nat) (ha : a = (m : Int) % 256) : bits .or .u8 a 128 = ((m % 128 + 128 : Nat) : Int) := by
  have h : ∀ x : BitVec 8, (x ||| 128#8).toNat = x.toNat % 128 + 128 := by decide
  rw [or8 (b := 128) (x := BitVec.ofNat 8 m) (y := 128#8) (by rw [ha, BitVec.toNat_ofNat]; omega) rfl, h, BitVec.toNat_ofNat]
  omega
theorem and_low (x : UInt8) : bits .and .u8 (x.toNat : Int) 127 = ((x.toNat % 128 : Nat) : Int) := by
  have h : ∀ x : BitVec 8, (x &&& 127#8).toNat = x.toNat % 128 := by decide
  rw [and8 (a := (x.toNat : Int)) (b := 127) (x := x.toBitVec) (y := 127#8) rfl rfl, h]
  rfl
/-- a number's upper part, moved up and joined to its lower part -/
theorem join_up {a k y : Nat} (ha : a < 2 ^ k) (hk : k ≤ 63) : bits .or .u64 (a : Int) (((y * 2 ^ k % 18446744073709551616 : Nat)) : Int) = (((a + 2 ^ k * y) % 18446744073709551616 : Nat) : Int) := by
  have hp : 2 ^ k * 2 ^ (64 - k) = 18446744073709551616 := by rw [← Nat.pow_add, show k + (64 - k) = 64 by omega]
  have h63 : 2 ^ k ≤ 2 ^ 63 := Nat.pow_le_pow_right (by decide) hk
  have e1 : y * 2 ^ k % 18446744073709551616 = 2 ^ k * (y % 2 ^ (64 - k)) := by
    rw [← hp, Nat.mul_comm y, Nat.mul_mod_mul_left]
  have hy : y % 2 ^ (64 - k) + 1 ≤ 2 ^ (64 - k) := Nat.mod_lt _ (Nat.pow_pos (by decide))
  have hm : 2 ^ k * (y % 2 ^ (64 - k)) + 2 ^ k ≤ 18446744073709551616 := by
    have := Nat.mul_le_mul_left (2 ^ k) hy
    rw [hp, Nat.mul_add, Nat.mul_one] at this
    exact this
  have e2 : (a + 2 ^ k * y) % 18446744073709551616 = 2 ^ k * (y % 2 ^ (64 - k)) + a := by
    rw [Nat.add_mod, Nat.mul_comm (2 ^ k) y, e1, Nat.mod_eq_of_lt (a := a) (by omega), Nat.mod_eq_of_lt (by omega)]
    omega
  rw [u64_or_nat _ _ (by omega) (by omega), e1, e2, Nat.or_comm, Nat.two_pow_add_eq_or_of_lt ha]
theorem run_min2 {P : Program} (ts : Array TypeId) (t : TypeId) (a b m : Nat) (hm : m = min a b) (w : World) :
    (Builtin.min_ ts t #[.int .i64 (a : Int), .int .i64 (b : Int)]).run P w = .ok (.int .i64 (m : Int)) w := by
  subst hm
  simp [Builtin.min_, Builtin.min2]
  omega
end Go.Kit
