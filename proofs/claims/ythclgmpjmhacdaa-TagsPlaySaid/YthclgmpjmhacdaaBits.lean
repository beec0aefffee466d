/- Bits of the model's integers, as BitVec's. -/
import Derived.Test.YthclgmpjmhacdaaKit
namespace Go.Kit
open Go

theorem xor32 {a b : Int} {x y : BitVec 32} (ha : a = x.toNat) (hb : b = y.toNat) : bits .xor .u32 a b = ((x ^^^ y).toNat : Int) := by
  subst ha; subst hb
  rw [u32_xor_nat _ _ x.isLt y.isLt, BitVec.toNat_xor]
theorem xor8 {a b : Int} {x y : BitVec 8} (ha : a = x.toNat) (hb : b = y.toNat) : bits .xor .u8 a b = ((x ^^^ y).toNat : Int) := by
  subst ha; subst hb
  rw [u8_xor_nat _ _ x.isLt y.isLt, BitVec.toNat_xor]
theorem xor64 {a b : Int} {x y : BitVec 64} (ha : a = x.toNat) (hb : b = y.toNat) : bits .xor .u64 a b = ((x ^^^ y).toNat : Int) := by
  subst ha; subst hb
  rw [u64_xor_nat _ _ x.isLt y.isLt, BitVec.toNat_xor]
theorem or64 {a b : Int} {x y : BitVec 64} (ha : a = x.toNat) (hb : b = y.toNat) : bits .or .u64 a b = ((x ||| y).toNat : Int) := by
  subst ha; subst hb
  rw [u64_or_nat _ _ x.isLt y.isLt, BitVec.toNat_or]
theorem and64 {a b : Int} {x y : BitVec 64} (ha : a = x.toNat) (hb : b = y.toNat) : bits .and .u64 a b = ((x &&& y).toNat : Int) := by
  subst ha; subst hb
  rw [u64_and_nat _ _ x.isLt y.isLt, BitVec.toNat_and]
theorem and32 {a b : Int} {x y : BitVec 32} (ha : a = x.toNat) (hb : b = y.toNat) : bits .and .u32 a b = ((x &&& y).toNat : Int) := by
  subst ha; subst hb
  rw [u32_and_nat _ _ x.isLt y.isLt, BitVec.toNat_and]
theorem or32 {a b : Int} {x y : BitVec 32} (ha : a = x.toNat) (hb : b = y.toNat) : bits .or .u32 a b = ((x ||| y).toNat : Int) := by
  subst ha; subst hb
  rw [u32_or_nat _ _ x.isLt y.isLt, BitVec.toNat_or]
theorem not32 {b : Int} {y : BitVec 32} (hb : b = y.toNat) : bits .xor .u32 IntKind.u32.max b = ((~~~ y).toNat : Int) := by
  have h : IntKind.u32.max = ((4294967295#32).toNat : Int) := by decide
  rw [xor32 h hb]
  rw [show (4294967295#32) = BitVec.allOnes 32 from by decide, BitVec.allOnes_xor]
theorem shl32 (x : BitVec 32) (k : Nat) : ((x <<< k).toNat : Int) = (x.toNat : Int) * 2 ^ k % 4294967296 := by
  rw [BitVec.toNat_shiftLeft, Nat.shiftLeft_eq, Int.natCast_emod, Int.natCast_mul, Int.natCast_pow]; rfl
theorem shr32 (x : BitVec 32) (k : Nat) : ((x >>> k).toNat : Int) = (x.toNat : Int) / 2 ^ k := by
  rw [BitVec.toNat_ushiftRight, Nat.shiftRight_eq_div_pow, Int.natCast_ediv, Int.natCast_pow]; rfl
theorem shl64 (x : BitVec 64) (k : Nat) : ((x <<< k).toNat : Int) = (x.toNat : Int) * 2 ^ k % 18446744073709551616 := by
  rw [BitVec.toNat_shiftLeft, Nat.shiftLeft_eq, Int.natCast_emod, Int.natCast_mul, Int.natCast_pow]; rfl
theorem shr64 (x : BitVec 64) (k : Nat) : ((x >>> k).toNat : Int) = (x.toNat : Int) / 2 ^ k := by
  rw [BitVec.toNat_ushiftRight, Nat.shiftRight_eq_div_pow, Int.natCast_ediv, Int.natCast_pow]; rfl
end Go.Kit
