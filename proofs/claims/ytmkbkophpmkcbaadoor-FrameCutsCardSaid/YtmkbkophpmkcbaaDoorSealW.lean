/- The walks of seals. -/
import Derived.Test.YtmkbkophpmkcbaaDoorSeal
import Derived.Test.YtmkbkophpmkcbaaDoorCrcL
import Derived.Test.YtmkbkophpmkcbaaDoorClone
namespace Go.Proofs.YtmkbkophpmkcbaaDoor.slW
open Go Go.RowKit Go.Par Go.Kit Go.Proofs.YtmkbkophpmkcbaaDoor.cl Go.Proofs.YtmkbkophpmkcbaaDoor.crcW

/-- the four bytes of a sum -/
def four8 (n : BitVec 32) : List UInt8 := [⟨(n >>> 24).setWidth 8⟩, ⟨(n >>> 16).setWidth 8⟩, ⟨(n >>> 8).setWidth 8⟩, ⟨n.setWidth 8⟩]
theorem four8_len (n : BitVec 32) : (four8 n).length = 4 := rfl
theorem four8_bv (n : BitVec 32) : bv (four8 n) = Sea.four4 n := rfl
def seal8 (l : List UInt8) : List UInt8 := l ++ four8 (sum [l])
theorem seal8_bv (l : List UInt8) : bv (seal8 l) = Sea.sealed (bv l) := by
  unfold seal8 Sea.sealed
  rw [sum_one, ← four8_bv]; simp [bv]
theorem seal8_len (l : List UInt8) : (seal8 l).length = l.length + 4 := by simp [seal8, four8_len]

theorem four8_vals (S : BitVec 32) : u8s (four8 S) = [.int .u8 ((S.toNat : Int) / 16777216), .int .u8 ((S.toNat : Int) / 65536 % 256), .int .u8 ((S.toNat : Int) / 256 % 256), .int .u8 ((S.toNat : Int) % 256)] := by
  have h := S.isLt
  have e1 : (((S >>> 24).setWidth 8).toNat : Int) = (S.toNat : Int) / 16777216 := by simp [BitVec.toNat_setWidth, Nat.shiftRight_eq_div_pow]; omega
  have e2 : (((S >>> 16).setWidth 8).toNat : Int) = (S.toNat : Int) / 65536 % 256 := by simp [BitVec.toNat_setWidth, Nat.shiftRight_eq_div_pow]
  have e3 : (((S >>> 8).setWidth 8).toNat : Int) = (S.toNat : Int) / 256 % 256 := by simp [BitVec.toNat_setWidth, Nat.shiftRight_eq_div_pow]
  have e4 : ((S.setWidth 8).toNat : Int) = (S.toNat : Int) % 256 := by simp [BitVec.toNat_setWidth]
  rw [← e1, ← e2, ← e3, ← e4]
  rfl
theorem four8_new (S : BitVec 32) (w : World) (t : TypeId) {g : Nat} (hg : g = w.heap.size) : Bytes (w.alloc (.cells #[.int .u8 ((S.toNat : Int) / 16777216), .int .u8 ((S.toNat : Int) / 65536 % 256), .int .u8 ((S.toNat : Int) / 256 % 256), .int .u8 ((S.toNat : Int) % 256)] t)) (some ⟨g, 0, none⟩) 4 (four8 S) :=
  Bytes.new w (four8 S) _ _ hg (by rw [four8_vals]) rfl

set_option maxHeartbeats 400000 in
theorem seal_any (A : Option Addr) (n c : Nat) (l : List UInt8) (w : World) (hb : Bytes w A n l) (hc : n ≤ c) (hm : c ≤ maxLen) (hn : n ≤ 100000) (ht : Tab w) :
    Calls Tryd.prog 23 #[.slice A n c] w fun e w' => ∃ v, e = .returned v ∧ w'.ownsRow w.heap.size 5 1 v (l.length + 4) (u8s (seal8 l)) ∧ Grow w w' := by
  have hlen := hb.len
  obtain ⟨S, hS⟩ : ∃ S, sum [l] = S := ⟨_, rfl⟩
  unfold seal8
  have hsum := sum_as hS
  rw [hS]
  have HSU := Lib.hid hsum
  have HL := Lib.hid hlen
  have HP : Hid (Parts (w.alloc (.cells #[.slice A n c] 25)) (some ⟨w.heap.size, 0, none⟩) 1 [l]) := Lib.hid (Parts.one _ _ (by simp) (Sl.mk hb hc hm))
  have T1 := Lib.hid (ht.grow (Grow.alloc w (.cells #[.slice A n c] 25)))
  clear hS hsum hlen
  go_enter Tryd.func23, Tryd.ntmps23
  go_wp2_with fail
  refine (HSU.out _ _ _ _ HP.out (by decide) T1.out).mono ?_
  rintro e w1 ⟨rfl, rfl⟩
  go_wp2_with fail
  have HCL := Lib.hid (clone_any A n c l _ (hb.grow (Grow.alloc w (.cells #[.slice A n c] 25))) (by omega))
  refine HCL.out.mono ?_
  rintro e w2 ⟨v2, rfl, ho2, hg2⟩
  obtain ⟨A2, c2, rfl, -, -, a2⟩ := own_form ho2
  have HO := Lib.hid ho2
  have HG := Lib.hid hg2
  clear ho2 hg2 a2 HSU HP
  have HF := Lib.hid (four8_new S w2 5 rfl)
  have HGA := Lib.hid (Grow.alloc w2 (.cells #[.int .u8 ((S.toNat : Int) / 16777216), .int .u8 ((S.toNat : Int) / 65536 % 256), .int .u8 ((S.toNat : Int) / 256 % 256), .int .u8 ((S.toNat : Int) % 256)] 5))
  obtain ⟨B, hB⟩ : ∃ B, B = w.heap.size := ⟨_, rfl⟩
  have HB := Lib.hid hB
  clear hB
  have HG0 : Hid (Grow w w2) := Lib.hid ((Grow.alloc w _).trans HG.out)
  have hsz : B ≤ (w2.alloc (.cells #[.int .u8 ((S.toNat : Int) / 16777216), .int .u8 ((S.toNat : Int) / 65536 % 256), .int .u8 ((S.toNat : Int) / 256 % 256), .int .u8 ((S.toNat : Int) % 256)] 5)).heap.size := by
    rw [HB.out]; exact (HG0.out.trans HGA.out).size
  have HO2 := Lib.hid (own_lower (base' := B) (own_grow HO.out HGA.out) (by rw [HB.out]; simp))
  have hl4 : l.length + 4 ≤ 140737488355328 := by have := HL.out; omega
  clear HO
  go_wp2_with (at_builtin; refine append_bytes Tryd.underlying25 i8 i8z i8s i8b rfl _ _ rfl B _ l.length l HO2.out rfl _ 4 4 (four8 S) HF.out rfl hl4 hsz ?_; intro v3 w3 hown3 hgb3 hh3; obtain ⟨A3, c3, rfl, -, -, -⟩ := own_form hown3)
  go_ret
  rw [HB.out] at hown3
  exact ⟨_, rfl, hown3, grow_by (HG0.out.trans HGA.out) hgb3 (by rw [← HB.out]; exact own_base HO2.out)⟩

/-! the document's -/
set_option maxHeartbeats 400000 in
theorem four_any (S : BitVec 32) (w : World) :
    Calls Tryd.prog 35 #[.int .u32 (S.toNat : Int)] w fun e w' => ∃ g, e = .returned (.slice (some ⟨g, 0, none⟩) 4 4) ∧ Bytes w' (some ⟨g, 0, none⟩) 4 (four8 S) ∧ Grow w w' := by
  have h := S.isLt
  have HF := Lib.hid (four8_new S w 5 rfl)
  go_enter Tryd.func35, Tryd.ntmps35
  go_wp2_with fail
  go_ret
  exact ⟨_, rfl, HF.out, Grow.alloc _ _⟩

set_option maxHeartbeats 400000 in
theorem ref_seal_any (A : Option Addr) (n c : Nat) (l : List UInt8) (w : World) (hb : Bytes w A n l) (hn : n ≤ 100000) :
    Calls Tryd.prog 24 #[.slice A n c] w fun e w' => ∃ v, e = .returned v ∧ w'.ownsRow w.heap.size 5 1 v (l.length + 4) (u8s (seal8 l)) ∧ Grow w w' := by
  have hlen := hb.len
  obtain ⟨S, hS⟩ : ∃ S, sum [l] = S := ⟨_, rfl⟩
  unfold seal8
  have hmo := ref_more_as (s := 0#32) (l := l) (S := S) (by rw [← hS, sum_one])
  rw [show ((0#32).toNat : Int) = 0 from rfl] at hmo
  rw [hS]
  have HMO := Lib.hid hmo
  have HL := Lib.hid hlen
  clear hS hmo hlen
  go_enter Tryd.func24, Tryd.ntmps24
  go_wp2_with (at_builtin; refine append_bytes Tryd.underlying25 i8 i8z i8s i8b rfl _ _ rfl w.heap.size _ 0 [] (own_none w _ _) rfl A n c l hb rfl ?_ ?_ ?_; omega; omega; intro v1 w1 hown1 hgb1 hh1; obtain ⟨A1, c1, rfl, -, -, -⟩ := own_form hown1)
  rw [Nat.zero_add, List.nil_append] at hown1
  have hg1 : Grow w w1 := grow_by (Grow.refl w) hgb1 (own_base (own_none w w.heap.size 5))
  refine (HMO.out A n c w1 (hb.grow hg1) (by unfold maxLen; omega)).mono ?_
  rintro e w1' ⟨rfl, rfl⟩
  go_wp2_with fail
  refine (four_any S w1).mono ?_
  rintro e w2 ⟨g2, rfl, hf2, hg2⟩
  have HO1 := Lib.hid (own_grow hown1 hg2)
  have HF := Lib.hid hf2
  have HG2 := Lib.hid (hg1.trans hg2)
  have hsz : w.heap.size ≤ w2.heap.size := HG2.out.size
  have hl4 : n + 4 ≤ 140737488355328 := by omega
  clear hown1 hgb1 hh1 hf2 hg2 hg1
  go_wp2_with (at_builtin; refine append_bytes Tryd.underlying25 i8 i8z i8s i8b rfl _ _ rfl w.heap.size _ n l HO1.out rfl _ 4 4 (four8 S) HF.out rfl hl4 hsz ?_; intro v3 w3 hown3 hgb3 hh3; obtain ⟨A3, c3, rfl, -, -, -⟩ := own_form hown3)
  go_ret
  exact ⟨_, rfl, by rw [HL.out]; exact hown3, grow_by HG2.out hgb3 (own_base HO1.out)⟩
end Go.Proofs.YtmkbkophpmkcbaaDoor.slW
