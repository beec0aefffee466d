/- The walks of seals: Open. -/
import Derived.Test.YtmkbkophpmkcbaaDoorSealW
namespace Go.Proofs.YtmkbkophpmkcbaaDoor.slW
open Go Go.RowKit Go.Par Go.Kit Go.Proofs.YtmkbkophpmkcbaaDoor.cl Go.Proofs.YtmkbkophpmkcbaaDoor.crcW

def open8 (l : List UInt8) : List UInt8 × Nat := if l.length < 4 then ([], 2) else if Sea.join4 (bv (l.drop (l.length - 4))) = sum [l.take (l.length - 4)] then (l.take (l.length - 4), 0) else ([], 5)
theorem open8_bv (l : List UInt8) : (bv (open8 l).1, (open8 l).2) = Sea.opened (bv l) := by
  have hl : (bv l).length = l.length := by simp [bv]
  have hd : ∀ k, (bv l).drop k = bv (l.drop k) := fun k => by simp [bv]
  have ht : ∀ k, (bv l).take k = bv (l.take k) := fun k => by simp [bv]
  unfold open8 Sea.opened
  rw [hl, hd, ht, sum_one]
  split
  · rfl
  · split
    · rfl
    · rfl
theorem or_eq {r r' : BitVec 32} {x : UInt8} (h : r' = Sea.join1 r x.toBitVec) : bits .or .u32 ((r.toNat : Int) * 256 % 4294967296) (x.toNat : Int) = (r'.toNat : Int) := by
  rw [h]
  refine or32 (by rw [shl32]; rfl) ?_
  have := x.toNat_lt
  simp [BitVec.toNat_setWidth]
theorem join_snoc (l : List UInt8) (k : Nat) (x : UInt8) (hx : l[k]? = some x) : Sea.join4 (bv (l.take (k + 1))) = Sea.join1 (Sea.join4 (bv (l.take k))) x.toBitVec := by
  rw [List.take_add_one, hx]
  simp [Sea.join4, bv, List.foldl_append]

set_option maxHeartbeats 400000 in
theorem open_any (A : Option Addr) (n c : Nat) (l : List UInt8) (w : World) (hb : Bytes w A n l) (hc : n ≤ c) (hm : c ≤ maxLen) (hn : n ≤ 100000) (ht : Tab w) :
    Calls Tryd.prog 21 #[.slice A n c] w fun e w' => ∃ v, e = .returned (.tuple #[v, .int .i64 ((open8 l).2 : Int)]) ∧ w'.ownsRow w.heap.size 5 1 v (open8 l).1.length (u8s (open8 l).1) ∧ Grow w w' := by
  have hlen := hb.len
  by_cases h4 : n < 4
  · have ho : open8 l = ([], 2) := by unfold open8; rw [if_pos (by omega)]
    rw [ho]
    have d1 : decide ((n : Int) - 4 < 0) = true := decide_eq_true (by omega)
    clear ho hlen
    go_enter Tryd.func21, Tryd.ntmps21
    go_wp2_with fail
    go_ret2
    exact ⟨_, rfl, own_none _ _ _, Grow.refl _⟩
  · obtain ⟨k, hk⟩ : ∃ k, k = n - 4 := ⟨_, rfl⟩
    have hkn : k ≤ n := by omega
    have e4 : n - k = 4 := by omega
    have hsub : (n : Int) - 4 = (k : Int) := by omega
    have hbd := hb.cut hkn hc
    have hbt := hb.take hkn
    rw [e4] at hbd
    obtain ⟨S, hS⟩ : ∃ S, sum [l.take k] = S := ⟨_, rfl⟩
    obtain ⟨J, hJ⟩ : ∃ J, Sea.join4 (bv (l.drop k)) = J := ⟨_, rfl⟩
    have ho : open8 l = if J = S then (l.take k, 0) else ([], 5) := by
      unfold open8
      rw [if_neg (by omega), hlen, ← hk, hS, hJ]
    have hdl : (l.drop k).length = 4 := hbd.len
    have HO := Lib.hid ho
    have HJ := Lib.hid hJ
    have HSU := Lib.hid (sum_as hS)
    obtain ⟨D, hD⟩ : ∃ D, D = cutAt A c k := ⟨_, rfl⟩
    obtain ⟨d, hd⟩ : ∃ d, d = l.drop k := ⟨_, rfl⟩
    have hs1 := slice_lo (P := Tryd.prog) Tryd.underlying25 i8 i8s A n c k hkn
    have hs2 := slice_hi (P := Tryd.prog) Tryd.underlying25 i8 A n c k (by omega)
    rw [e4, ← hD] at hs1
    rw [← hD, ← hd] at hbd
    rw [← hd] at hJ hdl
    have HJ2 := Lib.hid hJ
    have HDL := Lib.hid hdl
    have HP : Hid (Parts (w.alloc (.cells #[.slice A k c] 25)) (some ⟨w.heap.size, 0, none⟩) 1 [l.take k]) := Lib.hid (Parts.one _ _ (by simp) (Sl.mk hbt (by omega) hm))
    have T1 := Lib.hid (ht.grow (Grow.alloc w (.cells #[.slice A k c] 25)))
    have HG1 := Lib.hid (Grow.alloc w (.cells #[.slice A k c] 25))
    have HBT := Lib.hid (hbt.grow HG1.out)
    have HL := Lib.hid hlen
    clear hlen hk e4 hS hJ ho hdl hD hd HJ hbt
    go_enter Tryd.func21, Tryd.ntmps21
    go_wp2_with fail
    go_loop [5, 17] (fun r i => ∃ j : Nat, j ≤ 4 ∧ i = .int .i64 (j : Int) ∧ r = .int .u32 ((Sea.join4 (bv (d.take j))).toNat : Int)) (fun _ i => 4 - (intOf i).toNat)
    case atStart => exact ⟨0, by omega, rfl, rfl⟩
    case round =>
      obtain ⟨j, hj, rfl, rfl⟩ := hrel
      by_cases hlt : j < 4
      · obtain ⟨b, off, x, hDe, hx, hcell⟩ := hbd.at_ hlt
        subst hDe
        have hsn := join_snoc d j x hx
        generalize Sea.join4 (bv (d.take j)) = r at hsn ⊢
        obtain ⟨r1, h1⟩ : ∃ r1, r1 = Sea.join1 r x.toBitVec := ⟨_, rfl⟩
        rw [← h1] at hsn
        have HS := Lib.hid hsn
        have e1 := or_eq h1
        have hxlt := x.toNat_lt
        have hrlt := r.isLt
        clear h1 hsn hx
        go_wp2_with fail
        go_round
        case rel => exact ⟨j + 1, by omega, by go_num, by rw [HS.out]⟩
        case measure => simp [intOf] <;> omega
      · obtain rfl : j = 4 := by omega
        have hk' : d.take 4 = d := List.take_of_length_le (by have := HDL.out; omega)
        rw [hk', HJ2.out]
        clear hk'
        by_cases hJS : J = S
        · subst hJS
          have hoe : open8 l = (l.take k, 0) := by rw [HO.out, if_pos rfl]
          have HOE := Lib.hid hoe
          have hkl : (l.take k).length = k := by rw [List.length_take]; have := HL.out; omega
          have HKL := Lib.hid hkl
          clear hoe hkl HO
          go_wp2_with fail
          refine (HSU.out _ _ _ _ HP.out (by decide) T1.out).mono ?_
          rintro e w1 ⟨rfl, rfl⟩
          go_wp2_with fail
          have HCL := Lib.hid (clone_any A k c (l.take k) _ HBT.out (by omega))
          refine HCL.out.mono ?_
          rintro e w2 ⟨v2, rfl, ho2, hg2⟩
          rw [HKL.out] at ho2
          obtain ⟨A2, c2, rfl, -, -, -⟩ := own_form ho2
          have HO2 := Lib.hid (own_lower (base' := w.heap.size) ho2 HG1.out.size)
          have HG2 := Lib.hid (HG1.out.trans hg2)
          clear ho2 hg2
          go_wp2_with fail
          go_ret2
          rw [HOE.out]
          exact ⟨_, rfl, by show World.ownsRow _ _ _ _ _ (l.take k).length _; rw [HKL.out]; exact HO2.out, HG2.out⟩
        · have t1 : ((J.toNat : Int) == (S.toNat : Int)) = false := beq_false_of_ne (fun h => hJS (BitVec.eq_of_toNat_eq (by omega)))
          have t2 : (J.toNat == S.toNat) = false := beq_false_of_ne (fun h => hJS (BitVec.eq_of_toNat_eq h))
          have t3 : ¬ (J.toNat = S.toNat) := fun h => hJS (BitVec.eq_of_toNat_eq h)
          have hoe : open8 l = ([], 5) := by rw [HO.out, if_neg hJS]
          have HOE := Lib.hid hoe
          clear hoe HO hJS
          go_wp2_with fail
          refine (HSU.out _ _ _ _ HP.out (by decide) T1.out).mono ?_
          rintro e w1 ⟨rfl, rfl⟩
          go_wp2_with fail
          go_ret2
          rw [HOE.out]
          exact ⟨_, rfl, own_none _ _ _, HG1.out⟩
end Go.Proofs.YtmkbkophpmkcbaaDoor.slW
