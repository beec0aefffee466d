/- The walks of the document's bits: Bits, Num, and what is made of them. -/
import Derived.Test.YtgpcijpadelcfaaBtW3
import Derived.Test.YtgpcijpadelcfaaOwn
namespace Go.Proofs.Ytgpcijpadelcfaa.btW
open Go Go.RowKit Go.Par Go.Kit

theorem infob : (Try.prog.info? 4).isSome = true := by kernel_rfl
theorem ib : Try.prog.info? 4 = some ((Try.prog.info? 4).get infob) := by simp
theorem ibs : ((Try.prog.info? 4).get infob).size = 1 := by kernel_rfl
theorem ibz : ((Try.prog.info? 4).get infob).zero = some (.bool false) := by kernel_rfl
theorem ibb : ((Try.prog.info? 4).get infob).bytes = 1 := by kernel_rfl

theorem bits_snoc (x : BitVec 64) (k : Nat) (h : k < 64) : (Bt.bitsOf x).take (k + 1) = (Bt.bitsOf x).take k ++ [x.getLsbD k] := by
  rw [List.take_succ_eq_append_getElem (by rw [Bt.bitsOf_len]; exact h)]
  congr 2
  simp [Bt.bitsOf]
theorem bit_rem (x : BitVec 64) (k : Nat) : (((x >>> k).toNat : Int) % 2 == 1) = x.getLsbD k := by
  have h : ((x >>> k) &&& 1#64).toNat = (x >>> k).toNat % 2 := by rw [BitVec.toNat_and]; exact Nat.and_two_pow_sub_one_eq_mod _ 1
  rw [BitVec.and_one_eq_setWidth_ofBool_getLsbD] at h
  have e : (x >>> k).getLsbD 0 = x.getLsbD k := by simp
  rw [e] at h
  cases hb : x.getLsbD k
  · rw [hb] at h
    have : (x >>> k).toNat % 2 = 0 := by rw [← h]; rfl
    rw [beq_eq_false_iff_ne]; omega
  · rw [hb] at h
    have : (x >>> k).toNat % 2 = 1 := by rw [← h]; rfl
    rw [beq_iff_eq]; omega

set_option maxHeartbeats 400000 in
theorem ref_bits_any (x : BitVec 64) (w : World) : Calls Try.prog 60 #[.int .u64 (x.toNat : Int)] w fun e w' => ∃ v, e = .returned v ∧ OwnBools w' w.heap.size 4 v (Bt.bitsOf x) ∧ Grow w w' := by
  go_enter Try.func60, Try.ntmps60
  go_wp2_with fail
  go_loopw [0, 3, 4] (fun y v i wr => ∃ k : Nat, k ≤ 64 ∧ i = .int .i64 k ∧ y = .int .u64 ((x >>> k).toNat : Int) ∧ wr.ownsRow w.heap.size 4 1 v k (bools ((Bt.bitsOf x).take k)) ∧ Grow w wr) (fun _ _ i _ => 64 - (intOf i).toNat)
  case atStart => exact ⟨0, by omega, rfl, by simp, World.ownsRow_nil _ _ _ _, Grow.refl _⟩
  case round =>
    obtain ⟨k, hk, rfl, rfl, hown, hg⟩ := hrel
    by_cases hlt : k < 64
    · have hb := bit_rem x k
      have hsn := bits_snoc x k hlt
      have hsh := BitVec.shiftRight_add x k 1
      have e1 : ((x >>> k).toNat : Int) / 2 = ((x >>> (k + 1)).toNat : Int) := by rw [hsh]; exact (shr64 (x >>> k) 1).symm
      have hylt := (x >>> k).isLt
      generalize x.getLsbD k = b at hb hsn
      generalize hz : x >>> (k + 1) = z at e1
      generalize x >>> k = y at e1 hb hylt hsh ⊢
      have HZ := Lib.hid hz
      have HS := Lib.hid hsn
      have HG := Lib.hid hg
      have hsz := hg.size
      clear hz hsn hsh hg
      go_wp2_with (at_builtin; refine append_fresh 1 Try.underlying83 ib ibz ibs ibb rfl rfl _ _ rfl w.heap.size _ _ _ hown rfl rfl rfl ?_ ?_ ?_ ?_; (unfold maxLen; omega); omega; exact hsz; intro v1 w1 hown1 hgb1 hh1)
      go_roundw
      case rel =>
        refine ⟨k + 1, by omega, by go_num, by rw [HZ.out], ?_, grow_by (HG.out.trans (Grow.alloc wr _)) hgb1 (own_base hown)⟩
        rw [HS.out, ← bools_snoc]; exact hown1
      case measure => simp [intOf] <;> omega
    · obtain rfl : k = 64 := by omega
      go_wp2_with fail
      go_ret
      refine ⟨_, rfl, ?_, hg⟩
      have h64 : (Bt.bitsOf x).take 64 = Bt.bitsOf x := List.take_of_length_le (by rw [Bt.bitsOf_len]; omega)
      rw [h64] at hown
      unfold OwnBools
      rw [Bt.bitsOf_len]
      exact hown

theorem or_one (v : BitVec 64) : ((v <<< 1 ||| 1#64).toNat : Int) = ((v <<< 1).toNat : Int) + 1 := by
  have h : (v <<< 1).toNat % 2 = 0 := by
    rw [BitVec.toNat_shiftLeft, Nat.shiftLeft_eq]; omega
  rw [BitVec.toNat_or]
  have := nat_join 1 (v <<< 1).toNat 1 (by omega) (by omega)
  rw [show (1#64).toNat = 1 from rfl, this]
  omega
theorem num_drop (l : List Bool) (j : Nat) (h : j < l.length) : Bt.num (l.drop j) = Bt.num (l.drop (j + 1)) <<< 1 ||| Bt.one l[j] := by
  rw [List.drop_eq_getElem_cons h]; rfl

set_option maxHeartbeats 400000 in
theorem ref_num_any (A : Option Addr) (n c : Nat) (l : List Bool) (w : World) (hb : Bools w A n l) (hn : n ≤ maxLen) :
    Calls Try.prog 61 #[.slice A n c] w fun e w' => e = .returned (.int .u64 ((Bt.num l).toNat : Int)) ∧ w = w' := by
  unfold maxLen at hn
  have hlen := hb.len
  have HL := Lib.hid hlen
  clear hlen
  go_enter Try.func61, Try.ntmps61
  go_wp2
  go_loop [3, 4] (fun v i => ∃ j : Nat, j ≤ n ∧ i = .int .i64 ((j : Int) - 1) ∧ v = .int .u64 ((Bt.num (l.drop j)).toNat : Int)) (fun _ i => ((intOf i) + 1).toNat)
  case atStart => exact ⟨n, Nat.le_refl _, rfl, by rw [List.drop_eq_nil_of_le (by rw [HL.out]; omega)]; rfl⟩
  case round =>
    obtain ⟨j, hj, rfl, rfl⟩ := hrel
    by_cases h0 : 1 ≤ j
    · obtain ⟨k, rfl⟩ : ∃ k, j = k + 1 := ⟨j - 1, by omega⟩
      obtain ⟨b, off, x, rfl, hx, hcell⟩ := hb.at_ (k := k) (by omega)
      have hstep := num_drop l k (by rw [HL.out]; omega)
      have hxk : l[k]'(by rw [HL.out]; omega) = x := by
        have := List.getElem?_eq_getElem (l := l) (i := k) (by rw [HL.out]; omega)
        rw [this] at hx; exact Option.some.inj hx
      rw [hxk] at hstep
      generalize Bt.num (l.drop (k + 1)) = v at hstep ⊢
      obtain ⟨s, hs⟩ : ∃ s, s = v <<< 1 := ⟨_, rfl⟩
      have e1 : IntKind.u64.wrap ((v.toNat : Int) * 2) = (s.toNat : Int) := by rw [hs]; exact wshl v 1 2 rfl
      have ej : ((k + 1 : Nat) : Int) - 1 = (k : Int) := by omega
      rw [ej]
      cases x
      · have hst : Bt.num (l.drop k) = s := by rw [hstep, hs]; first | done | exact BitVec.or_zero
        have HST := Lib.hid hst
        clear hst hstep hs hx hxk ej
        go_wp2
        go_round
        case rel => exact ⟨k, by omega, rfl, by rw [HST.out]⟩
        case measure => simp [intOf] <;> omega
      · obtain ⟨t, ht⟩ : ∃ t, t = v <<< 1 ||| 1#64 := ⟨_, rfl⟩
        have hst : Bt.num (l.drop k) = t := by rw [hstep, ht]; rfl
        have hor := or_one v
        rw [← ht, ← hs] at hor
        have htl := t.isLt
        have e2 : IntKind.u64.wrap ((s.toNat : Int) + 1) = (t.toNat : Int) := by rw [← hor, wrap_u64]; omega
        have HST := Lib.hid hst
        clear hst hstep hs ht hor hx hxk ej htl
        go_wp2
        go_round
        case rel => exact ⟨k, by omega, rfl, by rw [HST.out]⟩
        case measure => simp [intOf] <;> omega
    · obtain rfl : j = 0 := by omega
      have hd : l.drop 0 = l := rfl
      rw [hd]
      clear hd
      go_wp2
      go_ret
      exact ⟨rfl, rfl⟩

/-- the lowest bits, one by one -/
def lowTo (x : BitVec 64) (n : Int) (k : Nat) : List Bool := (List.range 64).map fun i => if i < k then x.getLsbD i && decide ((i : Int) < n) else x.getLsbD i
theorem lowTo_zero (x : BitVec 64) (n : Int) : lowTo x n 0 = Bt.bitsOf x := by simp [lowTo, Bt.bitsOf]
theorem lowTo_len (x : BitVec 64) (n : Int) (k : Nat) : (lowTo x n k).length = 64 := by simp [lowTo]
theorem lowTo_at (x : BitVec 64) (n : Int) (k : Nat) (h : k < 64) : (lowTo x n k)[k]? = some (x.getLsbD k) := by simp [lowTo, h]
theorem lowTo_set (x : BitVec 64) (n : Int) (k : Nat) (h : k < 64) : (bools (lowTo x n k)).set k (.bool (x.getLsbD k && decide ((k : Int) < n))) = bools (lowTo x n (k + 1)) := by
  apply List.ext_getElem?
  intro i
  rw [List.getElem?_set]
  by_cases hi : k = i
  · subst hi
    simp [bools, lowTo, h]
  · simp only [hi, if_false, bools, lowTo, List.getElem?_map]
    by_cases h64 : i < 64
    · simp only [List.getElem?_range h64, Option.map_some]
      by_cases hik : i < k
      · rw [if_pos hik, if_pos (by omega)]
      · rw [if_neg hik, if_neg (by omega)]
    · simp [h64]
theorem lowTo_end (x : BitVec 64) (n : Int) : Bt.num (lowTo x n 64) = Bt.low x n := by
  refine Bt.num_eq (lowTo_len _ _ _) fun i b h => ?_
  have hi : i < 64 := by have := (List.getElem?_eq_some_iff.1 h).1; rwa [lowTo_len] at this
  rw [Bt.low_at x n i hi]
  simp [lowTo, hi] at h
  exact h

set_option maxHeartbeats 400000 in
theorem ref_low_any (x : BitVec 64) (n : Int) (w : World) : Calls Try.prog 16 #[.int .u64 (x.toNat : Int), .int .i64 n] w fun e w' => e = .returned (.int .u64 ((Bt.low x n).toNat : Int)) ∧ Grow w w' := by
  go_enter Try.func16, Try.ntmps16
  go_wp2_with fail
  refine (ref_bits_any x w).mono ?_
  rintro e w1 ⟨v, rfl, hown, hg1⟩
  unfold OwnBools at hown
  rw [Bt.bitsOf_len] at hown
  obtain ⟨g, cap, rfl, hgb, -⟩ := hown.form (by omega)
  go_wp2_with fail
  go_loopw [6] (fun i wr => ∃ k : Nat, k ≤ 64 ∧ i = .int .i64 k ∧ wr.ownsRow w.heap.size 4 1 (.slice (some ⟨g, 0, none⟩) 64 cap) 64 (bools (lowTo x n k)) ∧ Grow w wr) (fun i _ => 64 - (intOf i).toNat)
  case atStart => exact ⟨0, by omega, rfl, by rw [lowTo_zero]; exact hown, hg1⟩
  case round =>
    obtain ⟨k, hk, rfl, hown2, hg⟩ := hrel
    clear hown hg1
    by_cases hlt : k < 64
    · have hc0 : wr.cell? ⟨g, k, none⟩ = some (.bool (x.getLsbD k)) := by
        rw [hown2.cellAt _ (by omega)]
        have := lowTo_at x n k hlt
        simp only [bools, List.getElem?_map, this, Option.map_some]
      have hf0 := hown2.frozenAt k
      have hset := lowTo_set x n k hlt
      cases hb : x.getLsbD k
      · rw [hb] at hc0 hset
        have HS := Lib.hid hset
        have HG := Lib.hid hg
        clear hb hset hg
        go_wp2_with fail
        go_roundw
        case rel => exact ⟨k + 1, by omega, by go_num, by rw [← HS.out]; exact (hown2.stored k _).1, Grow.set_ HG.out hgb _⟩
        case measure => simp [intOf] <;> omega
      · rw [hb] at hc0 hset
        have HS := Lib.hid hset
        have HG := Lib.hid hg
        clear hb hset hg
        go_wp2_with fail
        go_roundw
        case rel => exact ⟨k + 1, by omega, by go_num, by rw [← HS.out]; exact (hown2.stored k _).1, Grow.set_ HG.out hgb _⟩
        case measure => simp [intOf] <;> omega
    · obtain rfl : k = 64 := by omega
      have hbl : Bools wr (some ⟨g, 0, none⟩) 64 (lowTo x n 64) := by
        obtain ⟨A0, c0, e0, _, _, h0⟩ := own_form hown2
        injection e0 with e0
        subst e0
        rw [Nat.mul_one] at h0
        exact h0
      go_wp2_with fail
      refine (ref_num_any _ _ _ _ _ hbl (by decide)).mono ?_
      rintro e w2 ⟨rfl, rfl⟩
      go_wp2_with fail
      go_ret
      exact ⟨ret_int (by rw [lowTo_end]), hg⟩
end Go.Proofs.Ytgpcijpadelcfaa.btW
