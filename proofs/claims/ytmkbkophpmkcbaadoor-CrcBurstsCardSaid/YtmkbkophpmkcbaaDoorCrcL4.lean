/- The statement CrcBursts: the walk. -/
import Derived.Test.YtmkbkophpmkcbaaDoorCrcL
import Derived.Test.YtmkbkophpmkcbaaDoorBurst
import Derived.Test.YtmkbkophpmkcbaaDoorOwn
namespace Go.Proofs.YtmkbkophpmkcbaaDoor.crcL
open Go Go.RowKit Go.Par Go.Kit Go.Proofs.YtmkbkophpmkcbaaDoor.crcW

/-- bytes with the first k bits of a word turned, from place a on -/
def tu (l : List UInt8) (a : Nat) (m : BitVec 32) (k : Nat) : List UInt8 := (Crc.turned (bv l) a m k).map UInt8.ofBitVec
theorem bv_back (l : List (BitVec 8)) : bv (l.map UInt8.ofBitVec) = l := by
  unfold bv
  rw [List.map_map]
  exact (List.map_congr_left fun x _ => rfl).trans (List.map_id l)
theorem back_bv (l : List UInt8) : (bv l).map UInt8.ofBitVec = l := by
  unfold bv
  rw [List.map_map]
  exact (List.map_congr_left fun x _ => rfl).trans (List.map_id l)
theorem tu_zero (l : List UInt8) (a : Nat) (m : BitVec 32) : tu l a m 0 = l := back_bv l
theorem tu_len (l : List UInt8) (a : Nat) (m : BitVec 32) (k : Nat) : (tu l a m k).length = l.length := by simp [tu, Crc.turned_len, bv]
theorem tu_no {l : List UInt8} {a : Nat} {m : BitVec 32} {k : Nat} (h : m.getLsbD (31 - k) = false) : tu l a m (k + 1) = tu l a m k := by simp [tu, Crc.turned, h]
theorem tu_yes {l : List UInt8} {a : Nat} {m : BitVec 32} {k : Nat} (h : m.getLsbD (31 - k) = true) {x y : UInt8} (hx : (tu l a m k)[(a + k) / 8]? = some x) (hy : y.toBitVec = x.toBitVec ^^^ (128#8 >>> ((a + k) % 8))) :
    (u8s (tu l a m k)).set ((a + k) / 8) (.int .u8 (y.toNat : Int)) = u8s (tu l a m (k + 1)) := by
  have e : tu l a m (k + 1) = (tu l a m k).set ((a + k) / 8) y := by
    unfold tu at hx ⊢
    simp only [Crc.turned, h, if_true, Crc.flip]
    apply List.ext_getElem?
    intro j
    rw [List.getElem?_map, List.getElem?_modify, List.getElem?_set, List.getElem?_map]
    simp only [List.getElem?_map] at hx
    by_cases hj : (a + k) / 8 = j
    · subst hj
      obtain ⟨z, hz, hzx⟩ := Option.map_eq_some_iff.1 hx
      have hlt : (a + k) / 8 < (Crc.turned (bv l) a m k).length := (List.getElem?_eq_some_iff.1 hz).1
      rw [hz, if_pos rfl, if_pos (by rw [List.length_map]; exact hlt)]
      show some (UInt8.ofBitVec (if (a + k) / 8 = (a + k) / 8 then z ^^^ 128#8 >>> ((a + k) % 8) else z)) = some y
      rw [if_pos rfl]
      congr 1
      apply UInt8.eq_of_toBitVec_eq
      rw [hy, ← hzx]
    · simp [hj]
  rw [e]
  simp [u8s, u8v, List.map_set]
theorem sum_tu {l : List UInt8} {a : Nat} {m : BitVec 32} (hm : m ≠ 0#32) (ha : a + 32 ≤ 8 * l.length) : sum [tu l a m 32] ≠ sum [l] := by
  rw [sum_one, sum_one]
  unfold tu
  rw [bv_back]
  exact Crc.burst_more (a := a) (m := m) hm (by simpa [bv] using ha) (Crc.turned_len _ _ _ _) (fun j hj => Crc.bitAt_turned _ _ _ _ hj 32) _

theorem bit_test (m : BitVec 32) (j : Nat) : (bits .and .u32 ((m.toNat : Int) / 2 ^ j) 1 == 1) = m.getLsbD j := by
  have e : bits .and .u32 ((m.toNat : Int) / 2 ^ j) 1 = ((m >>> j &&& 1#32).toNat : Int) := and32 (shr32 m j).symm rfl
  rw [e, BitVec.and_one_eq_setWidth_ofBool_getLsbD]
  simp only [BitVec.getLsbD_ushiftRight, Nat.add_zero]
  cases m.getLsbD j <;> decide
theorem bit_xor {x y : UInt8} {p : Nat} (h : y.toBitVec = x.toBitVec ^^^ (128#8 >>> p)) : bits .xor .u8 (x.toNat : Int) (128 / 2 ^ p) = (y.toNat : Int) := by
  have e : (128 : Int) / 2 ^ p = ((128#8 >>> p).toNat : Int) := by
    rw [BitVec.toNat_ushiftRight, Nat.shiftRight_eq_div_pow, Int.natCast_ediv, Int.natCast_pow]; rfl
  have e2 : bits .xor .u8 (x.toNat : Int) ((128#8 >>> p).toNat : Int) = ((x.toBitVec ^^^ 128#8 >>> p).toNat : Int) := xor8 rfl rfl
  rw [e, e2, ← h]; rfl

set_option maxRecDepth 100000 in
set_option maxHeartbeats 2000000 in
theorem bursts_walk (A : Option Addr) (n c : Nat) (l : List UInt8) (x : Int) (m : BitVec 32) (w : World) (hb : Bytes w A n l) (hc : n ≤ c) (hm : c ≤ maxLen) (ht : Tab w) (hx1 : -9223372036854775808 ≤ x) (hx2 : x ≤ 9223372036854775807) :
    Calls Tryd.prog 5 #[.slice A n c, .int .i64 x, .int .u32 (m.toNat : Int)] w fun e w' => e = .returned (.bool true) ∧ Grow w w' := by
  unfold maxLen at hm
  have hmlt := m.isLt
  by_cases hg1 : 1000 < n
  · go_enter Tryd.func5, Tryd.ntmps5
    go_wp2_with (go_at_call 15; refine (works_any _ ht).mono ?_; rintro e w' ⟨rfl, hg⟩)
    go_ret
    exact ⟨rfl, hg⟩
  by_cases hg2 : n < 4
  · go_enter Tryd.func5, Tryd.ntmps5
    go_wp2_with (go_at_call 15; refine (works_any _ ht).mono ?_; rintro e w' ⟨rfl, hg⟩)
    go_ret
    exact ⟨rfl, hg⟩
  cases hg3 : ((m.toNat : Int) == 0)
  case true =>
    go_enter Tryd.func5, Tryd.ntmps5
    go_wp2_with (go_at_call 15; refine (works_any _ ht).mono ?_; rintro e w' ⟨rfl, hg⟩)
    go_ret
    exact ⟨rfl, hg⟩
  by_cases hg4 : x < 0
  · go_enter Tryd.func5, Tryd.ntmps5
    go_wp2_with (go_at_call 15; refine (works_any _ ht).mono ?_; rintro e w' ⟨rfl, hg⟩)
    go_ret
    exact ⟨rfl, hg⟩
  by_cases hg5 : 8 * (n : Int) - 32 < x
  · go_enter Tryd.func5, Tryd.ntmps5
    go_wp2_with (go_at_call 15; refine (works_any _ ht).mono ?_; rintro e w' ⟨rfl, hg⟩)
    go_ret
    exact ⟨rfl, hg⟩
  obtain ⟨a, rfl⟩ : ∃ a : Nat, x = a := ⟨x.toNat, by omega⟩
  have hm0 : m ≠ 0#32 := by
    intro e
    subst e
    exact absurd hg3 (by decide)
  have hll := hb.len
  have HT := Lib.hid (sum_tu (l := l) (a := a) hm0 (by omega))
  have HLL := Lib.hid hll
  clear hm0 hll
  have d1 : decide ((1000 : Int) < (n : Int)) = false := decide_eq_false (by omega)
  have d2 : decide ((n : Int) < 4) = false := decide_eq_false (by omega)
  have d4 : decide ((a : Int) < 0) = false := decide_eq_false (by omega)
  have d5 : decide (8 * (n : Int) - 32 < (a : Int)) = false := decide_eq_false (by omega)
  have b1 : n ≤ 1000 := by omega
  have b2 : 4 ≤ n := by omega
  have b3 : a + 32 ≤ 8 * n := by omega
  clear hg1 hg2 hg4 hg5
  go_enter Tryd.func5, Tryd.ntmps5
  have hown0 : (w.alloc (.cells #[] 5)).ownsRow w.heap.size 5 1 (.slice (some ⟨w.heap.size, 0, none⟩) 0 0) 0 (u8s []) := World.ownsRow_lit w #[] 0 (Nat.le_refl _) (by decide) rfl
  go_wp2_with (at_builtin; refine append_bytes Tryd.underlying25 i8 i8z i8s i8b rfl _ _ rfl w.heap.size _ _ _ hown0 rfl _ _ _ l (hb.grow (Grow.alloc w _)) rfl ?_ ?_ ?_; omega; simp; intro v1 w1 hown1 hgb1 hh1)
  have hgr1 : Grow w w1 := grow_by (Grow.alloc w _) hgb1 (fun k hk => by simp [Value.ownBlock] at hk; omega)
  rw [Nat.zero_add, List.nil_append] at hown1
  obtain ⟨g, cap, hv, hgb, -⟩ := hown1.form (by omega)
  rw [hv] at hown1 ⊢
  clear hv hgb1 hh1 hown0 d1 d2 d4 d5
  go_loopw [8] (fun i wr => ∃ k : Nat, k ≤ 32 ∧ i = .int .i64 k ∧ Grow w wr ∧ wr.ownsRow w.heap.size 5 1 (.slice (some ⟨g, 0, none⟩) n cap) n (u8s (tu l a m k))) (fun i _ => 32 - (intOf i).toNat)
  case atStart => exact ⟨0, Nat.zero_le _, rfl, hgr1, by rw [tu_zero]; exact hown1⟩
  case round =>
    obtain ⟨k, hk, rfl, hg, hown⟩ := hrel
    clear hown1 hgr1
    by_cases hlt : k < 32
    · have hbt := bit_test m (31 - k)
      cases hbit : m.getLsbD (31 - k)
      · rw [hbit] at hbt
        have hn1 := Lib.hid (tu_no (l := l) (a := a) hbit)
        clear hbit
        go_wp2_with fail
        go_roundw
        case rel => exact ⟨k + 1, by omega, by go_num, hg, by rw [hn1.out]; exact hown⟩
        case measure => simp [intOf]; omega
      · rw [hbit] at hbt
        have hll : (tu l a m k).length = n := by rw [tu_len]; exact HLL.out
        obtain ⟨x, hx⟩ : ∃ x, (tu l a m k)[(a + k) / 8]? = some x := ⟨_, List.getElem?_eq_getElem (by omega)⟩
        obtain ⟨y, hy⟩ : ∃ y : UInt8, y.toBitVec = x.toBitVec ^^^ (128#8 >>> ((a + k) % 8)) := ⟨UInt8.ofBitVec _, rfl⟩
        have hset := Lib.hid (tu_yes hbit hx hy)
        have e1 := bit_xor hy
        have hc0 : wr.cell? ⟨g, (a + k) / 8, none⟩ = some (.int .u8 (x.toNat : Int)) := by rw [hown.cellAt _ (by omega)]; simp [u8s, u8v, hx]
        have hf0 := hown.frozenAt ((a + k) / 8)
        clear hbit hx hy hll
        go_wp2_with fail
        apply (fun (v0 v1 v2 v3 v4 v5 v6 v7 v8 v9 v10 v11 v12 v13 : Value) mono obl tail => wp_region_par (R := Grow) (Φ := phi [veq v0, veq v1, veq v2, veq v3, veq v4, veq v5, veq v6, veq v7, veq v8, veq v9, veq v10, veq v11, veq v12, veq v13]) (m := 14) (dls := [[], [], [], [(48, 1), (49, 2)], [(50, 3)], [(47, 0), (51, 4)], [(52, 5)], [], [], [(54, 7), (55, 8)], [(56, 9)], [(57, 10)], [(53, 6), (58, 11)], [(47, 0), (51, 4)]]) (ds := [47, 48, 49, 50, 51, 52, 53, 54, 55, 56, 57, 58, 59, 60]) (by kernel_rfl) (by kernel_rfl) (by decide) rfl (Grow.drew _) (fun _ _ _ => Grow.trans) (mono_phi mono) obl tail)
        case obl =>
          refine obls_cons (fun f w' hR hH Q hQ => ?_) ?_
          · skip
            have c0 := hR.cell hc0
            simp only [view, List.foldl]
            repeat (first | go_guarded | go_step)
            exact hQ _ _ (Grow.refl _) rfl rfl
          refine obls_cons (fun f w' hR hH Q hQ => ?_) ?_
          · skip
            have c0 := hR.cell hc0
            simp only [view, List.foldl]
            repeat (first | go_guarded | go_step)
            exact hQ _ _ (Grow.refl _) rfl rfl
          refine obls_cons (fun f w' hR hH Q hQ => ?_) ?_
          · skip
            have c0 := hR.cell hc0
            simp only [view, List.foldl]
            repeat (first | go_guarded | go_step)
            exact hQ _ _ (Grow.refl _) rfl rfl
          refine obls_cons (fun f w' hR hH Q hQ => ?_) ?_
          · skip
            have c0 := hR.cell hc0
            obtain ⟨h1, h2, -⟩ := hH
            simp only [view, List.foldl, Act.put, List.setIfInBounds_toArray, List.set_cons_zero, List.set_cons_succ]
            rw [show f 1 = _ from h1]
            rw [show f 2 = _ from h2]
            clear h1 h2
            repeat (first | go_guarded | go_step)
            exact hQ _ _ (Grow.refl _) rfl rfl
          refine obls_cons (fun f w' hR hH Q hQ => ?_) ?_
          · skip
            have c0 := hR.cell hc0
            obtain ⟨h3, -⟩ := hH
            simp only [view, List.foldl, Act.put, List.setIfInBounds_toArray, List.set_cons_zero, List.set_cons_succ]
            rw [show f 3 = _ from h3]
            clear h3
            repeat (first | go_guarded | go_step)
            exact hQ _ _ (Grow.refl _) rfl rfl
          refine obls_cons (fun f w' hR hH Q hQ => ?_) ?_
          · skip
            have c0 := hR.cell hc0
            obtain ⟨h0, h4, -⟩ := hH
            simp only [view, List.foldl, Act.put, List.setIfInBounds_toArray, List.set_cons_zero, List.set_cons_succ]
            rw [show f 0 = _ from h0]
            rw [show f 4 = _ from h4]
            clear h0 h4
            repeat (first | go_guarded | go_step)
            exact hQ _ _ (Grow.refl _) rfl rfl
          refine obls_cons (fun f w' hR hH Q hQ => ?_) ?_
          · skip
            have c0 := hR.cell hc0
            obtain ⟨h5, -⟩ := hH
            simp only [view, List.foldl, Act.put, List.setIfInBounds_toArray, List.set_cons_zero, List.set_cons_succ]
            rw [show f 5 = _ from h5]
            clear h5
            repeat (first | go_guarded | go_step)
            exact hQ _ _ (Grow.refl _) rfl rfl
          refine obls_cons (fun f w' hR hH Q hQ => ?_) ?_
          · skip
            have c0 := hR.cell hc0
            simp only [view, List.foldl]
            repeat (first | go_guarded | go_step)
            exact hQ _ _ (Grow.refl _) rfl rfl
          refine obls_cons (fun f w' hR hH Q hQ => ?_) ?_
          · skip
            have c0 := hR.cell hc0
            simp only [view, List.foldl]
            repeat (first | go_guarded | go_step)
            exact hQ _ _ (Grow.refl _) rfl rfl
          refine obls_cons (fun f w' hR hH Q hQ => ?_) ?_
          · skip
            have c0 := hR.cell hc0
            obtain ⟨h7, h8, -⟩ := hH
            simp only [view, List.foldl, Act.put, List.setIfInBounds_toArray, List.set_cons_zero, List.set_cons_succ]
            rw [show f 7 = _ from h7]
            rw [show f 8 = _ from h8]
            clear h7 h8
            repeat (first | go_guarded | go_step)
            exact hQ _ _ (Grow.refl _) rfl rfl
          refine obls_cons (fun f w' hR hH Q hQ => ?_) ?_
          · skip
            have c0 := hR.cell hc0
            obtain ⟨h9, -⟩ := hH
            simp only [view, List.foldl, Act.put, List.setIfInBounds_toArray, List.set_cons_zero, List.set_cons_succ]
            rw [show f 9 = _ from h9]
            clear h9
            repeat (first | go_guarded | go_step)
            exact hQ _ _ (Grow.refl _) rfl rfl
          refine obls_cons (fun f w' hR hH Q hQ => ?_) ?_
          · skip
            have c0 := hR.cell hc0
            obtain ⟨h10, -⟩ := hH
            simp only [view, List.foldl, Act.put, List.setIfInBounds_toArray, List.set_cons_zero, List.set_cons_succ]
            rw [show f 10 = _ from h10]
            clear h10
            repeat (first | go_guarded | go_step)
            exact hQ _ _ (Grow.refl _) rfl rfl
          refine obls_cons (fun f w' hR hH Q hQ => ?_) ?_
          · skip
            have c0 := hR.cell hc0
            obtain ⟨h6, h11, -⟩ := hH
            simp only [view, List.foldl, Act.put, List.setIfInBounds_toArray, List.set_cons_zero, List.set_cons_succ]
            rw [show f 6 = _ from h6]
            rw [show f 11 = _ from h11]
            clear h6 h11
            repeat (first | go_guarded | go_step)
            exact hQ _ _ (Grow.refl _) rfl rfl
          refine obls_cons (fun f w' hR hH Q hQ => ?_) ?_
          · skip
            have c0 := hR.cell hc0
            obtain ⟨h0, h4, -⟩ := hH
            simp only [view, List.foldl, Act.put, List.setIfInBounds_toArray, List.set_cons_zero, List.set_cons_succ]
            rw [show f 0 = _ from h0]
            rw [show f 4 = _ from h4]
            clear h0 h4
            repeat (first | go_guarded | go_step)
            exact hQ _ _ (Grow.refl _) rfl rfl
          exact obls_nil
        case mono => exact ⟨Mono.veq _, Mono.veq _, Mono.veq _, Mono.veq _, Mono.veq _, Mono.veq _, Mono.veq _, Mono.veq _, Mono.veq _, Mono.veq _, Mono.veq _, Mono.veq _, Mono.veq _, Mono.veq _, trivial⟩
        case tail =>
          intro f w' hR hH
          simp only [view, List.zipIdx, List.foldl, Act.put, List.setIfInBounds_toArray, List.set_cons_zero, List.set_cons_succ]
          obtain ⟨-, -, -, -, -, -, -, -, -, -, -, -, q12, q13, -⟩ := hH
          rw [show f 12 = _ from q12]
          rw [show f 13 = _ from q13]
          clear q12 q13
          generalize f 0 = x0
          generalize f 1 = x1
          generalize f 2 = x2
          generalize f 3 = x3
          generalize f 4 = x4
          generalize f 5 = x5
          generalize f 6 = x6
          generalize f 7 = x7
          generalize f 8 = x8
          generalize f 9 = x9
          generalize f 10 = x10
          generalize f 11 = x11
          have c0 := hR.cell hc0
          have hown' := own_grow hown hR
          have f0 := hown'.frozenAt ((a + k) / 8)
          go_wp2
          go_roundw
          case rel => exact ⟨k + 1, by omega, by go_num, Grow.set_ (hg.trans hR) hgb _, by rw [← hset.out]; exact (hown'.stored ((a + k) / 8) (.int .u8 (y.toNat : Int))).1⟩
          case measure => simp [intOf]; omega
    · obtain rfl : k = 32 := by omega
      have ht' := ht.grow hg
      have hb' := hb.grow hg
      have hbx : n ≤ cap ∧ cap ≤ maxLen ∧ Bytes wr (some ⟨g, 0, none⟩) n (tu l a m 32) := by
        obtain ⟨A0, c0, e0, h1, h2, h0⟩ := own_form hown
        injection e0 with e0 _ e1
        subst e0; subst e1
        rw [Nat.mul_one] at h0
        exact ⟨h1, h2, h0⟩
      obtain ⟨S, hS⟩ : ∃ S, sum [tu l a m 32] = S := ⟨_, rfl⟩
      obtain ⟨T, hT2⟩ : ∃ T, sum [l] = T := ⟨_, rfl⟩
      have hne : ((S.toNat : Int) != (T.toNat : Int)) = true := by
        rw [bne_iff_ne]
        intro e
        have e2 : S.toNat = T.toNat := by omega
        exact HT.out (by rw [hS, hT2]; exact BitVec.eq_of_toNat_eq e2)
      have hk1 := Lib.hid (sum_as hS)
      have hk2 := Lib.hid (sum_as hT2)
      clear hS hT2
      go_wp2_with fail
      refine (hk1.out _ _ _ _ (Parts.one _ _ rfl (Sl.mk hbx.2.2 hbx.1 hbx.2.1)) (by decide) (ht'.grow (Grow.alloc _ _))).mono ?_
      rintro e w2 ⟨rfl, rfl⟩
      go_wp2_with fail
      refine (hk2.out _ _ _ _ (Parts.one _ _ (by simp) (Sl.mk (hb'.grow (Grow.alloc _ _)) hc (by unfold maxLen; omega))) (by decide) (ht'.grow ((Grow.alloc _ _).trans (Grow.alloc _ _)))).mono ?_
      rintro e w2 ⟨rfl, rfl⟩
      go_wp2_with fail
      refine (works_any _ (ht'.grow ((Grow.alloc _ _).trans (Grow.alloc _ _)))).mono ?_
      rintro e w2 ⟨rfl, hg2⟩
      go_wp2_with fail
      go_ret
      exact ⟨rfl, hg.trans (((Grow.alloc _ _).trans (Grow.alloc _ _)).trans hg2)⟩
end Go.Proofs.YtmkbkophpmkcbaaDoor.crcL
