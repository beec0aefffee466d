/- The walks of frames: Next. -/
import Derived.Test.YtmkbkophpmkcbaaDoorFrmW
namespace Go.Proofs.YtmkbkophpmkcbaaDoor.frW
open Go Go.RowKit Go.Par Go.Kit Vi Go.Proofs.YtmkbkophpmkcbaaDoor.cl Go.Proofs.YtmkbkophpmkcbaaDoor.slW Go.Proofs.YtmkbkophpmkcbaaDoor.frm
open Go.Proofs.YtmkbkophpmkcbaaDoor.viW hiding i8 i8s i8z i8b info8
open Go.Proofs.YtmkbkophpmkcbaaDoor.crcW

theorem read_as {A : Option Addr} {n c : Nat} {l : List UInt8} {w : World} (hr : Bytes w A n l) (hc : n ≤ c) (hn : n ≤ maxLen) {a b d : Nat} (h : rd l = (a, b, d)) :
    Calls Tryd.prog 39 #[.slice A n c] w fun e w' => e = .returned (.tuple #[.int .u64 (a : Int), .int .i64 (b : Int), .int .i64 (d : Int)]) ∧ w = w' := by
  refine (read_any A n c l w hr hc hn).mono ?_
  rintro e w' ⟨rfl, rfl⟩
  exact ⟨by rw [rdE, h], rfl⟩
theorem ref_read_as {A : Option Addr} {n c : Nat} {l : List UInt8} {w : World} (hr : Bytes w A n l) (hn : n ≤ maxLen) {a b d : Nat} (h : rd l = (a, b, d)) :
    Calls Tryd.prog 40 #[.slice A n c] w fun e w' => e = .returned (.tuple #[.int .u64 (a : Int), .int .i64 (b : Int), .int .i64 (d : Int)]) ∧ w = w' := by
  refine (ref_read_any A n c l w hr hn).mono ?_
  rintro e w' ⟨rfl, rfl⟩
  exact ⟨by rw [rdE, h], rfl⟩
theorem next_of {l : List UInt8} {a b d : Nat} (hr : rd l = (a, b, d)) : next8 l = if d ≠ 0 then ([], 0, d) else if 65536 < a then ([], 0, 3) else if l.length < b + a + 4 then ([], 0, 2) else
    if (l.drop (b + a)).take 4 = four8 (sum [l.take (b + a)]) then ((l.drop b).take a, b + a + 4, 0) else ([], 0, 5) := by
  unfold next8; rw [hr]
theorem rd_le {L : List UInt8} {n k : Nat} (h : rd L = (n, k, 0)) : k ≤ L.length := (rd_once h).2.2
theorem sl_nil (w : World) (P : Nat → Prop) : SlP w (.slice none 0 0) [] P := ⟨none, 0, 0, rfl, Nat.le_refl _, Nat.zero_le _, Row.nil w none, fun h => absurd h (by omega)⟩

set_option maxRecDepth 100000 in
set_option maxHeartbeats 1000000 in
theorem next_any (A : Option Addr) (n c : Nat) (l : List UInt8) (w : World) (hb : Bytes w A n l) (hc : n ≤ c) (hm : c ≤ maxLen) (hn : n ≤ 1000000) (ht : Tab w) :
    Calls Tryd.prog 30 #[.slice A n c] w fun e w' => ∃ v, e = .returned (.tuple #[v, .int .i64 ((next8 l).2.1 : Int), .int .i64 ((next8 l).2.2 : Int)]) ∧ SlP w' v (next8 l).1 (fun k => w.heap.size ≤ k) ∧ Grow w w' := by
  obtain ⟨a, b, d, hr⟩ : ∃ a b d, rd l = (a, b, d) := ⟨_, _, _, rfl⟩
  rw [next_of hr]
  unfold maxLen at hm
  have hlen := hb.len
  have HRD := Lib.hid (read_as (c := c) hb hc (by unfold maxLen; omega) hr)
  by_cases hd : d = 0
  · subst hd
    rw [if_neg (by decide)]
    have hbl := rd_le hr
    by_cases ha : 65536 < a
    · rw [if_pos ha]
      have t1 : decide ((65536 : Int) < (a : Int)) = true := decide_eq_true (by omega)
      have t2 : decide (65536 < a) = true := decide_eq_true ha
      clear hr hb hlen hbl ha
      go_enter Tryd.func30, Tryd.ntmps30
      go_wp2_with fail
      refine HRD.out.mono ?_
      rintro e w' ⟨rfl, rfl⟩
      go_wp2_with fail
      go_ret3
      exact ⟨_, rfl, sl_nil _ _, Grow.refl _⟩
    · rw [if_neg ha]
      have t1 : decide ((65536 : Int) < (a : Int)) = false := decide_eq_false (by omega)
      have t2 : decide (65536 < a) = false := decide_eq_false ha
      have ha2 : a ≤ 65536 := by omega
      have hbn : b ≤ n := by omega
      by_cases hs : l.length < b + a + 4
      · rw [if_pos hs]
        have t3 : decide ((n : Int) - (b : Int) - 4 < (a : Int)) = true := decide_eq_true (by omega)
        clear hr hb hlen hbl ha hs
        go_enter Tryd.func30, Tryd.ntmps30
        go_wp2_with fail
        refine HRD.out.mono ?_
        rintro e w' ⟨rfl, rfl⟩
        go_wp2_with fail
        go_ret3
        exact ⟨_, rfl, sl_nil _ _, Grow.refl _⟩
      · rw [if_neg hs]
        have t3 : decide ((n : Int) - (b : Int) - 4 < (a : Int)) = false := decide_eq_false (by omega)
        obtain ⟨m, hm0⟩ : ∃ m, m = b + a := ⟨_, rfl⟩
        have hadd : (b : Int) + (a : Int) = (m : Int) := by omega
        rw [← hm0]
        have hm4 : m + 4 ≤ n := by omega
        have hbm : b ≤ m := by omega
        have hma : m - b = a := by omega
        have hbk := (hb.cut (k := b) hbn hc).take (k := a) (by omega)
        have hbt := hb.take (k := m) (by omega)
        have hbd := (hb.cut (k := m) (by omega) hc).take (k := 4) (by omega)
        obtain ⟨S, hS⟩ : ∃ S, sum [l.take m] = S := ⟨_, rfl⟩
        obtain ⟨J, hJ⟩ : ∃ J, Sea.join4 (bv ((l.drop m).take 4)) = J := ⟨_, rfl⟩
        have hfo := four_of (S := S) hbd.len hJ
        rw [hS]
        have hs1 := slice_both (P := Tryd.prog) Tryd.underlying25 i8 i8s A n c m (m + 4) (by omega) (by omega)
        have hs2 := slice_hi (P := Tryd.prog) Tryd.underlying25 i8 A n c m (by omega)
        have hs3 := slice_both (P := Tryd.prog) Tryd.underlying25 i8 i8s A n c b m hbm (by omega)
        rw [show m + 4 - m = 4 by omega] at hs1
        rw [hma] at hs3
        simp only [Int.natCast_add, show ((4 : Nat) : Int) = 4 from rfl] at hs1
        obtain ⟨D, hD⟩ : ∃ D, D = cutAt A c m := ⟨_, rfl⟩
        obtain ⟨E, hE⟩ : ∃ E, E = cutAt A c b := ⟨_, rfl⟩
        rw [← hD] at hs1 hbd
        rw [← hE] at hs3 hbk
        obtain ⟨dd, hdd⟩ : ∃ dd, dd = (l.drop m).take 4 := ⟨_, rfl⟩
        obtain ⟨kk, hkk⟩ : ∃ kk, kk = (l.drop b).take a := ⟨_, rfl⟩
        obtain ⟨tt, htt⟩ : ∃ tt, tt = l.take m := ⟨_, rfl⟩
        rw [← hdd] at hfo hJ hbd ⊢
        rw [← hkk] at hbk ⊢
        rw [← htt] at hbt hS
        have HFO := Lib.hid hfo
        have HJ := Lib.hid hJ
        have HBK := Lib.hid hbk
        have HBT := Lib.hid hbt
        have hdl := hbd.len
        have HDL := Lib.hid hdl
        obtain ⟨X, hX⟩ : ∃ X, X = (if dd = four8 S then (kk, m + 4, 0) else ([], 0, 5) : List UInt8 × Nat × Nat) := ⟨_, rfl⟩
        rw [← hX]
        have HX := Lib.hid hX
        have HSU := Lib.hid (sum_as hS)
        have HP : Hid (Parts (w.alloc (.cells #[.slice A m c] 25)) (some ⟨w.heap.size, 0, none⟩) 1 [tt]) := Lib.hid (Parts.one _ _ (by simp) (Sl.mk hbt (by omega) (by unfold maxLen; omega)))
        have T1 := Lib.hid (ht.grow (Grow.alloc w (.cells #[.slice A m c] 25)))
        have HG1 := Lib.hid (Grow.alloc w (.cells #[.slice A m c] 25))
        clear hr hb hlen hbl ha hs hm0 hbk hbt hfo hS hJ hD hE hdd hkk htt hdl t2 hma hX
        go_enter Tryd.func30, Tryd.ntmps30
        go_wp2_with fail
        refine HRD.out.mono ?_
        rintro e w' ⟨rfl, rfl⟩
        go_wp2_with fail
        go_loop [9, 44] (fun r i => ∃ j : Nat, j ≤ 4 ∧ i = .int .i64 (j : Int) ∧ r = .int .u32 ((Sea.join4 (bv (dd.take j))).toNat : Int)) (fun _ i => 4 - (intOf i).toNat)
        case atStart => exact ⟨0, by omega, rfl, rfl⟩
        case round =>
          obtain ⟨j, hj, rfl, rfl⟩ := hrel
          by_cases hlt : j < 4
          · obtain ⟨b', off, x, hDe, hx, hcell⟩ := hbd.at_ hlt
            subst hDe
            have hsn := join_snoc dd j x hx
            generalize Sea.join4 (bv (dd.take j)) = r at hsn ⊢
            obtain ⟨r1, h1⟩ : ∃ r1, r1 = Sea.join1 r x.toBitVec := ⟨_, rfl⟩
            rw [← h1] at hsn
            have HS := Lib.hid hsn
            have e1 := or_eq h1
            have hxlt := x.toNat_lt
            have hrlt := r.isLt
            clear h1 hsn hx
            go_wp2_with fail
            go_round
            case rel => exact ⟨j + 1, by omega, by go_num, by rw [HS.out]⟩
            case measure => simp [intOf] <;> omega
          · obtain rfl : j = 4 := by omega
            have hk' : dd.take 4 = dd := List.take_of_length_le (by have := HDL.out; omega)
            rw [hk', HJ.out]
            clear hk' hbd
            by_cases hJS : J = S
            · have HPOS := Lib.hid (HFO.out.1 hJS)
              subst hJS
              go_wp2_with fail
              refine (HSU.out _ _ _ _ HP.out (by decide) T1.out).mono ?_
              rintro e w1 ⟨rfl, rfl⟩
              have HCL := Lib.hid (clone_any E a (c - b) kk _ (HBK.out.grow HG1.out) (by omega))
              go_wp2_with fail
              refine HCL.out.mono ?_
              rintro e w2 ⟨v2, rfl, ho2, hg2⟩
              have hkl := HBK.out.len
              rw [hkl] at ho2
              obtain ⟨A2, c2, rfl, b1, b2, b3⟩ := own_form ho2
              rw [Nat.mul_one] at b3
              have HO2 := Lib.hid ho2
              have HB3 := Lib.hid b3
              have HB2 := Lib.hid b2
              have HG2 := Lib.hid (HG1.out.trans hg2)
              have HM : Hid (((m + 4 : Nat) : Int) = (m : Int) + 4) := Lib.hid (by omega)
              clear ho2 hg2 hkl HCL b3 b2
              go_wp2_with fail
              go_ret3
              rw [HX.out, if_pos HPOS.out]
              exact ⟨_, by rw [HM.out]; rfl, ⟨A2, a, c2, rfl, b1, HB2.out, HB3.out, fun hn ad had => Nat.le_trans HG1.out.size (own_base HO2.out ad.block (by
                obtain ⟨g', hg', _⟩ := own_some HO2.out hn
                rw [had] at hg'
                injection hg' with hg'
                rw [had, hg']; rfl))⟩, HG2.out⟩
            · have HNEG : Hid (¬ dd = four8 S) := Lib.hid (fun h => hJS (HFO.out.2 h))
              have t1 : ((J.toNat : Int) != (S.toNat : Int)) = true := bne_iff_ne.2 (fun h => hJS (BitVec.eq_of_toNat_eq (by omega)))
              have t2 : (J.toNat != S.toNat) = true := bne_iff_ne.2 (fun h => hJS (BitVec.eq_of_toNat_eq h))
              have t4 : ¬ (J.toNat = S.toNat) := fun h => hJS (BitVec.eq_of_toNat_eq h)
              clear hJS
              go_wp2_with fail
              refine (HSU.out _ _ _ _ HP.out (by decide) T1.out).mono ?_
              rintro e w1 ⟨rfl, rfl⟩
              go_wp2_with fail
              go_ret3
              rw [HX.out, if_neg HNEG.out]
              exact ⟨_, rfl, sl_nil _ _, HG1.out⟩
  · rw [if_pos hd]
    have t2 : ((d : Int) != 0) = true := bne_iff_ne.2 (by omega)
    clear hr hb hlen hd
    go_enter Tryd.func30, Tryd.ntmps30
    go_wp2_with fail
    refine HRD.out.mono ?_
    rintro e w' ⟨rfl, rfl⟩
    go_wp2_with fail
    go_ret3
    exact ⟨_, rfl, sl_nil _ _, Grow.refl _⟩

set_option maxRecDepth 100000 in
set_option maxHeartbeats 1000000 in
theorem ref_next_any (A : Option Addr) (n c : Nat) (l : List UInt8) (w : World) (hb : Bytes w A n l) (hc : n ≤ c) (hm : c ≤ maxLen) (hn : n ≤ 1000000) (B : Nat) (hAB : 0 < n → ∀ ad, A = some ad → ad.block < B) :
    Calls Tryd.prog 31 #[.slice A n c] w fun e w' => ∃ v, e = .returned (.tuple #[v, .int .i64 ((next8 l).2.1 : Int), .int .i64 ((next8 l).2.2 : Int)]) ∧ SlP w' v (next8 l).1 (fun k => k < B) ∧ Grow w w' := by
  obtain ⟨a, b, d, hr⟩ : ∃ a b d, rd l = (a, b, d) := ⟨_, _, _, rfl⟩
  rw [next_of hr]
  unfold maxLen at hm
  have hlen := hb.len
  have HRD := Lib.hid (ref_read_as (c := c) hb (by unfold maxLen; omega) hr)
  by_cases hd : d = 0
  · subst hd
    rw [if_neg (by decide)]
    have hbl := rd_le hr
    by_cases ha : 65536 < a
    · rw [if_pos ha]
      have t1 : decide ((65536 : Int) < (a : Int)) = true := decide_eq_true (by omega)
      have t2 : decide (65536 < a) = true := decide_eq_true ha
      clear hr hb hlen hbl ha
      go_enter Tryd.func31, Tryd.ntmps31
      go_wp2_with fail
      refine HRD.out.mono ?_
      rintro e w' ⟨rfl, rfl⟩
      go_wp2_with fail
      go_ret3
      exact ⟨_, rfl, sl_nil _ _, Grow.refl _⟩
    · rw [if_neg ha]
      have t1 : decide ((65536 : Int) < (a : Int)) = false := decide_eq_false (by omega)
      have t2 : decide (65536 < a) = false := decide_eq_false ha
      have ha2 : a ≤ 65536 := by omega
      have hbn : b ≤ n := by omega
      by_cases hs : l.length < b + a + 4
      · rw [if_pos hs]
        have t3 : decide ((n : Int) < (b : Int) + (a : Int) + 4) = true := decide_eq_true (by omega)
        have t4 : decide (n < b + a + 4) = true := decide_eq_true (by omega)
        clear hr hb hlen hbl ha hs
        go_enter Tryd.func31, Tryd.ntmps31
        go_wp2_with fail
        refine HRD.out.mono ?_
        rintro e w' ⟨rfl, rfl⟩
        go_wp2_with fail
        go_ret3
        exact ⟨_, rfl, sl_nil _ _, Grow.refl _⟩
      · rw [if_neg hs]
        have t3 : decide ((n : Int) < (b : Int) + (a : Int) + 4) = false := decide_eq_false (by omega)
        have t4 : decide (n < b + a + 4) = false := decide_eq_false (by omega)
        obtain ⟨m, hm0⟩ : ∃ m, m = b + a := ⟨_, rfl⟩
        have hadd : (b : Int) + (a : Int) = (m : Int) := by omega
        rw [← hm0]
        have hm4 : m + 4 ≤ n := by omega
        have hbm : b ≤ m := by omega
        have hma : m - b = a := by omega
        have hbk := (hb.cut (k := b) hbn hc).take (k := a) (by omega)
        have hbt := hb.take (k := m) (by omega)
        have hbd := (hb.cut (k := m) (by omega) hc).take (k := 4) (by omega)
        obtain ⟨S, hS⟩ : ∃ S, sum [l.take m] = S := ⟨_, rfl⟩
        obtain ⟨J, hJ⟩ : ∃ J, Sea.join4 (bv ((l.drop m).take 4)) = J := ⟨_, rfl⟩
        have hfo := four_of (S := S) hbd.len hJ
        rw [hS]
        have hs1 := slice_both (P := Tryd.prog) Tryd.underlying25 i8 i8s A n c m (m + 4) (by omega) (by omega)
        have hs2 := slice_hi (P := Tryd.prog) Tryd.underlying25 i8 A n c m (by omega)
        have hs3 := slice_both (P := Tryd.prog) Tryd.underlying25 i8 i8s A n c b m hbm (by omega)
        rw [show m + 4 - m = 4 by omega] at hs1
        rw [hma] at hs3
        simp only [Int.natCast_add, show ((4 : Nat) : Int) = 4 from rfl] at hs1
        obtain ⟨D, hD⟩ : ∃ D, D = cutAt A c m := ⟨_, rfl⟩
        obtain ⟨E, hE⟩ : ∃ E, E = cutAt A c b := ⟨_, rfl⟩
        rw [← hD] at hs1 hbd
        rw [← hE] at hs3 hbk
        have hEB : 0 < a → ∀ ad, E = some ad → ad.block < B := fun h0 => by rw [hE]; exact cut_blk (hAB (by omega))
        have HEB := Lib.hid hEB
        obtain ⟨dd, hdd⟩ : ∃ dd, dd = (l.drop m).take 4 := ⟨_, rfl⟩
        obtain ⟨kk, hkk⟩ : ∃ kk, kk = (l.drop b).take a := ⟨_, rfl⟩
        obtain ⟨tt, htt⟩ : ∃ tt, tt = l.take m := ⟨_, rfl⟩
        rw [← hdd] at hfo hJ hbd ⊢
        rw [← hkk] at hbk ⊢
        rw [← htt] at hbt hS
        have HFO := Lib.hid hfo
        have HJ := Lib.hid hJ
        have HBK := Lib.hid hbk
        have HBT := Lib.hid hbt
        have hdl := hbd.len
        have HDL := Lib.hid hdl
        have hmo := ref_more_as (s := 0#32) (l := tt) (S := S) (by rw [← hS, sum_one])
        rw [show ((0#32).toNat : Int) = 0 from rfl] at hmo
        have HMO := Lib.hid hmo
        have HBD := Lib.hid hbd
        have HS1 := Lib.hid hs1
        have HS2 := Lib.hid hs2
        have el : ∀ l, (str l).toList = l := fun l => ByteArray.toList_mk l
        by_cases hJS : J = S
        · have hdf := hfo.1 hJS
          rw [if_pos hdf]
          rw [hdf] at hbd
          have HBD := Lib.hid hbd
          clear hr hb hlen hbl ha hs hm0 hbk hbt hfo hS hJ hD hE hdd hkk htt hdl t2 hma hbd hJS hdf hEB hmo hs1 hs2 el
          go_enter Tryd.func31, Tryd.ntmps31
          go_wp2_with fail
          refine HRD.out.mono ?_
          rintro e w' ⟨rfl, rfl⟩
          go_wp2_with fail
          apply (fun (v0 v1 v2 v3 v4 v5 v6 v7 v8 v9 v11 v12 : Value) mono obl tail => wp_region_par (R := Grow) (Φ := phi [veq v0, veq v1, veq v2, veq v3, veq v4, veq v5, veq v6, veq v7, veq v8, veq v9, (IsFour S), veq v11, veq v12]) (m := 13) (dls := [[], [], [], [(31, 2)], [(29, 0), (30, 1), (32, 3)], [(33, 4)], [], [], [(35, 6), (36, 7)], [(37, 8)], [(38, 9)], [(39, 10)], [(34, 5), (40, 11)]]) (ds := [29, 30, 31, 32, 33, 34, 35, 36, 37, 38, 39, 40, 41]) (by kernel_rfl) (by kernel_rfl) (by decide) rfl (Grow.drew _) (fun _ _ _ => Grow.trans) (mono_phi mono) obl tail)
          case obl =>
            refine obls_cons (fun f w' hR hH Q hQ => ?_) ?_
            · skip
              simp only [view, List.foldl]
              repeat (first | go_guarded | go_step)
              exact hQ _ _ (Grow.refl _) rfl rfl
            refine obls_cons (fun f w' hR hH Q hQ => ?_) ?_
            · skip
              simp only [view, List.foldl]
              repeat (first | go_guarded | go_step)
              exact hQ _ _ (Grow.refl _) rfl rfl
            refine obls_cons (fun f w' hR hH Q hQ => ?_) ?_
            · skip
              simp only [view, List.foldl]
              repeat (first | go_guarded | go_step)
              exact hQ _ _ (Grow.refl _) rfl rfl
            refine obls_cons (fun f w' hR hH Q hQ => ?_) ?_
            · skip
              obtain ⟨h2, -⟩ := hH
              simp only [view, List.foldl, Act.put, List.setIfInBounds_toArray, List.set_cons_zero, List.set_cons_succ]
              rw [show f 2 = _ from h2]
              clear h2
              repeat (first | go_guarded | go_step)
              exact hQ _ _ (Grow.refl _) rfl rfl
            refine obls_cons (fun f w' hR hH Q hQ => ?_) ?_
            · skip
              obtain ⟨h0, h1, h3, -⟩ := hH
              simp only [view, List.foldl, Act.put, List.setIfInBounds_toArray, List.set_cons_zero, List.set_cons_succ]
              rw [show f 0 = _ from h0]
              rw [show f 1 = _ from h1]
              rw [show f 3 = _ from h3]
              clear h0 h1 h3
              have hs1 := HS1.out
              repeat (first | go_guarded | go_step)
              exact hQ _ _ (Grow.refl _) rfl rfl
            refine obls_cons (fun f w' hR hH Q hQ => ?_) ?_
            · skip
              obtain ⟨h4, -⟩ := hH
              simp only [view, List.foldl, Act.put, List.setIfInBounds_toArray, List.set_cons_zero, List.set_cons_succ]
              rw [show f 4 = _ from h4]
              clear h4
              have hcs := fun c => conv_str (P := Tryd.prog) Tryd.underlying25 Tryd.underlying5 Tryd.underlying9 ((HBD.out).grow hR) c
              go_wp2_with fail
              exact hQ _ _ (Grow.refl _) rfl rfl
            refine obls_cons (fun f w' hR hH Q hQ => ?_) ?_
            · skip
              simp only [view, List.foldl]
              repeat (first | go_guarded | go_step)
              exact hQ _ _ (Grow.refl _) rfl rfl
            refine obls_cons (fun f w' hR hH Q hQ => ?_) ?_
            · skip
              simp only [view, List.foldl]
              repeat (first | go_guarded | go_step)
              exact hQ _ _ (Grow.refl _) rfl rfl
            refine obls_cons (fun f w' hR hH Q hQ => ?_) ?_
            · skip
              obtain ⟨h6, h7, -⟩ := hH
              simp only [view, List.foldl, Act.put, List.setIfInBounds_toArray, List.set_cons_zero, List.set_cons_succ]
              rw [show f 6 = _ from h6]
              rw [show f 7 = _ from h7]
              clear h6 h7
              have hs2 := HS2.out
              repeat (first | go_guarded | go_step)
              exact hQ _ _ (Grow.refl _) rfl rfl
            refine obls_cons (fun f w' hR hH Q hQ => ?_) ?_
            · skip
              obtain ⟨h8, -⟩ := hH
              simp only [view, List.foldl, Act.put, List.setIfInBounds_toArray, List.set_cons_zero, List.set_cons_succ]
              rw [show f 8 = _ from h8]
              clear h8
              go_wp2_with (go_at_call 17; refine (HMO.out _ _ _ w' (HBT.out.grow hR) (by unfold maxLen; omega)).mono ?_; rintro e w1 ⟨rfl, rfl⟩)
              exact hQ _ _ (Grow.refl _) rfl rfl
            refine obls_cons (fun f w' hR hH Q hQ => ?_) ?_
            · skip
              obtain ⟨h9, -⟩ := hH
              simp only [view, List.foldl, Act.put, List.setIfInBounds_toArray, List.set_cons_zero, List.set_cons_succ]
              rw [show f 9 = _ from h9]
              clear h9
              go_wp2_with (go_at_call 35; refine (four_any S w').mono ?_; rintro e w1 ⟨g1, rfl, hf1, hg1⟩)
              exact hQ _ _ hg1 ⟨_, rfl, hf1⟩ rfl
            refine obls_cons (fun f w' hR hH Q hQ => ?_) ?_
            · skip
              obtain ⟨h10, -⟩ := hH
              simp only [view, List.foldl, Act.put, List.setIfInBounds_toArray, List.set_cons_zero, List.set_cons_succ]
              generalize f 10 = u10 at h10 ⊢
              replace h10 : (IsFour S) u10 w' := h10
              obtain ⟨g1, rfl, hf1⟩ := h10
              have hcs := conv_str (P := Tryd.prog) Tryd.underlying25 Tryd.underlying5 Tryd.underlying9 hf1 4
              clear hf1
              go_wp2_with fail
              exact hQ _ _ (Grow.refl _) rfl rfl
            refine obls_cons (fun f w' hR hH Q hQ => ?_) ?_
            · skip
              obtain ⟨h5, h11, -⟩ := hH
              simp only [view, List.foldl, Act.put, List.setIfInBounds_toArray, List.set_cons_zero, List.set_cons_succ]
              rw [show f 5 = _ from h5]
              rw [show f 11 = _ from h11]
              clear h5 h11
              repeat (first | go_guarded | go_step)
              exact hQ _ _ (Grow.refl _) rfl rfl
            exact obls_nil
          case mono => exact ⟨Mono.veq _, Mono.veq _, Mono.veq _, Mono.veq _, Mono.veq _, Mono.veq _, Mono.veq _, Mono.veq _, Mono.veq _, Mono.veq _, IsFour.mono, Mono.veq _, Mono.veq _, trivial⟩
          case tail =>
            intro f w' hR hH
            simp only [view, List.zipIdx, List.foldl, Act.put, List.setIfInBounds_toArray, List.set_cons_zero, List.set_cons_succ, List.drop_succ_cons, List.drop_zero]
            obtain ⟨-, -, -, -, -, -, -, -, -, -, -, -, q12, -⟩ := hH
            rw [show f 12 = _ from q12]
            clear q12
            generalize f 0 = x0
            generalize f 1 = x1
            generalize f 2 = x2
            generalize f 3 = x3
            generalize f 4 = x4
            generalize f 5 = x5
            generalize f 6 = x6
            generalize f 7 = x7
            generalize f 8 = x8
            generalize f 9 = x9
            generalize f 10 = x10
            generalize f 11 = x11
            have HR := Lib.hid hR
            have HM : Hid (((m + 4 : Nat) : Int) = (m : Int) + 4) := Lib.hid (by omega)
            clear hR
            go_wp2_with fail
            go_ret3
            exact ⟨_, by rw [HM.out]; rfl, ⟨E, a, c - b, rfl, by omega, by unfold maxLen; omega, HBK.out.grow HR.out, HEB.out⟩, HR.out⟩
        · have hne : ((str dd).toList == (str (four8 S)).toList) = false := beq_false_of_ne (fun h => hJS (hfo.2 (by rw [el, el] at h; exact h)))
          rw [if_neg (fun h => hJS (hfo.2 h))]
          have HNE := Lib.hid hne
          clear hr hb hlen hbl ha hs hm0 hbk hbt hfo hS hJ hD hE hdd hkk htt hdl t2 hma hbd hJS hEB hmo hs1 hs2 el hne
          go_enter Tryd.func31, Tryd.ntmps31
          go_wp2_with fail
          refine HRD.out.mono ?_
          rintro e w' ⟨rfl, rfl⟩
          go_wp2_with fail
          apply (fun (v0 v1 v2 v3 v4 v5 v6 v7 v8 v9 v11 v12 : Value) mono obl tail => wp_region_par (R := Grow) (Φ := phi [veq v0, veq v1, veq v2, veq v3, veq v4, veq v5, veq v6, veq v7, veq v8, veq v9, (IsFour S), veq v11, veq v12]) (m := 13) (dls := [[], [], [], [(31, 2)], [(29, 0), (30, 1), (32, 3)], [(33, 4)], [], [], [(35, 6), (36, 7)], [(37, 8)], [(38, 9)], [(39, 10)], [(34, 5), (40, 11)]]) (ds := [29, 30, 31, 32, 33, 34, 35, 36, 37, 38, 39, 40, 41]) (by kernel_rfl) (by kernel_rfl) (by decide) rfl (Grow.drew _) (fun _ _ _ => Grow.trans) (mono_phi mono) obl tail)
          case obl =>
            refine obls_cons (fun f w' hR hH Q hQ => ?_) ?_
            · skip
              simp only [view, List.foldl]
              repeat (first | go_guarded | go_step)
              exact hQ _ _ (Grow.refl _) rfl rfl
            refine obls_cons (fun f w' hR hH Q hQ => ?_) ?_
            · skip
              simp only [view, List.foldl]
              repeat (first | go_guarded | go_step)
              exact hQ _ _ (Grow.refl _) rfl rfl
            refine obls_cons (fun f w' hR hH Q hQ => ?_) ?_
            · skip
              simp only [view, List.foldl]
              repeat (first | go_guarded | go_step)
              exact hQ _ _ (Grow.refl _) rfl rfl
            refine obls_cons (fun f w' hR hH Q hQ => ?_) ?_
            · skip
              obtain ⟨h2, -⟩ := hH
              simp only [view, List.foldl, Act.put, List.setIfInBounds_toArray, List.set_cons_zero, List.set_cons_succ]
              rw [show f 2 = _ from h2]
              clear h2
              repeat (first | go_guarded | go_step)
              exact hQ _ _ (Grow.refl _) rfl rfl
            refine obls_cons (fun f w' hR hH Q hQ => ?_) ?_
            · skip
              obtain ⟨h0, h1, h3, -⟩ := hH
              simp only [view, List.foldl, Act.put, List.setIfInBounds_toArray, List.set_cons_zero, List.set_cons_succ]
              rw [show f 0 = _ from h0]
              rw [show f 1 = _ from h1]
              rw [show f 3 = _ from h3]
              clear h0 h1 h3
              have hs1 := HS1.out
              repeat (first | go_guarded | go_step)
              exact hQ _ _ (Grow.refl _) rfl rfl
            refine obls_cons (fun f w' hR hH Q hQ => ?_) ?_
            · skip
              obtain ⟨h4, -⟩ := hH
              simp only [view, List.foldl, Act.put, List.setIfInBounds_toArray, List.set_cons_zero, List.set_cons_succ]
              rw [show f 4 = _ from h4]
              clear h4
              have hcs := fun c => conv_str (P := Tryd.prog) Tryd.underlying25 Tryd.underlying5 Tryd.underlying9 ((HBD.out).grow hR) c
              go_wp2_with fail
              exact hQ _ _ (Grow.refl _) rfl rfl
            refine obls_cons (fun f w' hR hH Q hQ => ?_) ?_
            · skip
              simp only [view, List.foldl]
              repeat (first | go_guarded | go_step)
              exact hQ _ _ (Grow.refl _) rfl rfl
            refine obls_cons (fun f w' hR hH Q hQ => ?_) ?_
            · skip
              simp only [view, List.foldl]
              repeat (first | go_guarded | go_step)
              exact hQ _ _ (Grow.refl _) rfl rfl
            refine obls_cons (fun f w' hR hH Q hQ => ?_) ?_
            · skip
              obtain ⟨h6, h7, -⟩ := hH
              simp only [view, List.foldl, Act.put, List.setIfInBounds_toArray, List.set_cons_zero, List.set_cons_succ]
              rw [show f 6 = _ from h6]
              rw [show f 7 = _ from h7]
              clear h6 h7
              have hs2 := HS2.out
              repeat (first | go_guarded | go_step)
              exact hQ _ _ (Grow.refl _) rfl rfl
            refine obls_cons (fun f w' hR hH Q hQ => ?_) ?_
            · skip
              obtain ⟨h8, -⟩ := hH
              simp only [view, List.foldl, Act.put, List.setIfInBounds_toArray, List.set_cons_zero, List.set_cons_succ]
              rw [show f 8 = _ from h8]
              clear h8
              go_wp2_with (go_at_call 17; refine (HMO.out _ _ _ w' (HBT.out.grow hR) (by unfold maxLen; omega)).mono ?_; rintro e w1 ⟨rfl, rfl⟩)
              exact hQ _ _ (Grow.refl _) rfl rfl
            refine obls_cons (fun f w' hR hH Q hQ => ?_) ?_
            · skip
              obtain ⟨h9, -⟩ := hH
              simp only [view, List.foldl, Act.put, List.setIfInBounds_toArray, List.set_cons_zero, List.set_cons_succ]
              rw [show f 9 = _ from h9]
              clear h9
              go_wp2_with (go_at_call 35; refine (four_any S w').mono ?_; rintro e w1 ⟨g1, rfl, hf1, hg1⟩)
              exact hQ _ _ hg1 ⟨_, rfl, hf1⟩ rfl
            refine obls_cons (fun f w' hR hH Q hQ => ?_) ?_
            · skip
              obtain ⟨h10, -⟩ := hH
              simp only [view, List.foldl, Act.put, List.setIfInBounds_toArray, List.set_cons_zero, List.set_cons_succ]
              generalize f 10 = u10 at h10 ⊢
              replace h10 : (IsFour S) u10 w' := h10
              obtain ⟨g1, rfl, hf1⟩ := h10
              have hcs := conv_str (P := Tryd.prog) Tryd.underlying25 Tryd.underlying5 Tryd.underlying9 hf1 4
              clear hf1
              go_wp2_with fail
              exact hQ _ _ (Grow.refl _) rfl rfl
            refine obls_cons (fun f w' hR hH Q hQ => ?_) ?_
            · skip
              obtain ⟨h5, h11, -⟩ := hH
              simp only [view, List.foldl, Act.put, List.setIfInBounds_toArray, List.set_cons_zero, List.set_cons_succ]
              rw [show f 5 = _ from h5]
              rw [show f 11 = _ from h11]
              clear h5 h11
              have hne := HNE.out
              repeat (first | go_guarded | go_step)
              exact hQ _ _ (Grow.refl _) rfl rfl
            exact obls_nil
          case mono => exact ⟨Mono.veq _, Mono.veq _, Mono.veq _, Mono.veq _, Mono.veq _, Mono.veq _, Mono.veq _, Mono.veq _, Mono.veq _, Mono.veq _, IsFour.mono, Mono.veq _, Mono.veq _, trivial⟩
          case tail =>
            intro f w' hR hH
            simp only [view, List.zipIdx, List.foldl, Act.put, List.setIfInBounds_toArray, List.set_cons_zero, List.set_cons_succ, List.drop_succ_cons, List.drop_zero]
            obtain ⟨-, -, -, -, -, -, -, -, -, -, -, -, q12, -⟩ := hH
            rw [show f 12 = _ from q12]
            clear q12
            generalize f 0 = x0
            generalize f 1 = x1
            generalize f 2 = x2
            generalize f 3 = x3
            generalize f 4 = x4
            generalize f 5 = x5
            generalize f 6 = x6
            generalize f 7 = x7
            generalize f 8 = x8
            generalize f 9 = x9
            generalize f 10 = x10
            generalize f 11 = x11
            have HR := Lib.hid hR
            clear hR
            go_wp2_with fail
            go_ret3
            exact ⟨_, rfl, sl_nil _ _, HR.out⟩
  · rw [if_pos hd]
    have t2 : ((d : Int) != 0) = true := bne_iff_ne.2 (by omega)
    clear hr hb hlen hd
    go_enter Tryd.func31, Tryd.ntmps31
    go_wp2_with fail
    refine HRD.out.mono ?_
    rintro e w' ⟨rfl, rfl⟩
    go_wp2_with fail
    go_ret3
    exact ⟨_, rfl, sl_nil _ _, Grow.refl _⟩

end Go.Proofs.YtmkbkophpmkcbaaDoor.frW
