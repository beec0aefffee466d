/- The statements of seals: SealSpoils, SealBack, SealBursts. -/
import Derived.Test.YtmkbkophpmkcbaaDoorSealL
namespace Go.Proofs.YtmkbkophpmkcbaaDoor.slL
open Go Go.RowKit Go.Par Go.Kit Go.Proofs.YtmkbkophpmkcbaaDoor.cl Go.Proofs.YtmkbkophpmkcbaaDoor.crcW Go.Proofs.YtmkbkophpmkcbaaDoor.slW

set_option maxRecDepth 100000 in
set_option maxHeartbeats 1000000 in
theorem spoils_walk (A : Option Addr) (n c : Nat) (l : List UInt8) (a : Int) (m : BitVec 32) (w : World) (hb : Bytes w A n l) (ha0 : -9223372036854775808 ≤ a) (ha1 : a ≤ 9223372036854775807) (ht : Tab w) :
    Calls Tryd.prog 8 #[.slice A n c, .int .i64 a, .int .u32 (m.toNat : Int)] w fun e w' => e = .returned (.bool true) ∧ Grow w w' := by
  by_cases hn : n ≤ 500
  · have HL := Lib.hid hb.len
    go_enter Tryd.func8, Tryd.ntmps8
    go_wp2_with (at_builtin; refine append_bytes Tryd.underlying25 i8 i8z i8s i8b rfl _ _ rfl w.heap.size _ 0 [] (own_zero w _ rfl (Nat.le_refl _)) rfl A n c l (hb.grow (Grow.alloc w _)) rfl ?_ ?_ ?_; omega; (simp); intro v1 w1 hown1 hgb1 hh1; obtain ⟨A1, c1, rfl, -, -, -⟩ := own_form hown1)
    rw [Nat.zero_add, List.nil_append] at hown1
    have HG1 := Lib.hid (grow_by (Grow.alloc w _) hgb1 (own_base (own_zero w 5 rfl (Nat.le_refl _))))
    have HS1 := Lib.hid (own_sl hown1)
    have HSP := Lib.hid (spoil_any A1 n c1 l a m w1 (sl_bytes HS1.out) (by omega))
    clear hown1 hgb1 hh1
    refine HSP.out.mono ?_
    rintro e w2 ⟨v2, rfl, ho2, hg2⟩
    have HS2 := Lib.hid (own_sl ho2)
    obtain ⟨A2, n2, c2, rfl, -, -, -⟩ := HS2.out
    have HG2 := Lib.hid (HG1.out.trans hg2)
    have HB2 : Hid (Bytes w2 A2 n2 (spo l a m 32)) := Lib.hid (sl_bytes HS2.out)
    have HB1 : Hid (Bytes w2 A1 n l) := Lib.hid (sl_bytes (HS1.out.grow hg2))
    have HB0 : Hid (Bytes w2 A n l) := Lib.hid (hb.grow HG2.out)
    have HT := Lib.hid (ht.grow HG2.out)
    clear ho2 hg2 HSP HS1 HS2
    go_wp2_with fail
    apply (fun (v0 v1 v2 v3 v4 v6 v7 v8 v9 v10 v11 v12 v13 v14 v15 v16 v17 v18 : Value) mono obl tail => wp_region_par (R := Grow) (Φ := phi [veq v0, veq v1, veq v2, veq v3, veq v4, (IsSl (spo l a m 32)), veq v6, veq v7, veq v8, veq v9, veq v10, veq v11, veq v12, veq v13, veq v14, veq v15, veq v16, veq v17, veq v18]) (m := 19) (dls := [[], [(20, 0)], [], [], [], [(22, 2), (23, 3), (24, 4)], [(25, 5)], [(21, 1), (26, 6)], [(27, 7)], [(28, 8)], [(29, 9), (28, 8)], [(28, 8)], [(31, 11), (28, 8)], [(30, 10), (32, 12), (28, 8)], [(28, 8), (33, 13)], [(34, 14)], [(35, 15)], [(35, 15), (36, 16)], [(37, 17)]]) (ds := [20, 21, 22, 23, 24, 25, 26, 27, 28, 29, 30, 31, 32, 33, 34, 35, 36, 37, 6]) (by kernel_rfl) (by kernel_rfl) (by decide) rfl (Grow.drew _) (fun _ _ _ => Grow.trans) (mono_phi mono) obl tail)
    case obl =>
      refine obls_cons (fun f w' hR hH Q hQ => ?_) ?_
      · skip
        simp only [view, List.foldl]
        repeat (first | go_guarded | go_step)
        exact hQ _ _ (Grow.refl _) rfl rfl
      refine obls_cons (fun f w' hR hH Q hQ => ?_) ?_
      · skip
        obtain ⟨h0, -⟩ := hH
        simp only [view, List.foldl, Act.put, List.setIfInBounds_toArray, List.set_cons_zero, List.set_cons_succ]
        rw [show f 0 = _ from h0]
        clear h0
        have hcs := fun c => conv_str (P := Tryd.prog) Tryd.underlying25 Tryd.underlying5 Tryd.underlying9 ((HB2.out).grow hR) c
        go_wp2_with fail
        exact hQ _ _ (Grow.refl _) rfl rfl
      refine obls_cons (fun f w' hR hH Q hQ => ?_) ?_
      · skip
        simp only [view, List.foldl]
        repeat (first | go_guarded | go_step)
        exact hQ _ _ (Grow.refl _) rfl rfl
      refine obls_cons (fun f w' hR hH Q hQ => ?_) ?_
      · skip
        simp only [view, List.foldl]
        repeat (first | go_guarded | go_step)
        exact hQ _ _ (Grow.refl _) rfl rfl
      refine obls_cons (fun f w' hR hH Q hQ => ?_) ?_
      · skip
        simp only [view, List.foldl]
        repeat (first | go_guarded | go_step)
        exact hQ _ _ (Grow.refl _) rfl rfl
      refine obls_cons (fun f w' hR hH Q hQ => ?_) ?_
      · skip
        obtain ⟨h2, h3, h4, -⟩ := hH
        simp only [view, List.foldl, Act.put, List.setIfInBounds_toArray, List.set_cons_zero, List.set_cons_succ]
        rw [show f 2 = _ from h2]
        rw [show f 3 = _ from h3]
        rw [show f 4 = _ from h4]
        clear h2 h3 h4
        go_wp2_with (go_at_call 26; refine (ref_spoil_any A n c l a m _ (HB0.out.grow hR) (by omega) ha0 ha1).mono ?_; rintro e w1 ⟨v1, rfl, ho1, hg1⟩)
        exact hQ _ _ hg1 (own_sl ho1) rfl
      refine obls_cons (fun f w' hR hH Q hQ => ?_) ?_
      · skip
        obtain ⟨h5, -⟩ := hH
        simp only [view, List.foldl, Act.put, List.setIfInBounds_toArray, List.set_cons_zero, List.set_cons_succ]
        generalize f 5 = u5 at h5 ⊢
        replace h5 : (IsSl (spo l a m 32)) u5 w' := h5
        obtain ⟨A1, n1, c1, rfl, -, -, hb1⟩ := h5
        have hcs := conv_str (P := Tryd.prog) Tryd.underlying25 Tryd.underlying5 Tryd.underlying9 hb1 c1
        clear hb1
        go_wp2_with fail
        exact hQ _ _ (Grow.refl _) rfl rfl
      refine obls_cons (fun f w' hR hH Q hQ => ?_) ?_
      · skip
        obtain ⟨h1, h6, -⟩ := hH
        simp only [view, List.foldl, Act.put, List.setIfInBounds_toArray, List.set_cons_zero, List.set_cons_succ]
        rw [show f 1 = _ from h1]
        rw [show f 6 = _ from h6]
        clear h1 h6
        repeat (first | go_guarded | go_step)
        exact hQ _ _ (Grow.refl _) rfl rfl
      refine obls_cons (fun f w' hR hH Q hQ => ?_) ?_
      · skip
        obtain ⟨h7, -⟩ := hH
        simp only [view, List.foldl, Act.put, List.setIfInBounds_toArray, List.set_cons_zero, List.set_cons_succ]
        rw [show f 7 = _ from h7]
        clear h7
        repeat (first | go_guarded | go_step)
        exact hQ _ _ (Grow.refl _) rfl rfl
      refine obls_cons (fun f w' hR hH Q hQ => ?_) ?_
      · skip
        obtain ⟨h8, -⟩ := hH
        simp only [view, List.foldl, Act.put, List.setIfInBounds_toArray, List.set_cons_zero, List.set_cons_succ]
        rw [show f 8 = _ from h8]
        clear h8
        repeat (first | go_guarded | go_step)
        exact hQ _ _ (Grow.refl _) rfl rfl
      refine obls_cons (fun f w' hR hH Q hQ => ?_) ?_
      · skip
        obtain ⟨h9, h8, -⟩ := hH
        simp only [view, List.foldl, Act.put, List.setIfInBounds_toArray, List.set_cons_zero, List.set_cons_succ]
        rw [show f 9 = _ from h9]
        rw [show f 8 = _ from h8]
        clear h9 h8
        have hcs := fun c => conv_str (P := Tryd.prog) Tryd.underlying25 Tryd.underlying5 Tryd.underlying9 ((HB1.out).grow hR) c
        go_wp2_with fail
        exact hQ _ _ (Grow.refl _) rfl rfl
      refine obls_cons (fun f w' hR hH Q hQ => ?_) ?_
      · skip
        obtain ⟨h8, -⟩ := hH
        simp only [view, List.foldl, Act.put, List.setIfInBounds_toArray, List.set_cons_zero, List.set_cons_succ]
        rw [show f 8 = _ from h8]
        clear h8
        repeat (first | go_guarded | go_step)
        exact hQ _ _ (Grow.refl _) rfl rfl
      refine obls_cons (fun f w' hR hH Q hQ => ?_) ?_
      · skip
        obtain ⟨h11, h8, -⟩ := hH
        simp only [view, List.foldl, Act.put, List.setIfInBounds_toArray, List.set_cons_zero, List.set_cons_succ]
        rw [show f 11 = _ from h11]
        rw [show f 8 = _ from h8]
        clear h11 h8
        have hcs := fun c => conv_str (P := Tryd.prog) Tryd.underlying25 Tryd.underlying5 Tryd.underlying9 ((HB0.out).grow hR) c
        go_wp2_with fail
        exact hQ _ _ (Grow.refl _) rfl rfl
      refine obls_cons (fun f w' hR hH Q hQ => ?_) ?_
      · skip
        obtain ⟨h10, h12, h8, -⟩ := hH
        simp only [view, List.foldl, Act.put, List.setIfInBounds_toArray, List.set_cons_zero, List.set_cons_succ]
        rw [show f 10 = _ from h10]
        rw [show f 12 = _ from h12]
        rw [show f 8 = _ from h8]
        clear h10 h12 h8
        repeat (first | go_guarded | go_step)
        exact hQ _ _ (Grow.refl _) rfl rfl
      refine obls_cons (fun f w' hR hH Q hQ => ?_) ?_
      · skip
        obtain ⟨h8, h13, -⟩ := hH
        simp only [view, List.foldl, Act.put, List.setIfInBounds_toArray, List.set_cons_zero, List.set_cons_succ]
        rw [show f 8 = _ from h8]
        rw [show f 13 = _ from h13]
        clear h8 h13
        repeat (first | go_guarded | go_step)
        exact hQ _ _ (Grow.refl _) rfl rfl
      refine obls_cons (fun f w' hR hH Q hQ => ?_) ?_
      · skip
        obtain ⟨h14, -⟩ := hH
        simp only [view, List.foldl, Act.put, List.setIfInBounds_toArray, List.set_cons_zero, List.set_cons_succ]
        rw [show f 14 = _ from h14]
        clear h14
        repeat (first | go_guarded | go_step)
        exact hQ _ _ (Grow.refl _) rfl rfl
      refine obls_cons (fun f w' hR hH Q hQ => ?_) ?_
      · skip
        obtain ⟨h15, -⟩ := hH
        simp only [view, List.foldl, Act.put, List.setIfInBounds_toArray, List.set_cons_zero, List.set_cons_succ]
        rw [show f 15 = _ from h15]
        clear h15
        go_wp2_with (go_at_call 20; refine (works_any _ (HT.out.grow hR)).mono ?_; rintro e w1 ⟨rfl, hg1⟩)
        exact hQ _ _ hg1 rfl rfl
      refine obls_cons (fun f w' hR hH Q hQ => ?_) ?_
      · skip
        obtain ⟨h15, h16, -⟩ := hH
        simp only [view, List.foldl, Act.put, List.setIfInBounds_toArray, List.set_cons_zero, List.set_cons_succ]
        rw [show f 15 = _ from h15]
        rw [show f 16 = _ from h16]
        clear h15 h16
        repeat (first | go_guarded | go_step)
        exact hQ _ _ (Grow.refl _) rfl rfl
      refine obls_cons (fun f w' hR hH Q hQ => ?_) ?_
      · skip
        obtain ⟨h17, -⟩ := hH
        simp only [view, List.foldl, Act.put, List.setIfInBounds_toArray, List.set_cons_zero, List.set_cons_succ]
        rw [show f 17 = _ from h17]
        clear h17
        repeat (first | go_guarded | go_step)
        exact hQ _ _ (Grow.refl _) rfl rfl
      exact obls_nil
    case mono => exact ⟨Mono.veq _, Mono.veq _, Mono.veq _, Mono.veq _, Mono.veq _, IsSl.mono, Mono.veq _, Mono.veq _, Mono.veq _, Mono.veq _, Mono.veq _, Mono.veq _, Mono.veq _, Mono.veq _, Mono.veq _, Mono.veq _, Mono.veq _, Mono.veq _, Mono.veq _, trivial⟩
    case tail =>
      intro f w' hR hH
      simp only [view, List.zipIdx, List.foldl, Act.put, List.setIfInBounds_toArray, List.set_cons_zero, List.set_cons_succ, List.drop_succ_cons, List.drop_zero]
      obtain ⟨-, -, -, -, -, -, -, -, -, -, -, -, -, -, -, -, -, -, q18, -⟩ := hH
      rw [show f 18 = _ from q18]
      clear q18
      generalize f 0 = x0
      generalize f 1 = x1
      generalize f 2 = x2
      generalize f 3 = x3
      generalize f 4 = x4
      generalize f 5 = x5
      generalize f 6 = x6
      generalize f 7 = x7
      generalize f 8 = x8
      generalize f 9 = x9
      generalize f 10 = x10
      generalize f 11 = x11
      generalize f 12 = x12
      generalize f 13 = x13
      generalize f 14 = x14
      generalize f 15 = x15
      generalize f 16 = x16
      generalize f 17 = x17
      go_wp2_with fail
      go_ret
      exact ⟨rfl, HG2.out.trans hR⟩
  · go_enter Tryd.func8, Tryd.ntmps8
    go_wp2_with (go_at_call 20; refine (works_any _ ht).mono ?_; rintro e w' ⟨rfl, hg⟩)
    go_ret
    exact ⟨rfl, hg⟩

set_option maxRecDepth 100000 in
set_option maxHeartbeats 1000000 in
theorem back_walk (A : Option Addr) (n c : Nat) (l : List UInt8) (x : Int) (w : World) (hb : Bytes w A n l) (hc : n ≤ c) (hm : c ≤ maxLen) (hx0 : 0 ≤ x) (hx1 : x ≤ 65535) (ht : Tab w) :
    Calls Tryd.prog 9 #[.slice A n c, .int .u16 x] w fun e w' => e = .returned (.bool true) ∧ Grow w w' := by
  by_cases hn : n ≤ 1000
  · have hlen := hb.len
    have HSE := Lib.hid (seal_any A n c l w hb hc hm (by omega) ht)
    obtain ⟨s, hs⟩ : ∃ s, s = seal8 l := ⟨_, rfl⟩
    rw [← hs] at HSE
    have hos : Hid (open8 s = (l, 0)) := Lib.hid (by rw [hs, open_seal])
    have hsl : s.length = n + 4 := by rw [hs, seal8_len, hlen]
    have HSL := Lib.hid hsl
    have HL := Lib.hid hlen
    have HB := Lib.hid hb
    obtain ⟨k, hk, hkn⟩ : ∃ k : Nat, x % ((n : Int) + 4) = k ∧ k < n + 4 := by
      have h1 := Int.emod_nonneg x (show ((n : Int) + 4) ≠ 0 by omega)
      have h2 := Int.emod_lt_of_pos x (show 0 < ((n : Int) + 4) by omega)
      exact ⟨(x % ((n : Int) + 4)).toNat, by omega, by omega⟩
    have HK := Lib.hid hk
    clear hs hsl hlen hb hk hm
    go_enter Tryd.func9, Tryd.ntmps9
    go_wp2_with fail
    refine HSE.out.mono ?_
    rintro e w1 ⟨v1, rfl, ho1, hg1⟩
    rw [HL.out] at ho1
    obtain ⟨A1, c1, rfl, a1, a2, a3⟩ := own_form ho1
    rw [Nat.mul_one] at a3
    have HB1 : Hid (Bytes w1 A1 (n + 4) s) := Lib.hid a3
    have HO1 := Lib.hid (open_any A1 (n + 4) c1 s w1 HB1.out a1 a2 (by omega) (ht.grow hg1))
    rw [hos.out] at HO1
    have HG1 := Lib.hid hg1
    have HA2 := Lib.hid a2
    clear ho1 a2 a3 hg1 HSE
    go_wp2_with fail
    refine HO1.out.mono ?_
    rintro e w2 ⟨v2, rfl, ho2, hg2⟩
    have HS2 := Lib.hid (own_sl ho2)
    obtain ⟨A2, n2, c2, rfl, -, -, -⟩ := HS2.out
    have HG2 := Lib.hid (HG1.out.trans hg2)
    have HB1' := Lib.hid (HB1.out.grow hg2)
    have cs1 := conv_str (P := Tryd.prog) Tryd.underlying25 Tryd.underlying5 Tryd.underlying9 (sl_bytes HS2.out) c2
    have cs2 := conv_str (P := Tryd.prog) Tryd.underlying25 Tryd.underlying5 Tryd.underlying9 (HB.out.grow HG2.out) c
    have t0 : (((n + 4 : Nat) : Int) != (n : Int) + 4) = false := by simp
    have hsl1 := slice_hi (P := Tryd.prog) Tryd.underlying25 i8 A1 (n + 4) c1 k (by omega)
    have hk := HK.out
    have HBK : Hid (Bytes w2 A1 k (s.take k)) := Lib.hid (HB1'.out.take (by omega))
    have HO2 := Lib.hid (open_any A1 k c1 (s.take k) w2 HBK.out (by omega) HA2.out (by omega) (ht.grow HG2.out))
    have hne : (n : Int) + 4 ≠ 0 := by omega
    clear ho2 hg2 HO1 HS2 HB1 HG1
    go_wp2_with fail
    refine HO2.out.mono ?_
    rintro e w3 ⟨v3, rfl, ho3, hg3⟩
    have HS3 := Lib.hid (own_sl ho3)
    obtain ⟨A3, n3, c3, rfl, -, -, -⟩ := HS3.out
    have HG3 := Lib.hid (HG2.out.trans hg3)
    have HO3 := Lib.hid (ref_open_any A1 k c1 (s.take k) w3 (HBK.out.grow hg3) (by omega) (by omega))
    clear ho3 hg3 HO2 cs1 cs2
    go_wp2_with fail
    refine HO3.out.mono ?_
    rintro e w4 ⟨v4, rfl, ho4, hg4⟩
    have HS4 := Lib.hid (own_sl ho4)
    obtain ⟨A4, n4, c4, rfl, -, -, -⟩ := HS4.out
    have HG4 := Lib.hid (HG3.out.trans hg4)
    have cs3 := conv_str (P := Tryd.prog) Tryd.underlying25 Tryd.underlying5 Tryd.underlying9 (sl_bytes (HS3.out.grow hg4)) c3
    have cs4 := conv_str (P := Tryd.prog) Tryd.underlying25 Tryd.underlying5 Tryd.underlying9 (sl_bytes HS4.out) c4
    have HW := Lib.hid (works_any w4 (ht.grow HG4.out))
    clear ho4 hg4 HO3 HS3 HS4
    go_wp2_with fail
    refine HW.out.mono ?_
    rintro e w5 ⟨rfl, hg5⟩
    go_wp2_with fail
    go_ret
    exact ⟨rfl, HG4.out.trans hg5⟩
  · go_enter Tryd.func9, Tryd.ntmps9
    go_wp2_with (go_at_call 20; refine (works_any _ ht).mono ?_; rintro e w' ⟨rfl, hg⟩)
    go_ret
    exact ⟨rfl, hg⟩
theorem open_spoilt (l : List UInt8) (a : Int) (m : BitVec 32) (h : spo (seal8 l) a m 32 ≠ seal8 l) : open8 (spo (seal8 l) a m 32) = ([], 5) := by
  have h1 := open8_bv (spo (seal8 l) a m 32)
  rw [spo_bv, seal8_bv] at h1
  have h2 := Sea.spoilt_opened (l := bv l) (at_ := a) (m := m) (fun e => h (bv_inj (by rw [spo_bv, seal8_bv]; exact e)))
  unfold Sea.spoil at h2
  rw [h2] at h1
  injection h1 with h3 h4
  exact Prod.ext (bv_inj h3) h4
theorem spo_back (l : List UInt8) (a : Int) (m : BitVec 32) : spo (spo l a m 32) a m 32 = l := by
  apply bv_inj
  rw [spo_bv, spo_bv]
  exact Sea.spoil_back (bv l) a m

set_option maxRecDepth 100000 in
set_option maxHeartbeats 1000000 in
theorem bursts_walk (A : Option Addr) (n c : Nat) (l : List UInt8) (a : Int) (m : BitVec 32) (w : World) (hb : Bytes w A n l) (hc : n ≤ c) (hm : c ≤ maxLen) (ht : Tab w) :
    Calls Tryd.prog 10 #[.slice A n c, .int .i64 a, .int .u32 (m.toNat : Int)] w fun e w' => e = .returned (.bool true) ∧ Grow w w' := by
  by_cases hn : n ≤ 1000
  · have hlen := hb.len
    have HSE := Lib.hid (seal_any A n c l w hb hc hm (by omega) ht)
    obtain ⟨s, hs⟩ : ∃ s, s = seal8 l := ⟨_, rfl⟩
    obtain ⟨t, htt⟩ : ∃ t, t = spo s a m 32 := ⟨_, rfl⟩
    rw [← hs] at HSE
    have hos : Hid (open8 s = (l, 0)) := Lib.hid (by rw [hs, open_seal])
    have hot : Hid (t ≠ s → open8 t = ([], 5)) := Lib.hid (fun h => by rw [htt, hs]; exact open_spoilt l a m (by rw [← hs, ← htt]; exact h))
    have hbk : Hid (spo t a m 32 = s) := Lib.hid (by rw [htt]; exact spo_back s a m)
    have hsl : s.length = n + 4 := by rw [hs, seal8_len, hlen]
    have htl : t.length = n + 4 := by rw [htt, spo_len, hsl]
    have HTT := Lib.hid htt
    have HSL := Lib.hid hsl
    have HTL := Lib.hid htl
    have HL := Lib.hid hlen
    have HB := Lib.hid hb
    clear hs hsl hlen hb hm htt htl
    go_enter Tryd.func10, Tryd.ntmps10
    go_wp2_with fail
    refine HSE.out.mono ?_
    rintro e w1 ⟨v1, rfl, ho1, hg1⟩
    rw [HL.out] at ho1
    obtain ⟨A1, c1, rfl, a1, a2, a3⟩ := own_form ho1
    rw [Nat.mul_one] at a3
    have HB1 : Hid (Bytes w1 A1 (n + 4) s) := Lib.hid a3
    have HP1 := Lib.hid (spoil_any A1 (n + 4) c1 s a m w1 HB1.out (by omega))
    rw [← HTT.out] at HP1
    have HG1 := Lib.hid hg1
    clear ho1 a2 a3 hg1 HSE
    go_wp2_with fail
    refine HP1.out.mono ?_
    rintro e w2 ⟨v2, rfl, ho2, hg2⟩
    obtain ⟨A2, c2, rfl, b1, b2, b3⟩ := own_form ho2
    rw [Nat.mul_one] at b3
    have HB2 : Hid (Bytes w2 A2 (n + 4) t) := Lib.hid b3
    have HG2 := Lib.hid (HG1.out.trans hg2)
    have HB1' := Lib.hid (HB1.out.grow hg2)
    have HO2 := Lib.hid (open_any A2 (n + 4) c2 t w2 HB2.out b1 b2 (by omega) (ht.grow HG2.out))
    clear ho2 b2 b3 hg2 HP1 HB1 HG1
    by_cases hts : t = s
    · have HTS := Lib.hid hts
      rw [hts, hos.out] at HO2
      clear hts
      go_wp2_with fail
      refine HO2.out.mono ?_
      rintro e w3 ⟨v3, rfl, ho3, hg3⟩
      have HS3 := Lib.hid (own_sl ho3)
      obtain ⟨A3, n3, c3, rfl, -, -, -⟩ := HS3.out
      have HG3 := Lib.hid (HG2.out.trans hg3)
      have cs1 := conv_str (P := Tryd.prog) Tryd.underlying25 Tryd.underlying5 Tryd.underlying9 (HB1'.out.grow hg3) c1
      have cs2 := conv_str (P := Tryd.prog) Tryd.underlying25 Tryd.underlying5 Tryd.underlying9 (HB2.out.grow hg3) c2
      have cs3 := conv_str (P := Tryd.prog) Tryd.underlying25 Tryd.underlying5 Tryd.underlying9 (sl_bytes HS3.out) c3
      have cs4 := conv_str (P := Tryd.prog) Tryd.underlying25 Tryd.underlying5 Tryd.underlying9 (HB.out.grow HG3.out) c
      rw [HTS.out] at cs2
      have HW := Lib.hid (works_any w3 (ht.grow HG3.out))
      clear ho3 hg3 HO2 HS3
      go_wp2_with fail
      refine HW.out.mono ?_
      rintro e w5 ⟨rfl, hg5⟩
      go_wp2_with fail
      go_ret
      exact ⟨rfl, HG3.out.trans hg5⟩
    · have HO3 := Lib.hid (hot.out hts)
      rw [HO3.out] at HO2
      have el : ∀ l, (str l).toList = l := fun l => ByteArray.toList_mk l
      have tne : ((str t).toList == (str s).toList) = false := beq_false_of_ne (fun h => hts (by rw [el, el] at h; exact h))
      have HNE := Lib.hid tne
      clear el tne hts
      go_wp2_with fail
      refine HO2.out.mono ?_
      rintro e w3 ⟨v3, rfl, ho3, hg3⟩
      have hn0 : ([] : List UInt8).length = 0 := rfl
      replace ho3 : w3.ownsRow w2.heap.size 5 1 v3 0 (u8s []) := ho3
      obtain ⟨A3, c3, rfl, d1, d2, d3⟩ := own_form ho3
      have HG3 := Lib.hid (HG2.out.trans hg3)
      have HB1'' := Lib.hid (HB1'.out.grow hg3)
      have HB2' := Lib.hid (HB2.out.grow hg3)
      have HT := Lib.hid (ht.grow HG3.out)
      have cs1 := conv_str (P := Tryd.prog) Tryd.underlying25 Tryd.underlying5 Tryd.underlying9 HB1''.out c1
      have cs2 := conv_str (P := Tryd.prog) Tryd.underlying25 Tryd.underlying5 Tryd.underlying9 HB2'.out c2
      have tne := HNE.out
      clear ho3 hg3 HO2 hn0 d3 d2
      go_wp2_with fail
      clear cs1 cs2 tne
      apply (fun (v0 v1 v2 v3 v4 v5 v6 v7 v8 v9 v10 v12 v13 v14 v15 v16 v17 v18 v19 v20 : Value) mono obl tail => wp_region_par (R := Grow) (Φ := phi [veq v0, veq v1, veq v2, veq v3, veq v4, veq v5, veq v6, veq v7, veq v8, veq v9, veq v10, (IsSl s), veq v12, veq v13, veq v14, veq v15, veq v16, veq v17, veq v18, veq v19, veq v20]) (m := 21) (dls := [[], [(48, 0)], [(49, 1)], [(50, 2)], [(51, 3), (50, 2)], [(52, 4), (50, 2)], [(50, 2), (53, 5)], [(54, 6)], [(55, 7)], [(55, 7)], [(55, 7)], [(56, 8), (57, 9), (58, 10), (55, 7)], [(59, 11), (55, 7)], [(55, 7)], [(61, 13), (55, 7)], [(60, 12), (62, 14), (55, 7)], [(55, 7), (63, 15)], [(64, 16)], [(65, 17)], [(65, 17), (66, 18)], [(67, 19)]]) (ds := [48, 49, 50, 51, 52, 53, 54, 55, 56, 57, 58, 59, 60, 61, 62, 63, 64, 65, 66, 67, 6]) (by kernel_rfl) (by kernel_rfl) (by decide) rfl (Grow.drew _) (fun _ _ _ => Grow.trans) (mono_phi mono) obl tail)
      case obl =>
        refine obls_cons (fun f w' hR hH Q hQ => ?_) ?_
        · skip
          simp only [view, List.foldl]
          repeat (first | go_guarded | go_step)
          exact hQ _ _ (Grow.refl _) rfl rfl
        refine obls_cons (fun f w' hR hH Q hQ => ?_) ?_
        · skip
          obtain ⟨h0, -⟩ := hH
          simp only [view, List.foldl, Act.put, List.setIfInBounds_toArray, List.set_cons_zero, List.set_cons_succ]
          rw [show f 0 = _ from h0]
          clear h0
          repeat (first | go_guarded | go_step)
          exact hQ _ _ (Grow.refl _) rfl rfl
        refine obls_cons (fun f w' hR hH Q hQ => ?_) ?_
        · skip
          obtain ⟨h1, -⟩ := hH
          simp only [view, List.foldl, Act.put, List.setIfInBounds_toArray, List.set_cons_zero, List.set_cons_succ]
          rw [show f 1 = _ from h1]
          clear h1
          repeat (first | go_guarded | go_step)
          exact hQ _ _ (Grow.refl _) rfl rfl
        refine obls_cons (fun f w' hR hH Q hQ => ?_) ?_
        · skip
          obtain ⟨h2, -⟩ := hH
          simp only [view, List.foldl, Act.put, List.setIfInBounds_toArray, List.set_cons_zero, List.set_cons_succ]
          rw [show f 2 = _ from h2]
          clear h2
          repeat (first | go_guarded | go_step)
          exact hQ _ _ (Grow.refl _) rfl rfl
        refine obls_cons (fun f w' hR hH Q hQ => ?_) ?_
        · skip
          obtain ⟨h3, h2, -⟩ := hH
          simp only [view, List.foldl, Act.put, List.setIfInBounds_toArray, List.set_cons_zero, List.set_cons_succ]
          rw [show f 3 = _ from h3]
          rw [show f 2 = _ from h2]
          clear h3 h2
          repeat (first | go_guarded | go_step)
          exact hQ _ _ (Grow.refl _) rfl rfl
        refine obls_cons (fun f w' hR hH Q hQ => ?_) ?_
        · skip
          obtain ⟨h4, h2, -⟩ := hH
          simp only [view, List.foldl, Act.put, List.setIfInBounds_toArray, List.set_cons_zero, List.set_cons_succ]
          rw [show f 4 = _ from h4]
          rw [show f 2 = _ from h2]
          clear h4 h2
          repeat (first | go_guarded | go_step)
          exact hQ _ _ (Grow.refl _) rfl rfl
        refine obls_cons (fun f w' hR hH Q hQ => ?_) ?_
        · skip
          obtain ⟨h2, h5, -⟩ := hH
          simp only [view, List.foldl, Act.put, List.setIfInBounds_toArray, List.set_cons_zero, List.set_cons_succ]
          rw [show f 2 = _ from h2]
          rw [show f 5 = _ from h5]
          clear h2 h5
          repeat (first | go_guarded | go_step)
          exact hQ _ _ (Grow.refl _) rfl rfl
        refine obls_cons (fun f w' hR hH Q hQ => ?_) ?_
        · skip
          obtain ⟨h6, -⟩ := hH
          simp only [view, List.foldl, Act.put, List.setIfInBounds_toArray, List.set_cons_zero, List.set_cons_succ]
          rw [show f 6 = _ from h6]
          clear h6
          repeat (first | go_guarded | go_step)
          exact hQ _ _ (Grow.refl _) rfl rfl
        refine obls_cons (fun f w' hR hH Q hQ => ?_) ?_
        · skip
          obtain ⟨h7, -⟩ := hH
          simp only [view, List.foldl, Act.put, List.setIfInBounds_toArray, List.set_cons_zero, List.set_cons_succ]
          rw [show f 7 = _ from h7]
          clear h7
          repeat (first | go_guarded | go_step)
          exact hQ _ _ (Grow.refl _) rfl rfl
        refine obls_cons (fun f w' hR hH Q hQ => ?_) ?_
        · skip
          obtain ⟨h7, -⟩ := hH
          simp only [view, List.foldl, Act.put, List.setIfInBounds_toArray, List.set_cons_zero, List.set_cons_succ]
          rw [show f 7 = _ from h7]
          clear h7
          repeat (first | go_guarded | go_step)
          exact hQ _ _ (Grow.refl _) rfl rfl
        refine obls_cons (fun f w' hR hH Q hQ => ?_) ?_
        · skip
          obtain ⟨h7, -⟩ := hH
          simp only [view, List.foldl, Act.put, List.setIfInBounds_toArray, List.set_cons_zero, List.set_cons_succ]
          rw [show f 7 = _ from h7]
          clear h7
          repeat (first | go_guarded | go_step)
          exact hQ _ _ (Grow.refl _) rfl rfl
        refine obls_cons (fun f w' hR hH Q hQ => ?_) ?_
        · skip
          obtain ⟨h8, h9, h10, h7, -⟩ := hH
          simp only [view, List.foldl, Act.put, List.setIfInBounds_toArray, List.set_cons_zero, List.set_cons_succ]
          rw [show f 8 = _ from h8]
          rw [show f 9 = _ from h9]
          rw [show f 10 = _ from h10]
          rw [show f 7 = _ from h7]
          clear h8 h9 h10 h7
          have hsp := spoil_any A2 (n + 4) c2 t a m _ (HB2'.out.grow hR) (by omega)
          rw [hbk.out] at hsp
          have HSP := Lib.hid hsp
          clear hsp
          go_wp2_with (go_at_call 25; refine (HSP.out).mono ?_; rintro e w1 ⟨v1, rfl, ho1, hg1⟩)
          exact hQ _ _ hg1 (own_sl ho1) rfl
        refine obls_cons (fun f w' hR hH Q hQ => ?_) ?_
        · skip
          obtain ⟨h11, h7, -⟩ := hH
          simp only [view, List.foldl, Act.put, List.setIfInBounds_toArray, List.set_cons_zero, List.set_cons_succ]
          generalize f 11 = u11 at h11 ⊢
          replace h11 : (IsSl s) u11 w' := h11
          rw [show f 7 = _ from h7]
          clear h7
          obtain ⟨A1, n1, c1, rfl, -, -, hb1⟩ := h11
          have hcs := conv_str (P := Tryd.prog) Tryd.underlying25 Tryd.underlying5 Tryd.underlying9 hb1 c1
          clear hb1
          go_wp2_with fail
          exact hQ _ _ (Grow.refl _) rfl rfl
        refine obls_cons (fun f w' hR hH Q hQ => ?_) ?_
        · skip
          obtain ⟨h7, -⟩ := hH
          simp only [view, List.foldl, Act.put, List.setIfInBounds_toArray, List.set_cons_zero, List.set_cons_succ]
          rw [show f 7 = _ from h7]
          clear h7
          repeat (first | go_guarded | go_step)
          exact hQ _ _ (Grow.refl _) rfl rfl
        refine obls_cons (fun f w' hR hH Q hQ => ?_) ?_
        · skip
          obtain ⟨h13, h7, -⟩ := hH
          simp only [view, List.foldl, Act.put, List.setIfInBounds_toArray, List.set_cons_zero, List.set_cons_succ]
          rw [show f 13 = _ from h13]
          rw [show f 7 = _ from h7]
          clear h13 h7
          have hcs := fun c => conv_str (P := Tryd.prog) Tryd.underlying25 Tryd.underlying5 Tryd.underlying9 ((HB1''.out).grow hR) c
          go_wp2_with fail
          exact hQ _ _ (Grow.refl _) rfl rfl
        refine obls_cons (fun f w' hR hH Q hQ => ?_) ?_
        · skip
          obtain ⟨h12, h14, h7, -⟩ := hH
          simp only [view, List.foldl, Act.put, List.setIfInBounds_toArray, List.set_cons_zero, List.set_cons_succ]
          rw [show f 12 = _ from h12]
          rw [show f 14 = _ from h14]
          rw [show f 7 = _ from h7]
          clear h12 h14 h7
          repeat (first | go_guarded | go_step)
          exact hQ _ _ (Grow.refl _) rfl rfl
        refine obls_cons (fun f w' hR hH Q hQ => ?_) ?_
        · skip
          obtain ⟨h7, h15, -⟩ := hH
          simp only [view, List.foldl, Act.put, List.setIfInBounds_toArray, List.set_cons_zero, List.set_cons_succ]
          rw [show f 7 = _ from h7]
          rw [show f 15 = _ from h15]
          clear h7 h15
          repeat (first | go_guarded | go_step)
          exact hQ _ _ (Grow.refl _) rfl rfl
        refine obls_cons (fun f w' hR hH Q hQ => ?_) ?_
        · skip
          obtain ⟨h16, -⟩ := hH
          simp only [view, List.foldl, Act.put, List.setIfInBounds_toArray, List.set_cons_zero, List.set_cons_succ]
          rw [show f 16 = _ from h16]
          clear h16
          repeat (first | go_guarded | go_step)
          exact hQ _ _ (Grow.refl _) rfl rfl
        refine obls_cons (fun f w' hR hH Q hQ => ?_) ?_
        · skip
          obtain ⟨h17, -⟩ := hH
          simp only [view, List.foldl, Act.put, List.setIfInBounds_toArray, List.set_cons_zero, List.set_cons_succ]
          rw [show f 17 = _ from h17]
          clear h17
          go_wp2_with (go_at_call 20; refine (works_any _ (HT.out.grow hR)).mono ?_; rintro e w1 ⟨rfl, hg1⟩)
          exact hQ _ _ hg1 rfl rfl
        refine obls_cons (fun f w' hR hH Q hQ => ?_) ?_
        · skip
          obtain ⟨h17, h18, -⟩ := hH
          simp only [view, List.foldl, Act.put, List.setIfInBounds_toArray, List.set_cons_zero, List.set_cons_succ]
          rw [show f 17 = _ from h17]
          rw [show f 18 = _ from h18]
          clear h17 h18
          repeat (first | go_guarded | go_step)
          exact hQ _ _ (Grow.refl _) rfl rfl
        refine obls_cons (fun f w' hR hH Q hQ => ?_) ?_
        · skip
          obtain ⟨h19, -⟩ := hH
          simp only [view, List.foldl, Act.put, List.setIfInBounds_toArray, List.set_cons_zero, List.set_cons_succ]
          rw [show f 19 = _ from h19]
          clear h19
          repeat (first | go_guarded | go_step)
          exact hQ _ _ (Grow.refl _) rfl rfl
        exact obls_nil
      case mono => exact ⟨Mono.veq _, Mono.veq _, Mono.veq _, Mono.veq _, Mono.veq _, Mono.veq _, Mono.veq _, Mono.veq _, Mono.veq _, Mono.veq _, Mono.veq _, IsSl.mono, Mono.veq _, Mono.veq _, Mono.veq _, Mono.veq _, Mono.veq _, Mono.veq _, Mono.veq _, Mono.veq _, Mono.veq _, trivial⟩
      case tail =>
        intro f w' hR hH
        simp only [view, List.zipIdx, List.foldl, Act.put, List.setIfInBounds_toArray, List.set_cons_zero, List.set_cons_succ, List.drop_succ_cons, List.drop_zero]
        obtain ⟨-, -, -, -, -, -, -, -, -, -, -, -, -, -, -, -, -, -, -, -, q20, -⟩ := hH
        rw [show f 20 = _ from q20]
        clear q20
        generalize f 0 = x0
        generalize f 1 = x1
        generalize f 2 = x2
        generalize f 3 = x3
        generalize f 4 = x4
        generalize f 5 = x5
        generalize f 6 = x6
        generalize f 7 = x7
        generalize f 8 = x8
        generalize f 9 = x9
        generalize f 10 = x10
        generalize f 11 = x11
        generalize f 12 = x12
        generalize f 13 = x13
        generalize f 14 = x14
        generalize f 15 = x15
        generalize f 16 = x16
        generalize f 17 = x17
        generalize f 18 = x18
        generalize f 19 = x19
        go_wp2_with fail
        go_ret
        exact ⟨rfl, HG3.out.trans hR⟩
  · go_enter Tryd.func10, Tryd.ntmps10
    go_wp2_with (go_at_call 20; refine (works_any _ ht).mono ?_; rintro e w' ⟨rfl, hg⟩)
    go_ret
    exact ⟨rfl, hg⟩
end Go.Proofs.YtmkbkophpmkcbaaDoor.slL
