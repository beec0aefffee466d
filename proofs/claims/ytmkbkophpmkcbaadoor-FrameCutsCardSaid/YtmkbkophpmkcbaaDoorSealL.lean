/- The statements of seals: works, SealSays. -/
import Derived.Test.YtmkbkophpmkcbaaDoorSpoilR
namespace Go.Proofs.YtmkbkophpmkcbaaDoor.slL
open Go Go.RowKit Go.Par Go.Kit Go.Proofs.YtmkbkophpmkcbaaDoor.cl Go.Proofs.YtmkbkophpmkcbaaDoor.crcW Go.Proofs.YtmkbkophpmkcbaaDoor.slW

theorem open_seal (l : List UInt8) : open8 (seal8 l) = (l, 0) := by
  have h := open8_bv (seal8 l)
  rw [seal8_bv, Sea.opened_sealed] at h
  injection h with h1 h2
  exact Prod.ext (bv_inj h1) h2
theorem seal_nil : seal8 [] = [0, 0, 0, 0] := by decide +kernel
theorem spo_two : spo [0, 0] 7 3221225472#32 32 = [1, 128] := by decide +kernel
theorem sl_bytes {w : World} {A : Option Addr} {n c : Nat} {l : List UInt8} (h : Sl w (.slice A n c) l) : Bytes w A n l := by
  obtain ⟨A', n', c', e, _, _, hb⟩ := h
  injection e with e1 e2 e3
  subst e1; subst e2
  exact hb

set_option maxRecDepth 100000 in
set_option maxHeartbeats 1000000 in
theorem works_any (w : World) (ht : Tab w) : Calls Tryd.prog 20 #[] w fun e w' => e = .returned (.bool true) ∧ Grow w w' := by
  have kc := fun (w : World) (C : Array Value) (n c : Nat) => Lib.run_convert_bytes_const (P := Tryd.prog) w 25 5 C n c Tryd.underlying25 Tryd.underlying5
  obtain ⟨L1, hL1⟩ : ∃ L1 : List UInt8, L1 = [97] := ⟨_, rfl⟩
  have HL1 := Lib.hid hL1
  have HLn : Hid (L1.length = 1) := Lib.hid (by rw [hL1]; rfl)
  have h1 := fun W hb ht => seal_any (some ⟨w.heap.size, 0, none⟩) 1 1 L1 W hb (by decide) (by unfold maxLen; omega) (by decide) ht
  clear hL1
  go_enter Tryd.func20, Tryd.ntmps20
  go_wp2_with fail
  refine (h1 _ ?_ ?_).mono ?_
  · rw [HL1.out]; exact Bytes.new _ [97] _ _ rfl rfl rfl
  · exact ht.grow (Grow.alloc w _)
  rintro e w1 ⟨v1, rfl, ho1, hg1⟩
  have hg01 := (Grow.alloc w _).trans hg1
  rw [HLn.out] at ho1
  obtain ⟨A1, c1, rfl, a1, a2, a3⟩ := own_form ho1
  rw [Nat.mul_one] at a3
  have G1 := Lib.hid hg01
  have H2 := Lib.hid (open_any A1 5 c1 (seal8 L1) w1 a3 a1 a2 (by decide) (ht.grow G1.out))
  rw [open_seal] at H2
  clear h1 ho1 hg1 a3 hg01
  go_wp2_with fail
  refine H2.out.mono ?_
  rintro e w2 ⟨v2, rfl, ho2, hg2⟩
  replace ho2 : w2.ownsRow w1.heap.size 5 1 v2 1 (u8s [97]) := by
    have h := ho2
    rw [HL1.out] at h
    exact h
  obtain ⟨A2, c2, rfl, b1, b2, b3⟩ := own_form ho2
  rw [Nat.mul_one] at b3
  have G2 := Lib.hid (G1.out.trans hg2)
  have HB2 := Lib.hid (show Bytes w2 A2 1 [97] from b3)
  have H3 := Lib.hid (seal_any none 0 0 [] w2 (Row.nil _ _) (by decide) (by decide) (by decide) (ht.grow G2.out))
  clear H2 ho2 hg2 b3
  go_wp2_with fail
  refine H3.out.mono ?_
  rintro e w3 ⟨v3, rfl, ho3, hg3⟩
  rw [seal_nil] at ho3
  obtain ⟨A3, c3, rfl, d1, d2, d3⟩ := own_form ho3
  rw [Nat.mul_one] at d3
  have G3 := Lib.hid (G2.out.trans hg3)
  have k3 := conv_str (P := Tryd.prog) Tryd.underlying25 Tryd.underlying5 Tryd.underlying9 (show Bytes w3 A3 4 [0, 0, 0, 0] from d3) c3
  have k2 := conv_str (P := Tryd.prog) Tryd.underlying25 Tryd.underlying5 Tryd.underlying9 (HB2.out.grow hg3) c2
  have t2 : ((str [97]).toList == [97]) = true := by rw [show (str [97]).toList = [97] from ByteArray.toList_mk _]; rfl
  have t3 : ((str [0, 0, 0, 0]).toList == [0, 0, 0, 0]) = true := by rw [show (str [0, 0, 0, 0]).toList = [0, 0, 0, 0] from ByteArray.toList_mk _]; rfl
  have H4 := Lib.hid (spoil_any (some ⟨w3.heap.size, 0, none⟩) 2 2 [0, 0] 7 3221225472#32 _ (Bytes.new w3 [0, 0] 5 (0, 0) rfl rfl rfl) (by decide))
  rw [spo_two] at H4
  have GA := Lib.hid (Grow.alloc w3 (.cells #[.int .u8 0, .int .u8 0] 5))
  clear H3 ho3 hg3 d3 HB2
  go_wp2_with fail
  refine H4.out.mono ?_
  rintro e w4 ⟨v4, rfl, ho4, hg4⟩
  obtain ⟨A4, c4, rfl, f1, f2, f3⟩ := own_form ho4
  rw [Nat.mul_one] at f3
  have k4 := conv_str (P := Tryd.prog) Tryd.underlying25 Tryd.underlying5 Tryd.underlying9 (show Bytes w4 A4 2 [1, 128] from f3) c4
  have G4 := Lib.hid ((G3.out.trans GA.out).trans hg4)
  have t4 : ((str [1, 128]).toList == [1, 128]) = true := by rw [show (str [1, 128]).toList = [1, 128] from ByteArray.toList_mk _]; rfl
  clear H4 ho4 hg4 f3 k2 k3
  go_wp2_with fail
  go_ret
  exact ⟨rfl, G4.out⟩

set_option maxRecDepth 100000 in
set_option maxHeartbeats 1000000 in
theorem says_walk (A : Option Addr) (n c : Nat) (l : List UInt8) (A2 : Option Addr) (n2 c2 : Nat) (l2 : List UInt8) (w : World) (hb : Bytes w A n l) (hc : n ≤ c) (hm : c ≤ maxLen) (hb2 : Bytes w A2 n2 l2) (hc2 : n2 ≤ c2) (hm2 : c2 ≤ maxLen) (ht : Tab w) :
    Calls Tryd.prog 7 #[.slice A n c, .slice A2 n2 c2] w fun e w' => e = .returned (.bool true) ∧ Grow w w' := by
  by_cases hn : n ≤ 1000 ∧ n2 ≤ 1000
  · obtain ⟨h1, h2⟩ := hn
    have HO := Lib.hid (open_any A2 n2 c2 l2 w hb2 hc2 hm2 (by omega) ht)
    have HC := Lib.hid hc
    have HM := Lib.hid hm
    clear hm hm2
    go_enter Tryd.func7, Tryd.ntmps7
    go_wp2_with fail
    refine HO.out.mono ?_
    rintro e w1 ⟨v1, rfl, ho1, hg1⟩
    have HS1 := Lib.hid (own_sl ho1)
    have HR := Lib.hid (ref_open_any A2 n2 c2 l2 w1 (hb2.grow hg1) hc2 (by omega))
    have HG1 := Lib.hid hg1
    clear ho1 hg1
    go_wp2_with fail
    refine HR.out.mono ?_
    rintro e w2 ⟨v2, rfl, ho2, hg2⟩
    have HS2 := Lib.hid (own_sl ho2)
    have HS3 := Lib.hid (HS1.out.grow hg2)
    have HG2 := Lib.hid (HG1.out.trans hg2)
    obtain ⟨A3, n3, c3, rfl, -, -, -⟩ := HS2.out
    obtain ⟨A4, n4, c4, rfl, -, -, -⟩ := HS3.out
    have HB2 : Hid (Bytes w2 A3 n3 (open8 l2).1) := Lib.hid (sl_bytes HS2.out)
    have HB3 : Hid (Bytes w2 A4 n4 (open8 l2).1) := Lib.hid (sl_bytes HS3.out)
    have HBA : Hid (Bytes w2 A n l) := Lib.hid (hb.grow HG2.out)
    have HT := Lib.hid (ht.grow HG2.out)
    clear ho2 hg2 HS1 HS2 HS3 HR HO
    go_wp2_with fail
    apply (fun (v0 v2 v3 v5 v6 v7 v8 v9 v10 v11 v12 v13 v14 v15 v16 v17 v18 v19 v20 v21 v22 : Value) mono obl tail => wp_region_par (R := Grow) (Φ := phi [veq v0, (IsSl (seal8 l)), veq v2, veq v3, (IsSl (seal8 l)), veq v5, veq v6, veq v7, veq v8, veq v9, veq v10, veq v11, veq v12, veq v13, veq v14, veq v15, veq v16, veq v17, veq v18, veq v19, veq v20, veq v21, veq v22]) (m := 23) (dls := [[], [(28, 0)], [(29, 1)], [], [(31, 3)], [(32, 4)], [(30, 2), (33, 5)], [(34, 6)], [(35, 7)], [(36, 8), (35, 7)], [(35, 7)], [(38, 10), (35, 7)], [(37, 9), (39, 11), (35, 7)], [(35, 7), (40, 12)], [(41, 13)], [(42, 14)], [(42, 14)], [(43, 15), (44, 16), (42, 14)], [(42, 14), (45, 17)], [(46, 18)], [(47, 19)], [(47, 19), (48, 20)], [(49, 21)]]) (ds := [28, 29, 30, 31, 32, 33, 34, 35, 36, 37, 38, 39, 40, 41, 42, 43, 44, 45, 46, 47, 48, 49, 4]) (by kernel_rfl) (by kernel_rfl) (by decide) rfl (Grow.drew _) (fun _ _ _ => Grow.trans) (mono_phi mono) obl tail)
    case obl =>
      refine obls_cons (fun f w' hR hH Q hQ => ?_) ?_
      · skip
        simp only [view, List.foldl]
        repeat (first | go_guarded | go_step)
        exact hQ _ _ (Grow.refl _) rfl rfl
      refine obls_cons (fun f w' hR hH Q hQ => ?_) ?_
      · skip
        obtain ⟨h0, -⟩ := hH
        simp only [view, List.foldl, Act.put, List.setIfInBounds_toArray, List.set_cons_zero, List.set_cons_succ]
        rw [show f 0 = _ from h0]
        clear h0
        go_wp2_with (go_at_call 23; refine (seal_any A n c l _ (HBA.out.grow hR) HC.out HM.out (by omega) (HT.out.grow hR)).mono ?_; rintro e w1 ⟨v1, rfl, ho1, hg1⟩)
        exact hQ _ _ hg1 (own_sl ho1) rfl
      refine obls_cons (fun f w' hR hH Q hQ => ?_) ?_
      · skip
        obtain ⟨h1, -⟩ := hH
        simp only [view, List.foldl, Act.put, List.setIfInBounds_toArray, List.set_cons_zero, List.set_cons_succ]
        generalize f 1 = u1 at h1 ⊢
        replace h1 : (IsSl (seal8 l)) u1 w' := h1
        obtain ⟨A1, n1, c1, rfl, -, -, hb1⟩ := h1
        have hcs := conv_str (P := Tryd.prog) Tryd.underlying25 Tryd.underlying5 Tryd.underlying9 hb1 c1
        clear hb1
        go_wp2_with fail
        exact hQ _ _ (Grow.refl _) rfl rfl
      refine obls_cons (fun f w' hR hH Q hQ => ?_) ?_
      · skip
        simp only [view, List.foldl]
        repeat (first | go_guarded | go_step)
        exact hQ _ _ (Grow.refl _) rfl rfl
      refine obls_cons (fun f w' hR hH Q hQ => ?_) ?_
      · skip
        obtain ⟨h3, -⟩ := hH
        simp only [view, List.foldl, Act.put, List.setIfInBounds_toArray, List.set_cons_zero, List.set_cons_succ]
        rw [show f 3 = _ from h3]
        clear h3
        go_wp2_with (go_at_call 24; refine (ref_seal_any A n c l _ (HBA.out.grow hR) (by omega)).mono ?_; rintro e w1 ⟨v1, rfl, ho1, hg1⟩)
        exact hQ _ _ hg1 (own_sl ho1) rfl
      refine obls_cons (fun f w' hR hH Q hQ => ?_) ?_
      · skip
        obtain ⟨h4, -⟩ := hH
        simp only [view, List.foldl, Act.put, List.setIfInBounds_toArray, List.set_cons_zero, List.set_cons_succ]
        generalize f 4 = u4 at h4 ⊢
        replace h4 : (IsSl (seal8 l)) u4 w' := h4
        obtain ⟨A1, n1, c1, rfl, -, -, hb1⟩ := h4
        have hcs := conv_str (P := Tryd.prog) Tryd.underlying25 Tryd.underlying5 Tryd.underlying9 hb1 c1
        clear hb1
        go_wp2_with fail
        exact hQ _ _ (Grow.refl _) rfl rfl
      refine obls_cons (fun f w' hR hH Q hQ => ?_) ?_
      · skip
        obtain ⟨h2, h5, -⟩ := hH
        simp only [view, List.foldl, Act.put, List.setIfInBounds_toArray, List.set_cons_zero, List.set_cons_succ]
        rw [show f 2 = _ from h2]
        rw [show f 5 = _ from h5]
        clear h2 h5
        repeat (first | go_guarded | go_step)
        exact hQ _ _ (Grow.refl _) rfl rfl
      refine obls_cons (fun f w' hR hH Q hQ => ?_) ?_
      · skip
        obtain ⟨h6, -⟩ := hH
        simp only [view, List.foldl, Act.put, List.setIfInBounds_toArray, List.set_cons_zero, List.set_cons_succ]
        rw [show f 6 = _ from h6]
        clear h6
        repeat (first | go_guarded | go_step)
        exact hQ _ _ (Grow.refl _) rfl rfl
      refine obls_cons (fun f w' hR hH Q hQ => ?_) ?_
      · skip
        obtain ⟨h7, -⟩ := hH
        simp only [view, List.foldl, Act.put, List.setIfInBounds_toArray, List.set_cons_zero, List.set_cons_succ]
        rw [show f 7 = _ from h7]
        clear h7
        repeat (first | go_guarded | go_step)
        exact hQ _ _ (Grow.refl _) rfl rfl
      refine obls_cons (fun f w' hR hH Q hQ => ?_) ?_
      · skip
        obtain ⟨h8, h7, -⟩ := hH
        simp only [view, List.foldl, Act.put, List.setIfInBounds_toArray, List.set_cons_zero, List.set_cons_succ]
        rw [show f 8 = _ from h8]
        rw [show f 7 = _ from h7]
        clear h8 h7
        have hcs := fun c => conv_str (P := Tryd.prog) Tryd.underlying25 Tryd.underlying5 Tryd.underlying9 ((HB3.out).grow hR) c
        go_wp2_with fail
        exact hQ _ _ (Grow.refl _) rfl rfl
      refine obls_cons (fun f w' hR hH Q hQ => ?_) ?_
      · skip
        obtain ⟨h7, -⟩ := hH
        simp only [view, List.foldl, Act.put, List.setIfInBounds_toArray, List.set_cons_zero, List.set_cons_succ]
        rw [show f 7 = _ from h7]
        clear h7
        repeat (first | go_guarded | go_step)
        exact hQ _ _ (Grow.refl _) rfl rfl
      refine obls_cons (fun f w' hR hH Q hQ => ?_) ?_
      · skip
        obtain ⟨h10, h7, -⟩ := hH
        simp only [view, List.foldl, Act.put, List.setIfInBounds_toArray, List.set_cons_zero, List.set_cons_succ]
        rw [show f 10 = _ from h10]
        rw [show f 7 = _ from h7]
        clear h10 h7
        have hcs := fun c => conv_str (P := Tryd.prog) Tryd.underlying25 Tryd.underlying5 Tryd.underlying9 ((HB2.out).grow hR) c
        go_wp2_with fail
        exact hQ _ _ (Grow.refl _) rfl rfl
      refine obls_cons (fun f w' hR hH Q hQ => ?_) ?_
      · skip
        obtain ⟨h9, h11, h7, -⟩ := hH
        simp only [view, List.foldl, Act.put, List.setIfInBounds_toArray, List.set_cons_zero, List.set_cons_succ]
        rw [show f 9 = _ from h9]
        rw [show f 11 = _ from h11]
        rw [show f 7 = _ from h7]
        clear h9 h11 h7
        repeat (first | go_guarded | go_step)
        exact hQ _ _ (Grow.refl _) rfl rfl
      refine obls_cons (fun f w' hR hH Q hQ => ?_) ?_
      · skip
        obtain ⟨h7, h12, -⟩ := hH
        simp only [view, List.foldl, Act.put, List.setIfInBounds_toArray, List.set_cons_zero, List.set_cons_succ]
        rw [show f 7 = _ from h7]
        rw [show f 12 = _ from h12]
        clear h7 h12
        repeat (first | go_guarded | go_step)
        exact hQ _ _ (Grow.refl _) rfl rfl
      refine obls_cons (fun f w' hR hH Q hQ => ?_) ?_
      · skip
        obtain ⟨h13, -⟩ := hH
        simp only [view, List.foldl, Act.put, List.setIfInBounds_toArray, List.set_cons_zero, List.set_cons_succ]
        rw [show f 13 = _ from h13]
        clear h13
        repeat (first | go_guarded | go_step)
        exact hQ _ _ (Grow.refl _) rfl rfl
      refine obls_cons (fun f w' hR hH Q hQ => ?_) ?_
      · skip
        obtain ⟨h14, -⟩ := hH
        simp only [view, List.foldl, Act.put, List.setIfInBounds_toArray, List.set_cons_zero, List.set_cons_succ]
        rw [show f 14 = _ from h14]
        clear h14
        repeat (first | go_guarded | go_step)
        exact hQ _ _ (Grow.refl _) rfl rfl
      refine obls_cons (fun f w' hR hH Q hQ => ?_) ?_
      · skip
        obtain ⟨h14, -⟩ := hH
        simp only [view, List.foldl, Act.put, List.setIfInBounds_toArray, List.set_cons_zero, List.set_cons_succ]
        rw [show f 14 = _ from h14]
        clear h14
        repeat (first | go_guarded | go_step)
        exact hQ _ _ (Grow.refl _) rfl rfl
      refine obls_cons (fun f w' hR hH Q hQ => ?_) ?_
      · skip
        obtain ⟨h15, h16, h14, -⟩ := hH
        simp only [view, List.foldl, Act.put, List.setIfInBounds_toArray, List.set_cons_zero, List.set_cons_succ]
        rw [show f 15 = _ from h15]
        rw [show f 16 = _ from h16]
        rw [show f 14 = _ from h14]
        clear h15 h16 h14
        repeat (first | go_guarded | go_step)
        exact hQ _ _ (Grow.refl _) rfl rfl
      refine obls_cons (fun f w' hR hH Q hQ => ?_) ?_
      · skip
        obtain ⟨h14, h17, -⟩ := hH
        simp only [view, List.foldl, Act.put, List.setIfInBounds_toArray, List.set_cons_zero, List.set_cons_succ]
        rw [show f 14 = _ from h14]
        rw [show f 17 = _ from h17]
        clear h14 h17
        repeat (first | go_guarded | go_step)
        exact hQ _ _ (Grow.refl _) rfl rfl
      refine obls_cons (fun f w' hR hH Q hQ => ?_) ?_
      · skip
        obtain ⟨h18, -⟩ := hH
        simp only [view, List.foldl, Act.put, List.setIfInBounds_toArray, List.set_cons_zero, List.set_cons_succ]
        rw [show f 18 = _ from h18]
        clear h18
        repeat (first | go_guarded | go_step)
        exact hQ _ _ (Grow.refl _) rfl rfl
      refine obls_cons (fun f w' hR hH Q hQ => ?_) ?_
      · skip
        obtain ⟨h19, -⟩ := hH
        simp only [view, List.foldl, Act.put, List.setIfInBounds_toArray, List.set_cons_zero, List.set_cons_succ]
        rw [show f 19 = _ from h19]
        clear h19
        go_wp2_with (go_at_call 20; refine (works_any _ (HT.out.grow hR)).mono ?_; rintro e w1 ⟨rfl, hg1⟩)
        exact hQ _ _ hg1 rfl rfl
      refine obls_cons (fun f w' hR hH Q hQ => ?_) ?_
      · skip
        obtain ⟨h19, h20, -⟩ := hH
        simp only [view, List.foldl, Act.put, List.setIfInBounds_toArray, List.set_cons_zero, List.set_cons_succ]
        rw [show f 19 = _ from h19]
        rw [show f 20 = _ from h20]
        clear h19 h20
        repeat (first | go_guarded | go_step)
        exact hQ _ _ (Grow.refl _) rfl rfl
      refine obls_cons (fun f w' hR hH Q hQ => ?_) ?_
      · skip
        obtain ⟨h21, -⟩ := hH
        simp only [view, List.foldl, Act.put, List.setIfInBounds_toArray, List.set_cons_zero, List.set_cons_succ]
        rw [show f 21 = _ from h21]
        clear h21
        repeat (first | go_guarded | go_step)
        exact hQ _ _ (Grow.refl _) rfl rfl
      exact obls_nil
    case mono => exact ⟨Mono.veq _, IsSl.mono, Mono.veq _, Mono.veq _, IsSl.mono, Mono.veq _, Mono.veq _, Mono.veq _, Mono.veq _, Mono.veq _, Mono.veq _, Mono.veq _, Mono.veq _, Mono.veq _, Mono.veq _, Mono.veq _, Mono.veq _, Mono.veq _, Mono.veq _, Mono.veq _, Mono.veq _, Mono.veq _, Mono.veq _, trivial⟩
    case tail =>
      intro f w' hR hH
      simp only [view, List.zipIdx, List.foldl, Act.put, List.setIfInBounds_toArray, List.set_cons_zero, List.set_cons_succ, List.drop_succ_cons, List.drop_zero]
      obtain ⟨-, -, -, -, -, -, -, -, -, -, -, -, -, -, -, -, -, -, -, -, -, -, q22, -⟩ := hH
      rw [show f 22 = _ from q22]
      clear q22
      generalize f 0 = x0
      generalize f 1 = x1
      generalize f 2 = x2
      generalize f 3 = x3
      generalize f 4 = x4
      generalize f 5 = x5
      generalize f 6 = x6
      generalize f 7 = x7
      generalize f 8 = x8
      generalize f 9 = x9
      generalize f 10 = x10
      generalize f 11 = x11
      generalize f 12 = x12
      generalize f 13 = x13
      generalize f 14 = x14
      generalize f 15 = x15
      generalize f 16 = x16
      generalize f 17 = x17
      generalize f 18 = x18
      generalize f 19 = x19
      generalize f 20 = x20
      generalize f 21 = x21
      go_wp2_with fail
      go_ret
      exact ⟨rfl, HG2.out.trans hR⟩
  · go_enter Tryd.func7, Tryd.ntmps7
    go_wp2_with (go_at_call 20; refine (works_any _ ht).mono ?_; rintro e w' ⟨rfl, hg⟩)
    all_goals first
      | omega
      | (go_ret; exact ⟨rfl, hg⟩)
end Go.Proofs.YtmkbkophpmkcbaaDoor.slL
