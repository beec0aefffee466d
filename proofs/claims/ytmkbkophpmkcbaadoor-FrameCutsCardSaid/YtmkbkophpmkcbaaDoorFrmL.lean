/- The statements of frames: works, FrameMakes, FrameTakes. -/
import Derived.Test.YtmkbkophpmkcbaaDoorFrmW3
namespace Go.Proofs.YtmkbkophpmkcbaaDoor.frL
open Go Go.RowKit Go.Par Go.Kit Vi Go.Proofs.YtmkbkophpmkcbaaDoor.cl Go.Proofs.YtmkbkophpmkcbaaDoor.slW Go.Proofs.YtmkbkophpmkcbaaDoor.frm Go.Proofs.YtmkbkophpmkcbaaDoor.frW Go.Proofs.YtmkbkophpmkcbaaDoor.crcW

theorem sl_bytes {w : World} {A : Option Addr} {n c : Nat} {l : List UInt8} (h : Sl w (.slice A n c) l) : Bytes w A n l := by
  obtain ⟨A', n', c', e, _, _, hb⟩ := h
  injection e with e1 e2 e3
  subst e1; subst e2
  exact hb
theorem str_tl (l : List UInt8) : ((str l).toList == l) = true := by rw [show (str l).toList = l from ByteArray.toList_mk l]; exact beq_self_eq_true _
theorem next_frame0 (l : List UInt8) (h : l.length ≤ 65536) : next8 (frame8 l) = (l, (frame8 l).length, 0) := by
  have := next8_frame l [] h
  rwa [List.append_nil] at this
theorem ab_take : (frame8 [97, 98]).take 3 = [2, 97, 98] := by
  unfold frame8
  have h : vb ([97, 98] : List UInt8).length = [2] := by decide +kernel
  rw [h]; rfl
theorem ab_len : (frame8 [97, 98]).length = 7 := by
  rw [frame8_len]; decide +kernel

set_option maxRecDepth 100000 in
set_option maxHeartbeats 1000000 in
theorem works_any (w : World) (ht : Tab w) : Calls Tryd.prog 27 #[] w fun e w' => e = .returned (.bool true) ∧ Grow w w' := by
  have kc := fun (w : World) (C : Array Value) (n c : Nat) => Lib.run_convert_bytes_const (P := Tryd.prog) w 25 5 C n c Tryd.underlying25 Tryd.underlying5
  obtain ⟨L1, hL1⟩ : ∃ L1 : List UInt8, L1 = [97, 98] := ⟨_, rfl⟩
  obtain ⟨F, hF⟩ : ∃ F : List UInt8, F = frame8 L1 := ⟨_, rfl⟩
  have HFl : Hid (F.length = 7) := Lib.hid (by rw [hF, hL1]; exact ab_len)
  have HFt : Hid (F.take 3 = [2, 97, 98]) := Lib.hid (by rw [hF, hL1]; exact ab_take)
  have HFn : Hid (next8 F = (L1, 7, 0)) := Lib.hid (by rw [hF, next_frame0 L1 (by rw [hL1]; decide), ← hF, HFl.out])
  have HL1 := Lib.hid hL1
  have h1 := fun W hb ht => frame_any (some ⟨w.heap.size, 0, none⟩) 2 2 L1 W hb (by decide) ht
  rw [← hF] at h1
  clear hL1 hF
  go_enter Tryd.func27, Tryd.ntmps27
  go_wp2_with fail
  refine (h1 _ ?_ ?_).mono ?_
  · rw [HL1.out]; exact Bytes.new _ [97, 98] _ _ rfl rfl rfl
  · exact ht.grow (Grow.alloc w _)
  rintro e w1 ⟨v1, rfl, ho1, hg1⟩
  rw [HFl.out] at ho1
  have hg01 := (Grow.alloc w _).trans hg1
  obtain ⟨A1, c1, rfl, a1, a2, a3⟩ := own_form ho1
  rw [Nat.mul_one] at a3
  have HB1 : Hid (Bytes w1 A1 7 F) := Lib.hid a3
  have G1 := Lib.hid hg01
  have hnx := next_any A1 7 c1 F w1 a3 a1 a2 (by decide) (ht.grow G1.out)
  rw [HFn.out] at hnx
  have HN := Lib.hid hnx
  have hs3 := slice_hi (P := Tryd.prog) Tryd.underlying25 i8 A1 7 c1 3 (by omega)
  simp only [show ((3 : Nat) : Int) = 3 from rfl] at hs3
  clear h1 ho1 hg1 a3 hg01 hnx
  go_wp2_with fail
  refine HN.out.mono ?_
  rintro e w2 ⟨v2, rfl, hu2, hg2⟩
  have hu2' := hu2.sl
  rw [HL1.out] at hu2'
  obtain ⟨A2, n2, c2, rfl, -, -, -, -⟩ := hu2
  have G2 := Lib.hid (G1.out.trans hg2)
  have k1 := conv_str (P := Tryd.prog) Tryd.underlying25 Tryd.underlying5 Tryd.underlying9 ((HB1.out.grow hg2).take (k := 3) (by decide)) c1
  rw [HFt.out] at k1
  have k2 := conv_str (P := Tryd.prog) Tryd.underlying25 Tryd.underlying5 Tryd.underlying9 (sl_bytes hu2') c2
  have t1 := str_tl [2, 97, 98]
  have t2 := str_tl [97, 98]
  clear hu2' hg2 HN
  go_wp2_with fail
  go_ret
  exact ⟨rfl, G2.out⟩

set_option maxRecDepth 100000 in
set_option maxHeartbeats 1000000 in
theorem makes_walk (A : Option Addr) (n c : Nat) (l : List UInt8) (A2 : Option Addr) (n2 c2 : Nat) (l2 : List UInt8) (w : World) (hb : Bytes w A n l) (hb2 : Bytes w A2 n2 l2) (ht : Tab w) :
    Calls Tryd.prog 11 #[.slice A n c, .slice A2 n2 c2] w fun e w' => e = .returned (.bool true) ∧ Grow w w' := by
  have HW0 := Lib.hid (works_any w ht)
  by_cases hn : n ≤ 70000
  · by_cases hn2 : n2 ≤ 500
    · by_cases hl : 65536 < n
      · have HFR := Lib.hid (frame_long A n c w hl)
        clear hb hb2
        go_enter Tryd.func11, Tryd.ntmps11
        go_wp2_with fail
        refine HFR.out.mono ?_
        rintro e w' ⟨rfl, rfl⟩
        go_wp2_with fail
        refine HW0.out.mono ?_
        rintro e w' ⟨rfl, hg⟩
        go_wp2_with fail
        go_ret
        exact ⟨rfl, hg⟩
      · have hlen := hb.len
        have hlen2 := hb2.len
        have hfr := frame_any A n c l w hb (by omega) ht
        obtain ⟨F, hF⟩ : ∃ F, F = frame8 l := ⟨_, rfl⟩
        have hFl : F.length ≤ 65560 := by rw [hF, frame8_len, hlen]; have := vb_len_le n; omega
        have hFp : 1 ≤ F.length := by rw [hF]; have := frame8_pos l; omega
        have HFN : Hid (next8 (F ++ l2) = (l, F.length, 0)) := Lib.hid (by rw [hF]; exact next8_frame l l2 (by omega))
        have HRF := Lib.hid (fun W hb => ref_frame_any A n c l W hb (by omega))
        rw [← hF] at hfr HRF
        have HFR := Lib.hid hfr
        have HB := Lib.hid hb
        have HB2 := Lib.hid hb2
        have HL := Lib.hid hlen
        have HL2 := Lib.hid hlen2
        clear hlen hlen2 hfr hF hb hb2
        go_enter Tryd.func11, Tryd.ntmps11
        go_wp2_with fail
        refine HFR.out.mono ?_
        rintro e w1 ⟨v1, rfl, ho1, hg1⟩
        obtain ⟨A1, c1, rfl, a1, a2, a3⟩ := own_form ho1
        rw [Nat.mul_one] at a3
        have HBF : Hid (Bytes w1 A1 F.length F) := Lib.hid a3
        have HG1 := Lib.hid hg1
        have HBA := Lib.hid (HB.out.grow hg1)
        clear ho1 a3 hg1 HFR
        go_wp2_with fail
        apply (fun (v0 v1 v2 v3 v4 v5 v7 v8 v9 : Value) mono obl tail => wp_region_par (R := Grow) (Φ := phi [veq v0, veq v1, veq v2, veq v3, veq v4, veq v5, (IsSl F), veq v7, veq v8, veq v9]) (m := 10) (dls := [[], [(37, 0)], [(38, 1)], [(39, 2)], [(40, 3), (39, 2)], [(39, 2)], [(42, 5), (39, 2)], [(43, 6), (39, 2)], [(41, 4), (44, 7), (39, 2)], [(39, 2), (45, 8)]]) (ds := [37, 38, 39, 40, 41, 42, 43, 44, 45, 46]) (by kernel_rfl) (by kernel_rfl) (by decide) rfl (Grow.drew _) (fun _ _ _ => Grow.trans) (mono_phi mono) obl tail)
        case obl =>
          refine obls_cons (fun f w' hR hH Q hQ => ?_) ?_
          · skip
            simp only [view, List.foldl]
            repeat (first | go_guarded | go_step)
            exact hQ _ _ (Grow.refl _) rfl rfl
          refine obls_cons (fun f w' hR hH Q hQ => ?_) ?_
          · skip
            obtain ⟨h0, -⟩ := hH
            simp only [view, List.foldl, Act.put, List.setIfInBounds_toArray, List.set_cons_zero, List.set_cons_succ]
            rw [show f 0 = _ from h0]
            clear h0
            repeat (first | go_guarded | go_step)
            exact hQ _ _ (Grow.refl _) rfl rfl
          refine obls_cons (fun f w' hR hH Q hQ => ?_) ?_
          · skip
            obtain ⟨h1, -⟩ := hH
            simp only [view, List.foldl, Act.put, List.setIfInBounds_toArray, List.set_cons_zero, List.set_cons_succ]
            rw [show f 1 = _ from h1]
            clear h1
            repeat (first | go_guarded | go_step)
            exact hQ _ _ (Grow.refl _) rfl rfl
          refine obls_cons (fun f w' hR hH Q hQ => ?_) ?_
          · skip
            obtain ⟨h2, -⟩ := hH
            simp only [view, List.foldl, Act.put, List.setIfInBounds_toArray, List.set_cons_zero, List.set_cons_succ]
            rw [show f 2 = _ from h2]
            clear h2
            repeat (first | go_guarded | go_step)
            exact hQ _ _ (Grow.refl _) rfl rfl
          refine obls_cons (fun f w' hR hH Q hQ => ?_) ?_
          · skip
            obtain ⟨h3, h2, -⟩ := hH
            simp only [view, List.foldl, Act.put, List.setIfInBounds_toArray, List.set_cons_zero, List.set_cons_succ]
            rw [show f 3 = _ from h3]
            rw [show f 2 = _ from h2]
            clear h3 h2
            have hcs := fun c => conv_str (P := Tryd.prog) Tryd.underlying25 Tryd.underlying5 Tryd.underlying9 ((HBF.out).grow hR) c
            go_wp2_with fail
            exact hQ _ _ (Grow.refl _) rfl rfl
          refine obls_cons (fun f w' hR hH Q hQ => ?_) ?_
          · skip
            obtain ⟨h2, -⟩ := hH
            simp only [view, List.foldl, Act.put, List.setIfInBounds_toArray, List.set_cons_zero, List.set_cons_succ]
            rw [show f 2 = _ from h2]
            clear h2
            repeat (first | go_guarded | go_step)
            exact hQ _ _ (Grow.refl _) rfl rfl
          refine obls_cons (fun f w' hR hH Q hQ => ?_) ?_
          · skip
            obtain ⟨h5, h2, -⟩ := hH
            simp only [view, List.foldl, Act.put, List.setIfInBounds_toArray, List.set_cons_zero, List.set_cons_succ]
            rw [show f 5 = _ from h5]
            rw [show f 2 = _ from h2]
            clear h5 h2
            go_wp2_with (go_at_call 29; refine (HRF.out w' (HBA.out.grow hR)).mono ?_; rintro e w1 ⟨v1, rfl, ho1, hg1⟩)
            exact hQ _ _ hg1 (own_sl ho1) rfl
          refine obls_cons (fun f w' hR hH Q hQ => ?_) ?_
          · skip
            obtain ⟨h6, h2, -⟩ := hH
            simp only [view, List.foldl, Act.put, List.setIfInBounds_toArray, List.set_cons_zero, List.set_cons_succ]
            generalize f 6 = u6 at h6 ⊢
            replace h6 : (IsSl F) u6 w' := h6
            rw [show f 2 = _ from h2]
            clear h2
            obtain ⟨A1, n1, c1, rfl, -, -, hb1⟩ := h6
            have hcs := conv_str (P := Tryd.prog) Tryd.underlying25 Tryd.underlying5 Tryd.underlying9 hb1 c1
            clear hb1
            go_wp2_with fail
            exact hQ _ _ (Grow.refl _) rfl rfl
          refine obls_cons (fun f w' hR hH Q hQ => ?_) ?_
          · skip
            obtain ⟨h4, h7, h2, -⟩ := hH
            simp only [view, List.foldl, Act.put, List.setIfInBounds_toArray, List.set_cons_zero, List.set_cons_succ]
            rw [show f 4 = _ from h4]
            rw [show f 7 = _ from h7]
            rw [show f 2 = _ from h2]
            clear h4 h7 h2
            repeat (first | go_guarded | go_step)
            exact hQ _ _ (Grow.refl _) rfl rfl
          refine obls_cons (fun f w' hR hH Q hQ => ?_) ?_
          · skip
            obtain ⟨h2, h8, -⟩ := hH
            simp only [view, List.foldl, Act.put, List.setIfInBounds_toArray, List.set_cons_zero, List.set_cons_succ]
            rw [show f 2 = _ from h2]
            rw [show f 8 = _ from h8]
            clear h2 h8
            repeat (first | go_guarded | go_step)
            exact hQ _ _ (Grow.refl _) rfl rfl
          exact obls_nil
        case mono => exact ⟨Mono.veq _, Mono.veq _, Mono.veq _, Mono.veq _, Mono.veq _, Mono.veq _, IsSl.mono, Mono.veq _, Mono.veq _, Mono.veq _, trivial⟩
        case tail =>
          intro f w' hR hH
          simp only [view, List.zipIdx, List.foldl, Act.put, List.setIfInBounds_toArray, List.set_cons_zero, List.set_cons_succ, List.drop_succ_cons, List.drop_zero]
          obtain ⟨-, -, -, -, -, -, -, -, -, q9, -⟩ := hH
          rw [show f 9 = _ from q9]
          clear q9
          generalize f 0 = x0
          generalize f 1 = x1
          generalize f 2 = x2
          generalize f 3 = x3
          generalize f 4 = x4
          generalize f 5 = x5
          generalize f 6 = x6
          generalize f 7 = x7
          generalize f 8 = x8
          have HR := Lib.hid hR
          have HBF2 := Lib.hid (HBF.out.grow hR)
          clear hR
          have hsz : w'.heap.size ≤ (w'.alloc (.cells #[] 5)).heap.size := by simp
          have hbF := HBF2.out.grow (Grow.alloc w' (.cells #[] 5))
          have ho0 := own_zero (base := w'.heap.size) w' 5 rfl (Nat.le_refl _)
          have hlim0 : 0 + F.length ≤ 140737488355328 := by omega
          have hlim : F.length + n2 ≤ 140737488355328 := by omega
          have HGW := Lib.hid (HG1.out.trans HR.out)
          have HOB := Lib.hid (own_base ho0)
          have HGA := Lib.hid (Grow.alloc w' (.cells #[] 5))
          go_wp2_with (at_builtin; first
            | (refine append_bytes Tryd.underlying25 i8 i8z i8s i8b rfl _ _ rfl w'.heap.size _ 0 [] ho0 rfl A1 F.length c1 F hbF rfl hlim0 hsz ?_; intro v3 w3 hown3 hgb3 hh3; rw [Nat.zero_add, List.nil_append] at hown3; have hg3 := grow_by HGA.out hgb3 HOB.out; have hsz3 := hg3.size; have hb23 := HB2.out.grow (HGW.out.trans hg3); have HBF3 := Lib.hid (HBF2.out.grow hg3); have HG3 := Lib.hid hg3; clear hgb3 hh3 ho0 hbF hg3)
            | (refine append_bytes Tryd.underlying25 i8 i8z i8s i8b rfl _ _ rfl w'.heap.size v3 F.length F hown3 rfl A2 n2 c2 l2 hb23 rfl hlim hsz3 ?_; intro v4 w4 hown4 hgb4 hh4; have hg4 := grow_by HG3.out hgb4 (own_base hown3); obtain ⟨A4, c4, rfl, b1, b2, b3⟩ := own_form hown4; rw [Nat.mul_one] at b3; have HB4 := Lib.hid b3; have HC4 := Lib.hid b2; have HG4 := Lib.hid hg4; clear hown4 hgb4 hh4 b3 b2 hown3 hb23 hg4))
          have HGT := Lib.hid (HGW.out.trans HG4.out)
          have hnx := next_any A4 (F.length + n2) c4 (F ++ l2) w4 HB4.out b1 HC4.out (by omega) (ht.grow HGT.out)
          rw [HFN.out] at hnx
          have HN := Lib.hid hnx
          clear hnx
          refine HN.out.mono ?_
          rintro e w5 ⟨v5, rfl, hu5, hg5⟩
          have hs5 := hu5.sl
          obtain ⟨A5, n5, c5, rfl, -, -, -, -⟩ := hu5
          have HG5 := Lib.hid (HGT.out.trans hg5)
          have k1 := conv_str (P := Tryd.prog) Tryd.underlying25 Tryd.underlying5 Tryd.underlying9 (sl_bytes hs5) c5
          have k2 := conv_str (P := Tryd.prog) Tryd.underlying25 Tryd.underlying5 Tryd.underlying9 (HB.out.grow HG5.out) c
          have HWN := Lib.hid (works_any w5 (ht.grow HG5.out))
          clear hs5 hg5 HN
          go_wp2_with fail
          refine HWN.out.mono ?_
          rintro e w6 ⟨rfl, hg6⟩
          go_wp2_with fail
          go_ret
          exact ⟨rfl, HG5.out.trans hg6⟩
    · have t1 : decide ((500 : Int) < (n2 : Int)) = true := decide_eq_true (by omega)
      go_enter Tryd.func11, Tryd.ntmps11
      go_wp2_with fail
      refine HW0.out.mono ?_
      rintro e w' ⟨rfl, hg⟩
      go_wp2_with fail
      go_ret
      exact ⟨rfl, hg⟩
  · have t1 : decide ((70000 : Int) < (n : Int)) = true := decide_eq_true (by omega)
    go_enter Tryd.func11, Tryd.ntmps11
    go_wp2_with fail
    refine HW0.out.mono ?_
    rintro e w' ⟨rfl, hg⟩
    go_wp2_with fail
    go_ret
    exact ⟨rfl, hg⟩

set_option maxRecDepth 100000 in
set_option maxHeartbeats 1000000 in
theorem takes_walk (A : Option Addr) (n c : Nat) (l : List UInt8) (w : World) (hb : Bytes w A n l) (hc : n ≤ c) (hm : c ≤ maxLen) (ht : Tab w) :
    Calls Tryd.prog 13 #[.slice A n c] w fun e w' => e = .returned (.bool true) ∧ Grow w w' := by
  by_cases hn : n ≤ 2000
  · have H1 := Lib.hid (next_any A n c l w hb hc hm (by omega) ht)
    have H2 := Lib.hid (fun W hb => ref_next_any A n c l W hb hc hm (by omega) w.heap.size (fun h0 => Row.blk_lt (show Row w A n _ from ‹Bytes w A n l›) h0))
    have H3 := Lib.hid (fun W hb ht => all_any A n c l W hb hc hm (by omega) ht)
    have H4 := Lib.hid (fun W hb => ref_all_any A n c l W hb hc hm (by omega))
    have HB := Lib.hid hb
    clear hb hm
    go_enter Tryd.func13, Tryd.ntmps13
    go_wp2_with fail
    refine H1.out.mono ?_
    rintro e w1 ⟨v1, rfl, hu1, hg1⟩
    have HS1 := Lib.hid hu1.sl
    obtain ⟨A1, n1, c1, rfl, -, -, -, -⟩ := hu1
    have HG1 := Lib.hid hg1
    clear hg1 H1
    go_wp2_with fail
    refine (H2.out w1 (HB.out.grow HG1.out)).mono ?_
    rintro e w2 ⟨v2, rfl, hu2, hg2⟩
    have HS2 := Lib.hid hu2.sl
    obtain ⟨A2, n2, c2, rfl, -, -, -, -⟩ := hu2
    have HG2 := Lib.hid (HG1.out.trans hg2)
    have k1 := conv_str (P := Tryd.prog) Tryd.underlying25 Tryd.underlying5 Tryd.underlying9 (sl_bytes (HS1.out.grow hg2)) c1
    have k2 := conv_str (P := Tryd.prog) Tryd.underlying25 Tryd.underlying5 Tryd.underlying9 (sl_bytes HS2.out) c2
    clear hg2 H2
    go_wp2_with fail
    refine (H3.out w2 (HB.out.grow HG2.out) (ht.grow HG2.out)).mono ?_
    rintro e w3 ⟨v3, rfl, hp3, hg3⟩
    obtain ⟨A3, c3, rfl, hx1, hx2, hp3'⟩ := hp3.form
    have hxl : (all_ l).1.length ≤ 9223372036854775807 := by unfold maxLen at hx2; omega
    clear hx1 hx2
    have HP3 := Lib.hid hp3'
    have HG3 := Lib.hid (HG2.out.trans hg3)
    clear hg3 H3 k1 k2 hp3 hp3'
    go_wp2_with fail
    refine (H4.out w3 (HB.out.grow HG3.out)).mono ?_
    rintro e w4 ⟨v4, rfl, hp4, hg4⟩
    obtain ⟨A4, c4, rfl, -, -, hp4'⟩ := hp4.form
    have HP4 := Lib.hid hp4'
    have HP3' := Lib.hid (HP3.out.grow hg4)
    have HG4 := Lib.hid (HG3.out.trans hg4)
    obtain ⟨X, hX⟩ : ∃ X, X = (all_ l).1 := ⟨_, rfl⟩
    rw [← hX] at HP3' HP4 hxl ⊢
    clear hg4 H4 hp4 hp4' hX
    go_wp2_with fail
    go_loopw [15] (fun i wr => ∃ k : Nat, k ≤ X.length ∧ i = .int .i64 (k : Int) ∧ Grow w4 wr) (fun i _ => X.length - (intOf i).toNat)
    case atStart => exact ⟨0, by omega, rfl, Grow.refl _⟩
    case round =>
      obtain ⟨k, hk, rfl, hg⟩ := hrel
      by_cases hlt : k < X.length
      · obtain ⟨b, off, A5, n5, c5, x, rfl, hx, cl5, e1, e2, hb5⟩ := (HP3'.out.grow hg).at_ hlt
        obtain ⟨b', off', A6, n6, c6, x', rfl, hx', cl6, e3, e4, hb6⟩ := (HP4.out.grow hg).at_ hlt
        obtain rfl : x = x' := by rw [hx] at hx'; exact Option.some.inj hx'
        have HB5 := Lib.hid hb5
        have HB6 := Lib.hid hb6
        have HC5 := Lib.hid cl5
        have HC6 := Lib.hid cl6
        have HG := Lib.hid hg
        clear hx hx' hb5 hb6 cl5 cl6 hg
        go_wp2_with fail
        apply (fun (v0 v1 v2 v3 v4 v5 v6 v7 v8 v9 v10 : Value) mono obl tail => wp_region_par (R := Grow) (Φ := phi [veq v0, veq v1, veq v2, veq v3, veq v4, veq v5, veq v6, veq v7, veq v8, veq v9, veq v10]) (m := 11) (dls := [[], [], [(80, 0), (81, 1)], [(82, 2)], [(83, 3)], [], [], [(85, 5), (86, 6)], [(87, 7)], [(88, 8)], [(84, 4), (89, 9)]]) (ds := [80, 81, 82, 83, 84, 85, 86, 87, 88, 89, 90]) (by kernel_rfl) (by kernel_rfl) (by decide) rfl (Grow.drew _) (fun _ _ _ => Grow.trans) (mono_phi mono) obl tail)
        case obl =>
          refine obls_cons (fun f w' hR hH Q hQ => ?_) ?_
          · skip
            simp only [view, List.foldl]
            repeat (first | go_guarded | go_step)
            exact hQ _ _ (Grow.refl _) rfl rfl
          refine obls_cons (fun f w' hR hH Q hQ => ?_) ?_
          · skip
            simp only [view, List.foldl]
            repeat (first | go_guarded | go_step)
            exact hQ _ _ (Grow.refl _) rfl rfl
          refine obls_cons (fun f w' hR hH Q hQ => ?_) ?_
          · skip
            obtain ⟨h0, h1, -⟩ := hH
            simp only [view, List.foldl, Act.put, List.setIfInBounds_toArray, List.set_cons_zero, List.set_cons_succ]
            rw [show f 0 = _ from h0]
            rw [show f 1 = _ from h1]
            clear h0 h1
            repeat (first | go_guarded | go_step)
            exact hQ _ _ (Grow.refl _) rfl rfl
          refine obls_cons (fun f w' hR hH Q hQ => ?_) ?_
          · skip
            obtain ⟨h2, -⟩ := hH
            simp only [view, List.foldl, Act.put, List.setIfInBounds_toArray, List.set_cons_zero, List.set_cons_succ]
            rw [show f 2 = _ from h2]
            clear h2
            have c5 := hR.cell HC5.out
            repeat (first | go_guarded | go_step)
            exact hQ _ _ (Grow.refl _) rfl rfl
          refine obls_cons (fun f w' hR hH Q hQ => ?_) ?_
          · skip
            obtain ⟨h3, -⟩ := hH
            simp only [view, List.foldl, Act.put, List.setIfInBounds_toArray, List.set_cons_zero, List.set_cons_succ]
            rw [show f 3 = _ from h3]
            clear h3
            have hcs := fun c => conv_str (P := Tryd.prog) Tryd.underlying25 Tryd.underlying5 Tryd.underlying9 ((HB5.out).grow hR) c
            go_wp2_with fail
            exact hQ _ _ (Grow.refl _) rfl rfl
          refine obls_cons (fun f w' hR hH Q hQ => ?_) ?_
          · skip
            simp only [view, List.foldl]
            repeat (first | go_guarded | go_step)
            exact hQ _ _ (Grow.refl _) rfl rfl
          refine obls_cons (fun f w' hR hH Q hQ => ?_) ?_
          · skip
            simp only [view, List.foldl]
            repeat (first | go_guarded | go_step)
            exact hQ _ _ (Grow.refl _) rfl rfl
          refine obls_cons (fun f w' hR hH Q hQ => ?_) ?_
          · skip
            obtain ⟨h5, h6, -⟩ := hH
            simp only [view, List.foldl, Act.put, List.setIfInBounds_toArray, List.set_cons_zero, List.set_cons_succ]
            rw [show f 5 = _ from h5]
            rw [show f 6 = _ from h6]
            clear h5 h6
            repeat (first | go_guarded | go_step)
            exact hQ _ _ (Grow.refl _) rfl rfl
          refine obls_cons (fun f w' hR hH Q hQ => ?_) ?_
          · skip
            obtain ⟨h7, -⟩ := hH
            simp only [view, List.foldl, Act.put, List.setIfInBounds_toArray, List.set_cons_zero, List.set_cons_succ]
            rw [show f 7 = _ from h7]
            clear h7
            have c6 := hR.cell HC6.out
            repeat (first | go_guarded | go_step)
            exact hQ _ _ (Grow.refl _) rfl rfl
          refine obls_cons (fun f w' hR hH Q hQ => ?_) ?_
          · skip
            obtain ⟨h8, -⟩ := hH
            simp only [view, List.foldl, Act.put, List.setIfInBounds_toArray, List.set_cons_zero, List.set_cons_succ]
            rw [show f 8 = _ from h8]
            clear h8
            have hcs := fun c => conv_str (P := Tryd.prog) Tryd.underlying25 Tryd.underlying5 Tryd.underlying9 ((HB6.out).grow hR) c
            go_wp2_with fail
            exact hQ _ _ (Grow.refl _) rfl rfl
          refine obls_cons (fun f w' hR hH Q hQ => ?_) ?_
          · skip
            obtain ⟨h4, h9, -⟩ := hH
            simp only [view, List.foldl, Act.put, List.setIfInBounds_toArray, List.set_cons_zero, List.set_cons_succ]
            rw [show f 4 = _ from h4]
            rw [show f 9 = _ from h9]
            clear h4 h9
            repeat (first | go_guarded | go_step)
            exact hQ _ _ (Grow.refl _) rfl rfl
          exact obls_nil
        case mono => exact ⟨Mono.veq _, Mono.veq _, Mono.veq _, Mono.veq _, Mono.veq _, Mono.veq _, Mono.veq _, Mono.veq _, Mono.veq _, Mono.veq _, Mono.veq _, trivial⟩
        case tail =>
          intro f w' hR hH
          simp only [view, List.zipIdx, List.foldl, Act.put, List.setIfInBounds_toArray, List.set_cons_zero, List.set_cons_succ, List.drop_succ_cons, List.drop_zero]
          obtain ⟨-, -, -, -, -, -, -, -, -, -, q10, -⟩ := hH
          rw [show f 10 = _ from q10]
          clear q10
          generalize f 0 = x0
          generalize f 1 = x1
          generalize f 2 = x2
          generalize f 3 = x3
          generalize f 4 = x4
          generalize f 5 = x5
          generalize f 6 = x6
          generalize f 7 = x7
          generalize f 8 = x8
          generalize f 9 = x9
          have HR := Lib.hid (HG.out.trans hR)
          clear hR
          go_wp2_with fail
          go_roundw
          case rel => exact ⟨k + 1, by omega, by go_num, HR.out⟩
          case measure => simp [intOf] <;> omega
      · have HW := Lib.hid (works_any wr (ht.grow (HG4.out.trans hg)))
        go_wp2_with fail
        refine HW.out.mono ?_
        rintro e w5 ⟨rfl, hg5⟩
        go_wp2_with fail
        go_ret
        exact ⟨rfl, (HG4.out.trans hg).trans hg5⟩
  · have HW0 := Lib.hid (works_any w ht)
    have t1 : decide ((2000 : Int) < (n : Int)) = true := decide_eq_true (by omega)
    go_enter Tryd.func13, Tryd.ntmps13
    go_wp2_with fail
    refine HW0.out.mono ?_
    rintro e w' ⟨rfl, hg⟩
    go_wp2_with fail
    go_ret
    exact ⟨rfl, hg⟩
end Go.Proofs.YtmkbkophpmkcbaaDoor.frL
