/- The statement BufBack. -/
import Derived.Test.YtfmaicjgndbffaaBufL4
namespace Go.Proofs.Ytfmaicjgndbffaa.bfL
open Go Go.RowKit Go.Par Go.Kit Vi Go.Proofs.Ytfmaicjgndbffaa.cl Go.Proofs.Ytfmaicjgndbffaa.bfW

theorem vb_num (n : Nat) (more : List UInt8) (h : n < 18446744073709551616) : rnum (vb n ++ more) 0 18446744073709551615 = (n, more, 0) := by
  unfold rnum
  rw [rd_vb n more h]
  simp only
  rw [if_neg (by decide), if_neg (by decide), if_neg (by omega), List.drop_left]
theorem u8_byte (y : UInt8) (more : List UInt8) : rbyte ([y] ++ more) 0 255 = (y.toNat, more, 0) := by
  have := y.toNat_lt
  show (if (0 : Nat) ≠ 0 then _ else if 255 < y.toNat then _ else _) = _
  rw [if_neg (by decide), if_neg (by omega)]; rfl
theorem vb_text (t more : List UInt8) (h : t.length < 9223372036854775808) : rtext ((vb t.length ++ t) ++ more) 0 (t.length : Int) = (t, more, 0) := by
  unfold rtext
  rw [List.append_assoc, rd_vb t.length (t ++ more) (by omega)]
  simp only
  rw [if_neg (by decide), if_neg (by decide), if_neg (by omega), if_neg (by simp), List.drop_left, List.take_left]
  congr 2
  rw [← List.append_assoc, show (vb t.length).length + t.length = (vb t.length ++ t).length by simp, List.drop_left]
theorem its_split (xs : List Item) (k : Nat) (x : Item) (h : xs[k]? = some x) : its (xs.drop k) = it x ++ its (xs.drop (k + 1)) := by
  obtain ⟨hl, rfl⟩ := List.getElem?_eq_some_iff.1 h
  unfold its
  rw [List.drop_eq_getElem_cons hl, List.map_cons, List.flatten_cons]
/-- the phases of a round's region: not read yet, read -/
def Ph1 (w : World) (B g : Nat) (L L1 : List UInt8) (b : Nat) (wr : World) : Prop :=
  Grow w wr ∧ (b = 0 → Rdr TR wr B (fun _ => False) g L 0) ∧ (b = 1 → Rdr TR wr B (fun _ => False) g L1 0)

set_option maxRecDepth 100000 in
set_option maxHeartbeats 4000000 in
theorem back_walk (A : Option Addr) (n c : Nat) (xs : List Item) (w : World) (ha : Items w A n xs) (hn : n ≤ maxLen) :
    Calls Try.prog 9 #[.slice A n c] w fun e w' => e = .returned (.bool true) ∧ Grow w w' := by
  have HF := Lib.hid (few_any A n c xs w ha hn)
  have HW0 := Lib.hid (works_any w)
  have HA := Lib.hid ha
  clear ha
  by_cases hf : fewB xs = true
  · rw [hf] at HF
    obtain ⟨hf1, hf2⟩ := few_get hf
    have hxl := HA.out.1.1
    have h60 : n ≤ 60 := by omega
    have HF2 := Lib.hid hf2
    have HXL := Lib.hid hxl
    obtain ⟨B, hB⟩ : ∃ B, B = w.heap.size := ⟨_, rfl⟩
    have HB := Lib.hid hB
    have hz := wr_new w B (fun _ => False) (Nat.le_of_eq hB) (fun _ h => h.elim) hB
    have HZ := Lib.hid hz
    clear hf hf1 hf2 hxl hn hB hz
    go_enter Try.func9, Try.ntmps9
    go_wp2_with fail
    refine HF.out.mono ?_
    rintro e w' ⟨rfl, rfl⟩
    go_wp2_with fail
    rw [← HB.out]
    go_loopw [4] (fun i wr => ∃ k : Nat, k ≤ n ∧ i = .int .i64 (k : Int) ∧ Wb wr B (fun _ => False) B (its (xs.take k)) ∧ Grow w wr) (fun i _ => n - (intOf i).toNat)
    case atStart => exact ⟨0, by omega, rfl, HZ.out, Grow.alloc _ _⟩
    case round =>
      obtain ⟨k, hk, rfl, hw, hg⟩ := hrel
      clear HZ
      by_cases hlt : k < n
      · obtain ⟨b, off, x, rfl, hx, ok, d0, d1, d2, d3⟩ := (HA.out.grow hg).at_ hlt
        have hxt := HF2.out x (List.mem_of_getElem? hx)
        have hsn := its_snoc xs k x hx
        have hLl : (its (xs.take k)).length ≤ 310 * k := by
          have := its_len (xs.take k) (fun y hy => HF2.out y (List.mem_of_mem_take hy))
          rw [List.length_take] at this
          have := HXL.out
          omega
        have HSN := Lib.hid hsn
        generalize its (xs.take k) = Lk at hw hLl HSN
        have HWR := Lib.hid (write_any wr B (fun _ => False) (fun _ h => h.elim) B Lk hw x ok hxt (by omega))
        have HG := Lib.hid hg
        clear hx hsn hw ok hxt hg
        go_wp2_with fail
        refine HWR.out.mono ?_
        rintro e w1 ⟨u, rfl, hs1, hw1, hk1⟩
        obtain ⟨A4, n4, c4, rfl, -, -, hb4⟩ := hs1
        have HW1 := Lib.hid hw1
        have HG1 : Hid (Grow w w1) := Lib.hid (hk1.grow HG.out HB.out)
        clear hw1 hk1 HWR hb4
        go_wp2_with fail
        go_roundw
        case rel => exact ⟨k + 1, by omega, by go_num, by rw [HSN.out]; exact HW1.out, HG1.out⟩
        case measure => simp [intOf] <;> omega
      · obtain rfl : k = n := by omega
        have e : xs.take k = xs := List.take_of_length_le (by have := HXL.out; omega)
        rw [e] at hw
        have hLl : (its xs).length ≤ 310 * k := by have := its_len xs HF2.out; have := HXL.out; omega
        have HBY := Lib.hid (bytes_w wr B _ B (its xs) hw (by omega))
        have HG := Lib.hid hg
        clear e hw hg
        go_wp2_with fail
        refine HBY.out.mono ?_
        rintro e w1 ⟨v1, rfl, ho1, hg1⟩
        have hoa := own_form ho1
        obtain ⟨A1, c1, rfl, a1, a2, a3⟩ := hoa
        rw [Nat.mul_one] at a3
        have HO := Lib.hid (open_any w1 w1.heap.size (fun _ => False) (Nat.le_refl _) (fun _ h => h.elim) A1 (its xs).length c1 (its xs) a3 a1 a2 (fun _ ad had => (own_addr ho1 ad had).2))
        have HG1 := Lib.hid (HG.out.trans hg1)
        clear hg1 ho1 a3 a2 a1 HBY
        go_wp2_with fail
        refine HO.out.mono ?_
        rintro e w2 ⟨rfl, hr2, hg2⟩
        obtain ⟨g, hg0⟩ : ∃ g, g = w1.heap.size := ⟨_, rfl⟩
        rw [← hg0] at hr2 ⊢
        have HE := Lib.hid hg0
        have HR2 := Lib.hid hr2
        have HG2 := Lib.hid hg2
        clear hr2 hg2 hg0 HO
        go_wp2_with fail
        go_loopw [6] (fun i wq => ∃ j : Nat, j ≤ k ∧ i = .int .i64 (j : Int) ∧ Rdr TR wq g (fun _ => False) g (its (xs.drop j)) 0 ∧ Grow w1 wq) (fun i _ => k - (intOf i).toNat)
        case atStart => exact ⟨0, by omega, rfl, HR2.out, HG2.out⟩
        case round =>
          obtain ⟨j, hj, rfl, hr, hgq⟩ := hrel
          clear HR2
          by_cases hjl : j < k
          · obtain ⟨b, off, x, rfl, hx, ok, d0, d1, d2, d3⟩ := HA.out.at_ hjl
            have hxt := HF2.out x (List.mem_of_getElem? hx)
            have hsp := its_split xs j x hx
            rw [hsp] at hr
            have HGA := Lib.hid (HG1.out.trans hgq)
            have c0 := HGA.out.cell d0
            have hk256 := ok.k
            have hn64 := ok.num
            have hb256 := ok.b
            obtain ⟨M, hM⟩ : ∃ M, M = its (xs.drop (j + 1)) := ⟨_, rfl⟩
            rw [← hM] at hr
            have HM := Lib.hid hM
            have HR := Lib.hid hr
            have HGQ := Lib.hid hgq
            have D1 := Lib.hid d1
            have D2 := Lib.hid d2
            have D3 := Lib.hid d3
            clear hx hsp ok hr hgq hM d0 d1 d2 d3
            by_cases h0 : x.k = 0
            · have e : it x = vb x.num := by unfold it; rw [if_pos h0]
              rw [e] at HR
              have hst := vb_num x.num M hn64
              have t0 : ((x.k : Int) == 0) = true := beq_iff_eq.2 (by omega)
              have HST := Lib.hid hst
              clear hst e h0
              go_wp2_with fail
              apply (fun (v0 v1 v2 v3 v4 v5 v6 v7 v8 : Value) mono draw obl tail => wp_region_piv (I := Ph1 w1 g g (vb x.num ++ M) M) (G := Grow) (Rp := (fun _ _ => True)) (Φ := phi2 [veq2 v0, veq2 v1, veq2 v2, veq2 v3, veq2 v4, veq2 v5, veq2 v6, veq2 v7, veq2 v8]) (m := 9) (ps := [1]) (qs := [(0, 0, false), (0, 0, true), (0, 1, false), (0, 1, false), (0, 1, false), (0, 1, false), (0, 1, false), (1, 1, false), (1, 1, false)]) (dls := [[], [(52, 0)], [], [], [(54, 2), (55, 3)], [(56, 4)], [(57, 5)], [(53, 1), (58, 6)], [(59, 7)]]) (ds := [52, 53, 54, 55, 56, 57, 58, 59, 7]) (by kernel_rfl) (by kernel_rfl) (by kernel_rfl) (by decide) rfl rfl draw (mono2_phi mono) (piv2_phi mono) obl tail)
              case obl =>
                refine obls2_cons (fun b hb1 hb2 f w' hI hH Q hQ => ?_) ?_
                · skip
                  obtain rfl : b = 0 := by omega
                  clear hb1 hb2
                  simp only [view, List.foldl]
                  repeat (first | go_guarded | go_step)
                  exact hQ _ _ hI (Grow.refl _) rfl rfl
                refine oblsP_cons (fun f w' hI hH Q hQ => ?_) ?_
                · skip
                  obtain ⟨h0, -⟩ := hH
                  simp only [view, List.foldl, Act.put, List.setIfInBounds_toArray, List.set_cons_zero, List.set_cons_succ]
                  rw [show f 0 = _ from h0]
                  clear h0
                  have hnum := num_any w' _ _ g _ 0 (hI.2.1 rfl) 18446744073709551615
                  rw [HST.out] at hnum
                  have HNUM := Lib.hid hnum
                  have HI := Lib.hid hI
                  clear hnum hI
                  go_wp2_with (go_at_call 28; refine HNUM.out.mono ?_; rintro e w4 ⟨rfl, hr4, hk4⟩)
                  exact hQ _ _ ⟨hk4.grow HI.out.1 HE.out, fun h => absurd h (by decide), fun _ => hr4⟩ trivial rfl rfl
                refine obls2_cons (fun b hb1 hb2 f w' hI hH Q hQ => ?_) ?_
                · skip
                  simp only [view, List.foldl]
                  repeat (first | go_guarded | go_step)
                  exact hQ _ _ hI (Grow.refl _) rfl rfl
                refine obls2_cons (fun b hb1 hb2 f w' hI hH Q hQ => ?_) ?_
                · skip
                  simp only [view, List.foldl]
                  repeat (first | go_guarded | go_step)
                  exact hQ _ _ hI (Grow.refl _) rfl rfl
                refine obls2_cons (fun b hb1 hb2 f w' hI hH Q hQ => ?_) ?_
                · skip
                  obtain ⟨h2, h3, -⟩ := hH
                  simp only [view, List.foldl, Act.put, List.setIfInBounds_toArray, List.set_cons_zero, List.set_cons_succ]
                  rw [show f 2 = _ from h2]
                  rw [show f 3 = _ from h3]
                  clear h2 h3
                  repeat (first | go_guarded | go_step)
                  exact hQ _ _ hI (Grow.refl _) rfl rfl
                refine obls2_cons (fun b hb1 hb2 f w' hI hH Q hQ => ?_) ?_
                · skip
                  obtain ⟨h4, -⟩ := hH
                  simp only [view, List.foldl, Act.put, List.setIfInBounds_toArray, List.set_cons_zero, List.set_cons_succ]
                  rw [show f 4 = _ from h4]
                  clear h4
                  repeat (first | go_guarded | go_step)
                  exact hQ _ _ hI (Grow.refl _) rfl rfl
                refine obls2_cons (fun b hb1 hb2 f w' hI hH Q hQ => ?_) ?_
                · skip
                  obtain ⟨h5, -⟩ := hH
                  simp only [view, List.foldl, Act.put, List.setIfInBounds_toArray, List.set_cons_zero, List.set_cons_succ]
                  rw [show f 5 = _ from h5]
                  clear h5
                  have c1 := (HG1.out.trans hI.1).cell D1.out
                  repeat (first | go_guarded | go_step)
                  exact hQ _ _ hI (Grow.refl _) rfl rfl
                refine obls2_cons (fun b hb1 hb2 f w' hI hH Q hQ => ?_) ?_
                · skip
                  obtain rfl : b = 1 := by omega
                  clear hb1 hb2
                  obtain ⟨h1, h6, -⟩ := hH
                  simp only [view, List.foldl, Act.put, List.setIfInBounds_toArray, List.set_cons_zero, List.set_cons_succ]
                  rw [show f 1 = _ from h1]
                  rw [show f 6 = _ from h6]
                  clear h1 h6
                  repeat (first | go_guarded | go_step)
                  exact hQ _ _ hI (Grow.refl _) rfl rfl
                refine obls2_cons (fun b hb1 hb2 f w' hI hH Q hQ => ?_) ?_
                · skip
                  obtain rfl : b = 1 := by omega
                  clear hb1 hb2
                  obtain ⟨h7, -⟩ := hH
                  simp only [view, List.foldl, Act.put, List.setIfInBounds_toArray, List.set_cons_zero, List.set_cons_succ]
                  rw [show f 7 = _ from h7]
                  clear h7
                  repeat (first | go_guarded | go_step)
                  exact hQ _ _ hI (Grow.refl _) rfl rfl
                exact obls2_nil
              case draw =>
                exact ⟨HGQ.out.trans (Grow.drew _), fun _ => HR.out.grow (Grow.drew _), fun h => absurd h (by decide)⟩
              case mono => exact ⟨Mono2.veq _, Mono2.veq _, Mono2.veq _, Mono2.veq _, Mono2.veq _, Mono2.veq _, Mono2.veq _, Mono2.veq _, Mono2.veq _, trivial⟩
              case tail =>
                intro f w' hI hH
                simp only [view, List.zipIdx, List.foldl, Act.put, List.setIfInBounds_toArray, List.set_cons_zero, List.set_cons_succ, List.drop_succ_cons, List.drop_nil]
                obtain ⟨-, -, -, -, -, -, -, -, q8, -⟩ := hH
                rw [show f 8 = _ from q8]
                clear q8
                generalize f 0 = x0
                generalize f 1 = x1
                generalize f 2 = x2
                generalize f 3 = x3
                generalize f 4 = x4
                generalize f 5 = x5
                generalize f 6 = x6
                generalize f 7 = x7
                have HR2 := Lib.hid (hI.2.2 rfl)
                have HG2 := Lib.hid hI.1
                clear hI HR HGQ
                go_wp2_with fail
                go_roundw
                case rel => exact ⟨j + 1, by omega, by go_num, by rw [← HM.out]; exact HR2.out, HG2.out⟩
                case measure => simp [intOf] <;> omega
            · skip
              by_cases h1 : x.k = 1
              · have e : it x = [Vi.u8 x.b] := by unfold it; rw [if_neg h0, if_pos h1]
                rw [e] at HR
                have hst := u8_byte (Vi.u8 x.b) M
                rw [Vi.u8_toNat hb256] at hst
                have t0 : ((x.k : Int) == 0) = false := beq_false_of_ne (by omega)
                have t1 : ((x.k : Int) == 1) = true := beq_iff_eq.2 (by omega)
                have HST := Lib.hid hst
                clear hst e h0 h1
                go_wp2_with fail
                apply (fun (v0 v1 v2 v3 v4 v5 v6 v7 v8 : Value) mono draw obl tail => wp_region_piv (I := Ph1 w1 g g ([Vi.u8 x.b] ++ M) M) (G := Grow) (Rp := (fun _ _ => True)) (Φ := phi2 [veq2 v0, veq2 v1, veq2 v2, veq2 v3, veq2 v4, veq2 v5, veq2 v6, veq2 v7, veq2 v8]) (m := 9) (ps := [1]) (qs := [(0, 0, false), (0, 0, true), (0, 1, false), (0, 1, false), (0, 1, false), (0, 1, false), (0, 1, false), (1, 1, false), (1, 1, false)]) (dls := [[], [(62, 0)], [], [], [(64, 2), (65, 3)], [(66, 4)], [(67, 5)], [(63, 1), (68, 6)], [(69, 7)]]) (ds := [62, 63, 64, 65, 66, 67, 68, 69, 7]) (by kernel_rfl) (by kernel_rfl) (by kernel_rfl) (by decide) rfl rfl draw (mono2_phi mono) (piv2_phi mono) obl tail)
                case obl =>
                  refine obls2_cons (fun b hb1 hb2 f w' hI hH Q hQ => ?_) ?_
                  · skip
                    obtain rfl : b = 0 := by omega
                    clear hb1 hb2
                    simp only [view, List.foldl]
                    repeat (first | go_guarded | go_step)
                    exact hQ _ _ hI (Grow.refl _) rfl rfl
                  refine oblsP_cons (fun f w' hI hH Q hQ => ?_) ?_
                  · skip
                    obtain ⟨h0, -⟩ := hH
                    simp only [view, List.foldl, Act.put, List.setIfInBounds_toArray, List.set_cons_zero, List.set_cons_succ]
                    rw [show f 0 = _ from h0]
                    clear h0
                    have hnum := byte_any w' _ _ g _ 0 (hI.2.1 rfl) 255
                    rw [HST.out] at hnum
                    have HNUM := Lib.hid hnum
                    have HI := Lib.hid hI
                    clear hnum hI
                    go_wp2_with (go_at_call 30; refine HNUM.out.mono ?_; rintro e w4 ⟨rfl, hr4, hk4⟩)
                    exact hQ _ _ ⟨hk4.grow HI.out.1 HE.out, fun h => absurd h (by decide), fun _ => hr4⟩ trivial rfl rfl
                  refine obls2_cons (fun b hb1 hb2 f w' hI hH Q hQ => ?_) ?_
                  · skip
                    simp only [view, List.foldl]
                    repeat (first | go_guarded | go_step)
                    exact hQ _ _ hI (Grow.refl _) rfl rfl
                  refine obls2_cons (fun b hb1 hb2 f w' hI hH Q hQ => ?_) ?_
                  · skip
                    simp only [view, List.foldl]
                    repeat (first | go_guarded | go_step)
                    exact hQ _ _ hI (Grow.refl _) rfl rfl
                  refine obls2_cons (fun b hb1 hb2 f w' hI hH Q hQ => ?_) ?_
                  · skip
                    obtain ⟨h2, h3, -⟩ := hH
                    simp only [view, List.foldl, Act.put, List.setIfInBounds_toArray, List.set_cons_zero, List.set_cons_succ]
                    rw [show f 2 = _ from h2]
                    rw [show f 3 = _ from h3]
                    clear h2 h3
                    repeat (first | go_guarded | go_step)
                    exact hQ _ _ hI (Grow.refl _) rfl rfl
                  refine obls2_cons (fun b hb1 hb2 f w' hI hH Q hQ => ?_) ?_
                  · skip
                    obtain ⟨h4, -⟩ := hH
                    simp only [view, List.foldl, Act.put, List.setIfInBounds_toArray, List.set_cons_zero, List.set_cons_succ]
                    rw [show f 4 = _ from h4]
                    clear h4
                    repeat (first | go_guarded | go_step)
                    exact hQ _ _ hI (Grow.refl _) rfl rfl
                  refine obls2_cons (fun b hb1 hb2 f w' hI hH Q hQ => ?_) ?_
                  · skip
                    obtain ⟨h5, -⟩ := hH
                    simp only [view, List.foldl, Act.put, List.setIfInBounds_toArray, List.set_cons_zero, List.set_cons_succ]
                    rw [show f 5 = _ from h5]
                    clear h5
                    have c1 := (HG1.out.trans hI.1).cell D2.out
                    repeat (first | go_guarded | go_step)
                    exact hQ _ _ hI (Grow.refl _) rfl rfl
                  refine obls2_cons (fun b hb1 hb2 f w' hI hH Q hQ => ?_) ?_
                  · skip
                    obtain rfl : b = 1 := by omega
                    clear hb1 hb2
                    obtain ⟨h1, h6, -⟩ := hH
                    simp only [view, List.foldl, Act.put, List.setIfInBounds_toArray, List.set_cons_zero, List.set_cons_succ]
                    rw [show f 1 = _ from h1]
                    rw [show f 6 = _ from h6]
                    clear h1 h6
                    repeat (first | go_guarded | go_step)
                    exact hQ _ _ hI (Grow.refl _) rfl rfl
                  refine obls2_cons (fun b hb1 hb2 f w' hI hH Q hQ => ?_) ?_
                  · skip
                    obtain rfl : b = 1 := by omega
                    clear hb1 hb2
                    obtain ⟨h7, -⟩ := hH
                    simp only [view, List.foldl, Act.put, List.setIfInBounds_toArray, List.set_cons_zero, List.set_cons_succ]
                    rw [show f 7 = _ from h7]
                    clear h7
                    repeat (first | go_guarded | go_step)
                    exact hQ _ _ hI (Grow.refl _) rfl rfl
                  exact obls2_nil
                case draw =>
                  exact ⟨HGQ.out.trans (Grow.drew _), fun _ => HR.out.grow (Grow.drew _), fun h => absurd h (by decide)⟩
                case mono => exact ⟨Mono2.veq _, Mono2.veq _, Mono2.veq _, Mono2.veq _, Mono2.veq _, Mono2.veq _, Mono2.veq _, Mono2.veq _, Mono2.veq _, trivial⟩
                case tail =>
                  intro f w' hI hH
                  simp only [view, List.zipIdx, List.foldl, Act.put, List.setIfInBounds_toArray, List.set_cons_zero, List.set_cons_succ, List.drop_succ_cons, List.drop_nil]
                  obtain ⟨-, -, -, -, -, -, -, -, q8, -⟩ := hH
                  rw [show f 8 = _ from q8]
                  clear q8
                  generalize f 0 = x0
                  generalize f 1 = x1
                  generalize f 2 = x2
                  generalize f 3 = x3
                  generalize f 4 = x4
                  generalize f 5 = x5
                  generalize f 6 = x6
                  generalize f 7 = x7
                  have HR2 := Lib.hid (hI.2.2 rfl)
                  have HG2 := Lib.hid hI.1
                  clear hI HR HGQ
                  go_wp2_with fail
                  go_roundw
                  case rel => exact ⟨j + 1, by omega, by go_num, by rw [← HM.out]; exact HR2.out, HG2.out⟩
                  case measure => simp [intOf] <;> omega
              · skip
                have e : it x = vb x.t.length ++ x.t := by unfold it; rw [if_neg h0, if_neg h1]
                rw [e] at HR
                have hst := vb_text x.t M (by omega)
                have t0 : ((x.k : Int) == 0) = false := beq_false_of_ne (by omega)
                have t1 : ((x.k : Int) == 1) = false := beq_false_of_ne (by omega)
                have HST := Lib.hid hst
                clear hst e h0 h1
                go_wp2_with fail
                apply (fun (v0 v1 v2 v3 v4 v5 v6 v7 v8 v9 v10 v11 v12 v13 v14 : Value) mono draw obl tail => wp_region_piv (I := Ph1 w1 g g ((vb x.t.length ++ x.t) ++ M) M) (G := Grow) (Rp := (fun _ _ => True)) (Φ := phi2 [veq2 v0, veq2 v1, veq2 v2, veq2 v3, veq2 v4, veq2 v5, veq2 v6, veq2 v7, veq2 v8, veq2 v9, veq2 v10, veq2 v11, veq2 v12, veq2 v13, veq2 v14]) (m := 15) (ps := [7]) (qs := [(0, 0, false), (0, 0, false), (0, 0, false), (0, 0, false), (0, 0, false), (0, 0, false), (0, 0, false), (0, 0, true), (0, 1, false), (0, 1, false), (0, 1, false), (0, 1, false), (0, 1, false), (1, 1, false), (1, 1, false)]) (dls := [[], [], [], [(37, 1), (38, 2)], [(39, 3)], [(40, 4)], [(41, 5)], [(36, 0), (42, 6)], [], [], [(44, 8), (45, 9)], [(46, 10)], [(47, 11)], [(43, 7), (48, 12)], [(49, 13)]]) (ds := [36, 37, 38, 39, 40, 41, 42, 43, 44, 45, 46, 47, 48, 49, 7]) (by kernel_rfl) (by kernel_rfl) (by kernel_rfl) (by decide) rfl rfl draw (mono2_phi mono) (piv2_phi mono) obl tail)
                case obl =>
                  refine obls2_cons (fun b hb1 hb2 f w' hI hH Q hQ => ?_) ?_
                  · skip
                    obtain rfl : b = 0 := by omega
                    clear hb1 hb2
                    simp only [view, List.foldl]
                    repeat (first | go_guarded | go_step)
                    exact hQ _ _ hI (Grow.refl _) rfl rfl
                  refine obls2_cons (fun b hb1 hb2 f w' hI hH Q hQ => ?_) ?_
                  · skip
                    obtain rfl : b = 0 := by omega
                    clear hb1 hb2
                    simp only [view, List.foldl]
                    repeat (first | go_guarded | go_step)
                    exact hQ _ _ hI (Grow.refl _) rfl rfl
                  refine obls2_cons (fun b hb1 hb2 f w' hI hH Q hQ => ?_) ?_
                  · skip
                    obtain rfl : b = 0 := by omega
                    clear hb1 hb2
                    simp only [view, List.foldl]
                    repeat (first | go_guarded | go_step)
                    exact hQ _ _ hI (Grow.refl _) rfl rfl
                  refine obls2_cons (fun b hb1 hb2 f w' hI hH Q hQ => ?_) ?_
                  · skip
                    obtain rfl : b = 0 := by omega
                    clear hb1 hb2
                    obtain ⟨h1, h2, -⟩ := hH
                    simp only [view, List.foldl, Act.put, List.setIfInBounds_toArray, List.set_cons_zero, List.set_cons_succ]
                    rw [show f 1 = _ from h1]
                    rw [show f 2 = _ from h2]
                    clear h1 h2
                    repeat (first | go_guarded | go_step)
                    exact hQ _ _ hI (Grow.refl _) rfl rfl
                  refine obls2_cons (fun b hb1 hb2 f w' hI hH Q hQ => ?_) ?_
                  · skip
                    obtain rfl : b = 0 := by omega
                    clear hb1 hb2
                    obtain ⟨h3, -⟩ := hH
                    simp only [view, List.foldl, Act.put, List.setIfInBounds_toArray, List.set_cons_zero, List.set_cons_succ]
                    rw [show f 3 = _ from h3]
                    clear h3
                    repeat (first | go_guarded | go_step)
                    exact hQ _ _ hI (Grow.refl _) rfl rfl
                  refine obls2_cons (fun b hb1 hb2 f w' hI hH Q hQ => ?_) ?_
                  · skip
                    obtain rfl : b = 0 := by omega
                    clear hb1 hb2
                    obtain ⟨h4, -⟩ := hH
                    simp only [view, List.foldl, Act.put, List.setIfInBounds_toArray, List.set_cons_zero, List.set_cons_succ]
                    rw [show f 4 = _ from h4]
                    clear h4
                    have c1 := (HG1.out.trans hI.1).cell D3.out
                    repeat (first | go_guarded | go_step)
                    exact hQ _ _ hI (Grow.refl _) rfl rfl
                  refine obls2_cons (fun b hb1 hb2 f w' hI hH Q hQ => ?_) ?_
                  · skip
                    obtain rfl : b = 0 := by omega
                    clear hb1 hb2
                    obtain ⟨h5, -⟩ := hH
                    simp only [view, List.foldl, Act.put, List.setIfInBounds_toArray, List.set_cons_zero, List.set_cons_succ]
                    rw [show f 5 = _ from h5]
                    clear h5
                    have hsz := str_size x.t
                    repeat (first | go_guarded | go_step)
                    exact hQ _ _ hI (Grow.refl _) rfl rfl
                  refine oblsP_cons (fun f w' hI hH Q hQ => ?_) ?_
                  · skip
                    obtain ⟨h0, h6, -⟩ := hH
                    simp only [view, List.foldl, Act.put, List.setIfInBounds_toArray, List.set_cons_zero, List.set_cons_succ]
                    rw [show f 0 = _ from h0]
                    rw [show f 6 = _ from h6]
                    clear h0 h6
                    have hnum := text_any w' _ _ g _ 0 (hI.2.1 rfl) (x.t.length : Int) (by omega)
                    rw [HST.out] at hnum
                    have HNUM := Lib.hid hnum
                    have HI := Lib.hid hI
                    clear hnum hI
                    go_wp2_with (go_at_call 32; refine HNUM.out.mono ?_; rintro e w4 ⟨rfl, hr4, hk4⟩)
                    exact hQ _ _ ⟨hk4.grow HI.out.1 HE.out, fun h => absurd h (by decide), fun _ => hr4⟩ trivial rfl rfl
                  refine obls2_cons (fun b hb1 hb2 f w' hI hH Q hQ => ?_) ?_
                  · skip
                    simp only [view, List.foldl]
                    repeat (first | go_guarded | go_step)
                    exact hQ _ _ hI (Grow.refl _) rfl rfl
                  refine obls2_cons (fun b hb1 hb2 f w' hI hH Q hQ => ?_) ?_
                  · skip
                    simp only [view, List.foldl]
                    repeat (first | go_guarded | go_step)
                    exact hQ _ _ hI (Grow.refl _) rfl rfl
                  refine obls2_cons (fun b hb1 hb2 f w' hI hH Q hQ => ?_) ?_
                  · skip
                    obtain ⟨h8, h9, -⟩ := hH
                    simp only [view, List.foldl, Act.put, List.setIfInBounds_toArray, List.set_cons_zero, List.set_cons_succ]
                    rw [show f 8 = _ from h8]
                    rw [show f 9 = _ from h9]
                    clear h8 h9
                    repeat (first | go_guarded | go_step)
                    exact hQ _ _ hI (Grow.refl _) rfl rfl
                  refine obls2_cons (fun b hb1 hb2 f w' hI hH Q hQ => ?_) ?_
                  · skip
                    obtain ⟨h10, -⟩ := hH
                    simp only [view, List.foldl, Act.put, List.setIfInBounds_toArray, List.set_cons_zero, List.set_cons_succ]
                    rw [show f 10 = _ from h10]
                    clear h10
                    repeat (first | go_guarded | go_step)
                    exact hQ _ _ hI (Grow.refl _) rfl rfl
                  refine obls2_cons (fun b hb1 hb2 f w' hI hH Q hQ => ?_) ?_
                  · skip
                    obtain ⟨h11, -⟩ := hH
                    simp only [view, List.foldl, Act.put, List.setIfInBounds_toArray, List.set_cons_zero, List.set_cons_succ]
                    rw [show f 11 = _ from h11]
                    clear h11
                    have c1 := (HG1.out.trans hI.1).cell D3.out
                    repeat (first | go_guarded | go_step)
                    exact hQ _ _ hI (Grow.refl _) rfl rfl
                  refine obls2_cons (fun b hb1 hb2 f w' hI hH Q hQ => ?_) ?_
                  · skip
                    obtain rfl : b = 1 := by omega
                    clear hb1 hb2
                    obtain ⟨h7, h12, -⟩ := hH
                    simp only [view, List.foldl, Act.put, List.setIfInBounds_toArray, List.set_cons_zero, List.set_cons_succ]
                    rw [show f 7 = _ from h7]
                    rw [show f 12 = _ from h12]
                    clear h7 h12
                    repeat (first | go_guarded | go_step)
                    exact hQ _ _ hI (Grow.refl _) rfl rfl
                  refine obls2_cons (fun b hb1 hb2 f w' hI hH Q hQ => ?_) ?_
                  · skip
                    obtain rfl : b = 1 := by omega
                    clear hb1 hb2
                    obtain ⟨h13, -⟩ := hH
                    simp only [view, List.foldl, Act.put, List.setIfInBounds_toArray, List.set_cons_zero, List.set_cons_succ]
                    rw [show f 13 = _ from h13]
                    clear h13
                    repeat (first | go_guarded | go_step)
                    exact hQ _ _ hI (Grow.refl _) rfl rfl
                  exact obls2_nil
                case draw =>
                  exact ⟨HGQ.out.trans (Grow.drew _), fun _ => HR.out.grow (Grow.drew _), fun h => absurd h (by decide)⟩
                case mono => exact ⟨Mono2.veq _, Mono2.veq _, Mono2.veq _, Mono2.veq _, Mono2.veq _, Mono2.veq _, Mono2.veq _, Mono2.veq _, Mono2.veq _, Mono2.veq _, Mono2.veq _, Mono2.veq _, Mono2.veq _, Mono2.veq _, Mono2.veq _, trivial⟩
                case tail =>
                  intro f w' hI hH
                  simp only [view, List.zipIdx, List.foldl, Act.put, List.setIfInBounds_toArray, List.set_cons_zero, List.set_cons_succ, List.drop_succ_cons, List.drop_nil]
                  obtain ⟨-, -, -, -, -, -, -, -, -, -, -, -, -, -, q14, -⟩ := hH
                  rw [show f 14 = _ from q14]
                  clear q14
                  generalize f 0 = x0
                  generalize f 1 = x1
                  generalize f 2 = x2
                  generalize f 3 = x3
                  generalize f 4 = x4
                  generalize f 5 = x5
                  generalize f 6 = x6
                  generalize f 7 = x7
                  generalize f 8 = x8
                  generalize f 9 = x9
                  generalize f 10 = x10
                  generalize f 11 = x11
                  generalize f 12 = x12
                  generalize f 13 = x13
                  have HR2 := Lib.hid (hI.2.2 rfl)
                  have HG2 := Lib.hid hI.1
                  clear hI HR HGQ
                  go_wp2_with fail
                  go_roundw
                  case rel => exact ⟨j + 1, by omega, by go_num, by rw [← HM.out]; exact HR2.out, HG2.out⟩
                  case measure => simp [intOf] <;> omega
          · obtain rfl : j = k := by omega
            have e : its (xs.drop j) = [] := by rw [List.drop_eq_nil_of_le (by have := HXL.out; omega)]; rfl
            rw [e] at hr
            have HEN := Lib.hid (end_any _ _ _ g [] 0 hr)
            have HLF := Lib.hid (left_any _ _ _ g [] 0 hr)
            have hGQ := HG1.out.trans hgq
            have HGQ := Lib.hid hGQ
            have HWN := Lib.hid (works_any wr)
            rw [show rend [] 0 = 0 from rfl] at HEN
            rw [show ([] : List UInt8).length = 0 from rfl] at HLF
            clear e hr hgq hGQ
            go_wp2_with fail
            refine HEN.out.mono ?_
            rintro e w5 ⟨rfl, rfl⟩
            go_wp2_with fail
            refine HLF.out.mono ?_
            rintro e w5 ⟨rfl, rfl⟩
            go_wp2_with fail
            refine HWN.out.mono ?_
            rintro e w5 ⟨rfl, hg5⟩
            go_wp2_with fail
            go_ret
            exact ⟨rfl, HGQ.out.trans hg5⟩
  · rw [show fewB xs = false by simpa using hf] at HF
    clear hf
    go_enter Try.func9, Try.ntmps9
    go_wp2_with fail
    refine HF.out.mono ?_
    rintro e w' ⟨rfl, rfl⟩
    go_wp2_with fail
    refine HW0.out.mono ?_
    rintro e w' ⟨rfl, hg⟩
    go_wp2_with fail
    go_ret
    exact ⟨rfl, hg⟩
end Go.Proofs.Ytfmaicjgndbffaa.bfL
