/- The statement BufNil. -/
import Derived.Test.YtfmaicjgndbffaaBufL5
namespace Go.Proofs.Ytfmaicjgndbffaa.bfL
open Go Go.RowKit Go.Par Go.Kit Vi Go.Proofs.Ytfmaicjgndbffaa.cl Go.Proofs.Ytfmaicjgndbffaa.bfW
open Go.Proofs.Ytfmaicjgndbffaa.viW hiding i8 i8s i8z i8b info8

theorem num_nil (v : Value) (w : World) : Calls Try.prog 23 #[.pointer none, v] w fun e w' => e = .returned (.tuple #[]) ∧ w = w' := by
  go_enter Try.func23, Try.ntmps23
  go_wp2_with fail
  exact bodyPost_ret (v := .tuple #[]) (by simp [results, Try.results23, go_sem]) rfl ⟨rfl, rfl⟩
theorem byte_nil_w (v : Value) (w : World) : Calls Try.prog 24 #[.pointer none, v] w fun e w' => e = .returned (.tuple #[]) ∧ w = w' := by
  go_enter Try.func24, Try.ntmps24
  go_wp2_with fail
  exact bodyPost_end (results_none rfl _ _ _) rfl ⟨rfl, rfl⟩
theorem text_nil_w (v : Value) (w : World) : Calls Try.prog 45 #[.pointer none, v] w fun e w' => e = .returned (.tuple #[]) ∧ w = w' := by
  go_enter Try.func45, Try.ntmps45
  go_wp2_with fail
  exact bodyPost_end (results_none rfl _ _ _) rfl ⟨rfl, rfl⟩
theorem bytes_nil (w : World) : Calls Try.prog 25 #[.pointer none] w fun e w' => e = .returned (.slice none 0 0) ∧ w = w' := by
  go_enter Try.func25, Try.ntmps25
  go_wp2_with fail
  go_ret
  exact ⟨rfl, rfl⟩
theorem len_nil (w : World) : Calls Try.prog 26 #[.pointer none] w fun e w' => e = .returned (.int .i64 0) ∧ w = w' := by
  go_enter Try.func26, Try.ntmps26
  go_wp2_with fail
  go_ret
  exact ⟨rfl, rfl⟩
theorem ends_nil (w : World) : Calls Try.prog 48 #[.pointer none] w fun e w' => e = .returned (.bool true) ∧ w = w' := by
  go_enter Try.func48, Try.ntmps48
  go_wp2_with fail
  go_ret
  exact ⟨rfl, rfl⟩
theorem rnum_nil (v : Value) (w : World) : Calls Try.prog 28 #[.pointer none, v] w fun e w' => e = .returned (.int .u64 0) ∧ w = w' := by
  go_enter Try.func28, Try.ntmps28
  go_wp2_with fail
  refine (ends_nil w).mono ?_
  rintro e w' ⟨rfl, rfl⟩
  go_wp2_with fail
  go_ret
  exact ⟨rfl, rfl⟩
theorem rbyte_nil (v : Value) (w : World) : Calls Try.prog 30 #[.pointer none, v] w fun e w' => e = .returned (.int .u8 0) ∧ w = w' := by
  go_enter Try.func30, Try.ntmps30
  go_wp2_with fail
  refine (ends_nil w).mono ?_
  rintro e w' ⟨rfl, rfl⟩
  go_wp2_with fail
  go_ret
  exact ⟨rfl, rfl⟩
theorem rtext_nil (v : Value) (w : World) : Calls Try.prog 32 #[.pointer none, v] w fun e w' => e = .returned (.string ⟨#[]⟩) ∧ w = w' := by
  go_enter Try.func32, Try.ntmps32
  go_wp2_with fail
  refine (ends_nil w).mono ?_
  rintro e w' ⟨rfl, rfl⟩
  go_wp2_with fail
  go_ret
  exact ⟨rfl, rfl⟩
theorem left_nil (w : World) : Calls Try.prog 34 #[.pointer none] w fun e w' => e = .returned (.int .i64 0) ∧ w = w' := by
  go_enter Try.func34, Try.ntmps34
  go_wp2_with fail
  go_ret
  exact ⟨rfl, rfl⟩
theorem err_nil (w : World) : Calls Try.prog 35 #[.pointer none] w fun e w' => e = .returned (.int .i64 1) ∧ w = w' := by
  go_enter Try.func35, Try.ntmps35
  go_wp2_with fail
  go_ret
  exact ⟨rfl, rfl⟩
theorem end_nil (w : World) : Calls Try.prog 36 #[.pointer none] w fun e w' => e = .returned (.int .i64 1) ∧ w = w' := by
  go_enter Try.func36, Try.ntmps36
  go_wp2_with fail
  refine (err_nil w).mono ?_
  rintro e w' ⟨rfl, rfl⟩
  go_wp2_with fail
  refine (err_nil w).mono ?_
  rintro e w' ⟨rfl, rfl⟩
  go_wp2_with fail
  go_ret
  exact ⟨rfl, rfl⟩

set_option maxRecDepth 100000 in
set_option maxHeartbeats 1000000 in
theorem write_nil (w : World) (x : Item) (ok : ItemOk x) (ht : x.t.length ≤ 300) :
    Calls Try.prog 22 #[.pointer none, .agg #[.int .u8 (x.k : Int), .int .u64 (x.num : Int), .int .u8 (x.b : Int), .string (str x.t)]] w fun e w' => ∃ v, e = .returned v ∧ Sl w' v (it x) ∧ Grow w w' := by
  obtain ⟨k, num, b, t⟩ := x
  obtain ⟨ok1, ok2, ok3⟩ := ok
  dsimp only at ok1 ok2 ok3 ht ⊢
  by_cases h0 : k = 0
  · have e : it ⟨k, num, b, t⟩ = vb num := by unfold it; rw [if_pos h0]
    rw [e]
    have t0 : ((k : Int) == 0) = true := beq_iff_eq.2 (by omega)
    have HR := Lib.hid (fun W => ref_bytes_any num ok2 W)
    obtain ⟨M, hM⟩ : ∃ M, M = vb num := ⟨_, rfl⟩
    rw [← hM] at HR ⊢
    clear e h0 hM
    go_enter Try.func22, Try.ntmps22
    go_wp2_with fail
    refine (num_nil _ _).mono ?_
    rintro e w2 ⟨rfl, rfl⟩
    go_wp2_with fail
    refine (HR.out _).mono ?_
    rintro e w3 ⟨A3, c3, rfl, e1, e2, e3, hg3⟩
    have HS := Lib.hid (Sl.mk e3 e1 e2)
    have HG := Lib.hid (((Grow.alloc w _).trans (Grow.alloc _ _)).trans hg3)
    clear e3 e2 hg3 HR
    go_wp2_with fail
    go_ret
    exact ⟨_, rfl, HS.out, HG.out⟩
  · have t0 : ((k : Int) == 0) = false := beq_false_of_ne (by omega)
    by_cases h1 : k = 1
    · have e : it ⟨k, num, b, t⟩ = [Vi.u8 b] := by unfold it; rw [if_neg h0, if_pos h1]
      rw [e]
      have t1 : ((k : Int) == 1) = true := beq_iff_eq.2 (by omega)
      obtain ⟨y, hy⟩ : ∃ y, y = Vi.u8 b := ⟨_, rfl⟩
      have hyb : (y.toNat : Int) = (b : Int) := by rw [hy, Vi.u8_toNat ok3]
      rw [← hy]
      have hrow : ∀ W : World, Bytes (W.alloc (.cells #[.int .u8 (b : Int)] 5)) (some ⟨W.heap.size, 0, none⟩) 1 [y] := fun W => Bytes.new W [y] _ _ rfl (by simp [u8s, u8v, hyb]) rfl
      have HROW := Lib.hid hrow
      clear hrow e h0 h1 hy hyb
      go_enter Try.func22, Try.ntmps22
      go_wp2_with fail
      refine (byte_nil_w _ _).mono ?_
      rintro e w2 ⟨rfl, rfl⟩
      have HB2 := Lib.hid (HROW.out ((w.alloc (.cells #[.int .u8 (k : Int), .int .u64 (num : Int), .int .u8 (b : Int), .string (str t)] 43)).alloc (.cells #[.int .u8 (b : Int)] 5)))
      go_wp2_with fail
      go_ret
      exact ⟨_, rfl, Sl.mk (by simpa using HB2.out) (by decide) (by decide), ((Grow.alloc w _).trans (Grow.alloc _ _)).trans (Grow.alloc _ _)⟩
    · have e : it ⟨k, num, b, t⟩ = vb t.length ++ t := by unfold it; rw [if_neg h0, if_neg h1]
      rw [e]
      have t1 : ((k : Int) == 1) = false := beq_false_of_ne (by omega)
      have HR := Lib.hid (fun W => ref_text_w t (by omega) W)
      obtain ⟨M, hM⟩ : ∃ M, M = vb t.length ++ t := ⟨_, rfl⟩
      rw [← hM] at HR ⊢
      clear e h0 h1 hM
      go_enter Try.func22, Try.ntmps22
      go_wp2_with fail
      refine (text_nil_w _ _).mono ?_
      rintro e w2 ⟨rfl, rfl⟩
      go_wp2_with fail
      refine (HR.out _).mono ?_
      rintro e w3 ⟨v3, rfl, ho3, hg3⟩
      have HS3 := Lib.hid (own_sl ho3)
      obtain ⟨A3, n3, c3, rfl, -, -, -⟩ := HS3.out
      have HG := Lib.hid ((Grow.alloc w _).trans hg3)
      clear ho3 hg3 HR
      go_wp2_with fail
      go_ret
      exact ⟨_, rfl, HS3.out, HG.out⟩

/-- the phases: the plain one not read yet, read -/
def Ph3 (W0 W : World) (B g1 g2 : Nat) (b : Nat) (w : World) : Prop := Grow W0 w ∧ (b = 0 → Grow W w ∧ Rdr TR w B (fun i => i = g1) g2 [] 0) ∧ (b = 1 → Rdr TR w B (fun i => i = g1) g2 [] 2)

set_option maxRecDepth 100000 in
set_option maxHeartbeats 2000000 in
theorem nil_walk (x : Item) (ok : ItemOk x) (z : Int) (w : World) :
    Calls Try.prog 10 #[.agg #[.int .u8 (x.k : Int), .int .u64 (x.num : Int), .int .u8 (x.b : Int), .string (str x.t)], .int .u8 z] w fun e w' => e = .returned (.bool true) ∧ Grow w w' := by
  have hsl := str_size x.t
  have HBX : Hid (Blk (w.alloc (.cells #[.int .u8 (x.k : Int), .int .u64 (x.num : Int), .int .u8 (x.b : Int), .string (str x.t)] 43)) w.heap.size 43 [.int .u8 (x.k : Int), .int .u64 (x.num : Int), .int .u8 (x.b : Int), .string (str x.t)]) := Lib.hid (Blk.new w _ _ _ rfl rfl)
  by_cases ht : x.t.length ≤ 300
  · have d1 : decide ((300 : Int) < (x.t.length : Int)) = false := decide_eq_false (by omega)
    have d2 : decide (300 < x.t.length) = false := decide_eq_false (by omega)
    have HWN := Lib.hid (fun W => write_nil W x ok ht)
    obtain ⟨b0, hb0⟩ : ∃ b0, b0 = w.heap.size := ⟨_, rfl⟩
    have HE0 := Lib.hid hb0
    rw [← hb0] at HBX
    clear hb0
    go_enter Try.func10, Try.ntmps10
    go_wp2_with fail
    refine (HWN.out _).mono ?_
    rintro e w1 ⟨v1, rfl, hs1, hg1⟩
    obtain ⟨A1, n1, c1, rfl, -, -, -⟩ := hs1
    have HB1 := Lib.hid (HBX.out.grow hg1)
    have HG1 := Lib.hid ((Grow.alloc w _).trans hg1)
    rw [← HE0.out]
    obtain ⟨g, hg0⟩ : ∃ g, g = w1.heap.size := ⟨_, rfl⟩
    have HE := Lib.hid hg0
    have hgr2 : Grow w1 ((w1.alloc (.cells #[.slice none 0 0] TW)).alloc (.cells #[.slice none 0 0, .int .i64 0] TR)) := (Grow.alloc _ _).trans (Grow.alloc _ _)
    have hb2 := HB1.out.grow hgr2
    have e0 := hb2.cell (i := 0) rfl
    have e1 := hb2.cell (i := 1) rfl
    have e2 := hb2.cell (i := 2) rfl
    have e3 := hb2.cell (i := 3) rfl
    have HGR := Lib.hid hgr2
    have hz1 : Wb ((w1.alloc (.cells #[.slice none 0 0] TW)).alloc (.cells #[.slice none 0 0, .int .i64 0] TR)) g (fun i => i = g + 1) g [] :=
      ((wr_new w1 g (fun i => i < g) (Nat.le_of_eq hg0) (fun i h => by omega) hg0).more (K2 := fun i => i = g + 1) (fun i hi hlt => by simp [← hg0] at hlt; omega)).grow (Grow.alloc _ _)
    have hz2 : Rdr TR ((w1.alloc (.cells #[.slice none 0 0] TW)).alloc (.cells #[.slice none 0 0, .int .i64 0] TR)) g (fun i => i = g) (g + 1) [] 0 :=
      ⟨none, 0, 0, Blk.new _ _ _ _ rfl (by simp [hg0]), by decide, by decide, Row.nil _ _, (fun h => absurd h (by decide)), by omega, by omega⟩
    have HZ2 := Lib.hid hz2
    have hzl := hz2.lt
    have HWX := Lib.hid (write_any _ g (fun i => i = g + 1) (fun i hi => by rw [hi]; exact hzl.2) g [] hz1 x ok ht (by decide))
    rw [List.nil_append] at HWX
    have HIL := Lib.hid (it_len x ht)
    clear hg1 hgr2 hb2 hz1 hz2 hzl hg0
    go_wp2_with (first
      | (go_at_call 26; refine (len_nil _).mono ?_; rintro e w' ⟨rfl, rfl⟩)
      | (go_at_call 25; refine (bytes_nil _).mono ?_; rintro e w' ⟨rfl, rfl⟩)
      | (go_at_call 28; refine (rnum_nil _ _).mono ?_; rintro e w' ⟨rfl, rfl⟩)
      | (go_at_call 30; refine (rbyte_nil _ _).mono ?_; rintro e w' ⟨rfl, rfl⟩)
      | (go_at_call 32; refine (rtext_nil _ _).mono ?_; rintro e w' ⟨rfl, rfl⟩)
      | (go_at_call 34; refine (left_nil _).mono ?_; rintro e w' ⟨rfl, rfl⟩)
      | (go_at_call 35; refine (err_nil _).mono ?_; rintro e w' ⟨rfl, rfl⟩)
      | (go_at_call 36; refine (end_nil _).mono ?_; rintro e w' ⟨rfl, rfl⟩))
    rw [← HE.out]
    refine HWX.out.mono ?_
    rintro e w3 ⟨v3, rfl, hs3, hw3, hk3⟩
    have HS3 := Lib.hid hs3
    obtain ⟨A3, n3, c3, rfl, -, -, -⟩ := hs3
    obtain ⟨X, hX⟩ : ∃ X, X = it x := ⟨_, rfl⟩
    rw [← hX] at HIL HS3 hw3
    have HW3 := Lib.hid hw3
    have HR3 := Lib.hid (HZ2.out.keep hk3 rfl)
    have HG3 : Hid (Grow w1 w3) := Lib.hid (hk3.grow HGR.out HE.out)
    have HBY := Lib.hid (bytes_w w3 g _ g X HW3.out (by have := HIL.out; omega))
    clear hw3 hk3 HWX hX HZ2
    go_wp2_with fail
    refine HBY.out.mono ?_
    rintro e w4 ⟨v4, rfl, ho4, hg4⟩
    obtain ⟨A4, c4, rfl, -, -, -⟩ := own_form ho4
    have HO4 := Lib.hid ho4
    have HG4 := Lib.hid hg4
    have hXl := HIL.out
    clear ho4 hg4 HBY
    go_wp2_with fail
    go_loopw [64] (fun i wr => ∃ (k : Nat) (ys : List Value), k ≤ X.length ∧ i = .int .i64 (k : Int) ∧ wr.ownsRow w3.heap.size 5 1 (.slice A4 X.length c4) X.length ys ∧ Grow w3 wr) (fun i _ => X.length - (intOf i).toNat)
    case atStart => exact ⟨0, _, by omega, rfl, HO4.out, HG4.out⟩
    case round =>
      obtain ⟨k, ys, hk, rfl, ho, hg⟩ := hrel
      by_cases hlt : k < X.length
      · obtain ⟨g4, rfl, hgB⟩ := Go.Kit.own_some ho (by omega)
        have hyl : k < ys.length := by have := ho.1; omega
        have hcell : wr.cell? ⟨g4, k, none⟩ = some ys[k] := by rw [ho.cellAt _ (by omega), List.getElem?_eq_getElem hyl]
        have hf := ho.frozenAt k
        have HO := Lib.hid ho
        have HG := Lib.hid hg
        generalize ys[k] = y at hcell
        clear ho hg hyl
        go_wp2_with fail
        go_roundw
        case rel => exact ⟨k + 1, _, by omega, by go_num, (HO.out.stored k _).1, Grow.set_ HG.out hgB _⟩
        case measure => simp [intOf] <;> omega
      · have HG := Lib.hid hg
        have HW5 := Lib.hid (HW3.out.grow hg)
        have HR5 := Lib.hid (HR3.out.grow hg)
        have HB5 : Hid (Bytes wr A3 n3 X) := Lib.hid (sl_bytes (HS3.out.grow hg))
        have HGT := Lib.hid (HG3.out.trans hg)
        have hBs : g ≤ wr.heap.size := HW5.out.size
        clear ho hg
        go_wp2_with fail
        apply (fun (v1 v2 v3 v4 v5 v6 v7 v8 v9 v10 v11 v12 v13 v14 v15 v16 v17 v18 v19 v20 : Value) mono draw obl tail => wp_region_piv (I := fun b w' => Ph3 w1 wr g g (g + 1) b w') (G := Grow) (Rp := (fun _ _ => True)) (Φ := phi2 [(from2 0 (IsSl X)), veq2 v1, veq2 v2, veq2 v3, veq2 v4, veq2 v5, veq2 v6, veq2 v7, veq2 v8, veq2 v9, veq2 v10, veq2 v11, veq2 v12, veq2 v13, veq2 v14, veq2 v15, veq2 v16, veq2 v17, veq2 v18, veq2 v19, veq2 v20]) (m := 21) (ps := [10]) (qs := [(0, 0, false), (0, 0, false), (0, 0, false), (0, 0, false), (0, 0, false), (0, 0, false), (0, 0, false), (0, 0, false), (0, 0, false), (0, 0, false), (0, 0, true), (1, 1, false), (1, 1, false), (1, 1, false), (1, 1, false), (1, 1, false), (1, 1, false), (1, 1, false), (1, 1, false), (1, 1, false), (1, 1, false)]) (dls := [[], [(72, 0)], [], [(74, 2)], [(73, 1), (75, 3)], [(76, 4)], [(77, 5)], [(78, 6), (77, 5)], [(77, 5), (79, 7)], [(80, 8)], [(81, 9)], [(82, 10), (81, 9)], [(81, 9), (83, 11)], [(84, 12)], [(85, 13)], [(86, 14), (85, 13)], [(85, 13), (87, 15)], [(88, 16)], [(89, 17)], [(89, 17), (90, 18)], [(91, 19)]]) (ds := [72, 73, 74, 75, 76, 77, 78, 79, 80, 81, 82, 83, 84, 85, 86, 87, 88, 89, 90, 91, 4]) (by kernel_rfl) (by kernel_rfl) (by kernel_rfl) (by decide) rfl rfl draw (mono2_phi mono) (piv2_phi mono) obl tail)
        case obl =>
          refine obls2_cons (fun b hb1 hb2 f w' hI hH Q hQ => ?_) ?_
          · skip
            obtain rfl : b = 0 := by omega
            clear hb1 hb2
            simp only [view, List.foldl]
            have HBQ := Lib.hid (bytes_w w' g _ g X (HW5.out.grow (hI.2.1 rfl).1) (by omega))
            have HI := Lib.hid hI
            clear hI
            go_wp2_with (go_at_call 25; refine HBQ.out.mono ?_; rintro e w6 ⟨v6, rfl, ho6, hg6⟩)
            exact hQ _ _ ⟨HI.out.1.trans hg6, fun _ => ⟨(HI.out.2.1 rfl).1.trans hg6, (HI.out.2.1 rfl).2.grow hg6⟩, fun h => absurd h (by decide)⟩ hg6 (from2.mk (own_sl ho6)) rfl
          refine obls2_cons (fun b hb1 hb2 f w' hI hH Q hQ => ?_) ?_
          · skip
            obtain rfl : b = 0 := by omega
            clear hb1 hb2
            obtain ⟨h0, -⟩ := hH
            simp only [view, List.foldl, Act.put, List.setIfInBounds_toArray, List.set_cons_zero, List.set_cons_succ]
            obtain ⟨u0, hu0⟩ : ∃ u, u = f 0 := ⟨_, rfl⟩
            rw [← hu0]
            replace h0 : (from2 0 (IsSl X)) u0 0 w' := by rw [hu0]; exact h0
            clear hu0
            obtain ⟨A1, n1, c1, rfl, -, -, hb1⟩ := h0.get
            have hcs := conv_str (P := Try.prog) Try.underlying23 Try.underlying5 Try.underlying9 hb1 c1
            clear hb1
            go_wp2_with fail
            exact hQ _ _ hI (Grow.refl _) rfl rfl
          refine obls2_cons (fun b hb1 hb2 f w' hI hH Q hQ => ?_) ?_
          · skip
            obtain rfl : b = 0 := by omega
            clear hb1 hb2
            simp only [view, List.foldl]
            repeat (first | go_guarded | go_step)
            exact hQ _ _ hI (Grow.refl _) rfl rfl
          refine obls2_cons (fun b hb1 hb2 f w' hI hH Q hQ => ?_) ?_
          · skip
            obtain rfl : b = 0 := by omega
            clear hb1 hb2
            obtain ⟨h2, -⟩ := hH
            simp only [view, List.foldl, Act.put, List.setIfInBounds_toArray, List.set_cons_zero, List.set_cons_succ]
            rw [show f 2 = _ from h2]
            clear h2
            have hcs := fun c => conv_str (P := Try.prog) Try.underlying23 Try.underlying5 Try.underlying9 (HB5.out.grow (hI.2.1 rfl).1) c
            go_wp2_with fail
            exact hQ _ _ hI (Grow.refl _) rfl rfl
          refine obls2_cons (fun b hb1 hb2 f w' hI hH Q hQ => ?_) ?_
          · skip
            obtain rfl : b = 0 := by omega
            clear hb1 hb2
            obtain ⟨h1, h3, -⟩ := hH
            simp only [view, List.foldl, Act.put, List.setIfInBounds_toArray, List.set_cons_zero, List.set_cons_succ]
            rw [show f 1 = _ from h1]
            rw [show f 3 = _ from h3]
            clear h1 h3
            repeat (first | go_guarded | go_step)
            exact hQ _ _ hI (Grow.refl _) rfl rfl
          refine obls2_cons (fun b hb1 hb2 f w' hI hH Q hQ => ?_) ?_
          · skip
            obtain rfl : b = 0 := by omega
            clear hb1 hb2
            obtain ⟨h4, -⟩ := hH
            simp only [view, List.foldl, Act.put, List.setIfInBounds_toArray, List.set_cons_zero, List.set_cons_succ]
            rw [show f 4 = _ from h4]
            clear h4
            repeat (first | go_guarded | go_step)
            exact hQ _ _ hI (Grow.refl _) rfl rfl
          refine obls2_cons (fun b hb1 hb2 f w' hI hH Q hQ => ?_) ?_
          · skip
            obtain rfl : b = 0 := by omega
            clear hb1 hb2
            obtain ⟨h5, -⟩ := hH
            simp only [view, List.foldl, Act.put, List.setIfInBounds_toArray, List.set_cons_zero, List.set_cons_succ]
            rw [show f 5 = _ from h5]
            clear h5
            have HEN := Lib.hid (end_any w' _ _ (g + 1) [] 0 (hI.2.1 rfl).2)
            rw [show rend [] 0 = 0 from rfl] at HEN
            go_wp2_with (go_at_call 36; refine HEN.out.mono ?_; rintro e w6 ⟨rfl, rfl⟩)
            exact hQ _ _ hI (Grow.refl _) rfl rfl
          refine obls2_cons (fun b hb1 hb2 f w' hI hH Q hQ => ?_) ?_
          · skip
            obtain rfl : b = 0 := by omega
            clear hb1 hb2
            obtain ⟨h6, h5, -⟩ := hH
            simp only [view, List.foldl, Act.put, List.setIfInBounds_toArray, List.set_cons_zero, List.set_cons_succ]
            rw [show f 6 = _ from h6]
            rw [show f 5 = _ from h5]
            clear h6 h5
            repeat (first | go_guarded | go_step)
            exact hQ _ _ hI (Grow.refl _) rfl rfl
          refine obls2_cons (fun b hb1 hb2 f w' hI hH Q hQ => ?_) ?_
          · skip
            obtain rfl : b = 0 := by omega
            clear hb1 hb2
            obtain ⟨h5, h7, -⟩ := hH
            simp only [view, List.foldl, Act.put, List.setIfInBounds_toArray, List.set_cons_zero, List.set_cons_succ]
            rw [show f 5 = _ from h5]
            rw [show f 7 = _ from h7]
            clear h5 h7
            repeat (first | go_guarded | go_step)
            exact hQ _ _ hI (Grow.refl _) rfl rfl
          refine obls2_cons (fun b hb1 hb2 f w' hI hH Q hQ => ?_) ?_
          · skip
            obtain rfl : b = 0 := by omega
            clear hb1 hb2
            obtain ⟨h8, -⟩ := hH
            simp only [view, List.foldl, Act.put, List.setIfInBounds_toArray, List.set_cons_zero, List.set_cons_succ]
            rw [show f 8 = _ from h8]
            clear h8
            repeat (first | go_guarded | go_step)
            exact hQ _ _ hI (Grow.refl _) rfl rfl
          refine oblsP_cons (fun f w' hI hH Q hQ => ?_) ?_
          · skip
            obtain ⟨h9, -⟩ := hH
            simp only [view, List.foldl, Act.put, List.setIfInBounds_toArray, List.set_cons_zero, List.set_cons_succ]
            rw [show f 9 = _ from h9]
            clear h9
            have hnum := num_any w' _ _ (g + 1) [] 0 (hI.2.1 rfl).2 0
            rw [show rnum [] 0 0 = (0, [], 2) by decide +kernel] at hnum
            have HNUM := Lib.hid hnum
            have HI := Lib.hid hI
            clear hnum hI
            go_wp2_with (go_at_call 28; refine HNUM.out.mono ?_; rintro e w6 ⟨rfl, hr6, hk6⟩)
            exact hQ _ _ ⟨hk6.grow HI.out.1 HE.out, fun h => absurd h (by decide), fun _ => hr6⟩ trivial rfl rfl
          refine obls2_cons (fun b hb1 hb2 f w' hI hH Q hQ => ?_) ?_
          · skip
            obtain rfl : b = 1 := by omega
            clear hb1 hb2
            obtain ⟨h10, h9, -⟩ := hH
            simp only [view, List.foldl, Act.put, List.setIfInBounds_toArray, List.set_cons_zero, List.set_cons_succ]
            rw [show f 10 = _ from h10]
            rw [show f 9 = _ from h9]
            clear h10 h9
            repeat (first | go_guarded | go_step)
            exact hQ _ _ hI (Grow.refl _) rfl rfl
          refine obls2_cons (fun b hb1 hb2 f w' hI hH Q hQ => ?_) ?_
          · skip
            obtain rfl : b = 1 := by omega
            clear hb1 hb2
            obtain ⟨h9, h11, -⟩ := hH
            simp only [view, List.foldl, Act.put, List.setIfInBounds_toArray, List.set_cons_zero, List.set_cons_succ]
            rw [show f 9 = _ from h9]
            rw [show f 11 = _ from h11]
            clear h9 h11
            repeat (first | go_guarded | go_step)
            exact hQ _ _ hI (Grow.refl _) rfl rfl
          refine obls2_cons (fun b hb1 hb2 f w' hI hH Q hQ => ?_) ?_
          · skip
            obtain rfl : b = 1 := by omega
            clear hb1 hb2
            obtain ⟨h12, -⟩ := hH
            simp only [view, List.foldl, Act.put, List.setIfInBounds_toArray, List.set_cons_zero, List.set_cons_succ]
            rw [show f 12 = _ from h12]
            clear h12
            repeat (first | go_guarded | go_step)
            exact hQ _ _ hI (Grow.refl _) rfl rfl
          refine obls2_cons (fun b hb1 hb2 f w' hI hH Q hQ => ?_) ?_
          · skip
            obtain rfl : b = 1 := by omega
            clear hb1 hb2
            obtain ⟨h13, -⟩ := hH
            simp only [view, List.foldl, Act.put, List.setIfInBounds_toArray, List.set_cons_zero, List.set_cons_succ]
            rw [show f 13 = _ from h13]
            clear h13
            have HER := Lib.hid (err_any w' _ _ (g + 1) [] 2 (hI.2.2 rfl))
            go_wp2_with (go_at_call 35; refine HER.out.mono ?_; rintro e w6 ⟨rfl, rfl⟩)
            exact hQ _ _ hI (Grow.refl _) rfl rfl
          refine obls2_cons (fun b hb1 hb2 f w' hI hH Q hQ => ?_) ?_
          · skip
            obtain rfl : b = 1 := by omega
            clear hb1 hb2
            obtain ⟨h14, h13, -⟩ := hH
            simp only [view, List.foldl, Act.put, List.setIfInBounds_toArray, List.set_cons_zero, List.set_cons_succ]
            rw [show f 14 = _ from h14]
            rw [show f 13 = _ from h13]
            clear h14 h13
            repeat (first | go_guarded | go_step)
            exact hQ _ _ hI (Grow.refl _) rfl rfl
          refine obls2_cons (fun b hb1 hb2 f w' hI hH Q hQ => ?_) ?_
          · skip
            obtain rfl : b = 1 := by omega
            clear hb1 hb2
            obtain ⟨h13, h15, -⟩ := hH
            simp only [view, List.foldl, Act.put, List.setIfInBounds_toArray, List.set_cons_zero, List.set_cons_succ]
            rw [show f 13 = _ from h13]
            rw [show f 15 = _ from h15]
            clear h13 h15
            repeat (first | go_guarded | go_step)
            exact hQ _ _ hI (Grow.refl _) rfl rfl
          refine obls2_cons (fun b hb1 hb2 f w' hI hH Q hQ => ?_) ?_
          · skip
            obtain rfl : b = 1 := by omega
            clear hb1 hb2
            obtain ⟨h16, -⟩ := hH
            simp only [view, List.foldl, Act.put, List.setIfInBounds_toArray, List.set_cons_zero, List.set_cons_succ]
            rw [show f 16 = _ from h16]
            clear h16
            repeat (first | go_guarded | go_step)
            exact hQ _ _ hI (Grow.refl _) rfl rfl
          refine obls2_cons (fun b hb1 hb2 f w' hI hH Q hQ => ?_) ?_
          · skip
            obtain rfl : b = 1 := by omega
            clear hb1 hb2
            obtain ⟨h17, -⟩ := hH
            simp only [view, List.foldl, Act.put, List.setIfInBounds_toArray, List.set_cons_zero, List.set_cons_succ]
            rw [show f 17 = _ from h17]
            clear h17
            have HI := Lib.hid hI
            clear hI
            go_wp2_with (go_at_call 21; refine (works_any w').mono ?_; rintro e w6 ⟨rfl, hg6⟩)
            exact hQ _ _ ⟨HI.out.1.trans hg6, fun h => absurd h (by decide), fun _ => (HI.out.2.2 rfl).grow hg6⟩ hg6 rfl rfl
          refine obls2_cons (fun b hb1 hb2 f w' hI hH Q hQ => ?_) ?_
          · skip
            obtain rfl : b = 1 := by omega
            clear hb1 hb2
            obtain ⟨h17, h18, -⟩ := hH
            simp only [view, List.foldl, Act.put, List.setIfInBounds_toArray, List.set_cons_zero, List.set_cons_succ]
            rw [show f 17 = _ from h17]
            rw [show f 18 = _ from h18]
            clear h17 h18
            repeat (first | go_guarded | go_step)
            exact hQ _ _ hI (Grow.refl _) rfl rfl
          refine obls2_cons (fun b hb1 hb2 f w' hI hH Q hQ => ?_) ?_
          · skip
            obtain rfl : b = 1 := by omega
            clear hb1 hb2
            obtain ⟨h19, -⟩ := hH
            simp only [view, List.foldl, Act.put, List.setIfInBounds_toArray, List.set_cons_zero, List.set_cons_succ]
            rw [show f 19 = _ from h19]
            clear h19
            repeat (first | go_guarded | go_step)
            exact hQ _ _ hI (Grow.refl _) rfl rfl
          exact obls2_nil
        case draw =>
          exact ⟨HGT.out.trans (Grow.drew _), fun _ => ⟨Grow.drew _, HR5.out.grow (Grow.drew _)⟩, fun h => absurd h (by decide)⟩
        case mono => exact ⟨Mono2.from IsSl.mono, Mono2.veq _, Mono2.veq _, Mono2.veq _, Mono2.veq _, Mono2.veq _, Mono2.veq _, Mono2.veq _, Mono2.veq _, Mono2.veq _, Mono2.veq _, Mono2.veq _, Mono2.veq _, Mono2.veq _, Mono2.veq _, Mono2.veq _, Mono2.veq _, Mono2.veq _, Mono2.veq _, Mono2.veq _, Mono2.veq _, trivial⟩
        case tail =>
          intro f w' hI hH
          simp only [view, List.zipIdx, List.foldl, Act.put, List.setIfInBounds_toArray, List.set_cons_zero, List.set_cons_succ, List.drop_succ_cons, List.drop_nil]
          obtain ⟨-, -, -, -, -, -, -, -, -, -, -, -, -, -, -, -, -, -, -, -, q20, -⟩ := hH
          rw [show f 20 = _ from q20]
          clear q20
          generalize f 0 = x0
          generalize f 1 = x1
          generalize f 2 = x2
          generalize f 3 = x3
          generalize f 4 = x4
          generalize f 5 = x5
          generalize f 6 = x6
          generalize f 7 = x7
          generalize f 8 = x8
          generalize f 9 = x9
          generalize f 10 = x10
          generalize f 11 = x11
          generalize f 12 = x12
          generalize f 13 = x13
          generalize f 14 = x14
          generalize f 15 = x15
          generalize f 16 = x16
          generalize f 17 = x17
          generalize f 18 = x18
          generalize f 19 = x19
          have HR := Lib.hid hI.1
          clear hI
          go_wp2_with fail
          go_ret
          exact ⟨rfl, HG1.out.trans HR.out⟩
  · have d1 : decide ((300 : Int) < (x.t.length : Int)) = true := decide_eq_true (by omega)
    have d2 : decide (300 < x.t.length) = true := decide_eq_true (by omega)
    have HW0 := Lib.hid (fun W => works_any W)
    go_enter Try.func10, Try.ntmps10
    go_wp2_with fail
    refine (HW0.out _).mono ?_
    rintro e w' ⟨rfl, hg⟩
    go_wp2_with fail
    go_ret
    exact ⟨rfl, (Grow.alloc w _).trans hg⟩
end Go.Proofs.Ytfmaicjgndbffaa.bfL
