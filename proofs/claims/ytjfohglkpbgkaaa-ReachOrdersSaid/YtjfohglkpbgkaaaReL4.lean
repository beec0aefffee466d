/- The walk of ReachOrders. -/
import Derived.Test.YtjfohglkpbgkaaaReL
import Derived.Test.YtjfohglkpbgkaaaCut
namespace Go.Proofs.Ytjfohglkpbgkaaa.reL
open Go Go.RowKit Go.Par Go.Kit Go.Proofs.Ytjfohglkpbgkaaa.Mk Go.Proofs.Ytjfohglkpbgkaaa.mkW Go.Proofs.Ytjfohglkpbgkaaa.Re Go.Proofs.Ytjfohglkpbgkaaa.reW

theorem lead_valid {n : Nat} {xs : List (Int × Int)} {x : Int × Int} (hx : x ∈ xs) : leadI (leadB (vp n xs)) x.1 x.2 = valid n x := by
  obtain ⟨x1, x2⟩ := x
  rw [Bool.eq_iff_iff]
  unfold leadI valid
  simp only [Bool.and_eq_true, decide_eq_true_eq]
  constructor
  · rintro ⟨h1, h2, h3⟩
    have a1 := lead_lt _ _ h3
    have a2 := lead_lt1 _ _ h3
    omega
  · rintro ⟨⟨h1, h2⟩, h3, h4⟩
    refine ⟨h1, h3, leadB_step ?_⟩
    unfold vp
    exact List.mem_map.2 ⟨(x1, x2), List.mem_filter.2 ⟨hx, by unfold valid; simp [h1, h2, h3, h4]⟩, rfl⟩
theorem leadI_nat {R : Nat → Nat → Bool} {i j : Nat} : leadI R (i : Int) (j : Int) = R i j := by simp [leadI]
theorem alikeI_nat {n : Nat} {R : Nat → Nat → Bool} {i j : Nat} (hi : i < n) : alikeI n R (i : Int) (j : Int) = alikeN R i j := by
  unfold alikeI alikeN
  rw [leadI_nat, leadI_nat, decide_eq_true (show (0 : Int) ≤ (i : Int) by omega), decide_eq_true (show (i : Int) < (n : Int) by omega)]
  rw [show ((i : Int) == (j : Int)) = (i == j) by rw [Bool.eq_iff_iff]; simp only [beq_iff_eq]; omega]
  rfl
theorem groupI_nat {n : Nat} {R : Nat → Nat → Bool} {i : Nat} (hi : i < n) : groupI n R (i : Int) = (groupN R i : Int) := by
  unfold groupI
  rw [decide_eq_true (show (0 : Int) ≤ (i : Int) by omega), decide_eq_true (show (i : Int) < (n : Int) by omega)]
  simp
theorem ahead_trans {R : Nat → Nat → Bool} (ht : Tr R) {i j m : Nat} (h1 : aheadI R (i : Int) (j : Int) = true) (h2 : aheadI R (j : Int) (m : Int) = true) : aheadI R (i : Int) (m : Int) = true := by
  unfold aheadI at *
  simp only [leadI_nat, Bool.and_eq_true, Bool.not_eq_true'] at *
  refine ⟨ht _ _ _ h1.1 h2.1, ?_⟩
  cases h : R m i with
  | false => rfl
  | true => rw [ht _ _ _ h h1.1] at h2; exact absurd h2.2 (by simp)
abbrev T3 : TypeId := 65
set_option linter.unusedSimpArgs false in
set_option maxRecDepth 100000 in
set_option maxHeartbeats 8000000 in
theorem orders_walk (n0 : Int) (A : Option Addr) (len c : Nat) (xs : List (Int × Int)) (w : World) (hr : Recs 2 prow w A len xs) (hx : ∀ x ∈ xs, PairOk x)
    (y0 y1 y2 : Int) (p0 : 0 ≤ y0) (r0 : y0 ≤ 255) (p1 : 0 ≤ y1) (r1 : y1 ≤ 255) (p2 : 0 ≤ y2) (r2 : y2 ≤ 255) :
    Calls Try.prog 8 #[.int .i64 n0, .slice A len c, .agg #[.int .u8 y0, .int .u8 y1, .int .u8 y2]] w fun e w' => e = .returned (.bool true) ∧ Grow w w' := by
  obtain ⟨W0, hW0⟩ : ∃ W, W = w.alloc (.cells #[.int .u8 y0, .int .u8 y1, .int .u8 y2] T3) := ⟨_, rfl⟩
  obtain ⟨b0, hb0⟩ : ∃ b, b = w.heap.size := ⟨_, rfl⟩
  have hg0 : Grow w W0 := by rw [hW0]; exact Grow.alloc _ _
  have hbx : Blk W0 b0 T3 [.int .u8 y0, .int .u8 y1, .int .u8 y2] := by rw [hW0]; exact Blk.new w _ _ _ rfl hb0
  have HBX := Lib.hid hbx
  have HG0 := Lib.hid hg0
  have HW0 := Lib.hid hW0
  have HB0 := Lib.hid hb0
  have HWK := Lib.hid (works_any W0)
  by_cases h1 : n0 < 1
  · skip
    have t1 : decide (n0 < 1) = true := decide_eq_true h1
    clear h1 hbx hg0 hb0 hW0 hr hx p0 r0 p1 r1 p2 r2
    go_enter Try.func8, Try.ntmps8
    go_wp2_with fail
    rw [← HW0.out]
    refine HWK.out.mono ?_
    rintro e w1 ⟨rfl, hg1⟩
    go_wp2_with fail
    go_ret
    exact ⟨rfl, HG0.out.trans hg1⟩
  · have t1 : decide (n0 < 1) = false := decide_eq_false h1
    by_cases h20 : 20 < n0
    · skip
      have t2 : decide (20 < n0) = true := decide_eq_true h20
      clear h1 h20 hbx hg0 hb0 hW0 hr hx p0 r0 p1 r1 p2 r2
      go_enter Try.func8, Try.ntmps8
      go_wp2_with fail
      rw [← HW0.out]
      refine HWK.out.mono ?_
      rintro e w1 ⟨rfl, hg1⟩
      go_wp2_with fail
      go_ret
      exact ⟨rfl, HG0.out.trans hg1⟩
    · have t2 : decide (20 < n0) = false := decide_eq_false h20
      by_cases h60 : 60 < len
      · skip
        have t3 : decide (60 < len) = true := decide_eq_true h60
        have t4 : decide ((60 : Int) < (len : Int)) = true := decide_eq_true (by omega)
        clear h1 h20 h60 hbx hg0 hb0 hW0 hr hx p0 r0 p1 r1 p2 r2
        go_enter Try.func8, Try.ntmps8
        go_wp2_with fail
        rw [← HW0.out]
        refine HWK.out.mono ?_
        rintro e w1 ⟨rfl, hg1⟩
        go_wp2_with fail
        go_ret
        exact ⟨rfl, HG0.out.trans hg1⟩
      · have t3 : decide (60 < len) = false := decide_eq_false h60
        have t4 : decide ((60 : Int) < (len : Int)) = false := decide_eq_false (by omega)
        obtain ⟨n, rfl⟩ := Int.eq_ofNat_of_zero_le (show 0 ≤ n0 by omega)
        have t5 : decide (20 < n) = false := decide_eq_false (by omega)
        have t6 : decide (n < 1) = false := decide_eq_false (by omega)
        have hn1 : 1 ≤ n := by omega
        have hn2 : n ≤ 20 := by omega
        have hof := reW.of_any W0 (n : Int) A len c xs (hr.grow hg0) (by omega) hx
        rw [show clampN (n : Int) = n by unfold clampN; omega] at hof
        obtain ⟨R, hR⟩ : ∃ R, R = leadB (vp n xs) := ⟨_, rfl⟩
        rw [← hR] at hof
        have HOF := Lib.hid hof
        have HLT : Hid (∀ i j, R i j = true → j < n) := Lib.hid (by rw [hR]; exact lead_lt)
        have HTR : Hid (Tr R) := Lib.hid (by rw [hR]; exact leadB_tr _)
        have HVA : Hid (∀ x ∈ xs, leadI R x.1 x.2 = valid n x) := Lib.hid (by rw [hR]; exact fun x hx => lead_valid hx)
        have HX := Lib.hid hx
        have HR := Lib.hid (hr.grow hg0)
        have hl60 : len ≤ 60 := by omega
        clear h1 h20 h60 hbx hg0 hb0 hW0 hr hx hof hR HWK
        go_enter Try.func8, Try.ntmps8
        go_wp2_with fail
        rw [← HW0.out]
        refine HOF.out.mono ?_
        rintro e w2 ⟨gr, rfl, hrel, hg2⟩
        have HREL := Lib.hid hrel
        have HG2 := Lib.hid hg2
        have KH : Hid (∀ (w' : World) (i j : Int), Grow w2 w' → i64ok i → Calls Try.prog 41 #[.pointer (some ⟨gr, 0, none⟩), .int .i64 i, .int .i64 j] w' fun e w2 => e = .returned (.bool (leadI R i j)) ∧ w' = w2) := Lib.hid fun w' i j hg hi => hasr_any w' gr n R (HREL.out.grow hg) i j hi.1 hi.2
        clear hrel hg2 HOF
        go_wp2_with fail
        rw [← HB0.out]
        go_loopw [8] (fun i' wr => ∃ (k : Nat), k ≤ len ∧ i' = .int .i64 (k : Int) ∧ Grow w2 wr) (fun i' _ => len - (intOf i').toNat)
        case atStart => exact ⟨0, by omega, rfl, Grow.refl _⟩
        case round =>
          obtain ⟨k, hkl, rfl, hg⟩ := hrel
          have HGk := Lib.hid hg
          by_cases hlt : k < len
          · obtain ⟨b, off, x, rfl, hxk, hcell⟩ := HR.out.at_ (by decide) hlt
            obtain ⟨x1, x2⟩ := x
            have hxm := List.mem_of_getElem? hxk
            have hq := HVA.out _ hxm
            have hpx := HX.out _ hxm
            have HPX := Lib.hid hpx
            have HQ0 := Lib.hid (hcell 0 (.int .i64 x1) rfl)
            have HQ1 := Lib.hid (hcell 1 (.int .i64 x2) rfl)
            have HLTk := Lib.hid hlt
            clear hxk hcell hxm hpx hg
            go_wp2_with fail
            apply (fun (v0 v1 v2 v3 v4 v5 v6 v7 v8 v9 v10 v11 : Value) mono obl tail => wp_region_par (R := Grow) (Φ := phi [veq v0, veq v1, veq v2, veq v3, veq v4, veq v5, veq v6, veq v7, veq v8, veq v9, veq v10, veq v11]) (m := 12) (dls := [[], [], [(35, 0), (36, 1)], [(37, 2)], [(38, 3)], [], [], [(40, 5), (41, 6)], [(42, 7)], [(43, 8)], [(39, 4)], [(44, 9)]]) (ds := [35, 36, 37, 38, 39, 40, 41, 42, 43, 44, 9, 10]) (by kernel_rfl) (by kernel_rfl) (by decide) rfl (Grow.drew _) (fun _ _ _ => Grow.trans) (mono_phi mono) obl tail)
            case obl =>
              refine obls_cons (fun f w' hR hH Q hQ => ?_) ?_
              · skip
                clear hH
                refine wpList_view ?_; show wpList _ _ _ [_] ⟨#[_, _, _, _, _, _, _, _, _, _, _, _, _, _, _, _, _, _, _, _, _, _, _, _, _, _, _, _, _, _, _, _, _, _, _, _, _, _, _, _, _, _, _, _, _, _, _, _, _, _, _, _, _, _, _, _, _, _, _, _, _, _, _, _, _, _, _, _, _, _, _, _, _, _, _, _, _, _, _, _, _, _, _, _, _, _, _, _, _, _, _, _, _, _, _, _, _, _, _, _, _, _, _, _, _, _, _, _, _, _, _, _, _, _, _, _, _, _, _, _, _, _, _, _, _, _, _, _, _, _, _, _, _, _, _, _, _, _, _, _, _, _, _, _, _, _, _, _, _, _, _, _, _, _, _, _, _, _, _, _], _⟩ _
                repeat (first | go_guarded | go_step)
                exact hQ _ _ (Grow.refl _) rfl rfl
              refine obls_cons (fun f w' hR hH Q hQ => ?_) ?_
              · skip
                clear hH
                refine wpList_view ?_; show wpList _ _ _ [_] ⟨#[_, _, _, _, _, _, _, _, _, _, _, _, _, _, _, _, _, _, _, _, _, _, _, _, _, _, _, _, _, _, _, _, _, _, _, _, _, _, _, _, _, _, _, _, _, _, _, _, _, _, _, _, _, _, _, _, _, _, _, _, _, _, _, _, _, _, _, _, _, _, _, _, _, _, _, _, _, _, _, _, _, _, _, _, _, _, _, _, _, _, _, _, _, _, _, _, _, _, _, _, _, _, _, _, _, _, _, _, _, _, _, _, _, _, _, _, _, _, _, _, _, _, _, _, _, _, _, _, _, _, _, _, _, _, _, _, _, _, _, _, _, _, _, _, _, _, _, _, _, _, _, _, _, _, _, _, _, _, _, _], _⟩ _
                repeat (first | go_guarded | go_step)
                exact hQ _ _ (Grow.refl _) rfl rfl
              refine obls_cons (fun f w' hR hH Q hQ => ?_) ?_
              · skip
                have h0 := hH.get 0 (35, 0) rfl
                have h1 := hH.get 1 (36, 1) rfl
                clear hH
                refine wpList_view ?_; show wpList _ _ _ [_] ⟨#[_, _, _, _, _, _, _, _, _, _, _, _, _, _, _, _, _, _, _, _, _, _, _, _, _, _, _, _, _, _, _, _, _, _, _, f 0, f 1, _, _, _, _, _, _, _, _, _, _, _, _, _, _, _, _, _, _, _, _, _, _, _, _, _, _, _, _, _, _, _, _, _, _, _, _, _, _, _, _, _, _, _, _, _, _, _, _, _, _, _, _, _, _, _, _, _, _, _, _, _, _, _, _, _, _, _, _, _, _, _, _, _, _, _, _, _, _, _, _, _, _, _, _, _, _, _, _, _, _, _, _, _, _, _, _, _, _, _, _, _, _, _, _, _, _, _, _, _, _, _, _, _, _, _, _, _, _, _, _, _, _, _], _⟩ _
                rw [show f 0 = _ from h0]
                rw [show f 1 = _ from h1]
                clear h0 h1
                repeat (first | go_guarded | go_step)
                exact hQ _ _ (Grow.refl _) rfl rfl
              refine obls_cons (fun f w' hR hH Q hQ => ?_) ?_
              · skip
                have h2 := hH.get 0 (37, 2) rfl
                clear hH
                refine wpList_view ?_; show wpList _ _ _ [_] ⟨#[_, _, _, _, _, _, _, _, _, _, _, _, _, _, _, _, _, _, _, _, _, _, _, _, _, _, _, _, _, _, _, _, _, _, _, _, _, f 2, _, _, _, _, _, _, _, _, _, _, _, _, _, _, _, _, _, _, _, _, _, _, _, _, _, _, _, _, _, _, _, _, _, _, _, _, _, _, _, _, _, _, _, _, _, _, _, _, _, _, _, _, _, _, _, _, _, _, _, _, _, _, _, _, _, _, _, _, _, _, _, _, _, _, _, _, _, _, _, _, _, _, _, _, _, _, _, _, _, _, _, _, _, _, _, _, _, _, _, _, _, _, _, _, _, _, _, _, _, _, _, _, _, _, _, _, _, _, _, _, _, _], _⟩ _
                rw [show f 2 = _ from h2]
                clear h2
                repeat (first | go_guarded | go_step)
                exact hQ _ _ (Grow.refl _) rfl rfl
              refine obls_cons (fun f w' hR hH Q hQ => ?_) ?_
              · skip
                have h3 := hH.get 0 (38, 3) rfl
                clear hH
                refine wpList_view ?_; show wpList _ _ _ [_] ⟨#[_, _, _, _, _, _, _, _, _, _, _, _, _, _, _, _, _, _, _, _, _, _, _, _, _, _, _, _, _, _, _, _, _, _, _, _, _, _, f 3, _, _, _, _, _, _, _, _, _, _, _, _, _, _, _, _, _, _, _, _, _, _, _, _, _, _, _, _, _, _, _, _, _, _, _, _, _, _, _, _, _, _, _, _, _, _, _, _, _, _, _, _, _, _, _, _, _, _, _, _, _, _, _, _, _, _, _, _, _, _, _, _, _, _, _, _, _, _, _, _, _, _, _, _, _, _, _, _, _, _, _, _, _, _, _, _, _, _, _, _, _, _, _, _, _, _, _, _, _, _, _, _, _, _, _, _, _, _, _, _, _], _⟩ _
                rw [show f 3 = _ from h3]
                clear h3
                have y3 := (HG2.out.trans (HGk.out.trans hR)).cell HQ0.out
                rw [Nat.add_zero] at y3
                repeat (first | go_guarded | go_step)
                exact hQ _ _ (Grow.refl _) rfl rfl
              refine obls_cons (fun f w' hR hH Q hQ => ?_) ?_
              · skip
                clear hH
                refine wpList_view ?_; show wpList _ _ _ [_] ⟨#[_, _, _, _, _, _, _, _, _, _, _, _, _, _, _, _, _, _, _, _, _, _, _, _, _, _, _, _, _, _, _, _, _, _, _, _, _, _, _, _, _, _, _, _, _, _, _, _, _, _, _, _, _, _, _, _, _, _, _, _, _, _, _, _, _, _, _, _, _, _, _, _, _, _, _, _, _, _, _, _, _, _, _, _, _, _, _, _, _, _, _, _, _, _, _, _, _, _, _, _, _, _, _, _, _, _, _, _, _, _, _, _, _, _, _, _, _, _, _, _, _, _, _, _, _, _, _, _, _, _, _, _, _, _, _, _, _, _, _, _, _, _, _, _, _, _, _, _, _, _, _, _, _, _, _, _, _, _, _, _], _⟩ _
                repeat (first | go_guarded | go_step)
                exact hQ _ _ (Grow.refl _) rfl rfl
              refine obls_cons (fun f w' hR hH Q hQ => ?_) ?_
              · skip
                clear hH
                refine wpList_view ?_; show wpList _ _ _ [_] ⟨#[_, _, _, _, _, _, _, _, _, _, _, _, _, _, _, _, _, _, _, _, _, _, _, _, _, _, _, _, _, _, _, _, _, _, _, _, _, _, _, _, _, _, _, _, _, _, _, _, _, _, _, _, _, _, _, _, _, _, _, _, _, _, _, _, _, _, _, _, _, _, _, _, _, _, _, _, _, _, _, _, _, _, _, _, _, _, _, _, _, _, _, _, _, _, _, _, _, _, _, _, _, _, _, _, _, _, _, _, _, _, _, _, _, _, _, _, _, _, _, _, _, _, _, _, _, _, _, _, _, _, _, _, _, _, _, _, _, _, _, _, _, _, _, _, _, _, _, _, _, _, _, _, _, _, _, _, _, _, _, _], _⟩ _
                repeat (first | go_guarded | go_step)
                exact hQ _ _ (Grow.refl _) rfl rfl
              refine obls_cons (fun f w' hR hH Q hQ => ?_) ?_
              · skip
                have h5 := hH.get 0 (40, 5) rfl
                have h6 := hH.get 1 (41, 6) rfl
                clear hH
                refine wpList_view ?_; show wpList _ _ _ [_] ⟨#[_, _, _, _, _, _, _, _, _, _, _, _, _, _, _, _, _, _, _, _, _, _, _, _, _, _, _, _, _, _, _, _, _, _, _, _, _, _, _, _, f 5, f 6, _, _, _, _, _, _, _, _, _, _, _, _, _, _, _, _, _, _, _, _, _, _, _, _, _, _, _, _, _, _, _, _, _, _, _, _, _, _, _, _, _, _, _, _, _, _, _, _, _, _, _, _, _, _, _, _, _, _, _, _, _, _, _, _, _, _, _, _, _, _, _, _, _, _, _, _, _, _, _, _, _, _, _, _, _, _, _, _, _, _, _, _, _, _, _, _, _, _, _, _, _, _, _, _, _, _, _, _, _, _, _, _, _, _, _, _, _, _], _⟩ _
                rw [show f 5 = _ from h5]
                rw [show f 6 = _ from h6]
                clear h5 h6
                repeat (first | go_guarded | go_step)
                exact hQ _ _ (Grow.refl _) rfl rfl
              refine obls_cons (fun f w' hR hH Q hQ => ?_) ?_
              · skip
                have h7 := hH.get 0 (42, 7) rfl
                clear hH
                refine wpList_view ?_; show wpList _ _ _ [_] ⟨#[_, _, _, _, _, _, _, _, _, _, _, _, _, _, _, _, _, _, _, _, _, _, _, _, _, _, _, _, _, _, _, _, _, _, _, _, _, _, _, _, _, _, f 7, _, _, _, _, _, _, _, _, _, _, _, _, _, _, _, _, _, _, _, _, _, _, _, _, _, _, _, _, _, _, _, _, _, _, _, _, _, _, _, _, _, _, _, _, _, _, _, _, _, _, _, _, _, _, _, _, _, _, _, _, _, _, _, _, _, _, _, _, _, _, _, _, _, _, _, _, _, _, _, _, _, _, _, _, _, _, _, _, _, _, _, _, _, _, _, _, _, _, _, _, _, _, _, _, _, _, _, _, _, _, _, _, _, _, _, _, _], _⟩ _
                rw [show f 7 = _ from h7]
                clear h7
                repeat (first | go_guarded | go_step)
                exact hQ _ _ (Grow.refl _) rfl rfl
              refine obls_cons (fun f w' hR hH Q hQ => ?_) ?_
              · skip
                have h8 := hH.get 0 (43, 8) rfl
                clear hH
                refine wpList_view ?_; show wpList _ _ _ [_] ⟨#[_, _, _, _, _, _, _, _, _, _, _, _, _, _, _, _, _, _, _, _, _, _, _, _, _, _, _, _, _, _, _, _, _, _, _, _, _, _, _, _, _, _, _, f 8, _, _, _, _, _, _, _, _, _, _, _, _, _, _, _, _, _, _, _, _, _, _, _, _, _, _, _, _, _, _, _, _, _, _, _, _, _, _, _, _, _, _, _, _, _, _, _, _, _, _, _, _, _, _, _, _, _, _, _, _, _, _, _, _, _, _, _, _, _, _, _, _, _, _, _, _, _, _, _, _, _, _, _, _, _, _, _, _, _, _, _, _, _, _, _, _, _, _, _, _, _, _, _, _, _, _, _, _, _, _, _, _, _, _, _, _], _⟩ _
                rw [show f 8 = _ from h8]
                clear h8
                have y4 := (HG2.out.trans (HGk.out.trans hR)).cell HQ1.out
                repeat (first | go_guarded | go_step)
                exact hQ _ _ (Grow.refl _) rfl rfl
              refine obls_cons (fun f w' hR hH Q hQ => ?_) ?_
              · skip
                have h4 := hH.get 0 (39, 4) rfl
                clear hH
                refine wpList_view ?_; show wpList _ _ _ [_] ⟨#[_, _, _, _, _, _, _, _, _, _, _, _, _, _, _, _, _, _, _, _, _, _, _, _, _, _, _, _, _, _, _, _, _, _, _, _, _, _, _, f 4, _, _, _, _, _, _, _, _, _, _, _, _, _, _, _, _, _, _, _, _, _, _, _, _, _, _, _, _, _, _, _, _, _, _, _, _, _, _, _, _, _, _, _, _, _, _, _, _, _, _, _, _, _, _, _, _, _, _, _, _, _, _, _, _, _, _, _, _, _, _, _, _, _, _, _, _, _, _, _, _, _, _, _, _, _, _, _, _, _, _, _, _, _, _, _, _, _, _, _, _, _, _, _, _, _, _, _, _, _, _, _, _, _, _, _, _, _, _, _, _], _⟩ _
                rw [show f 4 = _ from h4]
                clear h4
                repeat (first | go_guarded | go_step)
                exact hQ _ _ (Grow.refl _) rfl rfl
              refine obls_cons (fun f w' hR hH Q hQ => ?_) ?_
              · skip
                have h9 := hH.get 0 (44, 9) rfl
                clear hH
                refine wpList_view ?_; show wpList _ _ _ [_] ⟨#[_, _, _, _, _, _, _, _, _, _, _, _, _, _, _, _, _, _, _, _, _, _, _, _, _, _, _, _, _, _, _, _, _, _, _, _, _, _, _, _, _, _, _, _, f 9, _, _, _, _, _, _, _, _, _, _, _, _, _, _, _, _, _, _, _, _, _, _, _, _, _, _, _, _, _, _, _, _, _, _, _, _, _, _, _, _, _, _, _, _, _, _, _, _, _, _, _, _, _, _, _, _, _, _, _, _, _, _, _, _, _, _, _, _, _, _, _, _, _, _, _, _, _, _, _, _, _, _, _, _, _, _, _, _, _, _, _, _, _, _, _, _, _, _, _, _, _, _, _, _, _, _, _, _, _, _, _, _, _, _, _], _⟩ _
                rw [show f 9 = _ from h9]
                clear h9
                repeat (first | go_guarded | go_step)
                exact hQ _ _ (Grow.refl _) rfl rfl
              exact obls_nil
            case mono => exact ⟨Mono.veq _, Mono.veq _, Mono.veq _, Mono.veq _, Mono.veq _, Mono.veq _, Mono.veq _, Mono.veq _, Mono.veq _, Mono.veq _, Mono.veq _, Mono.veq _, trivial⟩
            case tail =>
              intro f w' hR hH
              have q10 := hH.get 10 (9, 10) rfl
              have q11 := hH.get 11 (10, 11) rfl
              clear hH
              refine wpList_merge (idx := [none, none, none, none, none, none, none, none, none, some 10, some 11, none, none, none, none, none, none, none, none, none, none, none, none, none, none, none, none, none, none, none, none, none, none, none, none, some 0, some 1, some 2, some 3, some 4, some 5, some 6, some 7, some 8, some 9, none, none, none, none, none, none, none, none, none, none, none, none, none, none, none, none, none, none, none, none, none, none, none, none, none, none, none, none, none, none, none, none, none, none, none, none, none, none, none, none, none, none, none, none, none, none, none, none, none, none, none, none, none, none, none, none, none, none, none, none, none, none, none, none, none, none, none, none, none, none, none, none, none, none, none, none, none, none, none, none, none, none, none, none, none, none, none, none, none, none, none, none, none, none, none, none, none, none, none, none, none, none, none, none, none, none, none, none, none, none, none, none, none, none, none]) (by kernel_rfl) ?_; show wpList _ _ _ [] ⟨#[_, _, _, _, _, _, _, _, _, f 10, f 11, _, _, _, _, _, _, _, _, _, _, _, _, _, _, _, _, _, _, _, _, _, _, _, _, f 0, f 1, f 2, f 3, f 4, f 5, f 6, f 7, f 8, f 9, _, _, _, _, _, _, _, _, _, _, _, _, _, _, _, _, _, _, _, _, _, _, _, _, _, _, _, _, _, _, _, _, _, _, _, _, _, _, _, _, _, _, _, _, _, _, _, _, _, _, _, _, _, _, _, _, _, _, _, _, _, _, _, _, _, _, _, _, _, _, _, _, _, _, _, _, _, _, _, _, _, _, _, _, _, _, _, _, _, _, _, _, _, _, _, _, _, _, _, _, _, _, _, _, _, _, _, _, _, _, _, _, _, _, _], _⟩ _
              rw [show f 10 = _ from q10]
              rw [show f 11 = _ from q11]
              clear q10 q11
              obtain ⟨w5, hw5⟩ : ∃ w5, w5 = w' := ⟨_, rfl⟩
              have HG5 : Hid (Grow w2 w5) := Lib.hid (by rw [hw5]; exact HGk.out.trans hR)
              rw [← hw5]
              have hcall := KH.out w5 x1 x2 HG5.out HPX.out.1
              rw [show leadI R x1 x2 = _ from hq] at hcall
              unfold valid at hcall
              obtain ⟨c1, hc1⟩ : ∃ f, f = decide (0 ≤ x1) := ⟨_, rfl⟩
              obtain ⟨c2, hc2⟩ : ∃ f, f = decide (x1 < (n : Int)) := ⟨_, rfl⟩
              obtain ⟨c3, hc3⟩ : ∃ f, f = decide (0 ≤ x2) := ⟨_, rfl⟩
              obtain ⟨c4, hc4⟩ : ∃ f, f = decide (x2 < (n : Int)) := ⟨_, rfl⟩
              simp only [← hc1, ← hc2, ← hc3, ← hc4] at hcall
              have u1 := hc1.symm
              have u2 := hc2.symm
              have u3 := hc3.symm
              have u4 := hc4.symm
              clear hc1 hc2 hc3 hc4 hq hw5 hR
              cases c1
              · skip
                have HCALL := Lib.hid hcall
                simp only [Bool.and_true, Bool.and_false, Bool.true_and, Bool.false_and] at HCALL
                clear hcall
                go_wp2_with fail
                refine HCALL.out.mono ?_
                rintro e w' ⟨rfl, rfl⟩
                go_wp2_with fail
                go_roundw
                case rel => exact ⟨k + 1, by have := HLTk.out; omega, by go_num, HG5.out⟩
                case measure => have := HLTk.out; simp [intOf] <;> omega
              · skip
                cases c2
                · skip
                  have HCALL := Lib.hid hcall
                  simp only [Bool.and_true, Bool.and_false, Bool.true_and, Bool.false_and] at HCALL
                  clear hcall
                  go_wp2_with fail
                  refine HCALL.out.mono ?_
                  rintro e w' ⟨rfl, rfl⟩
                  go_wp2_with fail
                  go_roundw
                  case rel => exact ⟨k + 1, by have := HLTk.out; omega, by go_num, HG5.out⟩
                  case measure => have := HLTk.out; simp [intOf] <;> omega
                · skip
                  cases c3
                  · skip
                    have HCALL := Lib.hid hcall
                    simp only [Bool.and_true, Bool.and_false, Bool.true_and, Bool.false_and] at HCALL
                    clear hcall
                    go_wp2_with fail
                    refine HCALL.out.mono ?_
                    rintro e w' ⟨rfl, rfl⟩
                    go_wp2_with fail
                    go_roundw
                    case rel => exact ⟨k + 1, by have := HLTk.out; omega, by go_num, HG5.out⟩
                    case measure => have := HLTk.out; simp [intOf] <;> omega
                  · skip
                    cases c4
                    · skip
                      have HCALL := Lib.hid hcall
                      simp only [Bool.and_true, Bool.and_false, Bool.true_and, Bool.false_and] at HCALL
                      clear hcall
                      go_wp2_with fail
                      refine HCALL.out.mono ?_
                      rintro e w' ⟨rfl, rfl⟩
                      go_wp2_with fail
                      go_roundw
                      case rel => exact ⟨k + 1, by have := HLTk.out; omega, by go_num, HG5.out⟩
                      case measure => have := HLTk.out; simp [intOf] <;> omega
                    · skip
                      have HCALL := Lib.hid hcall
                      simp only [Bool.and_true, Bool.and_false, Bool.true_and, Bool.false_and] at HCALL
                      clear hcall
                      go_wp2_with fail
                      refine HCALL.out.mono ?_
                      rintro e w' ⟨rfl, rfl⟩
                      go_wp2_with fail
                      go_roundw
                      case rel => exact ⟨k + 1, by have := HLTk.out; omega, by go_num, HG5.out⟩
                      case measure => have := HLTk.out; simp [intOf] <;> omega
          · obtain ⟨i, hi, hin⟩ : ∃ i : Nat, y0 % (n : Int) = i ∧ i < n := ⟨(y0 % (n : Int)).toNat, by have := Int.emod_nonneg y0 (show (n : Int) ≠ 0 by omega); omega, by have := Int.emod_nonneg y0 (show (n : Int) ≠ 0 by omega); have := Int.emod_lt_of_pos y0 (show 0 < (n : Int) by omega); omega⟩
            obtain ⟨j, hj, hjn⟩ : ∃ i : Nat, y1 % (n : Int) = i ∧ i < n := ⟨(y1 % (n : Int)).toNat, by have := Int.emod_nonneg y1 (show (n : Int) ≠ 0 by omega); omega, by have := Int.emod_nonneg y1 (show (n : Int) ≠ 0 by omega); have := Int.emod_lt_of_pos y1 (show 0 < (n : Int) by omega); omega⟩
            obtain ⟨m, hm, hmn⟩ : ∃ i : Nat, y2 % (n : Int) = i ∧ i < n := ⟨(y2 % (n : Int)).toNat, by have := Int.emod_nonneg y2 (show (n : Int) ≠ 0 by omega); omega, by have := Int.emod_nonneg y2 (show (n : Int) ≠ 0 by omega); have := Int.emod_lt_of_pos y2 (show 0 < (n : Int) by omega); omega⟩
            have HI := Lib.hid hi
            have HJ := Lib.hid hj
            have HM := Lib.hid hm
            have HIN := Lib.hid (And.intro hin (And.intro hjn hmn))
            clear hg hi hj hm
            go_wp2_with fail
            apply (fun (v0 v1 v2 v3 v4 v5 v6 v7 v8 v9 v10 v11 v12 v13 v14 v15 v16 v17 : Value) mono obl tail => wp_region_par (R := Grow) (Φ := phi [veq v0, veq v1, veq v2, veq v3, veq v4, veq v5, veq v6, veq v7, veq v8, veq v9, veq v10, veq v11, veq v12, veq v13, veq v14, veq v15, veq v16, veq v17]) (m := 18) (dls := [[], [(66, 0)], [(67, 1)], [], [(68, 2), (69, 3)], [], [(71, 5)], [(72, 6)], [], [(73, 7), (74, 8)], [], [(76, 10)], [(77, 11)], [], [(78, 12), (79, 13)], [(70, 4)], [(75, 9)], [(80, 14)]]) (ds := [66, 67, 68, 69, 70, 71, 72, 73, 74, 75, 76, 77, 78, 79, 80, 11, 12, 13]) (by kernel_rfl) (by kernel_rfl) (by decide) rfl (Grow.drew _) (fun _ _ _ => Grow.trans) (mono_phi mono) obl tail)
            case obl =>
              refine obls_cons (fun f w' hR hH Q hQ => ?_) ?_
              · skip
                clear hH
                refine wpList_view ?_; show wpList _ _ _ [_] ⟨#[_, _, _, _, _, _, _, _, _, _, _, _, _, _, _, _, _, _, _, _, _, _, _, _, _, _, _, _, _, _, _, _, _, _, _, _, _, _, _, _, _, _, _, _, _, _, _, _, _, _, _, _, _, _, _, _, _, _, _, _, _, _, _, _, _, _, _, _, _, _, _, _, _, _, _, _, _, _, _, _, _, _, _, _, _, _, _, _, _, _, _, _, _, _, _, _, _, _, _, _, _, _, _, _, _, _, _, _, _, _, _, _, _, _, _, _, _, _, _, _, _, _, _, _, _, _, _, _, _, _, _, _, _, _, _, _, _, _, _, _, _, _, _, _, _, _, _, _, _, _, _, _, _, _, _, _, _, _, _, _], _⟩ _
                repeat (first | go_guarded | go_step)
                exact hQ _ _ (Grow.refl _) rfl rfl
              refine obls_cons (fun f w' hR hH Q hQ => ?_) ?_
              · skip
                have h0 := hH.get 0 (66, 0) rfl
                clear hH
                refine wpList_view ?_; show wpList _ _ _ [_] ⟨#[_, _, _, _, _, _, _, _, _, _, _, _, _, _, _, _, _, _, _, _, _, _, _, _, _, _, _, _, _, _, _, _, _, _, _, _, _, _, _, _, _, _, _, _, _, _, _, _, _, _, _, _, _, _, _, _, _, _, _, _, _, _, _, _, _, _, f 0, _, _, _, _, _, _, _, _, _, _, _, _, _, _, _, _, _, _, _, _, _, _, _, _, _, _, _, _, _, _, _, _, _, _, _, _, _, _, _, _, _, _, _, _, _, _, _, _, _, _, _, _, _, _, _, _, _, _, _, _, _, _, _, _, _, _, _, _, _, _, _, _, _, _, _, _, _, _, _, _, _, _, _, _, _, _, _, _, _, _, _, _, _], _⟩ _
                rw [show f 0 = _ from h0]
                clear h0
                have y3 := (HBX.out.grow (HG2.out.trans (HGk.out.trans hR))).cell (i := 0) rfl
                repeat (first | go_guarded | go_step)
                exact hQ _ _ (Grow.refl _) rfl rfl
              refine obls_cons (fun f w' hR hH Q hQ => ?_) ?_
              · skip
                have h1 := hH.get 0 (67, 1) rfl
                clear hH
                refine wpList_view ?_; show wpList _ _ _ [_] ⟨#[_, _, _, _, _, _, _, _, _, _, _, _, _, _, _, _, _, _, _, _, _, _, _, _, _, _, _, _, _, _, _, _, _, _, _, _, _, _, _, _, _, _, _, _, _, _, _, _, _, _, _, _, _, _, _, _, _, _, _, _, _, _, _, _, _, _, _, f 1, _, _, _, _, _, _, _, _, _, _, _, _, _, _, _, _, _, _, _, _, _, _, _, _, _, _, _, _, _, _, _, _, _, _, _, _, _, _, _, _, _, _, _, _, _, _, _, _, _, _, _, _, _, _, _, _, _, _, _, _, _, _, _, _, _, _, _, _, _, _, _, _, _, _, _, _, _, _, _, _, _, _, _, _, _, _, _, _, _, _, _, _], _⟩ _
                rw [show f 1 = _ from h1]
                clear h1
                repeat (first | go_guarded | go_step)
                exact hQ _ _ (Grow.refl _) rfl rfl
              refine obls_cons (fun f w' hR hH Q hQ => ?_) ?_
              · skip
                clear hH
                refine wpList_view ?_; show wpList _ _ _ [_] ⟨#[_, _, _, _, _, _, _, _, _, _, _, _, _, _, _, _, _, _, _, _, _, _, _, _, _, _, _, _, _, _, _, _, _, _, _, _, _, _, _, _, _, _, _, _, _, _, _, _, _, _, _, _, _, _, _, _, _, _, _, _, _, _, _, _, _, _, _, _, _, _, _, _, _, _, _, _, _, _, _, _, _, _, _, _, _, _, _, _, _, _, _, _, _, _, _, _, _, _, _, _, _, _, _, _, _, _, _, _, _, _, _, _, _, _, _, _, _, _, _, _, _, _, _, _, _, _, _, _, _, _, _, _, _, _, _, _, _, _, _, _, _, _, _, _, _, _, _, _, _, _, _, _, _, _, _, _, _, _, _, _], _⟩ _
                repeat (first | go_guarded | go_step)
                exact hQ _ _ (Grow.refl _) rfl rfl
              refine obls_cons (fun f w' hR hH Q hQ => ?_) ?_
              · skip
                have h2 := hH.get 0 (68, 2) rfl
                have h3 := hH.get 1 (69, 3) rfl
                clear hH
                refine wpList_view ?_; show wpList _ _ _ [_] ⟨#[_, _, _, _, _, _, _, _, _, _, _, _, _, _, _, _, _, _, _, _, _, _, _, _, _, _, _, _, _, _, _, _, _, _, _, _, _, _, _, _, _, _, _, _, _, _, _, _, _, _, _, _, _, _, _, _, _, _, _, _, _, _, _, _, _, _, _, _, f 2, f 3, _, _, _, _, _, _, _, _, _, _, _, _, _, _, _, _, _, _, _, _, _, _, _, _, _, _, _, _, _, _, _, _, _, _, _, _, _, _, _, _, _, _, _, _, _, _, _, _, _, _, _, _, _, _, _, _, _, _, _, _, _, _, _, _, _, _, _, _, _, _, _, _, _, _, _, _, _, _, _, _, _, _, _, _, _, _, _, _, _, _], _⟩ _
                rw [show f 2 = _ from h2]
                rw [show f 3 = _ from h3]
                clear h2 h3
                repeat (first | go_guarded | go_step)
                exact hQ _ _ (Grow.refl _) rfl rfl
              refine obls_cons (fun f w' hR hH Q hQ => ?_) ?_
              · skip
                clear hH
                refine wpList_view ?_; show wpList _ _ _ [_] ⟨#[_, _, _, _, _, _, _, _, _, _, _, _, _, _, _, _, _, _, _, _, _, _, _, _, _, _, _, _, _, _, _, _, _, _, _, _, _, _, _, _, _, _, _, _, _, _, _, _, _, _, _, _, _, _, _, _, _, _, _, _, _, _, _, _, _, _, _, _, _, _, _, _, _, _, _, _, _, _, _, _, _, _, _, _, _, _, _, _, _, _, _, _, _, _, _, _, _, _, _, _, _, _, _, _, _, _, _, _, _, _, _, _, _, _, _, _, _, _, _, _, _, _, _, _, _, _, _, _, _, _, _, _, _, _, _, _, _, _, _, _, _, _, _, _, _, _, _, _, _, _, _, _, _, _, _, _, _, _, _, _], _⟩ _
                repeat (first | go_guarded | go_step)
                exact hQ _ _ (Grow.refl _) rfl rfl
              refine obls_cons (fun f w' hR hH Q hQ => ?_) ?_
              · skip
                have h5 := hH.get 0 (71, 5) rfl
                clear hH
                refine wpList_view ?_; show wpList _ _ _ [_] ⟨#[_, _, _, _, _, _, _, _, _, _, _, _, _, _, _, _, _, _, _, _, _, _, _, _, _, _, _, _, _, _, _, _, _, _, _, _, _, _, _, _, _, _, _, _, _, _, _, _, _, _, _, _, _, _, _, _, _, _, _, _, _, _, _, _, _, _, _, _, _, _, _, f 5, _, _, _, _, _, _, _, _, _, _, _, _, _, _, _, _, _, _, _, _, _, _, _, _, _, _, _, _, _, _, _, _, _, _, _, _, _, _, _, _, _, _, _, _, _, _, _, _, _, _, _, _, _, _, _, _, _, _, _, _, _, _, _, _, _, _, _, _, _, _, _, _, _, _, _, _, _, _, _, _, _, _, _, _, _, _, _, _], _⟩ _
                rw [show f 5 = _ from h5]
                clear h5
                have y3 := (HBX.out.grow (HG2.out.trans (HGk.out.trans hR))).cell (i := 1) rfl
                repeat (first | go_guarded | go_step)
                exact hQ _ _ (Grow.refl _) rfl rfl
              refine obls_cons (fun f w' hR hH Q hQ => ?_) ?_
              · skip
                have h6 := hH.get 0 (72, 6) rfl
                clear hH
                refine wpList_view ?_; show wpList _ _ _ [_] ⟨#[_, _, _, _, _, _, _, _, _, _, _, _, _, _, _, _, _, _, _, _, _, _, _, _, _, _, _, _, _, _, _, _, _, _, _, _, _, _, _, _, _, _, _, _, _, _, _, _, _, _, _, _, _, _, _, _, _, _, _, _, _, _, _, _, _, _, _, _, _, _, _, _, f 6, _, _, _, _, _, _, _, _, _, _, _, _, _, _, _, _, _, _, _, _, _, _, _, _, _, _, _, _, _, _, _, _, _, _, _, _, _, _, _, _, _, _, _, _, _, _, _, _, _, _, _, _, _, _, _, _, _, _, _, _, _, _, _, _, _, _, _, _, _, _, _, _, _, _, _, _, _, _, _, _, _, _, _, _, _, _, _], _⟩ _
                rw [show f 6 = _ from h6]
                clear h6
                repeat (first | go_guarded | go_step)
                exact hQ _ _ (Grow.refl _) rfl rfl
              refine obls_cons (fun f w' hR hH Q hQ => ?_) ?_
              · skip
                clear hH
                refine wpList_view ?_; show wpList _ _ _ [_] ⟨#[_, _, _, _, _, _, _, _, _, _, _, _, _, _, _, _, _, _, _, _, _, _, _, _, _, _, _, _, _, _, _, _, _, _, _, _, _, _, _, _, _, _, _, _, _, _, _, _, _, _, _, _, _, _, _, _, _, _, _, _, _, _, _, _, _, _, _, _, _, _, _, _, _, _, _, _, _, _, _, _, _, _, _, _, _, _, _, _, _, _, _, _, _, _, _, _, _, _, _, _, _, _, _, _, _, _, _, _, _, _, _, _, _, _, _, _, _, _, _, _, _, _, _, _, _, _, _, _, _, _, _, _, _, _, _, _, _, _, _, _, _, _, _, _, _, _, _, _, _, _, _, _, _, _, _, _, _, _, _, _], _⟩ _
                repeat (first | go_guarded | go_step)
                exact hQ _ _ (Grow.refl _) rfl rfl
              refine obls_cons (fun f w' hR hH Q hQ => ?_) ?_
              · skip
                have h7 := hH.get 0 (73, 7) rfl
                have h8 := hH.get 1 (74, 8) rfl
                clear hH
                refine wpList_view ?_; show wpList _ _ _ [_] ⟨#[_, _, _, _, _, _, _, _, _, _, _, _, _, _, _, _, _, _, _, _, _, _, _, _, _, _, _, _, _, _, _, _, _, _, _, _, _, _, _, _, _, _, _, _, _, _, _, _, _, _, _, _, _, _, _, _, _, _, _, _, _, _, _, _, _, _, _, _, _, _, _, _, _, f 7, f 8, _, _, _, _, _, _, _, _, _, _, _, _, _, _, _, _, _, _, _, _, _, _, _, _, _, _, _, _, _, _, _, _, _, _, _, _, _, _, _, _, _, _, _, _, _, _, _, _, _, _, _, _, _, _, _, _, _, _, _, _, _, _, _, _, _, _, _, _, _, _, _, _, _, _, _, _, _, _, _, _, _, _, _, _, _], _⟩ _
                rw [show f 7 = _ from h7]
                rw [show f 8 = _ from h8]
                clear h7 h8
                repeat (first | go_guarded | go_step)
                exact hQ _ _ (Grow.refl _) rfl rfl
              refine obls_cons (fun f w' hR hH Q hQ => ?_) ?_
              · skip
                clear hH
                refine wpList_view ?_; show wpList _ _ _ [_] ⟨#[_, _, _, _, _, _, _, _, _, _, _, _, _, _, _, _, _, _, _, _, _, _, _, _, _, _, _, _, _, _, _, _, _, _, _, _, _, _, _, _, _, _, _, _, _, _, _, _, _, _, _, _, _, _, _, _, _, _, _, _, _, _, _, _, _, _, _, _, _, _, _, _, _, _, _, _, _, _, _, _, _, _, _, _, _, _, _, _, _, _, _, _, _, _, _, _, _, _, _, _, _, _, _, _, _, _, _, _, _, _, _, _, _, _, _, _, _, _, _, _, _, _, _, _, _, _, _, _, _, _, _, _, _, _, _, _, _, _, _, _, _, _, _, _, _, _, _, _, _, _, _, _, _, _, _, _, _, _, _, _], _⟩ _
                repeat (first | go_guarded | go_step)
                exact hQ _ _ (Grow.refl _) rfl rfl
              refine obls_cons (fun f w' hR hH Q hQ => ?_) ?_
              · skip
                have h10 := hH.get 0 (76, 10) rfl
                clear hH
                refine wpList_view ?_; show wpList _ _ _ [_] ⟨#[_, _, _, _, _, _, _, _, _, _, _, _, _, _, _, _, _, _, _, _, _, _, _, _, _, _, _, _, _, _, _, _, _, _, _, _, _, _, _, _, _, _, _, _, _, _, _, _, _, _, _, _, _, _, _, _, _, _, _, _, _, _, _, _, _, _, _, _, _, _, _, _, _, _, _, _, f 10, _, _, _, _, _, _, _, _, _, _, _, _, _, _, _, _, _, _, _, _, _, _, _, _, _, _, _, _, _, _, _, _, _, _, _, _, _, _, _, _, _, _, _, _, _, _, _, _, _, _, _, _, _, _, _, _, _, _, _, _, _, _, _, _, _, _, _, _, _, _, _, _, _, _, _, _, _, _, _, _, _, _, _], _⟩ _
                rw [show f 10 = _ from h10]
                clear h10
                have y3 := (HBX.out.grow (HG2.out.trans (HGk.out.trans hR))).cell (i := 2) rfl
                repeat (first | go_guarded | go_step)
                exact hQ _ _ (Grow.refl _) rfl rfl
              refine obls_cons (fun f w' hR hH Q hQ => ?_) ?_
              · skip
                have h11 := hH.get 0 (77, 11) rfl
                clear hH
                refine wpList_view ?_; show wpList _ _ _ [_] ⟨#[_, _, _, _, _, _, _, _, _, _, _, _, _, _, _, _, _, _, _, _, _, _, _, _, _, _, _, _, _, _, _, _, _, _, _, _, _, _, _, _, _, _, _, _, _, _, _, _, _, _, _, _, _, _, _, _, _, _, _, _, _, _, _, _, _, _, _, _, _, _, _, _, _, _, _, _, _, f 11, _, _, _, _, _, _, _, _, _, _, _, _, _, _, _, _, _, _, _, _, _, _, _, _, _, _, _, _, _, _, _, _, _, _, _, _, _, _, _, _, _, _, _, _, _, _, _, _, _, _, _, _, _, _, _, _, _, _, _, _, _, _, _, _, _, _, _, _, _, _, _, _, _, _, _, _, _, _, _, _, _, _], _⟩ _
                rw [show f 11 = _ from h11]
                clear h11
                repeat (first | go_guarded | go_step)
                exact hQ _ _ (Grow.refl _) rfl rfl
              refine obls_cons (fun f w' hR hH Q hQ => ?_) ?_
              · skip
                clear hH
                refine wpList_view ?_; show wpList _ _ _ [_] ⟨#[_, _, _, _, _, _, _, _, _, _, _, _, _, _, _, _, _, _, _, _, _, _, _, _, _, _, _, _, _, _, _, _, _, _, _, _, _, _, _, _, _, _, _, _, _, _, _, _, _, _, _, _, _, _, _, _, _, _, _, _, _, _, _, _, _, _, _, _, _, _, _, _, _, _, _, _, _, _, _, _, _, _, _, _, _, _, _, _, _, _, _, _, _, _, _, _, _, _, _, _, _, _, _, _, _, _, _, _, _, _, _, _, _, _, _, _, _, _, _, _, _, _, _, _, _, _, _, _, _, _, _, _, _, _, _, _, _, _, _, _, _, _, _, _, _, _, _, _, _, _, _, _, _, _, _, _, _, _, _, _], _⟩ _
                repeat (first | go_guarded | go_step)
                exact hQ _ _ (Grow.refl _) rfl rfl
              refine obls_cons (fun f w' hR hH Q hQ => ?_) ?_
              · skip
                have h12 := hH.get 0 (78, 12) rfl
                have h13 := hH.get 1 (79, 13) rfl
                clear hH
                refine wpList_view ?_; show wpList _ _ _ [_] ⟨#[_, _, _, _, _, _, _, _, _, _, _, _, _, _, _, _, _, _, _, _, _, _, _, _, _, _, _, _, _, _, _, _, _, _, _, _, _, _, _, _, _, _, _, _, _, _, _, _, _, _, _, _, _, _, _, _, _, _, _, _, _, _, _, _, _, _, _, _, _, _, _, _, _, _, _, _, _, _, f 12, f 13, _, _, _, _, _, _, _, _, _, _, _, _, _, _, _, _, _, _, _, _, _, _, _, _, _, _, _, _, _, _, _, _, _, _, _, _, _, _, _, _, _, _, _, _, _, _, _, _, _, _, _, _, _, _, _, _, _, _, _, _, _, _, _, _, _, _, _, _, _, _, _, _, _, _, _, _, _, _, _, _], _⟩ _
                rw [show f 12 = _ from h12]
                rw [show f 13 = _ from h13]
                clear h12 h13
                repeat (first | go_guarded | go_step)
                exact hQ _ _ (Grow.refl _) rfl rfl
              refine obls_cons (fun f w' hR hH Q hQ => ?_) ?_
              · skip
                have h4 := hH.get 0 (70, 4) rfl
                clear hH
                refine wpList_view ?_; show wpList _ _ _ [_] ⟨#[_, _, _, _, _, _, _, _, _, _, _, _, _, _, _, _, _, _, _, _, _, _, _, _, _, _, _, _, _, _, _, _, _, _, _, _, _, _, _, _, _, _, _, _, _, _, _, _, _, _, _, _, _, _, _, _, _, _, _, _, _, _, _, _, _, _, _, _, _, _, f 4, _, _, _, _, _, _, _, _, _, _, _, _, _, _, _, _, _, _, _, _, _, _, _, _, _, _, _, _, _, _, _, _, _, _, _, _, _, _, _, _, _, _, _, _, _, _, _, _, _, _, _, _, _, _, _, _, _, _, _, _, _, _, _, _, _, _, _, _, _, _, _, _, _, _, _, _, _, _, _, _, _, _, _, _, _, _, _, _, _], _⟩ _
                rw [show f 4 = _ from h4]
                clear h4
                repeat (first | go_guarded | go_step)
                exact hQ _ _ (Grow.refl _) rfl rfl
              refine obls_cons (fun f w' hR hH Q hQ => ?_) ?_
              · skip
                have h9 := hH.get 0 (75, 9) rfl
                clear hH
                refine wpList_view ?_; show wpList _ _ _ [_] ⟨#[_, _, _, _, _, _, _, _, _, _, _, _, _, _, _, _, _, _, _, _, _, _, _, _, _, _, _, _, _, _, _, _, _, _, _, _, _, _, _, _, _, _, _, _, _, _, _, _, _, _, _, _, _, _, _, _, _, _, _, _, _, _, _, _, _, _, _, _, _, _, _, _, _, _, _, f 9, _, _, _, _, _, _, _, _, _, _, _, _, _, _, _, _, _, _, _, _, _, _, _, _, _, _, _, _, _, _, _, _, _, _, _, _, _, _, _, _, _, _, _, _, _, _, _, _, _, _, _, _, _, _, _, _, _, _, _, _, _, _, _, _, _, _, _, _, _, _, _, _, _, _, _, _, _, _, _, _, _, _, _, _], _⟩ _
                rw [show f 9 = _ from h9]
                clear h9
                repeat (first | go_guarded | go_step)
                exact hQ _ _ (Grow.refl _) rfl rfl
              refine obls_cons (fun f w' hR hH Q hQ => ?_) ?_
              · skip
                have h14 := hH.get 0 (80, 14) rfl
                clear hH
                refine wpList_view ?_; show wpList _ _ _ [_] ⟨#[_, _, _, _, _, _, _, _, _, _, _, _, _, _, _, _, _, _, _, _, _, _, _, _, _, _, _, _, _, _, _, _, _, _, _, _, _, _, _, _, _, _, _, _, _, _, _, _, _, _, _, _, _, _, _, _, _, _, _, _, _, _, _, _, _, _, _, _, _, _, _, _, _, _, _, _, _, _, _, _, f 14, _, _, _, _, _, _, _, _, _, _, _, _, _, _, _, _, _, _, _, _, _, _, _, _, _, _, _, _, _, _, _, _, _, _, _, _, _, _, _, _, _, _, _, _, _, _, _, _, _, _, _, _, _, _, _, _, _, _, _, _, _, _, _, _, _, _, _, _, _, _, _, _, _, _, _, _, _, _, _], _⟩ _
                rw [show f 14 = _ from h14]
                clear h14
                repeat (first | go_guarded | go_step)
                exact hQ _ _ (Grow.refl _) rfl rfl
              exact obls_nil
            case mono => exact ⟨Mono.veq _, Mono.veq _, Mono.veq _, Mono.veq _, Mono.veq _, Mono.veq _, Mono.veq _, Mono.veq _, Mono.veq _, Mono.veq _, Mono.veq _, Mono.veq _, Mono.veq _, Mono.veq _, Mono.veq _, Mono.veq _, Mono.veq _, Mono.veq _, trivial⟩
            case tail =>
              intro f w' hR hH
              have q15 := hH.get 15 (11, 15) rfl
              have q16 := hH.get 16 (12, 16) rfl
              have q17 := hH.get 17 (13, 17) rfl
              clear hH
              refine wpList_merge (idx := [none, none, none, none, none, none, none, none, none, none, none, some 15, some 16, some 17, none, none, none, none, none, none, none, none, none, none, none, none, none, none, none, none, none, none, none, none, none, none, none, none, none, none, none, none, none, none, none, none, none, none, none, none, none, none, none, none, none, none, none, none, none, none, none, none, none, none, none, none, some 0, some 1, some 2, some 3, some 4, some 5, some 6, some 7, some 8, some 9, some 10, some 11, some 12, some 13, some 14, none, none, none, none, none, none, none, none, none, none, none, none, none, none, none, none, none, none, none, none, none, none, none, none, none, none, none, none, none, none, none, none, none, none, none, none, none, none, none, none, none, none, none, none, none, none, none, none, none, none, none, none, none, none, none, none, none, none, none, none, none, none, none, none, none, none, none, none, none, none, none, none, none, none, none, none, none, none, none]) (by kernel_rfl) ?_; show wpList _ _ _ [] ⟨#[_, _, _, _, _, _, _, _, _, _, _, f 15, f 16, f 17, _, _, _, _, _, _, _, _, _, _, _, _, _, _, _, _, _, _, _, _, _, _, _, _, _, _, _, _, _, _, _, _, _, _, _, _, _, _, _, _, _, _, _, _, _, _, _, _, _, _, _, _, f 0, f 1, f 2, f 3, f 4, f 5, f 6, f 7, f 8, f 9, f 10, f 11, f 12, f 13, f 14, _, _, _, _, _, _, _, _, _, _, _, _, _, _, _, _, _, _, _, _, _, _, _, _, _, _, _, _, _, _, _, _, _, _, _, _, _, _, _, _, _, _, _, _, _, _, _, _, _, _, _, _, _, _, _, _, _, _, _, _, _, _, _, _, _, _, _, _, _, _, _, _, _, _, _, _, _, _, _], _⟩ _
              rw [show f 15 = _ from q15]
              rw [show f 16 = _ from q16]
              rw [show f 17 = _ from q17]
              clear q15 q16 q17
              obtain ⟨w5, hw5⟩ : ∃ w5, w5 = w' := ⟨_, rfl⟩
              have HG5 : Hid (Grow w2 w5) := Lib.hid (by rw [hw5]; exact HGk.out.trans hR)
              rw [← hw5]
              simp only [HI.out, HJ.out, HM.out]
              have hrel := HREL.out.grow HG5.out
              have io : i64ok (i : Int) := ⟨by omega, by omega⟩
              have jo : i64ok (j : Int) := ⟨by omega, by omega⟩
              have mo : i64ok (m : Int) := ⟨by omega, by omega⟩
              obtain ⟨qa, hqa⟩ : ∃ q, q = leadI R (i : Int) (j : Int) := ⟨_, rfl⟩
              obtain ⟨qb, hqb⟩ : ∃ q, q = leadI R (j : Int) (m : Int) := ⟨_, rfl⟩
              obtain ⟨qc, hqc⟩ : ∃ q, q = leadI R (i : Int) (m : Int) := ⟨_, rfl⟩
              obtain ⟨qd, hqd⟩ : ∃ q, q = aheadI R (i : Int) (j : Int) := ⟨_, rfl⟩
              obtain ⟨qe, hqe⟩ : ∃ q, q = aheadI R (j : Int) (m : Int) := ⟨_, rfl⟩
              obtain ⟨qf, hqf⟩ : ∃ q, q = aheadI R (i : Int) (m : Int) := ⟨_, rfl⟩
              have A1 := Lib.hid (hasr_any w5 gr n R hrel (i : Int) (j : Int) io.1 io.2)
              have A2 := Lib.hid (hasr_any w5 gr n R hrel (j : Int) (m : Int) jo.1 jo.2)
              have A3 := Lib.hid (hasr_any w5 gr n R hrel (i : Int) (m : Int) io.1 io.2)
              have B1 := Lib.hid (before_any w5 gr n R hrel (i : Int) (j : Int) io.1 io.2 jo.1 jo.2)
              have B2 := Lib.hid (before_any w5 gr n R hrel (j : Int) (m : Int) jo.1 jo.2 mo.1 mo.2)
              have B3 := Lib.hid (before_any w5 gr n R hrel (i : Int) (m : Int) io.1 io.2 mo.1 mo.2)
              have C1 := Lib.hid (before_any w5 gr n R hrel (i : Int) (i : Int) io.1 io.2 io.1 io.2)
              have C2 := Lib.hid (alike_any w5 gr n R hrel (i : Int) (i : Int) io.1 io.2 io.1 io.2)
              have C3 := Lib.hid (alike_any w5 gr n R hrel (i : Int) (j : Int) io.1 io.2 jo.1 jo.2)
              have C4 := Lib.hid (group_any w5 gr n R hrel HLT.out (i : Int) io.1 io.2)
              have C5 := Lib.hid (group_any w5 gr n R hrel HLT.out (j : Int) jo.1 jo.2)
              obtain ⟨gi, hgi⟩ : ∃ g, g = groupN R i := ⟨_, rfl⟩
              obtain ⟨gj, hgj⟩ : ∃ g, g = groupN R j := ⟨_, rfl⟩
              have hgl : gi ≤ i := by rw [hgi]; exact (group_spec R i).1
              have C6 := Lib.hid (alike_any w5 gr n R hrel (i : Int) (gi : Int) io.1 io.2 (by omega) (by omega))
              obtain ⟨p, hp⟩ : ∃ p, p = alikeN R i j := ⟨_, rfl⟩
              have hpg : p = (gi == gj) := by rw [hp, hgi, hgj, Bool.eq_iff_iff, group_alike HTR.out]; simp
              rw [← hqa] at A1
              rw [← hqb] at A2
              rw [← hqc] at A3
              rw [← hqd] at B1
              rw [← hqe] at B2
              rw [← hqf] at B3
              rw [show aheadI R (i : Int) (i : Int) = false by unfold aheadI; cases leadI R (i : Int) (i : Int) <;> rfl] at C1
              rw [alikeI_nat HIN.out.1, alikeN_refl] at C2
              rw [alikeI_nat HIN.out.1, ← hp] at C3
              rw [groupI_nat HIN.out.1, ← hgi] at C4
              rw [groupI_nat HIN.out.2.1, ← hgj] at C5
              rw [alikeI_nat HIN.out.1, show alikeN R i gi = true by rw [hgi]; exact (group_spec R i).2.1] at C6
              have HTA : Hid (qa = true → qb = true → qc = true) := Lib.hid fun h1 h2 => by
                rw [hqa] at h1
                rw [hqb] at h2
                rw [hqc]
                rw [leadI_nat] at h1 h2 ⊢
                exact HTR.out _ _ _ h1 h2
              have HTB : Hid (qd = true → qe = true → qf = true) := Lib.hid fun h1 h2 => by
                rw [hqd] at h1
                rw [hqe] at h2
                rw [hqf]
                exact ahead_trans HTR.out h1 h2
              have u1 : ((gi : Int) == (gj : Int)) = p := by rw [hpg, Bool.eq_iff_iff]; simp only [beq_iff_eq]; omega
              have u2 : (gi == gj) = p := hpg.symm
              have u3 : (p == p) = true := beq_self_eq_true p
              have u4 : decide ((gi : Int) ≤ (i : Int)) = true := decide_eq_true (by omega)
              have u5 : decide (gi ≤ i) = true := decide_eq_true hgl
              have HWK := Lib.hid (works_any w5)
              clear hw5 hR hrel io jo mo hqa hqb hqc hqd hqe hqf hgi hgj hgl hp hpg
              repeat (first | with_reducible (refine wp_region_cut (k := 11) ?_) | go_values | go_guarded | go_step | go_upon | go_back)
              refine wp_cut [none, none, none, none, none, none, none, none, none, none, none, none, none, none, none, none, none, none, none, none, none, none, none, none, none, none, none, none, none, none, none, none, none, none, none, none, none, none, none, none, none, none, none, none, none, none, none, none, none, none, none, none, none, none, none, none, none, none, none, none, none, none, none, none, none, none, none, none, none, none, none, none, none, none, none, none, none, none, none, none, none, some 81, some 82, some 83, some 84, some 85, some 86, some 87, some 88, some 89, some 90, some 91, some 92, some 93, some 94, some 95, some 96, some 97, some 98, some 99, some 100, some 101, some 102, some 103, some 104, some 105, some 106, some 107, some 108, some 109, some 110, some 111, some 112, some 113, some 114, some 115, some 116, none, none, none, none, none, none, none, none, none, none, none, none, none, none, none, none, none, none, none, none, none, none, none, none, none, none, none, none, none, none, none, none, none, none, none, none, none, none, none, none, none, none, none] (AtB 116 false w5) ?cutA ?cutB
              case cutB =>
                intro f w' A hA hJ
                replace hA : A = ⟨#[_, _, _, _, _, _, _, _, _, _, _, _, _, _, _, _, _, _, _, _, _, _, _, _, _, _, _, _, _, _, _, _, _, _, _, _, _, _, _, _, _, _, _, _, _, _, _, _, _, _, _, _, _, _, _, _, _, _, _, _, _, _, _, _, _, _, _, _, _, _, _, _, _, _, _, _, _, _, _, _, _, f 81, f 82, f 83, f 84, f 85, f 86, f 87, f 88, f 89, f 90, f 91, f 92, f 93, f 94, f 95, f 96, f 97, f 98, f 99, f 100, f 101, f 102, f 103, f 104, f 105, f 106, f 107, f 108, f 109, f 110, f 111, f 112, f 113, f 114, f 115, f 116, _, _, _, _, _, _, _, _, _, _, _, _, _, _, _, _, _, _, _, _, _, _, _, _, _, _, _, _, _, _, _, _, _, _, _, _, _, _, _, _, _, _, _], _⟩ := hA
                subst hA
                obtain ⟨e0, e1⟩ := hJ
                subst e1
                rw [e0]
                clear e0
                go_wp2_with fail
                refine C1.out.mono ?_
                rintro e w' ⟨rfl, rfl⟩
                go_wp2_with fail
                refine C2.out.mono ?_
                rintro e w' ⟨rfl, rfl⟩
                go_wp2_with fail
                refine C3.out.mono ?_
                rintro e w' ⟨rfl, rfl⟩
                go_wp2_with fail
                refine C4.out.mono ?_
                rintro e w' ⟨rfl, rfl⟩
                go_wp2_with fail
                refine C5.out.mono ?_
                rintro e w' ⟨rfl, rfl⟩
                go_wp2_with fail
                refine C4.out.mono ?_
                rintro e w' ⟨rfl, rfl⟩
                go_wp2_with fail
                refine C4.out.mono ?_
                rintro e w' ⟨rfl, rfl⟩
                go_wp2_with fail
                refine C6.out.mono ?_
                rintro e w' ⟨rfl, rfl⟩
                go_wp2_with fail
                refine HWK.out.mono ?_
                rintro e w6 ⟨rfl, hg6⟩
                have HG6 := Lib.hid (HG0.out.trans (HG2.out.trans (HG5.out.trans hg6)))
                clear hg6
                go_wp2_with fail
                go_ret
                exact ⟨rfl, HG6.out⟩
              case cutA =>
                cases qa
                · skip
                  cases qd
                  · skip
                    go_wp2_with fail
                    refine A1.out.mono ?_
                    rintro e w' ⟨rfl, rfl⟩
                    go_wp2_with fail
                    refine B1.out.mono ?_
                    rintro e w' ⟨rfl, rfl⟩
                    go_wp2_with fail
                    exact CutEnd.mk (by kernel_rfl) ⟨rfl, rfl⟩
                  · cases qe
                    · skip
                      go_wp2_with fail
                      refine A1.out.mono ?_
                      rintro e w' ⟨rfl, rfl⟩
                      go_wp2_with fail
                      refine B1.out.mono ?_
                      rintro e w' ⟨rfl, rfl⟩
                      go_wp2_with fail
                      refine B2.out.mono ?_
                      rintro e w' ⟨rfl, rfl⟩
                      go_wp2_with fail
                      exact CutEnd.mk (by kernel_rfl) ⟨rfl, rfl⟩
                    · obtain rfl : qf = true := HTB.out rfl rfl
                      go_wp2_with fail
                      refine A1.out.mono ?_
                      rintro e w' ⟨rfl, rfl⟩
                      go_wp2_with fail
                      refine B1.out.mono ?_
                      rintro e w' ⟨rfl, rfl⟩
                      go_wp2_with fail
                      refine B2.out.mono ?_
                      rintro e w' ⟨rfl, rfl⟩
                      go_wp2_with fail
                      refine B3.out.mono ?_
                      rintro e w' ⟨rfl, rfl⟩
                      go_wp2_with fail
                      exact CutEnd.mk (by kernel_rfl) ⟨rfl, rfl⟩
                · cases qb
                  · skip
                    cases qd
                    · skip
                      go_wp2_with fail
                      refine A1.out.mono ?_
                      rintro e w' ⟨rfl, rfl⟩
                      go_wp2_with fail
                      refine A2.out.mono ?_
                      rintro e w' ⟨rfl, rfl⟩
                      go_wp2_with fail
                      refine B1.out.mono ?_
                      rintro e w' ⟨rfl, rfl⟩
                      go_wp2_with fail
                      exact CutEnd.mk (by kernel_rfl) ⟨rfl, rfl⟩
                    · cases qe
                      · skip
                        go_wp2_with fail
                        refine A1.out.mono ?_
                        rintro e w' ⟨rfl, rfl⟩
                        go_wp2_with fail
                        refine A2.out.mono ?_
                        rintro e w' ⟨rfl, rfl⟩
                        go_wp2_with fail
                        refine B1.out.mono ?_
                        rintro e w' ⟨rfl, rfl⟩
                        go_wp2_with fail
                        refine B2.out.mono ?_
                        rintro e w' ⟨rfl, rfl⟩
                        go_wp2_with fail
                        exact CutEnd.mk (by kernel_rfl) ⟨rfl, rfl⟩
                      · obtain rfl : qf = true := HTB.out rfl rfl
                        go_wp2_with fail
                        refine A1.out.mono ?_
                        rintro e w' ⟨rfl, rfl⟩
                        go_wp2_with fail
                        refine A2.out.mono ?_
                        rintro e w' ⟨rfl, rfl⟩
                        go_wp2_with fail
                        refine B1.out.mono ?_
                        rintro e w' ⟨rfl, rfl⟩
                        go_wp2_with fail
                        refine B2.out.mono ?_
                        rintro e w' ⟨rfl, rfl⟩
                        go_wp2_with fail
                        refine B3.out.mono ?_
                        rintro e w' ⟨rfl, rfl⟩
                        go_wp2_with fail
                        exact CutEnd.mk (by kernel_rfl) ⟨rfl, rfl⟩
                  · obtain rfl : qc = true := HTA.out rfl rfl
                    cases qd
                    · skip
                      go_wp2_with fail
                      refine A1.out.mono ?_
                      rintro e w' ⟨rfl, rfl⟩
                      go_wp2_with fail
                      refine A2.out.mono ?_
                      rintro e w' ⟨rfl, rfl⟩
                      go_wp2_with fail
                      refine A3.out.mono ?_
                      rintro e w' ⟨rfl, rfl⟩
                      go_wp2_with fail
                      refine B1.out.mono ?_
                      rintro e w' ⟨rfl, rfl⟩
                      go_wp2_with fail
                      exact CutEnd.mk (by kernel_rfl) ⟨rfl, rfl⟩
                    · cases qe
                      · skip
                        go_wp2_with fail
                        refine A1.out.mono ?_
                        rintro e w' ⟨rfl, rfl⟩
                        go_wp2_with fail
                        refine A2.out.mono ?_
                        rintro e w' ⟨rfl, rfl⟩
                        go_wp2_with fail
                        refine A3.out.mono ?_
                        rintro e w' ⟨rfl, rfl⟩
                        go_wp2_with fail
                        refine B1.out.mono ?_
                        rintro e w' ⟨rfl, rfl⟩
                        go_wp2_with fail
                        refine B2.out.mono ?_
                        rintro e w' ⟨rfl, rfl⟩
                        go_wp2_with fail
                        exact CutEnd.mk (by kernel_rfl) ⟨rfl, rfl⟩
                      · obtain rfl : qf = true := HTB.out rfl rfl
                        go_wp2_with fail
                        refine A1.out.mono ?_
                        rintro e w' ⟨rfl, rfl⟩
                        go_wp2_with fail
                        refine A2.out.mono ?_
                        rintro e w' ⟨rfl, rfl⟩
                        go_wp2_with fail
                        refine A3.out.mono ?_
                        rintro e w' ⟨rfl, rfl⟩
                        go_wp2_with fail
                        refine B1.out.mono ?_
                        rintro e w' ⟨rfl, rfl⟩
                        go_wp2_with fail
                        refine B2.out.mono ?_
                        rintro e w' ⟨rfl, rfl⟩
                        go_wp2_with fail
                        refine B3.out.mono ?_
                        rintro e w' ⟨rfl, rfl⟩
                        go_wp2_with fail
                        exact CutEnd.mk (by kernel_rfl) ⟨rfl, rfl⟩
end Go.Proofs.Ytjfohglkpbgkaaa.reL
