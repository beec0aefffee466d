/- The walk of ReachSays. -/
import Derived.Test.YtjfohglkpbgkaaaReL
namespace Go.Proofs.Ytjfohglkpbgkaaa.reL
open Go Go.RowKit Go.Par Go.Kit Go.Proofs.Ytjfohglkpbgkaaa.Mk Go.Proofs.Ytjfohglkpbgkaaa.mkW Go.Proofs.Ytjfohglkpbgkaaa.Re Go.Proofs.Ytjfohglkpbgkaaa.reW

set_option maxRecDepth 100000 in
set_option maxHeartbeats 8000000 in
theorem says_walk (n0 : Int) (A : Option Addr) (len c : Nat) (xs : List (Int × Int)) (w : World) (hr : Recs 2 prow w A len xs) (hx : ∀ x ∈ xs, PairOk x)
    (x1 x2 : Int) (h1 : i64ok x1) (h2 : i64ok x2) :
    Calls Try.prog 6 #[.int .i64 n0, .slice A len c, .agg #[.int .i64 x1, .int .i64 x2]] w fun e w' => e = .returned (.bool true) ∧ Grow w w' := by
  obtain ⟨W0, hW0⟩ : ∃ W, W = w.alloc (.cells #[.int .i64 x1, .int .i64 x2] T2) := ⟨_, rfl⟩
  obtain ⟨b0, hb0⟩ : ∃ b, b = w.heap.size := ⟨_, rfl⟩
  have hg0 : Grow w W0 := by rw [hW0]; exact Grow.alloc _ _
  have hbx : Blk W0 b0 T2 [.int .i64 x1, .int .i64 x2] := by rw [hW0]; exact Blk.new w _ _ _ rfl hb0
  have HBX := Lib.hid hbx
  have HG0 := Lib.hid hg0
  have HW0 := Lib.hid hW0
  have HB0 := Lib.hid hb0
  have HWK := Lib.hid (works_any W0)
  by_cases h20 : 20 < n0
  · have t1 : decide (20 < n0) = true := decide_eq_true h20
    clear h20 hbx hg0 hb0 hW0 hr hx h1 h2
    go_enter Try.func6, Try.ntmps6
    go_wp2_with fail
    rw [← HW0.out]
    refine HWK.out.mono ?_
    rintro e w1 ⟨rfl, hg1⟩
    go_wp2_with fail
    go_ret
    exact ⟨rfl, HG0.out.trans hg1⟩
  · have t1 : decide (20 < n0) = false := decide_eq_false h20
    by_cases h40 : 40 < len
    · have t2 : decide (40 < len) = true := decide_eq_true h40
      have t3 : decide ((40 : Int) < (len : Int)) = true := decide_eq_true (by omega)
      clear h20 h40 hbx hg0 hb0 hW0 hr hx h1 h2
      go_enter Try.func6, Try.ntmps6
      go_wp2_with fail
      rw [← HW0.out]
      refine HWK.out.mono ?_
      rintro e w1 ⟨rfl, hg1⟩
      go_wp2_with fail
      go_ret
      exact ⟨rfl, HG0.out.trans hg1⟩
    · have t2 : decide (40 < len) = false := decide_eq_false h40
      have t3 : decide ((40 : Int) < (len : Int)) = false := decide_eq_false (by omega)
      obtain ⟨n, hn⟩ : ∃ n, n = clampN n0 := ⟨_, rfl⟩
      have hnl : n ≤ 20 := by rw [hn]; unfold clampN; omega
      have hof := reW.of_any W0 n0 A len c xs (hr.grow hg0) (by omega) hx
      rw [← hn] at hof
      obtain ⟨Lx, hLx⟩ : ∃ L, L = vp n xs := ⟨_, rfl⟩
      rw [← hLx] at hof
      obtain ⟨R, hR⟩ : ∃ R, R = leadB Lx := ⟨_, rfl⟩
      rw [← hR] at hof
      have HOF := Lib.hid hof
      have hrf := fun w' (hg : Grow W0 w') => ref_of w' n0 A len c xs ((hr.grow hg0).grow hg) (by omega)
      rw [← hn, ← hLx] at hrf
      have HRF := Lib.hid hrf
      have HLL : Hid (Lx.length ≤ 1000000) := Lib.hid (by have := vp_len n xs; have := hr.1; rw [hLx]; omega)
      have HLT : Hid (∀ i j, R i j = true → j < n) := Lib.hid (by rw [hR, hLx]; exact lead_lt)
      have HRR := Lib.hid hR
      have HX1 := Lib.hid h1
      have HX2 := Lib.hid h2
      clear h20 h40 hbx hg0 hb0 hW0 hr hx h1 h2 hn hof hrf hLx hR HWK
      go_enter Try.func6, Try.ntmps6
      go_wp2_with fail
      rw [← HW0.out]
      refine HOF.out.mono ?_
      rintro e w2 ⟨gr, rfl, hrel, hg2⟩
      have HREL := Lib.hid hrel
      have HG2 := Lib.hid hg2
      have HRF2 := Lib.hid (HRF.out w2 hg2)
      clear hrel hg2 HOF
      go_wp2_with fail
      refine HRF2.out.mono ?_
      rintro e w3 ⟨v, rfl, hv, hg3⟩
      have HV := Lib.hid hv
      obtain ⟨A3, c3, rfl, -⟩ := hv
      obtain ⟨l3, hl3⟩ : ∃ l, l = Lx.length := ⟨_, rfl⟩
      rw [← hl3] at HV ⊢
      have HG3 := Lib.hid hg3
      clear hg3 hl3 HRF2 HRF
      go_wp2_with fail
      rw [← HB0.out]
      obtain ⟨b8, hb8⟩ : ∃ b, b = w3.heap.size := ⟨_, rfl⟩
      obtain ⟨W4, hW4⟩ : ∃ W, W = w3.alloc (.cells #[.int .i64 (n : Int), .slice A3 l3 c3] TX8) := ⟨_, rfl⟩
      rw [← hW4, ← hb8]
      have hg4 : Grow w3 W4 := by rw [hW4]; exact Grow.alloc _ _
      have HB8 : Hid (Blk W4 b8 TX8 [.int .i64 (n : Int), .slice A3 l3 c3]) := Lib.hid (by rw [hW4]; exact Blk.new _ _ _ _ rfl hb8)
      have HG : Hid (Grow w W4) := Lib.hid (HG0.out.trans (HG2.out.trans (HG3.out.trans hg4)))
      have HBW : Hid (Blk W4 b0 T2 [.int .i64 x1, .int .i64 x2]) := Lib.hid (HBX.out.grow (HG2.out.trans (HG3.out.trans hg4)))
      have HREL4 := Lib.hid (HREL.out.grow (HG3.out.trans hg4))
      have HV4 := Lib.hid (HV.out.grow hg4)
      have HN6 : Hid (n ≤ 20) := Lib.hid hnl
      -- what each call says, in any grown world
      have KH : Hid (∀ (w' : World) (i j : Int), Grow W4 w' → i64ok i → Calls Try.prog 41 #[.pointer (some ⟨gr, 0, none⟩), .int .i64 i, .int .i64 j] w' fun e w2 => e = .returned (.bool (leadI R i j)) ∧ w' = w2) := Lib.hid fun w' i j hg hi => hasr_any w' gr n R (HREL4.out.grow hg) i j hi.1 hi.2
      have KR : Hid (∀ (w' : World) (i j : Int), Grow W4 w' → Calls Try.prog 42 #[.agg #[.int .i64 (n : Int), .slice A3 l3 c3], .int .i64 i, .int .i64 j] w' fun e w2 => e = .returned (.bool (leadI R i j)) ∧ Grow w' w2) := Lib.hid fun w' i j hg => by rw [HRR.out]; exact ref_hasr w' n _ Lx (HV4.out.grow hg) HLL.out i j
      have KG : Hid (∀ (w' : World) (i : Int), Grow W4 w' → i64ok i → Calls Try.prog 43 #[.pointer (some ⟨gr, 0, none⟩), .int .i64 i] w' fun e w2 => e = .returned (.int .i64 (groupI n R i)) ∧ w' = w2) := Lib.hid fun w' i hg hi => group_any w' gr n R (HREL4.out.grow hg) HLT.out i hi.1 hi.2
      have KGR : Hid (∀ (w' : World) (i : Int), Grow W4 w' → Calls Try.prog 44 #[.agg #[.int .i64 (n : Int), .slice A3 l3 c3], .int .i64 i] w' fun e w2 => e = .returned (.int .i64 (groupI n R i)) ∧ Grow w' w2) := Lib.hid fun w' i hg => by rw [HRR.out]; exact ref_group w' n _ Lx (HV4.out.grow hg) HLL.out i
      have KL : Hid (∀ (w' : World), Grow W4 w' → Calls Try.prog 45 #[.pointer (some ⟨gr, 0, none⟩)] w' fun e w2 => e = .returned (.int .i64 (n : Int)) ∧ w' = w2) := Lib.hid fun w' hg => reW.len_any w' gr n R (HREL4.out.grow hg)
      obtain ⟨qa, hqa⟩ : ∃ q, q = alikeI n R x1 x2 := ⟨_, rfl⟩
      obtain ⟨qb, hqb⟩ : ∃ q, q = aheadI R x1 x2 := ⟨_, rfl⟩
      obtain ⟨qh, hqh⟩ : ∃ q, q = leadI R x1 x2 := ⟨_, rfl⟩
      obtain ⟨qg, hqg⟩ : ∃ q, q = groupI n R x1 := ⟨_, rfl⟩
      have KA1 : Hid (∀ (w' : World), Grow W4 w' → Calls Try.prog 46 #[.pointer (some ⟨gr, 0, none⟩), .int .i64 x1, .int .i64 x2] w' fun e w2 => e = .returned (.bool qa) ∧ w' = w2) := Lib.hid fun w' hg => by rw [hqa]; exact alike_any w' gr n R (HREL4.out.grow hg) x1 x2 HX1.out.1 HX1.out.2 HX2.out.1 HX2.out.2
      have KA2 : Hid (∀ (w' : World), Grow W4 w' → Calls Try.prog 47 #[.agg #[.int .i64 (n : Int), .slice A3 l3 c3], .int .i64 x1, .int .i64 x2] w' fun e w2 => e = .returned (.bool qa) ∧ Grow w' w2) := Lib.hid fun w' hg => by rw [hqa, HRR.out]; exact ref_alike w' n _ Lx (HV4.out.grow hg) HLL.out x1 x2
      have KB1 : Hid (∀ (w' : World), Grow W4 w' → Calls Try.prog 48 #[.pointer (some ⟨gr, 0, none⟩), .int .i64 x1, .int .i64 x2] w' fun e w2 => e = .returned (.bool qb) ∧ w' = w2) := Lib.hid fun w' hg => by rw [hqb]; exact before_any w' gr n R (HREL4.out.grow hg) x1 x2 HX1.out.1 HX1.out.2 HX2.out.1 HX2.out.2
      have KB2 : Hid (∀ (w' : World), Grow W4 w' → Calls Try.prog 49 #[.agg #[.int .i64 (n : Int), .slice A3 l3 c3], .int .i64 x1, .int .i64 x2] w' fun e w2 => e = .returned (.bool qb) ∧ Grow w' w2) := Lib.hid fun w' hg => by rw [hqb, HRR.out]; exact ref_before w' n _ Lx (HV4.out.grow hg) HLL.out x1 x2
      have KH1 : Hid (∀ (w' : World), Grow W4 w' → Calls Try.prog 41 #[.pointer (some ⟨gr, 0, none⟩), .int .i64 x1, .int .i64 x2] w' fun e w2 => e = .returned (.bool qh) ∧ w' = w2) := Lib.hid fun w' hg => by rw [hqh]; exact KH.out w' x1 x2 hg HX1.out
      have KH2 : Hid (∀ (w' : World), Grow W4 w' → Calls Try.prog 42 #[.agg #[.int .i64 (n : Int), .slice A3 l3 c3], .int .i64 x1, .int .i64 x2] w' fun e w2 => e = .returned (.bool qh) ∧ Grow w' w2) := Lib.hid fun w' hg => by rw [hqh]; exact KR.out w' x1 x2 hg
      have KG1 : Hid (∀ (w' : World), Grow W4 w' → Calls Try.prog 43 #[.pointer (some ⟨gr, 0, none⟩), .int .i64 x1] w' fun e w2 => e = .returned (.int .i64 qg) ∧ w' = w2) := Lib.hid fun w' hg => by rw [hqg]; exact KG.out w' x1 hg HX1.out
      have KG2 : Hid (∀ (w' : World), Grow W4 w' → Calls Try.prog 44 #[.agg #[.int .i64 (n : Int), .slice A3 l3 c3], .int .i64 x1] w' fun e w2 => e = .returned (.int .i64 qg) ∧ Grow w' w2) := Lib.hid fun w' hg => by rw [hqg]; exact KGR.out w' x1 hg
      clear hW4 hb8 hg4 hqa hqb hqh hqg HBX HREL HG2 HG3 HV HW0 HREL4 HV4 HLT HLL
      go_wp2_with fail
      go_loopw [9] (fun i' wr => ∃ (k : Nat), k ≤ n ∧ i' = .int .i64 (k : Int) ∧ Grow W4 wr) (fun i' _ => n - (intOf i').toNat)
      case atStart => exact ⟨0, by omega, rfl, Grow.refl _⟩
      case round =>
        obtain ⟨k, hkn, rfl, hg⟩ := hrel
        have z0 := (HB8.out.grow hg).cell (i := 0) rfl
        have HGk := Lib.hid hg
        by_cases hlt : k < n
        · have HLTk := Lib.hid hlt
          have HKI : Hid (i64ok (k : Int)) := Lib.hid ⟨by omega, by omega⟩
          clear hg
          go_wp2_with fail
          go_loopw [10] (fun i' wr => ∃ (m : Nat), m ≤ n ∧ i' = .int .i64 (m : Int) ∧ Grow W4 wr) (fun i' _ => n - (intOf i').toNat)
          case atStart => exact ⟨0, by omega, rfl, HGk.out⟩
          case round =>
            clear z0
            obtain ⟨m, hmn, rfl, hg⟩ := hrel
            have z0 := (HB8.out.grow hg).cell (i := 0) rfl
            have HGm := Lib.hid hg
            by_cases hlt2 : m < n
            · have HLTm := Lib.hid hlt2
              obtain ⟨q, hq⟩ : ∃ q, q = leadI R (k : Int) (m : Int) := ⟨_, rfl⟩
              have M1 : Hid (∀ w', Grow wr w' → Calls Try.prog 41 #[.pointer (some ⟨gr, 0, none⟩), .int .i64 (k : Int), .int .i64 (m : Int)] w' fun e w2 => e = .returned (.bool q) ∧ w' = w2) := Lib.hid fun w' hg' => by rw [hq]; exact KH.out w' _ _ (HGm.out.trans hg') HKI.out
              have M2 : Hid (∀ w', Grow wr w' → Calls Try.prog 42 #[.agg #[.int .i64 (n : Int), .slice A3 l3 c3], .int .i64 (k : Int), .int .i64 (m : Int)] w' fun e w2 => e = .returned (.bool q) ∧ Grow w' w2) := Lib.hid fun w' hg' => by rw [hq]; exact KR.out w' _ _ (HGm.out.trans hg')
              have hqq : (q != q) = false := bne_self_eq_false q
              clear hq hg
              go_wp2_with fail
              apply (fun (v0 v1 v2 v3 v4 v5 v6 v7 v8 : Value) mono obl tail => wp_region_par (R := Grow) (Φ := phi [veq v0, veq v1, veq v2, veq v3, veq v4, veq v5, veq v6, veq v7, veq v8]) (m := 9) (dls := [[], [], [], [(39, 0), (40, 1), (41, 2)], [], [], [], [(43, 4), (44, 5), (45, 6)], [(42, 3), (46, 7)]]) (ds := [39, 40, 41, 42, 43, 44, 45, 46, 47]) (by kernel_rfl) (by kernel_rfl) (by decide) rfl (Grow.drew _) (fun _ _ _ => Grow.trans) (mono_phi mono) obl tail)
              case obl =>
                refine obls_cons (fun f w' hR hH Q hQ => ?_) ?_
                · skip
                  clear hH
                  refine wpList_view ?_; show wpList _ _ _ [_] ⟨#[_, _, _, _, _, _, _, _, _, _, _, _, _, _, _, _, _, _, _, _, _, _, _, _, _, _, _, _, _, _, _, _, _, _, _, _, _, _, _, _, _, _, _, _, _, _, _, _, _, _, _, _, _, _, _, _, _, _, _, _, _, _, _, _, _, _, _, _, _, _, _, _, _, _, _, _, _, _, _, _, _, _, _, _, _, _, _, _, _, _, _, _, _, _, _, _, _, _, _, _, _, _, _, _, _, _, _, _, _], _⟩ _
                  repeat (first | go_guarded | go_step)
                  exact hQ _ _ (Grow.refl _) rfl rfl
                refine obls_cons (fun f w' hR hH Q hQ => ?_) ?_
                · skip
                  clear hH
                  refine wpList_view ?_; show wpList _ _ _ [_] ⟨#[_, _, _, _, _, _, _, _, _, _, _, _, _, _, _, _, _, _, _, _, _, _, _, _, _, _, _, _, _, _, _, _, _, _, _, _, _, _, _, _, _, _, _, _, _, _, _, _, _, _, _, _, _, _, _, _, _, _, _, _, _, _, _, _, _, _, _, _, _, _, _, _, _, _, _, _, _, _, _, _, _, _, _, _, _, _, _, _, _, _, _, _, _, _, _, _, _, _, _, _, _, _, _, _, _, _, _, _, _], _⟩ _
                  repeat (first | go_guarded | go_step)
                  exact hQ _ _ (Grow.refl _) rfl rfl
                refine obls_cons (fun f w' hR hH Q hQ => ?_) ?_
                · skip
                  clear hH
                  refine wpList_view ?_; show wpList _ _ _ [_] ⟨#[_, _, _, _, _, _, _, _, _, _, _, _, _, _, _, _, _, _, _, _, _, _, _, _, _, _, _, _, _, _, _, _, _, _, _, _, _, _, _, _, _, _, _, _, _, _, _, _, _, _, _, _, _, _, _, _, _, _, _, _, _, _, _, _, _, _, _, _, _, _, _, _, _, _, _, _, _, _, _, _, _, _, _, _, _, _, _, _, _, _, _, _, _, _, _, _, _, _, _, _, _, _, _, _, _, _, _, _, _], _⟩ _
                  repeat (first | go_guarded | go_step)
                  exact hQ _ _ (Grow.refl _) rfl rfl
                refine obls_cons (fun f w' hR hH Q hQ => ?_) ?_
                · skip
                  have h0 := hH.get 0 (39, 0) rfl
                  have h1 := hH.get 1 (40, 1) rfl
                  have h2 := hH.get 2 (41, 2) rfl
                  clear hH
                  refine wpList_merge (idx := [none, none, none, none, none, none, none, none, none, none, none, none, none, none, none, none, none, none, none, none, none, none, none, none, none, none, none, none, none, none, none, none, none, none, none, none, none, none, none, some 0, some 1, some 2, none, none, none, none, none, none, none, none, none, none, none, none, none, none, none, none, none, none, none, none, none, none, none, none, none, none, none, none, none, none, none, none, none, none, none, none, none, none, none, none, none, none, none, none, none, none, none, none, none, none, none, none, none, none, none, none, none, none, none, none, none, none, none, none, none, none, none]) (by kernel_rfl) ?_; show wpList _ _ _ [_] ⟨#[_, _, _, _, _, _, _, _, _, _, _, _, _, _, _, _, _, _, _, _, _, _, _, _, _, _, _, _, _, _, _, _, _, _, _, _, _, _, _, f 0, f 1, f 2, _, _, _, _, _, _, _, _, _, _, _, _, _, _, _, _, _, _, _, _, _, _, _, _, _, _, _, _, _, _, _, _, _, _, _, _, _, _, _, _, _, _, _, _, _, _, _, _, _, _, _, _, _, _, _, _, _, _, _, _, _, _, _, _, _, _, _], _⟩ _
                  rw [show f 0 = _ from h0]
                  rw [show f 1 = _ from h1]
                  rw [show f 2 = _ from h2]
                  clear h0 h1 h2
                  go_wp2_with (go_at_call 41; refine (M1.out w' hR).mono ?_; rintro e w1 ⟨rfl, rfl⟩)
                  exact hQ _ _ (Grow.refl _) rfl rfl
                refine obls_cons (fun f w' hR hH Q hQ => ?_) ?_
                · skip
                  clear hH
                  refine wpList_view ?_; show wpList _ _ _ [_] ⟨#[_, _, _, _, _, _, _, _, _, _, _, _, _, _, _, _, _, _, _, _, _, _, _, _, _, _, _, _, _, _, _, _, _, _, _, _, _, _, _, _, _, _, _, _, _, _, _, _, _, _, _, _, _, _, _, _, _, _, _, _, _, _, _, _, _, _, _, _, _, _, _, _, _, _, _, _, _, _, _, _, _, _, _, _, _, _, _, _, _, _, _, _, _, _, _, _, _, _, _, _, _, _, _, _, _, _, _, _, _], _⟩ _
                  have hb := HB8.out.grow (HGm.out.trans hR)
                  go_wp2_with (refine load_blk rfl _ _ rfl b8 rfl _ _ _ hb und8 rfl (by rw [size8]; rfl) ?_)
                  exact hQ _ _ (Grow.refl _) rfl rfl
                refine obls_cons (fun f w' hR hH Q hQ => ?_) ?_
                · skip
                  clear hH
                  refine wpList_view ?_; show wpList _ _ _ [_] ⟨#[_, _, _, _, _, _, _, _, _, _, _, _, _, _, _, _, _, _, _, _, _, _, _, _, _, _, _, _, _, _, _, _, _, _, _, _, _, _, _, _, _, _, _, _, _, _, _, _, _, _, _, _, _, _, _, _, _, _, _, _, _, _, _, _, _, _, _, _, _, _, _, _, _, _, _, _, _, _, _, _, _, _, _, _, _, _, _, _, _, _, _, _, _, _, _, _, _, _, _, _, _, _, _, _, _, _, _, _, _], _⟩ _
                  repeat (first | go_guarded | go_step)
                  exact hQ _ _ (Grow.refl _) rfl rfl
                refine obls_cons (fun f w' hR hH Q hQ => ?_) ?_
                · skip
                  clear hH
                  refine wpList_view ?_; show wpList _ _ _ [_] ⟨#[_, _, _, _, _, _, _, _, _, _, _, _, _, _, _, _, _, _, _, _, _, _, _, _, _, _, _, _, _, _, _, _, _, _, _, _, _, _, _, _, _, _, _, _, _, _, _, _, _, _, _, _, _, _, _, _, _, _, _, _, _, _, _, _, _, _, _, _, _, _, _, _, _, _, _, _, _, _, _, _, _, _, _, _, _, _, _, _, _, _, _, _, _, _, _, _, _, _, _, _, _, _, _, _, _, _, _, _, _], _⟩ _
                  repeat (first | go_guarded | go_step)
                  exact hQ _ _ (Grow.refl _) rfl rfl
                refine obls_cons (fun f w' hR hH Q hQ => ?_) ?_
                · skip
                  have h4 := hH.get 0 (43, 4) rfl
                  have h5 := hH.get 1 (44, 5) rfl
                  have h6 := hH.get 2 (45, 6) rfl
                  clear hH
                  refine wpList_merge (idx := [none, none, none, none, none, none, none, none, none, none, none, none, none, none, none, none, none, none, none, none, none, none, none, none, none, none, none, none, none, none, none, none, none, none, none, none, none, none, none, none, none, none, none, some 4, some 5, some 6, none, none, none, none, none, none, none, none, none, none, none, none, none, none, none, none, none, none, none, none, none, none, none, none, none, none, none, none, none, none, none, none, none, none, none, none, none, none, none, none, none, none, none, none, none, none, none, none, none, none, none, none, none, none, none, none, none, none, none, none, none, none, none]) (by kernel_rfl) ?_; show wpList _ _ _ [_] ⟨#[_, _, _, _, _, _, _, _, _, _, _, _, _, _, _, _, _, _, _, _, _, _, _, _, _, _, _, _, _, _, _, _, _, _, _, _, _, _, _, _, _, _, _, f 4, f 5, f 6, _, _, _, _, _, _, _, _, _, _, _, _, _, _, _, _, _, _, _, _, _, _, _, _, _, _, _, _, _, _, _, _, _, _, _, _, _, _, _, _, _, _, _, _, _, _, _, _, _, _, _, _, _, _, _, _, _, _, _, _, _, _, _], _⟩ _
                  rw [show f 4 = _ from h4]
                  rw [show f 5 = _ from h5]
                  rw [show f 6 = _ from h6]
                  clear h4 h5 h6
                  go_wp2_with (go_at_call 42; refine (M2.out w' hR).mono ?_; rintro e w1 ⟨rfl, hg1⟩)
                  exact hQ _ _ hg1 rfl rfl
                refine obls_cons (fun f w' hR hH Q hQ => ?_) ?_
                · skip
                  have h3 := hH.get 0 (42, 3) rfl
                  have h7 := hH.get 1 (46, 7) rfl
                  clear hH
                  refine wpList_view ?_; show wpList _ _ _ [_] ⟨#[_, _, _, _, _, _, _, _, _, _, _, _, _, _, _, _, _, _, _, _, _, _, _, _, _, _, _, _, _, _, _, _, _, _, _, _, _, _, _, _, _, _, f 3, _, _, _, f 7, _, _, _, _, _, _, _, _, _, _, _, _, _, _, _, _, _, _, _, _, _, _, _, _, _, _, _, _, _, _, _, _, _, _, _, _, _, _, _, _, _, _, _, _, _, _, _, _, _, _, _, _, _, _, _, _, _, _, _, _, _, _], _⟩ _
                  rw [show f 3 = _ from h3]
                  rw [show f 7 = _ from h7]
                  clear h3 h7
                  repeat (first | go_guarded | go_step)
                  exact hQ _ _ (Grow.refl _) rfl rfl
                exact obls_nil
              case mono => exact ⟨Mono.veq _, Mono.veq _, Mono.veq _, Mono.veq _, Mono.veq _, Mono.veq _, Mono.veq _, Mono.veq _, Mono.veq _, trivial⟩
              case tail =>
                intro f w' hR hH
                have q8 := hH.get 8 (47, 8) rfl
                clear hH
                refine wpList_merge (idx := [none, none, none, none, none, none, none, none, none, none, none, none, none, none, none, none, none, none, none, none, none, none, none, none, none, none, none, none, none, none, none, none, none, none, none, none, none, none, none, some 0, some 1, some 2, some 3, some 4, some 5, some 6, some 7, some 8, none, none, none, none, none, none, none, none, none, none, none, none, none, none, none, none, none, none, none, none, none, none, none, none, none, none, none, none, none, none, none, none, none, none, none, none, none, none, none, none, none, none, none, none, none, none, none, none, none, none, none, none, none, none, none, none, none, none, none, none, none]) (by kernel_rfl) ?_; show wpList _ _ _ [] ⟨#[_, _, _, _, _, _, _, _, _, _, _, _, _, _, _, _, _, _, _, _, _, _, _, _, _, _, _, _, _, _, _, _, _, _, _, _, _, _, _, f 0, f 1, f 2, f 3, f 4, f 5, f 6, f 7, f 8, _, _, _, _, _, _, _, _, _, _, _, _, _, _, _, _, _, _, _, _, _, _, _, _, _, _, _, _, _, _, _, _, _, _, _, _, _, _, _, _, _, _, _, _, _, _, _, _, _, _, _, _, _, _, _, _, _, _, _, _, _], _⟩ _
                rw [show f 8 = _ from q8]
                clear q8
                have HGr := Lib.hid (HGm.out.trans hR)
                clear hR
                go_wp2_with fail
                go_roundw
                case rel => exact ⟨m + 1, by have := HLTm.out; omega, by go_num, HGr.out⟩
                case measure => have := HLTm.out; simp [intOf] <;> omega
            · clear hg
              obtain ⟨q, hq⟩ : ∃ q, q = groupI n R (k : Int) := ⟨_, rfl⟩
              have M1 : Hid (∀ w', Grow wr w' → Calls Try.prog 43 #[.pointer (some ⟨gr, 0, none⟩), .int .i64 (k : Int)] w' fun e w2 => e = .returned (.int .i64 q) ∧ w' = w2) := Lib.hid fun w' hg' => by rw [hq]; exact KG.out w' _ (HGm.out.trans hg') HKI.out
              have M2 : Hid (∀ w', Grow wr w' → Calls Try.prog 44 #[.agg #[.int .i64 (n : Int), .slice A3 l3 c3], .int .i64 (k : Int)] w' fun e w2 => e = .returned (.int .i64 q) ∧ Grow w' w2) := Lib.hid fun w' hg' => by rw [hq]; exact KGR.out w' _ (HGm.out.trans hg')
              have hqq : (q != q) = false := bne_self_eq_false q
              clear hq
              go_wp2_with fail
              apply (fun (v0 v1 v2 v3 v4 v5 v6 : Value) mono obl tail => wp_region_par (R := Grow) (Φ := phi [veq v0, veq v1, veq v2, veq v3, veq v4, veq v5, veq v6]) (m := 7) (dls := [[], [], [(48, 0), (49, 1)], [], [], [(51, 3), (52, 4)], [(50, 2), (53, 5)]]) (ds := [48, 49, 50, 51, 52, 53, 54]) (by kernel_rfl) (by kernel_rfl) (by decide) rfl (Grow.drew _) (fun _ _ _ => Grow.trans) (mono_phi mono) obl tail)
              case obl =>
                refine obls_cons (fun f w' hR hH Q hQ => ?_) ?_
                · skip
                  clear hH
                  refine wpList_view ?_; show wpList _ _ _ [_] ⟨#[_, _, _, _, _, _, _, _, _, _, _, _, _, _, _, _, _, _, _, _, _, _, _, _, _, _, _, _, _, _, _, _, _, _, _, _, _, _, _, _, _, _, _, _, _, _, _, _, _, _, _, _, _, _, _, _, _, _, _, _, _, _, _, _, _, _, _, _, _, _, _, _, _, _, _, _, _, _, _, _, _, _, _, _, _, _, _, _, _, _, _, _, _, _, _, _, _, _, _, _, _, _, _, _, _, _, _, _, _], _⟩ _
                  repeat (first | go_guarded | go_step)
                  exact hQ _ _ (Grow.refl _) rfl rfl
                refine obls_cons (fun f w' hR hH Q hQ => ?_) ?_
                · skip
                  clear hH
                  refine wpList_view ?_; show wpList _ _ _ [_] ⟨#[_, _, _, _, _, _, _, _, _, _, _, _, _, _, _, _, _, _, _, _, _, _, _, _, _, _, _, _, _, _, _, _, _, _, _, _, _, _, _, _, _, _, _, _, _, _, _, _, _, _, _, _, _, _, _, _, _, _, _, _, _, _, _, _, _, _, _, _, _, _, _, _, _, _, _, _, _, _, _, _, _, _, _, _, _, _, _, _, _, _, _, _, _, _, _, _, _, _, _, _, _, _, _, _, _, _, _, _, _], _⟩ _
                  repeat (first | go_guarded | go_step)
                  exact hQ _ _ (Grow.refl _) rfl rfl
                refine obls_cons (fun f w' hR hH Q hQ => ?_) ?_
                · skip
                  have h0 := hH.get 0 (48, 0) rfl
                  have h1 := hH.get 1 (49, 1) rfl
                  clear hH
                  refine wpList_view ?_; show wpList _ _ _ [_] ⟨#[_, _, _, _, _, _, _, _, _, _, _, _, _, _, _, _, _, _, _, _, _, _, _, _, _, _, _, _, _, _, _, _, _, _, _, _, _, _, _, _, _, _, _, _, _, _, _, _, f 0, f 1, _, _, _, _, _, _, _, _, _, _, _, _, _, _, _, _, _, _, _, _, _, _, _, _, _, _, _, _, _, _, _, _, _, _, _, _, _, _, _, _, _, _, _, _, _, _, _, _, _, _, _, _, _, _, _, _, _, _, _], _⟩ _
                  rw [show f 0 = _ from h0]
                  rw [show f 1 = _ from h1]
                  clear h0 h1
                  go_wp2_with (go_at_call 43; refine (M1.out w' hR).mono ?_; rintro e w1 ⟨rfl, rfl⟩)
                  exact hQ _ _ (Grow.refl _) rfl rfl
                refine obls_cons (fun f w' hR hH Q hQ => ?_) ?_
                · skip
                  clear hH
                  refine wpList_view ?_; show wpList _ _ _ [_] ⟨#[_, _, _, _, _, _, _, _, _, _, _, _, _, _, _, _, _, _, _, _, _, _, _, _, _, _, _, _, _, _, _, _, _, _, _, _, _, _, _, _, _, _, _, _, _, _, _, _, _, _, _, _, _, _, _, _, _, _, _, _, _, _, _, _, _, _, _, _, _, _, _, _, _, _, _, _, _, _, _, _, _, _, _, _, _, _, _, _, _, _, _, _, _, _, _, _, _, _, _, _, _, _, _, _, _, _, _, _, _], _⟩ _
                  have hb := HB8.out.grow (HGm.out.trans hR)
                  go_wp2_with (refine load_blk rfl _ _ rfl b8 rfl _ _ _ hb und8 rfl (by rw [size8]; rfl) ?_)
                  exact hQ _ _ (Grow.refl _) rfl rfl
                refine obls_cons (fun f w' hR hH Q hQ => ?_) ?_
                · skip
                  clear hH
                  refine wpList_view ?_; show wpList _ _ _ [_] ⟨#[_, _, _, _, _, _, _, _, _, _, _, _, _, _, _, _, _, _, _, _, _, _, _, _, _, _, _, _, _, _, _, _, _, _, _, _, _, _, _, _, _, _, _, _, _, _, _, _, _, _, _, _, _, _, _, _, _, _, _, _, _, _, _, _, _, _, _, _, _, _, _, _, _, _, _, _, _, _, _, _, _, _, _, _, _, _, _, _, _, _, _, _, _, _, _, _, _, _, _, _, _, _, _, _, _, _, _, _, _], _⟩ _
                  repeat (first | go_guarded | go_step)
                  exact hQ _ _ (Grow.refl _) rfl rfl
                refine obls_cons (fun f w' hR hH Q hQ => ?_) ?_
                · skip
                  have h3 := hH.get 0 (51, 3) rfl
                  have h4 := hH.get 1 (52, 4) rfl
                  clear hH
                  refine wpList_view ?_; show wpList _ _ _ [_] ⟨#[_, _, _, _, _, _, _, _, _, _, _, _, _, _, _, _, _, _, _, _, _, _, _, _, _, _, _, _, _, _, _, _, _, _, _, _, _, _, _, _, _, _, _, _, _, _, _, _, _, _, _, f 3, f 4, _, _, _, _, _, _, _, _, _, _, _, _, _, _, _, _, _, _, _, _, _, _, _, _, _, _, _, _, _, _, _, _, _, _, _, _, _, _, _, _, _, _, _, _, _, _, _, _, _, _, _, _, _, _, _, _], _⟩ _
                  rw [show f 3 = _ from h3]
                  rw [show f 4 = _ from h4]
                  clear h3 h4
                  go_wp2_with (go_at_call 44; refine (M2.out w' hR).mono ?_; rintro e w1 ⟨rfl, hg1⟩)
                  exact hQ _ _ hg1 rfl rfl
                refine obls_cons (fun f w' hR hH Q hQ => ?_) ?_
                · skip
                  have h2 := hH.get 0 (50, 2) rfl
                  have h5 := hH.get 1 (53, 5) rfl
                  clear hH
                  refine wpList_view ?_; show wpList _ _ _ [_] ⟨#[_, _, _, _, _, _, _, _, _, _, _, _, _, _, _, _, _, _, _, _, _, _, _, _, _, _, _, _, _, _, _, _, _, _, _, _, _, _, _, _, _, _, _, _, _, _, _, _, _, _, f 2, _, _, f 5, _, _, _, _, _, _, _, _, _, _, _, _, _, _, _, _, _, _, _, _, _, _, _, _, _, _, _, _, _, _, _, _, _, _, _, _, _, _, _, _, _, _, _, _, _, _, _, _, _, _, _, _, _, _, _], _⟩ _
                  rw [show f 2 = _ from h2]
                  rw [show f 5 = _ from h5]
                  clear h2 h5
                  repeat (first | go_guarded | go_step)
                  exact hQ _ _ (Grow.refl _) rfl rfl
                exact obls_nil
              case mono => exact ⟨Mono.veq _, Mono.veq _, Mono.veq _, Mono.veq _, Mono.veq _, Mono.veq _, Mono.veq _, trivial⟩
              case tail =>
                intro f w' hR hH
                have q6 := hH.get 6 (54, 6) rfl
                clear hH
                refine wpList_merge (idx := [none, none, none, none, none, none, none, none, none, none, none, none, none, none, none, none, none, none, none, none, none, none, none, none, none, none, none, none, none, none, none, none, none, none, none, none, none, none, none, none, none, none, none, none, none, none, none, none, some 0, some 1, some 2, some 3, some 4, some 5, some 6, none, none, none, none, none, none, none, none, none, none, none, none, none, none, none, none, none, none, none, none, none, none, none, none, none, none, none, none, none, none, none, none, none, none, none, none, none, none, none, none, none, none, none, none, none, none, none, none, none, none, none, none, none, none]) (by kernel_rfl) ?_; show wpList _ _ _ [] ⟨#[_, _, _, _, _, _, _, _, _, _, _, _, _, _, _, _, _, _, _, _, _, _, _, _, _, _, _, _, _, _, _, _, _, _, _, _, _, _, _, _, _, _, _, _, _, _, _, _, f 0, f 1, f 2, f 3, f 4, f 5, f 6, _, _, _, _, _, _, _, _, _, _, _, _, _, _, _, _, _, _, _, _, _, _, _, _, _, _, _, _, _, _, _, _, _, _, _, _, _, _, _, _, _, _, _, _, _, _, _, _, _, _, _, _, _, _], _⟩ _
                rw [show f 6 = _ from q6]
                clear q6
                have HGr := Lib.hid (HGm.out.trans hR)
                clear hR
                go_wp2_with fail
                go_roundw
                case rel => exact ⟨k + 1, by have := HLTk.out; omega, by go_num, HGr.out⟩
                case measure => have := HLTk.out; simp [intOf] <;> omega
        · clear hg
          go_wp2_with fail
          apply (fun (v0 v1 v2 v3 v4 v5 : Value) mono obl tail => wp_region_par (R := Grow) (Φ := phi [veq v0, veq v1, veq v2, veq v3, veq v4, veq v5]) (m := 6) (dls := [[], [(55, 0)], [], [(57, 2)], [(56, 1)], [(58, 3)]]) (ds := [55, 56, 57, 58, 11, 12]) (by kernel_rfl) (by kernel_rfl) (by decide) rfl (Grow.drew _) (fun _ _ _ => Grow.trans) (mono_phi mono) obl tail)
          case obl =>
            refine obls_cons (fun f w' hR hH Q hQ => ?_) ?_
            · skip
              clear hH
              refine wpList_view ?_; show wpList _ _ _ [_] ⟨#[_, _, _, _, _, _, _, _, _, _, _, _, _, _, _, _, _, _, _, _, _, _, _, _, _, _, _, _, _, _, _, _, _, _, _, _, _, _, _, _, _, _, _, _, _, _, _, _, _, _, _, _, _, _, _, _, _, _, _, _, _, _, _, _, _, _, _, _, _, _, _, _, _, _, _, _, _, _, _, _, _, _, _, _, _, _, _, _, _, _, _, _, _, _, _, _, _, _, _, _, _, _, _, _, _, _, _, _, _], _⟩ _
              repeat (first | go_guarded | go_step)
              exact hQ _ _ (Grow.refl _) rfl rfl
            refine obls_cons (fun f w' hR hH Q hQ => ?_) ?_
            · skip
              have h0 := hH.get 0 (55, 0) rfl
              clear hH
              refine wpList_view ?_; show wpList _ _ _ [_] ⟨#[_, _, _, _, _, _, _, _, _, _, _, _, _, _, _, _, _, _, _, _, _, _, _, _, _, _, _, _, _, _, _, _, _, _, _, _, _, _, _, _, _, _, _, _, _, _, _, _, _, _, _, _, _, _, _, f 0, _, _, _, _, _, _, _, _, _, _, _, _, _, _, _, _, _, _, _, _, _, _, _, _, _, _, _, _, _, _, _, _, _, _, _, _, _, _, _, _, _, _, _, _, _, _, _, _, _, _, _, _, _], _⟩ _
              rw [show f 0 = _ from h0]
              clear h0
              have y0 := (HBW.out.grow (HGk.out.trans hR)).cell (i := 0) rfl
              repeat (first | go_guarded | go_step)
              exact hQ _ _ (Grow.refl _) rfl rfl
            refine obls_cons (fun f w' hR hH Q hQ => ?_) ?_
            · skip
              clear hH
              refine wpList_view ?_; show wpList _ _ _ [_] ⟨#[_, _, _, _, _, _, _, _, _, _, _, _, _, _, _, _, _, _, _, _, _, _, _, _, _, _, _, _, _, _, _, _, _, _, _, _, _, _, _, _, _, _, _, _, _, _, _, _, _, _, _, _, _, _, _, _, _, _, _, _, _, _, _, _, _, _, _, _, _, _, _, _, _, _, _, _, _, _, _, _, _, _, _, _, _, _, _, _, _, _, _, _, _, _, _, _, _, _, _, _, _, _, _, _, _, _, _, _, _], _⟩ _
              repeat (first | go_guarded | go_step)
              exact hQ _ _ (Grow.refl _) rfl rfl
            refine obls_cons (fun f w' hR hH Q hQ => ?_) ?_
            · skip
              have h2 := hH.get 0 (57, 2) rfl
              clear hH
              refine wpList_view ?_; show wpList _ _ _ [_] ⟨#[_, _, _, _, _, _, _, _, _, _, _, _, _, _, _, _, _, _, _, _, _, _, _, _, _, _, _, _, _, _, _, _, _, _, _, _, _, _, _, _, _, _, _, _, _, _, _, _, _, _, _, _, _, _, _, _, _, f 2, _, _, _, _, _, _, _, _, _, _, _, _, _, _, _, _, _, _, _, _, _, _, _, _, _, _, _, _, _, _, _, _, _, _, _, _, _, _, _, _, _, _, _, _, _, _, _, _, _, _, _], _⟩ _
              rw [show f 2 = _ from h2]
              clear h2
              have y1 := (HBW.out.grow (HGk.out.trans hR)).cell (i := 1) rfl
              repeat (first | go_guarded | go_step)
              exact hQ _ _ (Grow.refl _) rfl rfl
            refine obls_cons (fun f w' hR hH Q hQ => ?_) ?_
            · skip
              have h1 := hH.get 0 (56, 1) rfl
              clear hH
              refine wpList_view ?_; show wpList _ _ _ [_] ⟨#[_, _, _, _, _, _, _, _, _, _, _, _, _, _, _, _, _, _, _, _, _, _, _, _, _, _, _, _, _, _, _, _, _, _, _, _, _, _, _, _, _, _, _, _, _, _, _, _, _, _, _, _, _, _, _, _, f 1, _, _, _, _, _, _, _, _, _, _, _, _, _, _, _, _, _, _, _, _, _, _, _, _, _, _, _, _, _, _, _, _, _, _, _, _, _, _, _, _, _, _, _, _, _, _, _, _, _, _, _, _], _⟩ _
              rw [show f 1 = _ from h1]
              clear h1
              repeat (first | go_guarded | go_step)
              exact hQ _ _ (Grow.refl _) rfl rfl
            refine obls_cons (fun f w' hR hH Q hQ => ?_) ?_
            · skip
              have h3 := hH.get 0 (58, 3) rfl
              clear hH
              refine wpList_view ?_; show wpList _ _ _ [_] ⟨#[_, _, _, _, _, _, _, _, _, _, _, _, _, _, _, _, _, _, _, _, _, _, _, _, _, _, _, _, _, _, _, _, _, _, _, _, _, _, _, _, _, _, _, _, _, _, _, _, _, _, _, _, _, _, _, _, _, _, f 3, _, _, _, _, _, _, _, _, _, _, _, _, _, _, _, _, _, _, _, _, _, _, _, _, _, _, _, _, _, _, _, _, _, _, _, _, _, _, _, _, _, _, _, _, _, _, _, _, _, _], _⟩ _
              rw [show f 3 = _ from h3]
              clear h3
              repeat (first | go_guarded | go_step)
              exact hQ _ _ (Grow.refl _) rfl rfl
            exact obls_nil
          case mono => exact ⟨Mono.veq _, Mono.veq _, Mono.veq _, Mono.veq _, Mono.veq _, Mono.veq _, trivial⟩
          case tail =>
            intro f w' hR hH
            have q4 := hH.get 4 (11, 4) rfl
            have q5 := hH.get 5 (12, 5) rfl
            clear hH
            refine wpList_merge (idx := [none, none, none, none, none, none, none, none, none, none, none, some 4, some 5, none, none, none, none, none, none, none, none, none, none, none, none, none, none, none, none, none, none, none, none, none, none, none, none, none, none, none, none, none, none, none, none, none, none, none, none, none, none, none, none, none, none, some 0, some 1, some 2, some 3, none, none, none, none, none, none, none, none, none, none, none, none, none, none, none, none, none, none, none, none, none, none, none, none, none, none, none, none, none, none, none, none, none, none, none, none, none, none, none, none, none, none, none, none, none, none, none, none, none, none]) (by kernel_rfl) ?_; show wpList _ _ _ [] ⟨#[_, _, _, _, _, _, _, _, _, _, _, f 4, f 5, _, _, _, _, _, _, _, _, _, _, _, _, _, _, _, _, _, _, _, _, _, _, _, _, _, _, _, _, _, _, _, _, _, _, _, _, _, _, _, _, _, _, f 0, f 1, f 2, f 3, _, _, _, _, _, _, _, _, _, _, _, _, _, _, _, _, _, _, _, _, _, _, _, _, _, _, _, _, _, _, _, _, _, _, _, _, _, _, _, _, _, _, _, _, _, _, _, _, _, _], _⟩ _
            rw [show f 4 = _ from q4]
            rw [show f 5 = _ from q5]
            clear q4 q5
            obtain ⟨w7, hw7⟩ : ∃ w7, w7 = w' := ⟨_, rfl⟩
            have HG7 : Hid (Grow W4 w7) := Lib.hid (by rw [hw7]; exact HGk.out.trans hR)
            rw [← hw7]
            have hqq1 : (qa == qa) = true := beq_self_eq_true qa
            have hqq2 : (qb == qb) = true := beq_self_eq_true qb
            have hqq3 : (qh == qh) = true := beq_self_eq_true qh
            have hqq4 : (qg == qg) = true := beq_self_eq_true qg
            have hnn : ((n : Int) == (n : Int)) = true := beq_self_eq_true _
            clear hw7 hR z0
            go_wp2_with fail
            apply (fun (v0 v1 v2 v3 v4 v5 v6 v7 v8 v9 v10 v11 v12 v13 v14 v15 v16 v17 v18 v19 v20 v21 v22 v23 v24 v25 v26 v27 v28 v29 v30 v31 v32 v33 v34 v35 v36 v37 v38 v39 v40 v41 v42 v43 v44 v45 v46 v47 v48 v49 v50 : Value) mono obl tail => wp_region_par (R := Grow) (Φ := phi [veq v0, veq v1, veq v2, veq v3, veq v4, veq v5, veq v6, veq v7, veq v8, veq v9, veq v10, veq v11, veq v12, veq v13, veq v14, veq v15, veq v16, veq v17, veq v18, veq v19, veq v20, veq v21, veq v22, veq v23, veq v24, veq v25, veq v26, veq v27, veq v28, veq v29, veq v30, veq v31, veq v32, veq v33, veq v34, veq v35, veq v36, veq v37, veq v38, veq v39, veq v40, veq v41, veq v42, veq v43, veq v44, veq v45, veq v46, veq v47, veq v48, veq v49, veq v50]) (m := 51) (dls := [[], [(59, 0)], [], [(61, 2)], [(60, 1), (62, 3)], [(63, 4)], [(64, 5)], [(64, 5)], [(64, 5)], [(65, 6), (66, 7), (67, 8), (64, 5)], [(64, 5)], [(64, 5)], [(64, 5)], [(69, 10), (70, 11), (71, 12), (64, 5)], [(68, 9), (72, 13), (64, 5)], [(64, 5), (73, 14)], [(74, 15)], [(75, 16)], [(75, 16)], [(75, 16)], [(76, 17), (77, 18), (78, 19), (75, 16)], [(75, 16)], [(75, 16)], [(75, 16)], [(80, 21), (81, 22), (82, 23), (75, 16)], [(79, 20), (83, 24), (75, 16)], [(75, 16), (84, 25)], [(85, 26)], [(86, 27)], [(86, 27)], [(86, 27)], [(87, 28), (88, 29), (89, 30), (86, 27)], [(86, 27)], [(86, 27)], [(86, 27)], [(91, 32), (92, 33), (93, 34), (86, 27)], [(90, 31), (94, 35), (86, 27)], [(86, 27), (95, 36)], [(96, 37)], [(97, 38)], [(97, 38)], [(98, 39), (99, 40), (97, 38)], [(97, 38)], [(97, 38)], [(101, 42), (102, 43), (97, 38)], [(100, 41), (103, 44), (97, 38)], [(97, 38), (104, 45)], [(105, 46)], [(106, 47)], [(106, 47), (107, 48)], [(108, 49)]]) (ds := [59, 60, 61, 62, 63, 64, 65, 66, 67, 68, 69, 70, 71, 72, 73, 74, 75, 76, 77, 78, 79, 80, 81, 82, 83, 84, 85, 86, 87, 88, 89, 90, 91, 92, 93, 94, 95, 96, 97, 98, 99, 100, 101, 102, 103, 104, 105, 106, 107, 108, 6]) (by kernel_rfl) (by kernel_rfl) (by decide) rfl (Grow.drew _) (fun _ _ _ => Grow.trans) (mono_phi mono) obl tail)
            case obl =>
              refine obls_cons (fun f w' hR hH Q hQ => ?_) ?_
              · skip
                clear hH
                refine wpList_view ?_; show wpList _ _ _ [_] ⟨#[_, _, _, _, _, _, _, _, _, _, _, _, _, _, _, _, _, _, _, _, _, _, _, _, _, _, _, _, _, _, _, _, _, _, _, _, _, _, _, _, _, _, _, _, _, _, _, _, _, _, _, _, _, _, _, _, _, _, _, _, _, _, _, _, _, _, _, _, _, _, _, _, _, _, _, _, _, _, _, _, _, _, _, _, _, _, _, _, _, _, _, _, _, _, _, _, _, _, _, _, _, _, _, _, _, _, _, _, _], _⟩ _
                repeat (first | go_guarded | go_step)
                exact hQ _ _ (Grow.refl _) rfl rfl
              refine obls_cons (fun f w' hR hH Q hQ => ?_) ?_
              · skip
                have h0 := hH.get 0 (59, 0) rfl
                clear hH
                refine wpList_view ?_; show wpList _ _ _ [_] ⟨#[_, _, _, _, _, _, _, _, _, _, _, _, _, _, _, _, _, _, _, _, _, _, _, _, _, _, _, _, _, _, _, _, _, _, _, _, _, _, _, _, _, _, _, _, _, _, _, _, _, _, _, _, _, _, _, _, _, _, _, f 0, _, _, _, _, _, _, _, _, _, _, _, _, _, _, _, _, _, _, _, _, _, _, _, _, _, _, _, _, _, _, _, _, _, _, _, _, _, _, _, _, _, _, _, _, _, _, _, _, _], _⟩ _
                rw [show f 0 = _ from h0]
                clear h0
                go_wp2_with (go_at_call 45; refine (KL.out w' (HG7.out.trans hR)).mono ?_; rintro e w1 ⟨rfl, rfl⟩)
                exact hQ _ _ (Grow.refl _) rfl rfl
              refine obls_cons (fun f w' hR hH Q hQ => ?_) ?_
              · skip
                clear hH
                refine wpList_view ?_; show wpList _ _ _ [_] ⟨#[_, _, _, _, _, _, _, _, _, _, _, _, _, _, _, _, _, _, _, _, _, _, _, _, _, _, _, _, _, _, _, _, _, _, _, _, _, _, _, _, _, _, _, _, _, _, _, _, _, _, _, _, _, _, _, _, _, _, _, _, _, _, _, _, _, _, _, _, _, _, _, _, _, _, _, _, _, _, _, _, _, _, _, _, _, _, _, _, _, _, _, _, _, _, _, _, _, _, _, _, _, _, _, _, _, _, _, _, _], _⟩ _
                repeat (first | go_guarded | go_step)
                exact hQ _ _ (Grow.refl _) rfl rfl
              refine obls_cons (fun f w' hR hH Q hQ => ?_) ?_
              · skip
                have h2 := hH.get 0 (61, 2) rfl
                clear hH
                refine wpList_view ?_; show wpList _ _ _ [_] ⟨#[_, _, _, _, _, _, _, _, _, _, _, _, _, _, _, _, _, _, _, _, _, _, _, _, _, _, _, _, _, _, _, _, _, _, _, _, _, _, _, _, _, _, _, _, _, _, _, _, _, _, _, _, _, _, _, _, _, _, _, _, _, f 2, _, _, _, _, _, _, _, _, _, _, _, _, _, _, _, _, _, _, _, _, _, _, _, _, _, _, _, _, _, _, _, _, _, _, _, _, _, _, _, _, _, _, _, _, _, _, _], _⟩ _
                rw [show f 2 = _ from h2]
                clear h2
                have y0 := (HB8.out.grow (HG7.out.trans hR)).cell (i := 0) rfl
                repeat (first | go_guarded | go_step)
                exact hQ _ _ (Grow.refl _) rfl rfl
              refine obls_cons (fun f w' hR hH Q hQ => ?_) ?_
              · skip
                have h1 := hH.get 0 (60, 1) rfl
                have h3 := hH.get 1 (62, 3) rfl
                clear hH
                refine wpList_view ?_; show wpList _ _ _ [_] ⟨#[_, _, _, _, _, _, _, _, _, _, _, _, _, _, _, _, _, _, _, _, _, _, _, _, _, _, _, _, _, _, _, _, _, _, _, _, _, _, _, _, _, _, _, _, _, _, _, _, _, _, _, _, _, _, _, _, _, _, _, _, f 1, _, f 3, _, _, _, _, _, _, _, _, _, _, _, _, _, _, _, _, _, _, _, _, _, _, _, _, _, _, _, _, _, _, _, _, _, _, _, _, _, _, _, _, _, _, _, _, _, _], _⟩ _
                rw [show f 1 = _ from h1]
                rw [show f 3 = _ from h3]
                clear h1 h3
                repeat (first | go_guarded | go_step)
                exact hQ _ _ (Grow.refl _) rfl rfl
              refine obls_cons (fun f w' hR hH Q hQ => ?_) ?_
              · skip
                have h4 := hH.get 0 (63, 4) rfl
                clear hH
                refine wpList_view ?_; show wpList _ _ _ [_] ⟨#[_, _, _, _, _, _, _, _, _, _, _, _, _, _, _, _, _, _, _, _, _, _, _, _, _, _, _, _, _, _, _, _, _, _, _, _, _, _, _, _, _, _, _, _, _, _, _, _, _, _, _, _, _, _, _, _, _, _, _, _, _, _, _, f 4, _, _, _, _, _, _, _, _, _, _, _, _, _, _, _, _, _, _, _, _, _, _, _, _, _, _, _, _, _, _, _, _, _, _, _, _, _, _, _, _, _, _, _, _, _], _⟩ _
                rw [show f 4 = _ from h4]
                clear h4
                repeat (first | go_guarded | go_step)
                exact hQ _ _ (Grow.refl _) rfl rfl
              refine obls_cons (fun f w' hR hH Q hQ => ?_) ?_
              · skip
                have h5 := hH.get 0 (64, 5) rfl
                clear hH
                refine wpList_view ?_; show wpList _ _ _ [_] ⟨#[_, _, _, _, _, _, _, _, _, _, _, _, _, _, _, _, _, _, _, _, _, _, _, _, _, _, _, _, _, _, _, _, _, _, _, _, _, _, _, _, _, _, _, _, _, _, _, _, _, _, _, _, _, _, _, _, _, _, _, _, _, _, _, _, f 5, _, _, _, _, _, _, _, _, _, _, _, _, _, _, _, _, _, _, _, _, _, _, _, _, _, _, _, _, _, _, _, _, _, _, _, _, _, _, _, _, _, _, _, _], _⟩ _
                rw [show f 5 = _ from h5]
                clear h5
                repeat (first | go_guarded | go_step)
                exact hQ _ _ (Grow.refl _) rfl rfl
              refine obls_cons (fun f w' hR hH Q hQ => ?_) ?_
              · skip
                have h5 := hH.get 0 (64, 5) rfl
                clear hH
                refine wpList_view ?_; show wpList _ _ _ [_] ⟨#[_, _, _, _, _, _, _, _, _, _, _, _, _, _, _, _, _, _, _, _, _, _, _, _, _, _, _, _, _, _, _, _, _, _, _, _, _, _, _, _, _, _, _, _, _, _, _, _, _, _, _, _, _, _, _, _, _, _, _, _, _, _, _, _, f 5, _, _, _, _, _, _, _, _, _, _, _, _, _, _, _, _, _, _, _, _, _, _, _, _, _, _, _, _, _, _, _, _, _, _, _, _, _, _, _, _, _, _, _, _], _⟩ _
                rw [show f 5 = _ from h5]
                clear h5
                repeat (first | go_guarded | go_step)
                exact hQ _ _ (Grow.refl _) rfl rfl
              refine obls_cons (fun f w' hR hH Q hQ => ?_) ?_
              · skip
                have h5 := hH.get 0 (64, 5) rfl
                clear hH
                refine wpList_view ?_; show wpList _ _ _ [_] ⟨#[_, _, _, _, _, _, _, _, _, _, _, _, _, _, _, _, _, _, _, _, _, _, _, _, _, _, _, _, _, _, _, _, _, _, _, _, _, _, _, _, _, _, _, _, _, _, _, _, _, _, _, _, _, _, _, _, _, _, _, _, _, _, _, _, f 5, _, _, _, _, _, _, _, _, _, _, _, _, _, _, _, _, _, _, _, _, _, _, _, _, _, _, _, _, _, _, _, _, _, _, _, _, _, _, _, _, _, _, _, _], _⟩ _
                rw [show f 5 = _ from h5]
                clear h5
                repeat (first | go_guarded | go_step)
                exact hQ _ _ (Grow.refl _) rfl rfl
              refine obls_cons (fun f w' hR hH Q hQ => ?_) ?_
              · skip
                have h6 := hH.get 0 (65, 6) rfl
                have h7 := hH.get 1 (66, 7) rfl
                have h8 := hH.get 2 (67, 8) rfl
                have h5 := hH.get 3 (64, 5) rfl
                clear hH
                refine wpList_merge (idx := [none, none, none, none, none, none, none, none, none, none, none, none, none, none, none, none, none, none, none, none, none, none, none, none, none, none, none, none, none, none, none, none, none, none, none, none, none, none, none, none, none, none, none, none, none, none, none, none, none, none, none, none, none, none, none, none, none, none, none, none, none, none, none, none, some 5, some 6, some 7, some 8, none, none, none, none, none, none, none, none, none, none, none, none, none, none, none, none, none, none, none, none, none, none, none, none, none, none, none, none, none, none, none, none, none, none, none, none, none, none, none, none, none]) (by kernel_rfl) ?_; show wpList _ _ _ [_] ⟨#[_, _, _, _, _, _, _, _, _, _, _, _, _, _, _, _, _, _, _, _, _, _, _, _, _, _, _, _, _, _, _, _, _, _, _, _, _, _, _, _, _, _, _, _, _, _, _, _, _, _, _, _, _, _, _, _, _, _, _, _, _, _, _, _, f 5, f 6, f 7, f 8, _, _, _, _, _, _, _, _, _, _, _, _, _, _, _, _, _, _, _, _, _, _, _, _, _, _, _, _, _, _, _, _, _, _, _, _, _, _, _, _, _], _⟩ _
                rw [show f 6 = _ from h6]
                rw [show f 7 = _ from h7]
                rw [show f 8 = _ from h8]
                rw [show f 5 = _ from h5]
                clear h6 h7 h8 h5
                go_wp2_with (go_at_call 41; refine (KH1.out w' (HG7.out.trans hR)).mono ?_; rintro e w1 ⟨rfl, rfl⟩)
                exact hQ _ _ (Grow.refl _) rfl rfl
              refine obls_cons (fun f w' hR hH Q hQ => ?_) ?_
              · skip
                have h5 := hH.get 0 (64, 5) rfl
                clear hH
                refine wpList_view ?_; show wpList _ _ _ [_] ⟨#[_, _, _, _, _, _, _, _, _, _, _, _, _, _, _, _, _, _, _, _, _, _, _, _, _, _, _, _, _, _, _, _, _, _, _, _, _, _, _, _, _, _, _, _, _, _, _, _, _, _, _, _, _, _, _, _, _, _, _, _, _, _, _, _, f 5, _, _, _, _, _, _, _, _, _, _, _, _, _, _, _, _, _, _, _, _, _, _, _, _, _, _, _, _, _, _, _, _, _, _, _, _, _, _, _, _, _, _, _, _], _⟩ _
                rw [show f 5 = _ from h5]
                clear h5
                have hb := HB8.out.grow (HG7.out.trans hR)
                go_wp2_with (refine load_blk rfl _ _ rfl b8 rfl _ _ _ hb und8 rfl (by rw [size8]; rfl) ?_)
                exact hQ _ _ (Grow.refl _) rfl rfl
              refine obls_cons (fun f w' hR hH Q hQ => ?_) ?_
              · skip
                have h5 := hH.get 0 (64, 5) rfl
                clear hH
                refine wpList_view ?_; show wpList _ _ _ [_] ⟨#[_, _, _, _, _, _, _, _, _, _, _, _, _, _, _, _, _, _, _, _, _, _, _, _, _, _, _, _, _, _, _, _, _, _, _, _, _, _, _, _, _, _, _, _, _, _, _, _, _, _, _, _, _, _, _, _, _, _, _, _, _, _, _, _, f 5, _, _, _, _, _, _, _, _, _, _, _, _, _, _, _, _, _, _, _, _, _, _, _, _, _, _, _, _, _, _, _, _, _, _, _, _, _, _, _, _, _, _, _, _], _⟩ _
                rw [show f 5 = _ from h5]
                clear h5
                repeat (first | go_guarded | go_step)
                exact hQ _ _ (Grow.refl _) rfl rfl
              refine obls_cons (fun f w' hR hH Q hQ => ?_) ?_
              · skip
                have h5 := hH.get 0 (64, 5) rfl
                clear hH
                refine wpList_view ?_; show wpList _ _ _ [_] ⟨#[_, _, _, _, _, _, _, _, _, _, _, _, _, _, _, _, _, _, _, _, _, _, _, _, _, _, _, _, _, _, _, _, _, _, _, _, _, _, _, _, _, _, _, _, _, _, _, _, _, _, _, _, _, _, _, _, _, _, _, _, _, _, _, _, f 5, _, _, _, _, _, _, _, _, _, _, _, _, _, _, _, _, _, _, _, _, _, _, _, _, _, _, _, _, _, _, _, _, _, _, _, _, _, _, _, _, _, _, _, _], _⟩ _
                rw [show f 5 = _ from h5]
                clear h5
                repeat (first | go_guarded | go_step)
                exact hQ _ _ (Grow.refl _) rfl rfl
              refine obls_cons (fun f w' hR hH Q hQ => ?_) ?_
              · skip
                have h10 := hH.get 0 (69, 10) rfl
                have h11 := hH.get 1 (70, 11) rfl
                have h12 := hH.get 2 (71, 12) rfl
                have h5 := hH.get 3 (64, 5) rfl
                clear hH
                refine wpList_merge (idx := [none, none, none, none, none, none, none, none, none, none, none, none, none, none, none, none, none, none, none, none, none, none, none, none, none, none, none, none, none, none, none, none, none, none, none, none, none, none, none, none, none, none, none, none, none, none, none, none, none, none, none, none, none, none, none, none, none, none, none, none, none, none, none, none, some 5, none, none, none, none, some 10, some 11, some 12, none, none, none, none, none, none, none, none, none, none, none, none, none, none, none, none, none, none, none, none, none, none, none, none, none, none, none, none, none, none, none, none, none, none, none, none, none]) (by kernel_rfl) ?_; show wpList _ _ _ [_] ⟨#[_, _, _, _, _, _, _, _, _, _, _, _, _, _, _, _, _, _, _, _, _, _, _, _, _, _, _, _, _, _, _, _, _, _, _, _, _, _, _, _, _, _, _, _, _, _, _, _, _, _, _, _, _, _, _, _, _, _, _, _, _, _, _, _, f 5, _, _, _, _, f 10, f 11, f 12, _, _, _, _, _, _, _, _, _, _, _, _, _, _, _, _, _, _, _, _, _, _, _, _, _, _, _, _, _, _, _, _, _, _, _, _, _], _⟩ _
                rw [show f 10 = _ from h10]
                rw [show f 11 = _ from h11]
                rw [show f 12 = _ from h12]
                rw [show f 5 = _ from h5]
                clear h10 h11 h12 h5
                go_wp2_with (go_at_call 42; refine (KH2.out w' (HG7.out.trans hR)).mono ?_; rintro e w1 ⟨rfl, hg1⟩)
                exact hQ _ _ hg1 rfl rfl
              refine obls_cons (fun f w' hR hH Q hQ => ?_) ?_
              · skip
                have h9 := hH.get 0 (68, 9) rfl
                have h13 := hH.get 1 (72, 13) rfl
                have h5 := hH.get 2 (64, 5) rfl
                clear hH
                refine wpList_merge (idx := [none, none, none, none, none, none, none, none, none, none, none, none, none, none, none, none, none, none, none, none, none, none, none, none, none, none, none, none, none, none, none, none, none, none, none, none, none, none, none, none, none, none, none, none, none, none, none, none, none, none, none, none, none, none, none, none, none, none, none, none, none, none, none, none, some 5, none, none, none, some 9, none, none, none, some 13, none, none, none, none, none, none, none, none, none, none, none, none, none, none, none, none, none, none, none, none, none, none, none, none, none, none, none, none, none, none, none, none, none, none, none, none]) (by kernel_rfl) ?_; show wpList _ _ _ [_] ⟨#[_, _, _, _, _, _, _, _, _, _, _, _, _, _, _, _, _, _, _, _, _, _, _, _, _, _, _, _, _, _, _, _, _, _, _, _, _, _, _, _, _, _, _, _, _, _, _, _, _, _, _, _, _, _, _, _, _, _, _, _, _, _, _, _, f 5, _, _, _, f 9, _, _, _, f 13, _, _, _, _, _, _, _, _, _, _, _, _, _, _, _, _, _, _, _, _, _, _, _, _, _, _, _, _, _, _, _, _, _, _, _, _], _⟩ _
                rw [show f 9 = _ from h9]
                rw [show f 13 = _ from h13]
                rw [show f 5 = _ from h5]
                clear h9 h13 h5
                repeat (first | go_guarded | go_step)
                exact hQ _ _ (Grow.refl _) rfl rfl
              refine obls_cons (fun f w' hR hH Q hQ => ?_) ?_
              · skip
                have h5 := hH.get 0 (64, 5) rfl
                have h14 := hH.get 1 (73, 14) rfl
                clear hH
                refine wpList_view ?_; show wpList _ _ _ [_] ⟨#[_, _, _, _, _, _, _, _, _, _, _, _, _, _, _, _, _, _, _, _, _, _, _, _, _, _, _, _, _, _, _, _, _, _, _, _, _, _, _, _, _, _, _, _, _, _, _, _, _, _, _, _, _, _, _, _, _, _, _, _, _, _, _, _, f 5, _, _, _, _, _, _, _, _, f 14, _, _, _, _, _, _, _, _, _, _, _, _, _, _, _, _, _, _, _, _, _, _, _, _, _, _, _, _, _, _, _, _, _, _, _], _⟩ _
                rw [show f 5 = _ from h5]
                rw [show f 14 = _ from h14]
                clear h5 h14
                repeat (first | go_guarded | go_step)
                exact hQ _ _ (Grow.refl _) rfl rfl
              refine obls_cons (fun f w' hR hH Q hQ => ?_) ?_
              · skip
                have h15 := hH.get 0 (74, 15) rfl
                clear hH
                refine wpList_view ?_; show wpList _ _ _ [_] ⟨#[_, _, _, _, _, _, _, _, _, _, _, _, _, _, _, _, _, _, _, _, _, _, _, _, _, _, _, _, _, _, _, _, _, _, _, _, _, _, _, _, _, _, _, _, _, _, _, _, _, _, _, _, _, _, _, _, _, _, _, _, _, _, _, _, _, _, _, _, _, _, _, _, _, _, f 15, _, _, _, _, _, _, _, _, _, _, _, _, _, _, _, _, _, _, _, _, _, _, _, _, _, _, _, _, _, _, _, _, _, _], _⟩ _
                rw [show f 15 = _ from h15]
                clear h15
                repeat (first | go_guarded | go_step)
                exact hQ _ _ (Grow.refl _) rfl rfl
              refine obls_cons (fun f w' hR hH Q hQ => ?_) ?_
              · skip
                have h16 := hH.get 0 (75, 16) rfl
                clear hH
                refine wpList_view ?_; show wpList _ _ _ [_] ⟨#[_, _, _, _, _, _, _, _, _, _, _, _, _, _, _, _, _, _, _, _, _, _, _, _, _, _, _, _, _, _, _, _, _, _, _, _, _, _, _, _, _, _, _, _, _, _, _, _, _, _, _, _, _, _, _, _, _, _, _, _, _, _, _, _, _, _, _, _, _, _, _, _, _, _, _, f 16, _, _, _, _, _, _, _, _, _, _, _, _, _, _, _, _, _, _, _, _, _, _, _, _, _, _, _, _, _, _, _, _, _], _⟩ _
                rw [show f 16 = _ from h16]
                clear h16
                repeat (first | go_guarded | go_step)
                exact hQ _ _ (Grow.refl _) rfl rfl
              refine obls_cons (fun f w' hR hH Q hQ => ?_) ?_
              · skip
                have h16 := hH.get 0 (75, 16) rfl
                clear hH
                refine wpList_view ?_; show wpList _ _ _ [_] ⟨#[_, _, _, _, _, _, _, _, _, _, _, _, _, _, _, _, _, _, _, _, _, _, _, _, _, _, _, _, _, _, _, _, _, _, _, _, _, _, _, _, _, _, _, _, _, _, _, _, _, _, _, _, _, _, _, _, _, _, _, _, _, _, _, _, _, _, _, _, _, _, _, _, _, _, _, f 16, _, _, _, _, _, _, _, _, _, _, _, _, _, _, _, _, _, _, _, _, _, _, _, _, _, _, _, _, _, _, _, _, _], _⟩ _
                rw [show f 16 = _ from h16]
                clear h16
                repeat (first | go_guarded | go_step)
                exact hQ _ _ (Grow.refl _) rfl rfl
              refine obls_cons (fun f w' hR hH Q hQ => ?_) ?_
              · skip
                have h16 := hH.get 0 (75, 16) rfl
                clear hH
                refine wpList_view ?_; show wpList _ _ _ [_] ⟨#[_, _, _, _, _, _, _, _, _, _, _, _, _, _, _, _, _, _, _, _, _, _, _, _, _, _, _, _, _, _, _, _, _, _, _, _, _, _, _, _, _, _, _, _, _, _, _, _, _, _, _, _, _, _, _, _, _, _, _, _, _, _, _, _, _, _, _, _, _, _, _, _, _, _, _, f 16, _, _, _, _, _, _, _, _, _, _, _, _, _, _, _, _, _, _, _, _, _, _, _, _, _, _, _, _, _, _, _, _, _], _⟩ _
                rw [show f 16 = _ from h16]
                clear h16
                repeat (first | go_guarded | go_step)
                exact hQ _ _ (Grow.refl _) rfl rfl
              refine obls_cons (fun f w' hR hH Q hQ => ?_) ?_
              · skip
                have h17 := hH.get 0 (76, 17) rfl
                have h18 := hH.get 1 (77, 18) rfl
                have h19 := hH.get 2 (78, 19) rfl
                have h16 := hH.get 3 (75, 16) rfl
                clear hH
                refine wpList_merge (idx := [none, none, none, none, none, none, none, none, none, none, none, none, none, none, none, none, none, none, none, none, none, none, none, none, none, none, none, none, none, none, none, none, none, none, none, none, none, none, none, none, none, none, none, none, none, none, none, none, none, none, none, none, none, none, none, none, none, none, none, none, none, none, none, none, none, none, none, none, none, none, none, none, none, none, none, some 16, some 17, some 18, some 19, none, none, none, none, none, none, none, none, none, none, none, none, none, none, none, none, none, none, none, none, none, none, none, none, none, none, none, none, none, none]) (by kernel_rfl) ?_; show wpList _ _ _ [_] ⟨#[_, _, _, _, _, _, _, _, _, _, _, _, _, _, _, _, _, _, _, _, _, _, _, _, _, _, _, _, _, _, _, _, _, _, _, _, _, _, _, _, _, _, _, _, _, _, _, _, _, _, _, _, _, _, _, _, _, _, _, _, _, _, _, _, _, _, _, _, _, _, _, _, _, _, _, f 16, f 17, f 18, f 19, _, _, _, _, _, _, _, _, _, _, _, _, _, _, _, _, _, _, _, _, _, _, _, _, _, _, _, _, _, _], _⟩ _
                rw [show f 17 = _ from h17]
                rw [show f 18 = _ from h18]
                rw [show f 19 = _ from h19]
                rw [show f 16 = _ from h16]
                clear h17 h18 h19 h16
                go_wp2_with (go_at_call 46; refine (KA1.out w' (HG7.out.trans hR)).mono ?_; rintro e w1 ⟨rfl, rfl⟩)
                exact hQ _ _ (Grow.refl _) rfl rfl
              refine obls_cons (fun f w' hR hH Q hQ => ?_) ?_
              · skip
                have h16 := hH.get 0 (75, 16) rfl
                clear hH
                refine wpList_view ?_; show wpList _ _ _ [_] ⟨#[_, _, _, _, _, _, _, _, _, _, _, _, _, _, _, _, _, _, _, _, _, _, _, _, _, _, _, _, _, _, _, _, _, _, _, _, _, _, _, _, _, _, _, _, _, _, _, _, _, _, _, _, _, _, _, _, _, _, _, _, _, _, _, _, _, _, _, _, _, _, _, _, _, _, _, f 16, _, _, _, _, _, _, _, _, _, _, _, _, _, _, _, _, _, _, _, _, _, _, _, _, _, _, _, _, _, _, _, _, _], _⟩ _
                rw [show f 16 = _ from h16]
                clear h16
                have hb := HB8.out.grow (HG7.out.trans hR)
                go_wp2_with (refine load_blk rfl _ _ rfl b8 rfl _ _ _ hb und8 rfl (by rw [size8]; rfl) ?_)
                exact hQ _ _ (Grow.refl _) rfl rfl
              refine obls_cons (fun f w' hR hH Q hQ => ?_) ?_
              · skip
                have h16 := hH.get 0 (75, 16) rfl
                clear hH
                refine wpList_view ?_; show wpList _ _ _ [_] ⟨#[_, _, _, _, _, _, _, _, _, _, _, _, _, _, _, _, _, _, _, _, _, _, _, _, _, _, _, _, _, _, _, _, _, _, _, _, _, _, _, _, _, _, _, _, _, _, _, _, _, _, _, _, _, _, _, _, _, _, _, _, _, _, _, _, _, _, _, _, _, _, _, _, _, _, _, f 16, _, _, _, _, _, _, _, _, _, _, _, _, _, _, _, _, _, _, _, _, _, _, _, _, _, _, _, _, _, _, _, _, _], _⟩ _
                rw [show f 16 = _ from h16]
                clear h16
                repeat (first | go_guarded | go_step)
                exact hQ _ _ (Grow.refl _) rfl rfl
              refine obls_cons (fun f w' hR hH Q hQ => ?_) ?_
              · skip
                have h16 := hH.get 0 (75, 16) rfl
                clear hH
                refine wpList_view ?_; show wpList _ _ _ [_] ⟨#[_, _, _, _, _, _, _, _, _, _, _, _, _, _, _, _, _, _, _, _, _, _, _, _, _, _, _, _, _, _, _, _, _, _, _, _, _, _, _, _, _, _, _, _, _, _, _, _, _, _, _, _, _, _, _, _, _, _, _, _, _, _, _, _, _, _, _, _, _, _, _, _, _, _, _, f 16, _, _, _, _, _, _, _, _, _, _, _, _, _, _, _, _, _, _, _, _, _, _, _, _, _, _, _, _, _, _, _, _, _], _⟩ _
                rw [show f 16 = _ from h16]
                clear h16
                repeat (first | go_guarded | go_step)
                exact hQ _ _ (Grow.refl _) rfl rfl
              refine obls_cons (fun f w' hR hH Q hQ => ?_) ?_
              · skip
                have h21 := hH.get 0 (80, 21) rfl
                have h22 := hH.get 1 (81, 22) rfl
                have h23 := hH.get 2 (82, 23) rfl
                have h16 := hH.get 3 (75, 16) rfl
                clear hH
                refine wpList_merge (idx := [none, none, none, none, none, none, none, none, none, none, none, none, none, none, none, none, none, none, none, none, none, none, none, none, none, none, none, none, none, none, none, none, none, none, none, none, none, none, none, none, none, none, none, none, none, none, none, none, none, none, none, none, none, none, none, none, none, none, none, none, none, none, none, none, none, none, none, none, none, none, none, none, none, none, none, some 16, none, none, none, none, some 21, some 22, some 23, none, none, none, none, none, none, none, none, none, none, none, none, none, none, none, none, none, none, none, none, none, none, none, none, none, none]) (by kernel_rfl) ?_; show wpList _ _ _ [_] ⟨#[_, _, _, _, _, _, _, _, _, _, _, _, _, _, _, _, _, _, _, _, _, _, _, _, _, _, _, _, _, _, _, _, _, _, _, _, _, _, _, _, _, _, _, _, _, _, _, _, _, _, _, _, _, _, _, _, _, _, _, _, _, _, _, _, _, _, _, _, _, _, _, _, _, _, _, f 16, _, _, _, _, f 21, f 22, f 23, _, _, _, _, _, _, _, _, _, _, _, _, _, _, _, _, _, _, _, _, _, _, _, _, _, _], _⟩ _
                rw [show f 21 = _ from h21]
                rw [show f 22 = _ from h22]
                rw [show f 23 = _ from h23]
                rw [show f 16 = _ from h16]
                clear h21 h22 h23 h16
                go_wp2_with (go_at_call 47; refine (KA2.out w' (HG7.out.trans hR)).mono ?_; rintro e w1 ⟨rfl, hg1⟩)
                exact hQ _ _ hg1 rfl rfl
              refine obls_cons (fun f w' hR hH Q hQ => ?_) ?_
              · skip
                have h20 := hH.get 0 (79, 20) rfl
                have h24 := hH.get 1 (83, 24) rfl
                have h16 := hH.get 2 (75, 16) rfl
                clear hH
                refine wpList_merge (idx := [none, none, none, none, none, none, none, none, none, none, none, none, none, none, none, none, none, none, none, none, none, none, none, none, none, none, none, none, none, none, none, none, none, none, none, none, none, none, none, none, none, none, none, none, none, none, none, none, none, none, none, none, none, none, none, none, none, none, none, none, none, none, none, none, none, none, none, none, none, none, none, none, none, none, none, some 16, none, none, none, some 20, none, none, none, some 24, none, none, none, none, none, none, none, none, none, none, none, none, none, none, none, none, none, none, none, none, none, none, none, none, none]) (by kernel_rfl) ?_; show wpList _ _ _ [_] ⟨#[_, _, _, _, _, _, _, _, _, _, _, _, _, _, _, _, _, _, _, _, _, _, _, _, _, _, _, _, _, _, _, _, _, _, _, _, _, _, _, _, _, _, _, _, _, _, _, _, _, _, _, _, _, _, _, _, _, _, _, _, _, _, _, _, _, _, _, _, _, _, _, _, _, _, _, f 16, _, _, _, f 20, _, _, _, f 24, _, _, _, _, _, _, _, _, _, _, _, _, _, _, _, _, _, _, _, _, _, _, _, _, _], _⟩ _
                rw [show f 20 = _ from h20]
                rw [show f 24 = _ from h24]
                rw [show f 16 = _ from h16]
                clear h20 h24 h16
                repeat (first | go_guarded | go_step)
                exact hQ _ _ (Grow.refl _) rfl rfl
              refine obls_cons (fun f w' hR hH Q hQ => ?_) ?_
              · skip
                have h16 := hH.get 0 (75, 16) rfl
                have h25 := hH.get 1 (84, 25) rfl
                clear hH
                refine wpList_view ?_; show wpList _ _ _ [_] ⟨#[_, _, _, _, _, _, _, _, _, _, _, _, _, _, _, _, _, _, _, _, _, _, _, _, _, _, _, _, _, _, _, _, _, _, _, _, _, _, _, _, _, _, _, _, _, _, _, _, _, _, _, _, _, _, _, _, _, _, _, _, _, _, _, _, _, _, _, _, _, _, _, _, _, _, _, f 16, _, _, _, _, _, _, _, _, f 25, _, _, _, _, _, _, _, _, _, _, _, _, _, _, _, _, _, _, _, _, _, _, _, _], _⟩ _
                rw [show f 16 = _ from h16]
                rw [show f 25 = _ from h25]
                clear h16 h25
                repeat (first | go_guarded | go_step)
                exact hQ _ _ (Grow.refl _) rfl rfl
              refine obls_cons (fun f w' hR hH Q hQ => ?_) ?_
              · skip
                have h26 := hH.get 0 (85, 26) rfl
                clear hH
                refine wpList_view ?_; show wpList _ _ _ [_] ⟨#[_, _, _, _, _, _, _, _, _, _, _, _, _, _, _, _, _, _, _, _, _, _, _, _, _, _, _, _, _, _, _, _, _, _, _, _, _, _, _, _, _, _, _, _, _, _, _, _, _, _, _, _, _, _, _, _, _, _, _, _, _, _, _, _, _, _, _, _, _, _, _, _, _, _, _, _, _, _, _, _, _, _, _, _, _, f 26, _, _, _, _, _, _, _, _, _, _, _, _, _, _, _, _, _, _, _, _, _, _, _], _⟩ _
                rw [show f 26 = _ from h26]
                clear h26
                repeat (first | go_guarded | go_step)
                exact hQ _ _ (Grow.refl _) rfl rfl
              refine obls_cons (fun f w' hR hH Q hQ => ?_) ?_
              · skip
                have h27 := hH.get 0 (86, 27) rfl
                clear hH
                refine wpList_view ?_; show wpList _ _ _ [_] ⟨#[_, _, _, _, _, _, _, _, _, _, _, _, _, _, _, _, _, _, _, _, _, _, _, _, _, _, _, _, _, _, _, _, _, _, _, _, _, _, _, _, _, _, _, _, _, _, _, _, _, _, _, _, _, _, _, _, _, _, _, _, _, _, _, _, _, _, _, _, _, _, _, _, _, _, _, _, _, _, _, _, _, _, _, _, _, _, f 27, _, _, _, _, _, _, _, _, _, _, _, _, _, _, _, _, _, _, _, _, _, _], _⟩ _
                rw [show f 27 = _ from h27]
                clear h27
                repeat (first | go_guarded | go_step)
                exact hQ _ _ (Grow.refl _) rfl rfl
              refine obls_cons (fun f w' hR hH Q hQ => ?_) ?_
              · skip
                have h27 := hH.get 0 (86, 27) rfl
                clear hH
                refine wpList_view ?_; show wpList _ _ _ [_] ⟨#[_, _, _, _, _, _, _, _, _, _, _, _, _, _, _, _, _, _, _, _, _, _, _, _, _, _, _, _, _, _, _, _, _, _, _, _, _, _, _, _, _, _, _, _, _, _, _, _, _, _, _, _, _, _, _, _, _, _, _, _, _, _, _, _, _, _, _, _, _, _, _, _, _, _, _, _, _, _, _, _, _, _, _, _, _, _, f 27, _, _, _, _, _, _, _, _, _, _, _, _, _, _, _, _, _, _, _, _, _, _], _⟩ _
                rw [show f 27 = _ from h27]
                clear h27
                repeat (first | go_guarded | go_step)
                exact hQ _ _ (Grow.refl _) rfl rfl
              refine obls_cons (fun f w' hR hH Q hQ => ?_) ?_
              · skip
                have h27 := hH.get 0 (86, 27) rfl
                clear hH
                refine wpList_view ?_; show wpList _ _ _ [_] ⟨#[_, _, _, _, _, _, _, _, _, _, _, _, _, _, _, _, _, _, _, _, _, _, _, _, _, _, _, _, _, _, _, _, _, _, _, _, _, _, _, _, _, _, _, _, _, _, _, _, _, _, _, _, _, _, _, _, _, _, _, _, _, _, _, _, _, _, _, _, _, _, _, _, _, _, _, _, _, _, _, _, _, _, _, _, _, _, f 27, _, _, _, _, _, _, _, _, _, _, _, _, _, _, _, _, _, _, _, _, _, _], _⟩ _
                rw [show f 27 = _ from h27]
                clear h27
                repeat (first | go_guarded | go_step)
                exact hQ _ _ (Grow.refl _) rfl rfl
              refine obls_cons (fun f w' hR hH Q hQ => ?_) ?_
              · skip
                have h28 := hH.get 0 (87, 28) rfl
                have h29 := hH.get 1 (88, 29) rfl
                have h30 := hH.get 2 (89, 30) rfl
                have h27 := hH.get 3 (86, 27) rfl
                clear hH
                refine wpList_merge (idx := [none, none, none, none, none, none, none, none, none, none, none, none, none, none, none, none, none, none, none, none, none, none, none, none, none, none, none, none, none, none, none, none, none, none, none, none, none, none, none, none, none, none, none, none, none, none, none, none, none, none, none, none, none, none, none, none, none, none, none, none, none, none, none, none, none, none, none, none, none, none, none, none, none, none, none, none, none, none, none, none, none, none, none, none, none, none, some 27, some 28, some 29, some 30, none, none, none, none, none, none, none, none, none, none, none, none, none, none, none, none, none, none, none]) (by kernel_rfl) ?_; show wpList _ _ _ [_] ⟨#[_, _, _, _, _, _, _, _, _, _, _, _, _, _, _, _, _, _, _, _, _, _, _, _, _, _, _, _, _, _, _, _, _, _, _, _, _, _, _, _, _, _, _, _, _, _, _, _, _, _, _, _, _, _, _, _, _, _, _, _, _, _, _, _, _, _, _, _, _, _, _, _, _, _, _, _, _, _, _, _, _, _, _, _, _, _, f 27, f 28, f 29, f 30, _, _, _, _, _, _, _, _, _, _, _, _, _, _, _, _, _, _, _], _⟩ _
                rw [show f 28 = _ from h28]
                rw [show f 29 = _ from h29]
                rw [show f 30 = _ from h30]
                rw [show f 27 = _ from h27]
                clear h28 h29 h30 h27
                go_wp2_with (go_at_call 48; refine (KB1.out w' (HG7.out.trans hR)).mono ?_; rintro e w1 ⟨rfl, rfl⟩)
                exact hQ _ _ (Grow.refl _) rfl rfl
              refine obls_cons (fun f w' hR hH Q hQ => ?_) ?_
              · skip
                have h27 := hH.get 0 (86, 27) rfl
                clear hH
                refine wpList_view ?_; show wpList _ _ _ [_] ⟨#[_, _, _, _, _, _, _, _, _, _, _, _, _, _, _, _, _, _, _, _, _, _, _, _, _, _, _, _, _, _, _, _, _, _, _, _, _, _, _, _, _, _, _, _, _, _, _, _, _, _, _, _, _, _, _, _, _, _, _, _, _, _, _, _, _, _, _, _, _, _, _, _, _, _, _, _, _, _, _, _, _, _, _, _, _, _, f 27, _, _, _, _, _, _, _, _, _, _, _, _, _, _, _, _, _, _, _, _, _, _], _⟩ _
                rw [show f 27 = _ from h27]
                clear h27
                have hb := HB8.out.grow (HG7.out.trans hR)
                go_wp2_with (refine load_blk rfl _ _ rfl b8 rfl _ _ _ hb und8 rfl (by rw [size8]; rfl) ?_)
                exact hQ _ _ (Grow.refl _) rfl rfl
              refine obls_cons (fun f w' hR hH Q hQ => ?_) ?_
              · skip
                have h27 := hH.get 0 (86, 27) rfl
                clear hH
                refine wpList_view ?_; show wpList _ _ _ [_] ⟨#[_, _, _, _, _, _, _, _, _, _, _, _, _, _, _, _, _, _, _, _, _, _, _, _, _, _, _, _, _, _, _, _, _, _, _, _, _, _, _, _, _, _, _, _, _, _, _, _, _, _, _, _, _, _, _, _, _, _, _, _, _, _, _, _, _, _, _, _, _, _, _, _, _, _, _, _, _, _, _, _, _, _, _, _, _, _, f 27, _, _, _, _, _, _, _, _, _, _, _, _, _, _, _, _, _, _, _, _, _, _], _⟩ _
                rw [show f 27 = _ from h27]
                clear h27
                repeat (first | go_guarded | go_step)
                exact hQ _ _ (Grow.refl _) rfl rfl
              refine obls_cons (fun f w' hR hH Q hQ => ?_) ?_
              · skip
                have h27 := hH.get 0 (86, 27) rfl
                clear hH
                refine wpList_view ?_; show wpList _ _ _ [_] ⟨#[_, _, _, _, _, _, _, _, _, _, _, _, _, _, _, _, _, _, _, _, _, _, _, _, _, _, _, _, _, _, _, _, _, _, _, _, _, _, _, _, _, _, _, _, _, _, _, _, _, _, _, _, _, _, _, _, _, _, _, _, _, _, _, _, _, _, _, _, _, _, _, _, _, _, _, _, _, _, _, _, _, _, _, _, _, _, f 27, _, _, _, _, _, _, _, _, _, _, _, _, _, _, _, _, _, _, _, _, _, _], _⟩ _
                rw [show f 27 = _ from h27]
                clear h27
                repeat (first | go_guarded | go_step)
                exact hQ _ _ (Grow.refl _) rfl rfl
              refine obls_cons (fun f w' hR hH Q hQ => ?_) ?_
              · skip
                have h32 := hH.get 0 (91, 32) rfl
                have h33 := hH.get 1 (92, 33) rfl
                have h34 := hH.get 2 (93, 34) rfl
                have h27 := hH.get 3 (86, 27) rfl
                clear hH
                refine wpList_merge (idx := [none, none, none, none, none, none, none, none, none, none, none, none, none, none, none, none, none, none, none, none, none, none, none, none, none, none, none, none, none, none, none, none, none, none, none, none, none, none, none, none, none, none, none, none, none, none, none, none, none, none, none, none, none, none, none, none, none, none, none, none, none, none, none, none, none, none, none, none, none, none, none, none, none, none, none, none, none, none, none, none, none, none, none, none, none, none, some 27, none, none, none, none, some 32, some 33, some 34, none, none, none, none, none, none, none, none, none, none, none, none, none, none, none]) (by kernel_rfl) ?_; show wpList _ _ _ [_] ⟨#[_, _, _, _, _, _, _, _, _, _, _, _, _, _, _, _, _, _, _, _, _, _, _, _, _, _, _, _, _, _, _, _, _, _, _, _, _, _, _, _, _, _, _, _, _, _, _, _, _, _, _, _, _, _, _, _, _, _, _, _, _, _, _, _, _, _, _, _, _, _, _, _, _, _, _, _, _, _, _, _, _, _, _, _, _, _, f 27, _, _, _, _, f 32, f 33, f 34, _, _, _, _, _, _, _, _, _, _, _, _, _, _, _], _⟩ _
                rw [show f 32 = _ from h32]
                rw [show f 33 = _ from h33]
                rw [show f 34 = _ from h34]
                rw [show f 27 = _ from h27]
                clear h32 h33 h34 h27
                go_wp2_with (go_at_call 49; refine (KB2.out w' (HG7.out.trans hR)).mono ?_; rintro e w1 ⟨rfl, hg1⟩)
                exact hQ _ _ hg1 rfl rfl
              refine obls_cons (fun f w' hR hH Q hQ => ?_) ?_
              · skip
                have h31 := hH.get 0 (90, 31) rfl
                have h35 := hH.get 1 (94, 35) rfl
                have h27 := hH.get 2 (86, 27) rfl
                clear hH
                refine wpList_merge (idx := [none, none, none, none, none, none, none, none, none, none, none, none, none, none, none, none, none, none, none, none, none, none, none, none, none, none, none, none, none, none, none, none, none, none, none, none, none, none, none, none, none, none, none, none, none, none, none, none, none, none, none, none, none, none, none, none, none, none, none, none, none, none, none, none, none, none, none, none, none, none, none, none, none, none, none, none, none, none, none, none, none, none, none, none, none, none, some 27, none, none, none, some 31, none, none, none, some 35, none, none, none, none, none, none, none, none, none, none, none, none, none, none]) (by kernel_rfl) ?_; show wpList _ _ _ [_] ⟨#[_, _, _, _, _, _, _, _, _, _, _, _, _, _, _, _, _, _, _, _, _, _, _, _, _, _, _, _, _, _, _, _, _, _, _, _, _, _, _, _, _, _, _, _, _, _, _, _, _, _, _, _, _, _, _, _, _, _, _, _, _, _, _, _, _, _, _, _, _, _, _, _, _, _, _, _, _, _, _, _, _, _, _, _, _, _, f 27, _, _, _, f 31, _, _, _, f 35, _, _, _, _, _, _, _, _, _, _, _, _, _, _], _⟩ _
                rw [show f 31 = _ from h31]
                rw [show f 35 = _ from h35]
                rw [show f 27 = _ from h27]
                clear h31 h35 h27
                repeat (first | go_guarded | go_step)
                exact hQ _ _ (Grow.refl _) rfl rfl
              refine obls_cons (fun f w' hR hH Q hQ => ?_) ?_
              · skip
                have h27 := hH.get 0 (86, 27) rfl
                have h36 := hH.get 1 (95, 36) rfl
                clear hH
                refine wpList_view ?_; show wpList _ _ _ [_] ⟨#[_, _, _, _, _, _, _, _, _, _, _, _, _, _, _, _, _, _, _, _, _, _, _, _, _, _, _, _, _, _, _, _, _, _, _, _, _, _, _, _, _, _, _, _, _, _, _, _, _, _, _, _, _, _, _, _, _, _, _, _, _, _, _, _, _, _, _, _, _, _, _, _, _, _, _, _, _, _, _, _, _, _, _, _, _, _, f 27, _, _, _, _, _, _, _, _, f 36, _, _, _, _, _, _, _, _, _, _, _, _, _], _⟩ _
                rw [show f 27 = _ from h27]
                rw [show f 36 = _ from h36]
                clear h27 h36
                repeat (first | go_guarded | go_step)
                exact hQ _ _ (Grow.refl _) rfl rfl
              refine obls_cons (fun f w' hR hH Q hQ => ?_) ?_
              · skip
                have h37 := hH.get 0 (96, 37) rfl
                clear hH
                refine wpList_view ?_; show wpList _ _ _ [_] ⟨#[_, _, _, _, _, _, _, _, _, _, _, _, _, _, _, _, _, _, _, _, _, _, _, _, _, _, _, _, _, _, _, _, _, _, _, _, _, _, _, _, _, _, _, _, _, _, _, _, _, _, _, _, _, _, _, _, _, _, _, _, _, _, _, _, _, _, _, _, _, _, _, _, _, _, _, _, _, _, _, _, _, _, _, _, _, _, _, _, _, _, _, _, _, _, _, _, f 37, _, _, _, _, _, _, _, _, _, _, _, _], _⟩ _
                rw [show f 37 = _ from h37]
                clear h37
                repeat (first | go_guarded | go_step)
                exact hQ _ _ (Grow.refl _) rfl rfl
              refine obls_cons (fun f w' hR hH Q hQ => ?_) ?_
              · skip
                have h38 := hH.get 0 (97, 38) rfl
                clear hH
                refine wpList_view ?_; show wpList _ _ _ [_] ⟨#[_, _, _, _, _, _, _, _, _, _, _, _, _, _, _, _, _, _, _, _, _, _, _, _, _, _, _, _, _, _, _, _, _, _, _, _, _, _, _, _, _, _, _, _, _, _, _, _, _, _, _, _, _, _, _, _, _, _, _, _, _, _, _, _, _, _, _, _, _, _, _, _, _, _, _, _, _, _, _, _, _, _, _, _, _, _, _, _, _, _, _, _, _, _, _, _, _, f 38, _, _, _, _, _, _, _, _, _, _, _], _⟩ _
                rw [show f 38 = _ from h38]
                clear h38
                repeat (first | go_guarded | go_step)
                exact hQ _ _ (Grow.refl _) rfl rfl
              refine obls_cons (fun f w' hR hH Q hQ => ?_) ?_
              · skip
                have h38 := hH.get 0 (97, 38) rfl
                clear hH
                refine wpList_view ?_; show wpList _ _ _ [_] ⟨#[_, _, _, _, _, _, _, _, _, _, _, _, _, _, _, _, _, _, _, _, _, _, _, _, _, _, _, _, _, _, _, _, _, _, _, _, _, _, _, _, _, _, _, _, _, _, _, _, _, _, _, _, _, _, _, _, _, _, _, _, _, _, _, _, _, _, _, _, _, _, _, _, _, _, _, _, _, _, _, _, _, _, _, _, _, _, _, _, _, _, _, _, _, _, _, _, _, f 38, _, _, _, _, _, _, _, _, _, _, _], _⟩ _
                rw [show f 38 = _ from h38]
                clear h38
                repeat (first | go_guarded | go_step)
                exact hQ _ _ (Grow.refl _) rfl rfl
              refine obls_cons (fun f w' hR hH Q hQ => ?_) ?_
              · skip
                have h39 := hH.get 0 (98, 39) rfl
                have h40 := hH.get 1 (99, 40) rfl
                have h38 := hH.get 2 (97, 38) rfl
                clear hH
                refine wpList_merge (idx := [none, none, none, none, none, none, none, none, none, none, none, none, none, none, none, none, none, none, none, none, none, none, none, none, none, none, none, none, none, none, none, none, none, none, none, none, none, none, none, none, none, none, none, none, none, none, none, none, none, none, none, none, none, none, none, none, none, none, none, none, none, none, none, none, none, none, none, none, none, none, none, none, none, none, none, none, none, none, none, none, none, none, none, none, none, none, none, none, none, none, none, none, none, none, none, none, none, some 38, some 39, some 40, none, none, none, none, none, none, none, none, none]) (by kernel_rfl) ?_; show wpList _ _ _ [_] ⟨#[_, _, _, _, _, _, _, _, _, _, _, _, _, _, _, _, _, _, _, _, _, _, _, _, _, _, _, _, _, _, _, _, _, _, _, _, _, _, _, _, _, _, _, _, _, _, _, _, _, _, _, _, _, _, _, _, _, _, _, _, _, _, _, _, _, _, _, _, _, _, _, _, _, _, _, _, _, _, _, _, _, _, _, _, _, _, _, _, _, _, _, _, _, _, _, _, _, f 38, f 39, f 40, _, _, _, _, _, _, _, _, _], _⟩ _
                rw [show f 39 = _ from h39]
                rw [show f 40 = _ from h40]
                rw [show f 38 = _ from h38]
                clear h39 h40 h38
                go_wp2_with (go_at_call 43; refine (KG1.out w' (HG7.out.trans hR)).mono ?_; rintro e w1 ⟨rfl, rfl⟩)
                exact hQ _ _ (Grow.refl _) rfl rfl
              refine obls_cons (fun f w' hR hH Q hQ => ?_) ?_
              · skip
                have h38 := hH.get 0 (97, 38) rfl
                clear hH
                refine wpList_view ?_; show wpList _ _ _ [_] ⟨#[_, _, _, _, _, _, _, _, _, _, _, _, _, _, _, _, _, _, _, _, _, _, _, _, _, _, _, _, _, _, _, _, _, _, _, _, _, _, _, _, _, _, _, _, _, _, _, _, _, _, _, _, _, _, _, _, _, _, _, _, _, _, _, _, _, _, _, _, _, _, _, _, _, _, _, _, _, _, _, _, _, _, _, _, _, _, _, _, _, _, _, _, _, _, _, _, _, f 38, _, _, _, _, _, _, _, _, _, _, _], _⟩ _
                rw [show f 38 = _ from h38]
                clear h38
                have hb := HB8.out.grow (HG7.out.trans hR)
                go_wp2_with (refine load_blk rfl _ _ rfl b8 rfl _ _ _ hb und8 rfl (by rw [size8]; rfl) ?_)
                exact hQ _ _ (Grow.refl _) rfl rfl
              refine obls_cons (fun f w' hR hH Q hQ => ?_) ?_
              · skip
                have h38 := hH.get 0 (97, 38) rfl
                clear hH
                refine wpList_view ?_; show wpList _ _ _ [_] ⟨#[_, _, _, _, _, _, _, _, _, _, _, _, _, _, _, _, _, _, _, _, _, _, _, _, _, _, _, _, _, _, _, _, _, _, _, _, _, _, _, _, _, _, _, _, _, _, _, _, _, _, _, _, _, _, _, _, _, _, _, _, _, _, _, _, _, _, _, _, _, _, _, _, _, _, _, _, _, _, _, _, _, _, _, _, _, _, _, _, _, _, _, _, _, _, _, _, _, f 38, _, _, _, _, _, _, _, _, _, _, _], _⟩ _
                rw [show f 38 = _ from h38]
                clear h38
                repeat (first | go_guarded | go_step)
                exact hQ _ _ (Grow.refl _) rfl rfl
              refine obls_cons (fun f w' hR hH Q hQ => ?_) ?_
              · skip
                have h42 := hH.get 0 (101, 42) rfl
                have h43 := hH.get 1 (102, 43) rfl
                have h38 := hH.get 2 (97, 38) rfl
                clear hH
                refine wpList_merge (idx := [none, none, none, none, none, none, none, none, none, none, none, none, none, none, none, none, none, none, none, none, none, none, none, none, none, none, none, none, none, none, none, none, none, none, none, none, none, none, none, none, none, none, none, none, none, none, none, none, none, none, none, none, none, none, none, none, none, none, none, none, none, none, none, none, none, none, none, none, none, none, none, none, none, none, none, none, none, none, none, none, none, none, none, none, none, none, none, none, none, none, none, none, none, none, none, none, none, some 38, none, none, none, some 42, some 43, none, none, none, none, none, none]) (by kernel_rfl) ?_; show wpList _ _ _ [_] ⟨#[_, _, _, _, _, _, _, _, _, _, _, _, _, _, _, _, _, _, _, _, _, _, _, _, _, _, _, _, _, _, _, _, _, _, _, _, _, _, _, _, _, _, _, _, _, _, _, _, _, _, _, _, _, _, _, _, _, _, _, _, _, _, _, _, _, _, _, _, _, _, _, _, _, _, _, _, _, _, _, _, _, _, _, _, _, _, _, _, _, _, _, _, _, _, _, _, _, f 38, _, _, _, f 42, f 43, _, _, _, _, _, _], _⟩ _
                rw [show f 42 = _ from h42]
                rw [show f 43 = _ from h43]
                rw [show f 38 = _ from h38]
                clear h42 h43 h38
                go_wp2_with (go_at_call 44; refine (KG2.out w' (HG7.out.trans hR)).mono ?_; rintro e w1 ⟨rfl, hg1⟩)
                exact hQ _ _ hg1 rfl rfl
              refine obls_cons (fun f w' hR hH Q hQ => ?_) ?_
              · skip
                have h41 := hH.get 0 (100, 41) rfl
                have h44 := hH.get 1 (103, 44) rfl
                have h38 := hH.get 2 (97, 38) rfl
                clear hH
                refine wpList_merge (idx := [none, none, none, none, none, none, none, none, none, none, none, none, none, none, none, none, none, none, none, none, none, none, none, none, none, none, none, none, none, none, none, none, none, none, none, none, none, none, none, none, none, none, none, none, none, none, none, none, none, none, none, none, none, none, none, none, none, none, none, none, none, none, none, none, none, none, none, none, none, none, none, none, none, none, none, none, none, none, none, none, none, none, none, none, none, none, none, none, none, none, none, none, none, none, none, none, none, some 38, none, none, some 41, none, none, some 44, none, none, none, none, none]) (by kernel_rfl) ?_; show wpList _ _ _ [_] ⟨#[_, _, _, _, _, _, _, _, _, _, _, _, _, _, _, _, _, _, _, _, _, _, _, _, _, _, _, _, _, _, _, _, _, _, _, _, _, _, _, _, _, _, _, _, _, _, _, _, _, _, _, _, _, _, _, _, _, _, _, _, _, _, _, _, _, _, _, _, _, _, _, _, _, _, _, _, _, _, _, _, _, _, _, _, _, _, _, _, _, _, _, _, _, _, _, _, _, f 38, _, _, f 41, _, _, f 44, _, _, _, _, _], _⟩ _
                rw [show f 41 = _ from h41]
                rw [show f 44 = _ from h44]
                rw [show f 38 = _ from h38]
                clear h41 h44 h38
                repeat (first | go_guarded | go_step)
                exact hQ _ _ (Grow.refl _) rfl rfl
              refine obls_cons (fun f w' hR hH Q hQ => ?_) ?_
              · skip
                have h38 := hH.get 0 (97, 38) rfl
                have h45 := hH.get 1 (104, 45) rfl
                clear hH
                refine wpList_view ?_; show wpList _ _ _ [_] ⟨#[_, _, _, _, _, _, _, _, _, _, _, _, _, _, _, _, _, _, _, _, _, _, _, _, _, _, _, _, _, _, _, _, _, _, _, _, _, _, _, _, _, _, _, _, _, _, _, _, _, _, _, _, _, _, _, _, _, _, _, _, _, _, _, _, _, _, _, _, _, _, _, _, _, _, _, _, _, _, _, _, _, _, _, _, _, _, _, _, _, _, _, _, _, _, _, _, _, f 38, _, _, _, _, _, _, f 45, _, _, _, _], _⟩ _
                rw [show f 38 = _ from h38]
                rw [show f 45 = _ from h45]
                clear h38 h45
                repeat (first | go_guarded | go_step)
                exact hQ _ _ (Grow.refl _) rfl rfl
              refine obls_cons (fun f w' hR hH Q hQ => ?_) ?_
              · skip
                have h46 := hH.get 0 (105, 46) rfl
                clear hH
                refine wpList_view ?_; show wpList _ _ _ [_] ⟨#[_, _, _, _, _, _, _, _, _, _, _, _, _, _, _, _, _, _, _, _, _, _, _, _, _, _, _, _, _, _, _, _, _, _, _, _, _, _, _, _, _, _, _, _, _, _, _, _, _, _, _, _, _, _, _, _, _, _, _, _, _, _, _, _, _, _, _, _, _, _, _, _, _, _, _, _, _, _, _, _, _, _, _, _, _, _, _, _, _, _, _, _, _, _, _, _, _, _, _, _, _, _, _, _, _, f 46, _, _, _], _⟩ _
                rw [show f 46 = _ from h46]
                clear h46
                repeat (first | go_guarded | go_step)
                exact hQ _ _ (Grow.refl _) rfl rfl
              refine obls_cons (fun f w' hR hH Q hQ => ?_) ?_
              · skip
                have h47 := hH.get 0 (106, 47) rfl
                clear hH
                refine wpList_view ?_; show wpList _ _ _ [_] ⟨#[_, _, _, _, _, _, _, _, _, _, _, _, _, _, _, _, _, _, _, _, _, _, _, _, _, _, _, _, _, _, _, _, _, _, _, _, _, _, _, _, _, _, _, _, _, _, _, _, _, _, _, _, _, _, _, _, _, _, _, _, _, _, _, _, _, _, _, _, _, _, _, _, _, _, _, _, _, _, _, _, _, _, _, _, _, _, _, _, _, _, _, _, _, _, _, _, _, _, _, _, _, _, _, _, _, _, f 47, _, _], _⟩ _
                rw [show f 47 = _ from h47]
                clear h47
                go_wp2_with (go_at_call 38; refine (works_any w').mono ?_; rintro e w1 ⟨rfl, hg1⟩)
                exact hQ _ _ hg1 rfl rfl
              refine obls_cons (fun f w' hR hH Q hQ => ?_) ?_
              · skip
                have h47 := hH.get 0 (106, 47) rfl
                have h48 := hH.get 1 (107, 48) rfl
                clear hH
                refine wpList_view ?_; show wpList _ _ _ [_] ⟨#[_, _, _, _, _, _, _, _, _, _, _, _, _, _, _, _, _, _, _, _, _, _, _, _, _, _, _, _, _, _, _, _, _, _, _, _, _, _, _, _, _, _, _, _, _, _, _, _, _, _, _, _, _, _, _, _, _, _, _, _, _, _, _, _, _, _, _, _, _, _, _, _, _, _, _, _, _, _, _, _, _, _, _, _, _, _, _, _, _, _, _, _, _, _, _, _, _, _, _, _, _, _, _, _, _, _, f 47, f 48, _], _⟩ _
                rw [show f 47 = _ from h47]
                rw [show f 48 = _ from h48]
                clear h47 h48
                repeat (first | go_guarded | go_step)
                exact hQ _ _ (Grow.refl _) rfl rfl
              refine obls_cons (fun f w' hR hH Q hQ => ?_) ?_
              · skip
                have h49 := hH.get 0 (108, 49) rfl
                clear hH
                refine wpList_view ?_; show wpList _ _ _ [_] ⟨#[_, _, _, _, _, _, _, _, _, _, _, _, _, _, _, _, _, _, _, _, _, _, _, _, _, _, _, _, _, _, _, _, _, _, _, _, _, _, _, _, _, _, _, _, _, _, _, _, _, _, _, _, _, _, _, _, _, _, _, _, _, _, _, _, _, _, _, _, _, _, _, _, _, _, _, _, _, _, _, _, _, _, _, _, _, _, _, _, _, _, _, _, _, _, _, _, _, _, _, _, _, _, _, _, _, _, _, _, f 49], _⟩ _
                rw [show f 49 = _ from h49]
                clear h49
                repeat (first | go_guarded | go_step)
                exact hQ _ _ (Grow.refl _) rfl rfl
              exact obls_nil
            case mono => exact ⟨Mono.veq _, Mono.veq _, Mono.veq _, Mono.veq _, Mono.veq _, Mono.veq _, Mono.veq _, Mono.veq _, Mono.veq _, Mono.veq _, Mono.veq _, Mono.veq _, Mono.veq _, Mono.veq _, Mono.veq _, Mono.veq _, Mono.veq _, Mono.veq _, Mono.veq _, Mono.veq _, Mono.veq _, Mono.veq _, Mono.veq _, Mono.veq _, Mono.veq _, Mono.veq _, Mono.veq _, Mono.veq _, Mono.veq _, Mono.veq _, Mono.veq _, Mono.veq _, Mono.veq _, Mono.veq _, Mono.veq _, Mono.veq _, Mono.veq _, Mono.veq _, Mono.veq _, Mono.veq _, Mono.veq _, Mono.veq _, Mono.veq _, Mono.veq _, Mono.veq _, Mono.veq _, Mono.veq _, Mono.veq _, Mono.veq _, Mono.veq _, Mono.veq _, trivial⟩
            case tail =>
              intro f w' hR hH
              have q50 := hH.get 50 (6, 50) rfl
              clear hH
              refine wpList_merge (idx := [none, none, none, none, none, none, some 50, none, none, none, none, none, none, none, none, none, none, none, none, none, none, none, none, none, none, none, none, none, none, none, none, none, none, none, none, none, none, none, none, none, none, none, none, none, none, none, none, none, none, none, none, none, none, none, none, none, none, none, none, some 0, some 1, some 2, some 3, some 4, some 5, some 6, some 7, some 8, some 9, some 10, some 11, some 12, some 13, some 14, some 15, some 16, some 17, some 18, some 19, some 20, some 21, some 22, some 23, some 24, some 25, some 26, some 27, some 28, some 29, some 30, some 31, some 32, some 33, some 34, some 35, some 36, some 37, some 38, some 39, some 40, some 41, some 42, some 43, some 44, some 45, some 46, some 47, some 48, some 49]) (by kernel_rfl) ?_; show wpList _ _ _ [] ⟨#[_, _, _, _, _, _, f 50, _, _, _, _, _, _, _, _, _, _, _, _, _, _, _, _, _, _, _, _, _, _, _, _, _, _, _, _, _, _, _, _, _, _, _, _, _, _, _, _, _, _, _, _, _, _, _, _, _, _, _, _, f 0, f 1, f 2, f 3, f 4, f 5, f 6, f 7, f 8, f 9, f 10, f 11, f 12, f 13, f 14, f 15, f 16, f 17, f 18, f 19, f 20, f 21, f 22, f 23, f 24, f 25, f 26, f 27, f 28, f 29, f 30, f 31, f 32, f 33, f 34, f 35, f 36, f 37, f 38, f 39, f 40, f 41, f 42, f 43, f 44, f 45, f 46, f 47, f 48, f 49], _⟩ _
              rw [show f 50 = _ from q50]
              clear q50
              have HGr := Lib.hid (HG7.out.trans hR)
              clear hR
              go_wp2_with fail
              go_ret
              exact ⟨rfl, HG.out.trans HGr.out⟩
end Go.Proofs.Ytjfohglkpbgkaaa.reL
