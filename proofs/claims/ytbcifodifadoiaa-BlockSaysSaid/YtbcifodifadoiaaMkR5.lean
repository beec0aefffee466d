/- The walk of the law's Ints: are two slices of numbers the same? -/
import Derived.Test.YtbcifodifadoiaaMkR
namespace Go.Proofs.Ytbcifodifadoiaa.mkR
open Go Go.RowKit Go.Par Go.Kit Go.Proofs.Ytbcifodifadoiaa.Mk Go.Proofs.Ytbcifodifadoiaa.mkW

theorem lists_eq {L1 L2 : List Nat} (hl : L1.length = L2.length) (h : ∀ (j x y : Nat), L1[j]? = some x → L2[j]? = some y → x = y) : L1 = L2 := by
  apply List.ext_getElem hl
  intro j h1 h2
  exact h j _ _ (List.getElem?_eq_getElem h1) (List.getElem?_eq_getElem h2)
set_option maxRecDepth 100000 in
set_option maxHeartbeats 1000000 in
theorem ints_any (w : World) (v1 v2 : Value) (L1 L2 : List Nat) (hv1 : IntsV w v1 L1) (hv2 : IntsV w v2 L2) :
    Calls Try.prog 13 #[v1, v2] w fun e w' => e = .returned (.int .i64 (if L1 = L2 then 1 else 0)) ∧ Grow w w' := by
  obtain ⟨A, c, rfl, h1, h2, h3, -⟩ := hv1
  obtain ⟨A2, c2, rfl, g1, g2, g3, -⟩ := hv2
  unfold maxLen at h2 g2
  obtain ⟨r, hr⟩ : ∃ r : Int, r = if L1 = L2 then 1 else 0 := ⟨_, rfl⟩
  rw [← hr]
  have HR := Lib.hid hr
  obtain ⟨n, hn⟩ : ∃ n, n = L1.length := ⟨_, rfl⟩
  obtain ⟨m, hm⟩ : ∃ m, m = L2.length := ⟨_, rfl⟩
  have HN := Lib.hid hn
  have HM := Lib.hid hm
  have HROW := Lib.hid h3
  have HROW2 := Lib.hid g3
  rw [← hn] at h1 ⊢
  rw [← hm] at g1 ⊢
  by_cases hnm : n = m
  · subst hnm
    have t1 : ((n : Int) == (n : Int)) = true := beq_self_eq_true _
    clear hr hn hm h3 g3
    go_enter Try.func13, Try.ntmps13
    go_wp2_with fail
    go_loopw [5] (fun i' wr => ∃ k : Nat, k ≤ n ∧ i' = .int .i64 (k : Int) ∧ Grow w wr ∧ Hid (∀ (j x y : Nat), j < k → L1[j]? = some x → L2[j]? = some y → x = y)) (fun i' _ => n - (intOf i').toNat)
    case atStart => exact ⟨0, by omega, rfl, Grow.refl _, Lib.hid fun j x y h => absurd h (by omega)⟩
    case round =>
      obtain ⟨k, hk, rfl, hg, HI⟩ := hrel
      by_cases hlt : k < n
      · have hrow := HROW.out.grow hg
        have hrow2 := HROW2.out.grow hg
        obtain ⟨b, off, x, rfl, hx, hcell⟩ := Row.nat_at hrow (k := k) (by have := HN.out; omega)
        obtain ⟨b2, off2, y, rfl, hy, hcell2⟩ := Row.nat_at hrow2 (k := k) (by have := HM.out; omega)
        have HX := Lib.hid hx
        have HY := Lib.hid hy
        have HG := Lib.hid hg
        clear hx hy hrow hrow2 hg
        go_wp2_with fail
        apply (fun (v0 v1 v2 v3 v4 v5 v6 v7 v8 : Value) mono obl tail => wp_region_par (R := Grow) (Φ := phi [veq v0, veq v1, veq v2, veq v3, veq v4, veq v5, veq v6, veq v7, veq v8]) (m := 9) (dls := [[], [], [(17, 0), (18, 1)], [(19, 2)], [], [], [(21, 4), (22, 5)], [(23, 6)], [(20, 3), (24, 7)]]) (ds := [17, 18, 19, 20, 21, 22, 23, 24, 25]) (by kernel_rfl) (by kernel_rfl) (by decide) rfl (Grow.drew _) (fun _ _ _ => Grow.trans) (mono_phi mono) obl tail)
        case obl =>
          refine obls_cons (fun f w' hR hH Q hQ => ?_) ?_
          · skip
            clear hH
            refine wpList_view ?_; show wpList _ _ _ [_] ⟨#[_, _, _, _, _, _, _, _, _, _, _, _, _, _, _, _, _, _, _, _, _, _, _, _, _, _], _⟩ _
            repeat (first | go_guarded | go_step)
            exact hQ _ _ (Grow.refl _) rfl rfl
          refine obls_cons (fun f w' hR hH Q hQ => ?_) ?_
          · skip
            clear hH
            refine wpList_view ?_; show wpList _ _ _ [_] ⟨#[_, _, _, _, _, _, _, _, _, _, _, _, _, _, _, _, _, _, _, _, _, _, _, _, _, _], _⟩ _
            repeat (first | go_guarded | go_step)
            exact hQ _ _ (Grow.refl _) rfl rfl
          refine obls_cons (fun f w' hR hH Q hQ => ?_) ?_
          · skip
            have h0 := hH.get 0 (17, 0) rfl
            have h1 := hH.get 1 (18, 1) rfl
            clear hH
            refine wpList_view ?_; show wpList _ _ _ [_] ⟨#[_, _, _, _, _, _, _, _, _, _, _, _, _, _, _, _, _, f 0, f 1, _, _, _, _, _, _, _], _⟩ _
            rw [show f 0 = _ from h0]
            rw [show f 1 = _ from h1]
            clear h0 h1
            repeat (first | go_guarded | go_step)
            exact hQ _ _ (Grow.refl _) rfl rfl
          refine obls_cons (fun f w' hR hH Q hQ => ?_) ?_
          · skip
            have h2 := hH.get 0 (19, 2) rfl
            clear hH
            refine wpList_view ?_; show wpList _ _ _ [_] ⟨#[_, _, _, _, _, _, _, _, _, _, _, _, _, _, _, _, _, _, _, f 2, _, _, _, _, _, _], _⟩ _
            rw [show f 2 = _ from h2]
            clear h2
            have y1 := hR.cell hcell
            repeat (first | go_guarded | go_step)
            exact hQ _ _ (Grow.refl _) rfl rfl
          refine obls_cons (fun f w' hR hH Q hQ => ?_) ?_
          · skip
            clear hH
            refine wpList_view ?_; show wpList _ _ _ [_] ⟨#[_, _, _, _, _, _, _, _, _, _, _, _, _, _, _, _, _, _, _, _, _, _, _, _, _, _], _⟩ _
            repeat (first | go_guarded | go_step)
            exact hQ _ _ (Grow.refl _) rfl rfl
          refine obls_cons (fun f w' hR hH Q hQ => ?_) ?_
          · skip
            clear hH
            refine wpList_view ?_; show wpList _ _ _ [_] ⟨#[_, _, _, _, _, _, _, _, _, _, _, _, _, _, _, _, _, _, _, _, _, _, _, _, _, _], _⟩ _
            repeat (first | go_guarded | go_step)
            exact hQ _ _ (Grow.refl _) rfl rfl
          refine obls_cons (fun f w' hR hH Q hQ => ?_) ?_
          · skip
            have h4 := hH.get 0 (21, 4) rfl
            have h5 := hH.get 1 (22, 5) rfl
            clear hH
            refine wpList_view ?_; show wpList _ _ _ [_] ⟨#[_, _, _, _, _, _, _, _, _, _, _, _, _, _, _, _, _, _, _, _, _, f 4, f 5, _, _, _], _⟩ _
            rw [show f 4 = _ from h4]
            rw [show f 5 = _ from h5]
            clear h4 h5
            repeat (first | go_guarded | go_step)
            exact hQ _ _ (Grow.refl _) rfl rfl
          refine obls_cons (fun f w' hR hH Q hQ => ?_) ?_
          · skip
            have h6 := hH.get 0 (23, 6) rfl
            clear hH
            refine wpList_view ?_; show wpList _ _ _ [_] ⟨#[_, _, _, _, _, _, _, _, _, _, _, _, _, _, _, _, _, _, _, _, _, _, _, f 6, _, _], _⟩ _
            rw [show f 6 = _ from h6]
            clear h6
            have y2 := hR.cell hcell2
            repeat (first | go_guarded | go_step)
            exact hQ _ _ (Grow.refl _) rfl rfl
          refine obls_cons (fun f w' hR hH Q hQ => ?_) ?_
          · skip
            have h3 := hH.get 0 (20, 3) rfl
            have h7 := hH.get 1 (24, 7) rfl
            clear hH
            refine wpList_view ?_; show wpList _ _ _ [_] ⟨#[_, _, _, _, _, _, _, _, _, _, _, _, _, _, _, _, _, _, _, _, f 3, _, _, _, f 7, _], _⟩ _
            rw [show f 3 = _ from h3]
            rw [show f 7 = _ from h7]
            clear h3 h7
            repeat (first | go_guarded | go_step)
            exact hQ _ _ (Grow.refl _) rfl rfl
          exact obls_nil
        case mono => exact ⟨Mono.veq _, Mono.veq _, Mono.veq _, Mono.veq _, Mono.veq _, Mono.veq _, Mono.veq _, Mono.veq _, Mono.veq _, trivial⟩
        case tail =>
          intro f w' hR hH
          have q8 := hH.get 8 (25, 8) rfl
          clear hH
          refine wpList_merge (idx := [none, none, none, none, none, none, none, none, none, none, none, none, none, none, none, none, none, some 0, some 1, some 2, some 3, some 4, some 5, some 6, some 7, some 8]) (by kernel_rfl) ?_; show wpList _ _ _ [] ⟨#[_, _, _, _, _, _, _, _, _, _, _, _, _, _, _, _, _, f 0, f 1, f 2, f 3, f 4, f 5, f 6, f 7, f 8], _⟩ _
          rw [show f 8 = _ from q8]
          clear q8
          have HGr := Lib.hid hR
          clear hR hcell hcell2
          by_cases hxy : x = y
          · have t3 : ((x : Int) == (y : Int)) = true := beq_iff_eq.2 (by rw [hxy])
            have HI2 : Hid (∀ (j x y : Nat), j < k + 1 → L1[j]? = some x → L2[j]? = some y → x = y) := Lib.hid fun j x' y' hj hx' hy' => by
              by_cases hjk : j < k
              · exact HI.out j x' y' hjk hx' hy'
              · obtain rfl : j = k := by omega
                rw [HX.out] at hx'
                rw [HY.out] at hy'
                obtain rfl := Option.some.inj hx'
                obtain rfl := Option.some.inj hy'
                exact hxy
            have t4 : ((x : Int) != (y : Int)) = false := by rw [bne, t3]; rfl
            clear HI hxy
            go_wp2_with fail
            go_roundw
            case rel => exact ⟨k + 1, by omega, by go_num, HG.out.trans HGr.out, HI2⟩
            case measure => simp [intOf] <;> omega
          · have t3 : ((x : Int) == (y : Int)) = false := beq_false_of_ne (by omega)
            have hr0 : r = 0 := by
              rw [HR.out, if_neg]
              intro e
              have h9 := HX.out
              rw [e, HY.out] at h9
              exact hxy (Option.some.inj h9).symm
            have HR1 := Lib.hid hr0
            have t4 : ((x : Int) != (y : Int)) = true := by rw [bne, t3]; rfl
            clear hr0 hxy
            go_wp2_with fail
            go_ret
            exact ⟨by rw [HR1.out]; rfl, HG.out.trans HGr.out⟩
      · obtain rfl : k = n := by omega
        have hr1 : r = 1 := by
          rw [HR.out, if_pos]
          exact lists_eq (by rw [← HN.out, ← HM.out]) (fun j x y hx hy => HI.out j x y (by have := (List.getElem?_eq_some_iff.1 hx).1; have := HN.out; omega) hx hy)
        have HR1 := Lib.hid hr1
        have HG := Lib.hid hg
        clear hr1 hg
        go_wp2_with fail
        go_ret
        exact ⟨by rw [HR1.out]; rfl, HG.out⟩
  · have t1 : ((n : Int) == (m : Int)) = false := beq_false_of_ne (by omega)
    have t2 : ((n : Int) != (m : Int)) = true := by rw [bne, t1]; rfl
    have hr0 : r = 0 := by
      rw [HR.out, if_neg]
      intro e
      exact hnm (by rw [hn, hm, e])
    have HR1 := Lib.hid hr0
    clear hr hn hm h3 g3 hr0 hnm
    go_enter Try.func13, Try.ntmps13
    go_wp2_with fail
    go_ret
    exact ⟨by rw [HR1.out]; rfl, Grow.refl _⟩
end Go.Proofs.Ytbcifodifadoiaa.mkR
