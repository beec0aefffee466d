/- The walk of the document's Fits. -/
import Derived.Test.YtjfohglkpbgkaaaToR2
namespace Go.Proofs.Ytjfohglkpbgkaaa.toW
open Go Go.RowKit Go.Par Go.Kit Go.Proofs.Ytjfohglkpbgkaaa.Mk Go.Proofs.Ytjfohglkpbgkaaa.mkW Go.Proofs.Ytjfohglkpbgkaaa.Re Go.Proofs.Ytjfohglkpbgkaaa.reW Go.Proofs.Ytjfohglkpbgkaaa.mkR Go.Proofs.Ytjfohglkpbgkaaa.To

set_option maxRecDepth 100000 in
set_option maxHeartbeats 8000000 in
theorem ref_fits (w : World) (n : Nat) (v : Value) (L : List (Nat × Nat)) (hv : RefV w v L) (hL : L.length ≤ 1000000) (A0 : Option Addr) (len c0 : Nat) (ls : List Int) (hr : Row w A0 len (ls.map iv)) (hc : len ≤ c0) (hm : c0 ≤ maxLen) :
    Calls Try.prog 54 #[.agg #[.int .i64 (n : Int), v], .slice A0 len c0] w fun e w' => e = .returned (.bool (fitsB n (leadB L) ls)) ∧ Grow w w' := by
  unfold maxLen at hm
  have hlen : ls.length = len := by have := hr.1; simpa using this
  have HV := Lib.hid hv
  obtain ⟨A, c, rfl, -⟩ := hv
  obtain ⟨l, hl⟩ : ∃ l, l = L.length := ⟨_, rfl⟩
  rw [← hl] at HV ⊢
  obtain ⟨W1, hW1⟩ : ∃ W, W = w.alloc (.cells #[.int .i64 (n : Int), .slice A l c] TX8) := ⟨_, rfl⟩
  obtain ⟨b0, hb0⟩ : ∃ b, b = w.heap.size := ⟨_, rfl⟩
  have hg1 : Grow w W1 := by rw [hW1]; exact Grow.alloc _ _
  have hbx : Blk W1 b0 TX8 [.int .i64 (n : Int), .slice A l c] := by rw [hW1]; exact Blk.new w _ _ _ rfl hb0
  obtain ⟨R, hR⟩ : ∃ R, R = leadB L := ⟨_, rfl⟩
  rw [← hR]
  have HRR := Lib.hid hR
  have HBX := Lib.hid hbx
  have HVW := Lib.hid (HV.out.grow hg1)
  have HG1 := Lib.hid hg1
  have HW1 := Lib.hid hW1
  have HB0 := Lib.hid hb0
  have HLL := Lib.hid hL
  have HROW := Lib.hid (hr.grow hg1)
  have HLEN := Lib.hid hlen
  obtain ⟨r, hre⟩ : ∃ r, r = fitsB n R ls := ⟨_, rfl⟩
  rw [← hre]
  have HRE := Lib.hid hre
  have KB : Hid (∀ (w' : World) (z x : Int), Grow W1 w' → Calls Try.prog 49 #[.agg #[.int .i64 (n : Int), .slice A l c], .int .i64 z, .int .i64 x] w' fun e w2 => e = .returned (.bool (aheadI R z x)) ∧ Grow w' w2) := Lib.hid fun w' z x hg => by
    rw [HRR.out]
    exact ref_before w' n _ L (HVW.out.grow hg) HLL.out z x
  clear hl hW1 hb0 hg1 hL hbx hR HV HVW HRR HLL hr hlen hre
  go_enter Try.func54, Try.ntmps54
  go_wp2_with fail
  rw [← HW1.out, ← HB0.out]
  go_loopw [5] (fun i' wr => ∃ (k : Nat), k ≤ len ∧ i' = .int .i64 (k : Int) ∧ Grow W1 wr ∧ ∀ x, x < k → okK n R ls x = true) (fun i' _ => len - (intOf i').toNat)
  case atStart => exact ⟨0, by omega, rfl, Grow.refl _, fun x hx => absurd hx (by omega)⟩
  case round =>
    obtain ⟨k, hkl, rfl, hg, hall⟩ := hrel
    have HG := Lib.hid hg
    have HALL := Lib.hid hall
    by_cases hlt : k < len
    · obtain ⟨b, off, z, rfl, hz, hcell⟩ := Row.iv_at HROW.out hlt
      have HZ := Lib.hid hz
      have HCELL := Lib.hid hcell
      have HLTk := Lib.hid hlt
      clear hg hall hcell hz
      by_cases h1 : z < 0
      · have t1 : decide (z < 0) = true := decide_eq_true h1
        have HF : Hid (r = false) := Lib.hid (by
          rw [HRE.out]
          refine fits_no (k := k) (by rw [HLEN.out]; exact HLTk.out) (okK_no HZ.out (.inl (fitB_not (by omega))))) 
        clear h1
        go_wp2_with fail
        apply (fun (v0 v1 v2 v3 v4 v5 v6 v7 v8 v9 v10 v11 v12 v13 : Value) mono obl tail => wp_region_par (R := Grow) (Φ := phi [veq v0, veq v1, veq v2, veq v3, veq v4, veq v5, veq v6, veq v7, veq v8, veq v9, veq v10, veq v11, veq v12, veq v13]) (m := 14) (dls := [[], [], [(13, 0), (14, 1)], [(15, 2)], [(16, 3)], [(17, 4)], [(18, 5)], [(18, 5)], [(19, 6), (20, 7), (18, 5)], [(21, 8), (18, 5)], [(18, 5)], [(23, 10), (18, 5)], [(22, 9), (24, 11), (18, 5)], [(18, 5), (25, 12)]]) (ds := [13, 14, 15, 16, 17, 18, 19, 20, 21, 22, 23, 24, 25, 26]) (by kernel_rfl) (by kernel_rfl) (by decide) rfl (Grow.drew _) (fun _ _ _ => Grow.trans) (mono_phi mono) obl tail)
        case obl =>
          refine obls_cons (fun f w' hR hH Q hQ => ?_) ?_
          · skip
            clear hH
            refine wpList_view ?_; show wpList _ _ _ [_] ⟨#[_, _, _, _, _, _, _, _, _, _, _, _, _, _, _, _, _, _, _, _, _, _, _, _, _, _, _, _, _, _, _, _, _, _, _, _, _, _, _, _, _, _, _, _, _, _, _, _, _, _, _, _, _], _⟩ _
            repeat (first | go_guarded | go_step)
            exact hQ _ _ (Grow.refl _) rfl rfl
          refine obls_cons (fun f w' hR hH Q hQ => ?_) ?_
          · skip
            clear hH
            refine wpList_view ?_; show wpList _ _ _ [_] ⟨#[_, _, _, _, _, _, _, _, _, _, _, _, _, _, _, _, _, _, _, _, _, _, _, _, _, _, _, _, _, _, _, _, _, _, _, _, _, _, _, _, _, _, _, _, _, _, _, _, _, _, _, _, _], _⟩ _
            repeat (first | go_guarded | go_step)
            exact hQ _ _ (Grow.refl _) rfl rfl
          refine obls_cons (fun f w' hR hH Q hQ => ?_) ?_
          · skip
            have h0 := hH.get 0 (13, 0) rfl
            have h1 := hH.get 1 (14, 1) rfl
            clear hH
            refine wpList_view ?_; show wpList _ _ _ [_] ⟨#[_, _, _, _, _, _, _, _, _, _, _, _, _, f 0, f 1, _, _, _, _, _, _, _, _, _, _, _, _, _, _, _, _, _, _, _, _, _, _, _, _, _, _, _, _, _, _, _, _, _, _, _, _, _, _], _⟩ _
            rw [show f 0 = _ from h0]
            rw [show f 1 = _ from h1]
            clear h0 h1
            repeat (first | go_guarded | go_step)
            exact hQ _ _ (Grow.refl _) rfl rfl
          refine obls_cons (fun f w' hR hH Q hQ => ?_) ?_
          · skip
            have h2 := hH.get 0 (15, 2) rfl
            clear hH
            refine wpList_view ?_; show wpList _ _ _ [_] ⟨#[_, _, _, _, _, _, _, _, _, _, _, _, _, _, _, f 2, _, _, _, _, _, _, _, _, _, _, _, _, _, _, _, _, _, _, _, _, _, _, _, _, _, _, _, _, _, _, _, _, _, _, _, _, _], _⟩ _
            rw [show f 2 = _ from h2]
            clear h2
            have y0 := (HG.out.trans hR).cell HCELL.out
            repeat (first | go_guarded | go_step)
            exact hQ _ _ (Grow.refl _) rfl rfl
          refine obls_cons (fun f w' hR hH Q hQ => ?_) ?_
          · skip
            have h3 := hH.get 0 (16, 3) rfl
            clear hH
            refine wpList_view ?_; show wpList _ _ _ [_] ⟨#[_, _, _, _, _, _, _, _, _, _, _, _, _, _, _, _, f 3, _, _, _, _, _, _, _, _, _, _, _, _, _, _, _, _, _, _, _, _, _, _, _, _, _, _, _, _, _, _, _, _, _, _, _, _], _⟩ _
            rw [show f 3 = _ from h3]
            clear h3
            repeat (first | go_guarded | go_step)
            exact hQ _ _ (Grow.refl _) rfl rfl
          refine obls_cons (fun f w' hR hH Q hQ => ?_) ?_
          · skip
            have h4 := hH.get 0 (17, 4) rfl
            clear hH
            refine wpList_view ?_; show wpList _ _ _ [_] ⟨#[_, _, _, _, _, _, _, _, _, _, _, _, _, _, _, _, _, f 4, _, _, _, _, _, _, _, _, _, _, _, _, _, _, _, _, _, _, _, _, _, _, _, _, _, _, _, _, _, _, _, _, _, _, _], _⟩ _
            rw [show f 4 = _ from h4]
            clear h4
            repeat (first | go_guarded | go_step)
            exact hQ _ _ (Grow.refl _) rfl rfl
          refine obls_cons (fun f w' hR hH Q hQ => ?_) ?_
          · skip
            have h5 := hH.get 0 (18, 5) rfl
            clear hH
            refine wpList_view ?_; show wpList _ _ _ [_] ⟨#[_, _, _, _, _, _, _, _, _, _, _, _, _, _, _, _, _, _, f 5, _, _, _, _, _, _, _, _, _, _, _, _, _, _, _, _, _, _, _, _, _, _, _, _, _, _, _, _, _, _, _, _, _, _], _⟩ _
            rw [show f 5 = _ from h5]
            clear h5
            repeat (first | go_guarded | go_step)
            exact hQ _ _ (Grow.refl _) rfl rfl
          refine obls_cons (fun f w' hR hH Q hQ => ?_) ?_
          · skip
            have h5 := hH.get 0 (18, 5) rfl
            clear hH
            refine wpList_view ?_; show wpList _ _ _ [_] ⟨#[_, _, _, _, _, _, _, _, _, _, _, _, _, _, _, _, _, _, f 5, _, _, _, _, _, _, _, _, _, _, _, _, _, _, _, _, _, _, _, _, _, _, _, _, _, _, _, _, _, _, _, _, _, _], _⟩ _
            rw [show f 5 = _ from h5]
            clear h5
            repeat (first | go_guarded | go_step)
            exact hQ _ _ (Grow.refl _) rfl rfl
          refine obls_cons (fun f w' hR hH Q hQ => ?_) ?_
          · skip
            have h6 := hH.get 0 (19, 6) rfl
            have h7 := hH.get 1 (20, 7) rfl
            have h5 := hH.get 2 (18, 5) rfl
            clear hH
            refine wpList_merge (idx := [none, none, none, none, none, none, none, none, none, none, none, none, none, none, none, none, none, none, some 5, some 6, some 7, none, none, none, none, none, none, none, none, none, none, none, none, none, none, none, none, none, none, none, none, none, none, none, none, none, none, none, none, none, none, none, none]) (by kernel_rfl) ?_; show wpList _ _ _ [_] ⟨#[_, _, _, _, _, _, _, _, _, _, _, _, _, _, _, _, _, _, f 5, f 6, f 7, _, _, _, _, _, _, _, _, _, _, _, _, _, _, _, _, _, _, _, _, _, _, _, _, _, _, _, _, _, _, _, _], _⟩ _
            rw [show f 6 = _ from h6]
            rw [show f 7 = _ from h7]
            rw [show f 5 = _ from h5]
            clear h6 h7 h5
            repeat (first | go_guarded | go_step)
            exact hQ _ _ (Grow.refl _) rfl rfl
          refine obls_cons (fun f w' hR hH Q hQ => ?_) ?_
          · skip
            have h8 := hH.get 0 (21, 8) rfl
            have h5 := hH.get 1 (18, 5) rfl
            clear hH
            refine wpList_view ?_; show wpList _ _ _ [_] ⟨#[_, _, _, _, _, _, _, _, _, _, _, _, _, _, _, _, _, _, f 5, _, _, f 8, _, _, _, _, _, _, _, _, _, _, _, _, _, _, _, _, _, _, _, _, _, _, _, _, _, _, _, _, _, _, _], _⟩ _
            rw [show f 8 = _ from h8]
            rw [show f 5 = _ from h5]
            clear h8 h5
            repeat (first | go_guarded | go_step)
            exact hQ _ _ (Grow.refl _) rfl rfl
          refine obls_cons (fun f w' hR hH Q hQ => ?_) ?_
          · skip
            have h5 := hH.get 0 (18, 5) rfl
            clear hH
            refine wpList_view ?_; show wpList _ _ _ [_] ⟨#[_, _, _, _, _, _, _, _, _, _, _, _, _, _, _, _, _, _, f 5, _, _, _, _, _, _, _, _, _, _, _, _, _, _, _, _, _, _, _, _, _, _, _, _, _, _, _, _, _, _, _, _, _, _], _⟩ _
            rw [show f 5 = _ from h5]
            clear h5
            repeat (first | go_guarded | go_step)
            exact hQ _ _ (Grow.refl _) rfl rfl
          refine obls_cons (fun f w' hR hH Q hQ => ?_) ?_
          · skip
            have h10 := hH.get 0 (23, 10) rfl
            have h5 := hH.get 1 (18, 5) rfl
            clear hH
            refine wpList_view ?_; show wpList _ _ _ [_] ⟨#[_, _, _, _, _, _, _, _, _, _, _, _, _, _, _, _, _, _, f 5, _, _, _, _, f 10, _, _, _, _, _, _, _, _, _, _, _, _, _, _, _, _, _, _, _, _, _, _, _, _, _, _, _, _, _], _⟩ _
            rw [show f 10 = _ from h10]
            rw [show f 5 = _ from h5]
            clear h10 h5
            repeat (first | go_guarded | go_step)
            exact hQ _ _ (Grow.refl _) rfl rfl
          refine obls_cons (fun f w' hR hH Q hQ => ?_) ?_
          · skip
            have h9 := hH.get 0 (22, 9) rfl
            have h11 := hH.get 1 (24, 11) rfl
            have h5 := hH.get 2 (18, 5) rfl
            clear hH
            refine wpList_merge (idx := [none, none, none, none, none, none, none, none, none, none, none, none, none, none, none, none, none, none, some 5, none, none, none, some 9, none, some 11, none, none, none, none, none, none, none, none, none, none, none, none, none, none, none, none, none, none, none, none, none, none, none, none, none, none, none, none]) (by kernel_rfl) ?_; show wpList _ _ _ [_] ⟨#[_, _, _, _, _, _, _, _, _, _, _, _, _, _, _, _, _, _, f 5, _, _, _, f 9, _, f 11, _, _, _, _, _, _, _, _, _, _, _, _, _, _, _, _, _, _, _, _, _, _, _, _, _, _, _, _], _⟩ _
            rw [show f 9 = _ from h9]
            rw [show f 11 = _ from h11]
            rw [show f 5 = _ from h5]
            clear h9 h11 h5
            repeat (first | go_guarded | go_step)
            exact hQ _ _ (Grow.refl _) rfl rfl
          refine obls_cons (fun f w' hR hH Q hQ => ?_) ?_
          · skip
            have h5 := hH.get 0 (18, 5) rfl
            have h12 := hH.get 1 (25, 12) rfl
            clear hH
            refine wpList_view ?_; show wpList _ _ _ [_] ⟨#[_, _, _, _, _, _, _, _, _, _, _, _, _, _, _, _, _, _, f 5, _, _, _, _, _, _, f 12, _, _, _, _, _, _, _, _, _, _, _, _, _, _, _, _, _, _, _, _, _, _, _, _, _, _, _], _⟩ _
            rw [show f 5 = _ from h5]
            rw [show f 12 = _ from h12]
            clear h5 h12
            repeat (first | go_guarded | go_step)
            exact hQ _ _ (Grow.refl _) rfl rfl
          exact obls_nil
        case mono => exact ⟨Mono.veq _, Mono.veq _, Mono.veq _, Mono.veq _, Mono.veq _, Mono.veq _, Mono.veq _, Mono.veq _, Mono.veq _, Mono.veq _, Mono.veq _, Mono.veq _, Mono.veq _, Mono.veq _, trivial⟩
        case tail =>
          intro f w' hR hH
          have q13 := hH.get 13 (26, 13) rfl
          clear hH
          refine wpList_merge (idx := [none, none, none, none, none, none, none, none, none, none, none, none, none, some 0, some 1, some 2, some 3, some 4, some 5, some 6, some 7, some 8, some 9, some 10, some 11, some 12, some 13, none, none, none, none, none, none, none, none, none, none, none, none, none, none, none, none, none, none, none, none, none, none, none, none, none, none]) (by kernel_rfl) ?_; show wpList _ _ _ [] ⟨#[_, _, _, _, _, _, _, _, _, _, _, _, _, f 0, f 1, f 2, f 3, f 4, f 5, f 6, f 7, f 8, f 9, f 10, f 11, f 12, f 13, _, _, _, _, _, _, _, _, _, _, _, _, _, _, _, _, _, _, _, _, _, _, _, _, _, _], _⟩ _
          rw [show f 13 = _ from q13]
          clear q13
          have HGr := Lib.hid (HG.out.trans hR)
          clear hR
          go_wp2_with fail
          go_ret
          exact ⟨by rw [HF.out]; rfl, HG1.out.trans HGr.out⟩
      · have t1 : decide (z < 0) = false := decide_eq_false h1
        obtain ⟨z, rfl⟩ := Int.eq_ofNat_of_zero_le (show 0 ≤ z by omega)
        by_cases h2 : n ≤ z
        · have t2 : decide (n ≤ z) = true := decide_eq_true h2
          have t3 : decide ((n : Int) ≤ (z : Int)) = true := decide_eq_true (by omega)
          have HF : Hid (r = false) := Lib.hid (by
            rw [HRE.out]
            refine fits_no (k := k) (by rw [HLEN.out]; exact HLTk.out) (okK_no HZ.out (.inl (fitB_not (by omega)))))
          clear h1 h2
          go_wp2_with fail
          apply (fun (v0 v1 v2 v3 v4 v5 v6 v7 v8 v9 v10 v11 v12 v13 : Value) mono obl tail => wp_region_par (R := Grow) (Φ := phi [veq v0, veq v1, veq v2, veq v3, veq v4, veq v5, veq v6, veq v7, veq v8, veq v9, veq v10, veq v11, veq v12, veq v13]) (m := 14) (dls := [[], [], [(13, 0), (14, 1)], [(15, 2)], [(16, 3)], [(17, 4)], [(18, 5)], [(18, 5)], [(19, 6), (20, 7), (18, 5)], [(21, 8), (18, 5)], [(18, 5)], [(23, 10), (18, 5)], [(22, 9), (24, 11), (18, 5)], [(18, 5), (25, 12)]]) (ds := [13, 14, 15, 16, 17, 18, 19, 20, 21, 22, 23, 24, 25, 26]) (by kernel_rfl) (by kernel_rfl) (by decide) rfl (Grow.drew _) (fun _ _ _ => Grow.trans) (mono_phi mono) obl tail)
          case obl =>
            refine obls_cons (fun f w' hR hH Q hQ => ?_) ?_
            · skip
              clear hH
              refine wpList_view ?_; show wpList _ _ _ [_] ⟨#[_, _, _, _, _, _, _, _, _, _, _, _, _, _, _, _, _, _, _, _, _, _, _, _, _, _, _, _, _, _, _, _, _, _, _, _, _, _, _, _, _, _, _, _, _, _, _, _, _, _, _, _, _], _⟩ _
              repeat (first | go_guarded | go_step)
              exact hQ _ _ (Grow.refl _) rfl rfl
            refine obls_cons (fun f w' hR hH Q hQ => ?_) ?_
            · skip
              clear hH
              refine wpList_view ?_; show wpList _ _ _ [_] ⟨#[_, _, _, _, _, _, _, _, _, _, _, _, _, _, _, _, _, _, _, _, _, _, _, _, _, _, _, _, _, _, _, _, _, _, _, _, _, _, _, _, _, _, _, _, _, _, _, _, _, _, _, _, _], _⟩ _
              repeat (first | go_guarded | go_step)
              exact hQ _ _ (Grow.refl _) rfl rfl
            refine obls_cons (fun f w' hR hH Q hQ => ?_) ?_
            · skip
              have h0 := hH.get 0 (13, 0) rfl
              have h1 := hH.get 1 (14, 1) rfl
              clear hH
              refine wpList_view ?_; show wpList _ _ _ [_] ⟨#[_, _, _, _, _, _, _, _, _, _, _, _, _, f 0, f 1, _, _, _, _, _, _, _, _, _, _, _, _, _, _, _, _, _, _, _, _, _, _, _, _, _, _, _, _, _, _, _, _, _, _, _, _, _, _], _⟩ _
              rw [show f 0 = _ from h0]
              rw [show f 1 = _ from h1]
              clear h0 h1
              repeat (first | go_guarded | go_step)
              exact hQ _ _ (Grow.refl _) rfl rfl
            refine obls_cons (fun f w' hR hH Q hQ => ?_) ?_
            · skip
              have h2 := hH.get 0 (15, 2) rfl
              clear hH
              refine wpList_view ?_; show wpList _ _ _ [_] ⟨#[_, _, _, _, _, _, _, _, _, _, _, _, _, _, _, f 2, _, _, _, _, _, _, _, _, _, _, _, _, _, _, _, _, _, _, _, _, _, _, _, _, _, _, _, _, _, _, _, _, _, _, _, _, _], _⟩ _
              rw [show f 2 = _ from h2]
              clear h2
              have y0 := (HG.out.trans hR).cell HCELL.out
              repeat (first | go_guarded | go_step)
              exact hQ _ _ (Grow.refl _) rfl rfl
            refine obls_cons (fun f w' hR hH Q hQ => ?_) ?_
            · skip
              have h3 := hH.get 0 (16, 3) rfl
              clear hH
              refine wpList_view ?_; show wpList _ _ _ [_] ⟨#[_, _, _, _, _, _, _, _, _, _, _, _, _, _, _, _, f 3, _, _, _, _, _, _, _, _, _, _, _, _, _, _, _, _, _, _, _, _, _, _, _, _, _, _, _, _, _, _, _, _, _, _, _, _], _⟩ _
              rw [show f 3 = _ from h3]
              clear h3
              repeat (first | go_guarded | go_step)
              exact hQ _ _ (Grow.refl _) rfl rfl
            refine obls_cons (fun f w' hR hH Q hQ => ?_) ?_
            · skip
              have h4 := hH.get 0 (17, 4) rfl
              clear hH
              refine wpList_view ?_; show wpList _ _ _ [_] ⟨#[_, _, _, _, _, _, _, _, _, _, _, _, _, _, _, _, _, f 4, _, _, _, _, _, _, _, _, _, _, _, _, _, _, _, _, _, _, _, _, _, _, _, _, _, _, _, _, _, _, _, _, _, _, _], _⟩ _
              rw [show f 4 = _ from h4]
              clear h4
              repeat (first | go_guarded | go_step)
              exact hQ _ _ (Grow.refl _) rfl rfl
            refine obls_cons (fun f w' hR hH Q hQ => ?_) ?_
            · skip
              have h5 := hH.get 0 (18, 5) rfl
              clear hH
              refine wpList_view ?_; show wpList _ _ _ [_] ⟨#[_, _, _, _, _, _, _, _, _, _, _, _, _, _, _, _, _, _, f 5, _, _, _, _, _, _, _, _, _, _, _, _, _, _, _, _, _, _, _, _, _, _, _, _, _, _, _, _, _, _, _, _, _, _], _⟩ _
              rw [show f 5 = _ from h5]
              clear h5
              repeat (first | go_guarded | go_step)
              exact hQ _ _ (Grow.refl _) rfl rfl
            refine obls_cons (fun f w' hR hH Q hQ => ?_) ?_
            · skip
              have h5 := hH.get 0 (18, 5) rfl
              clear hH
              refine wpList_view ?_; show wpList _ _ _ [_] ⟨#[_, _, _, _, _, _, _, _, _, _, _, _, _, _, _, _, _, _, f 5, _, _, _, _, _, _, _, _, _, _, _, _, _, _, _, _, _, _, _, _, _, _, _, _, _, _, _, _, _, _, _, _, _, _], _⟩ _
              rw [show f 5 = _ from h5]
              clear h5
              repeat (first | go_guarded | go_step)
              exact hQ _ _ (Grow.refl _) rfl rfl
            refine obls_cons (fun f w' hR hH Q hQ => ?_) ?_
            · skip
              have h6 := hH.get 0 (19, 6) rfl
              have h7 := hH.get 1 (20, 7) rfl
              have h5 := hH.get 2 (18, 5) rfl
              clear hH
              refine wpList_merge (idx := [none, none, none, none, none, none, none, none, none, none, none, none, none, none, none, none, none, none, some 5, some 6, some 7, none, none, none, none, none, none, none, none, none, none, none, none, none, none, none, none, none, none, none, none, none, none, none, none, none, none, none, none, none, none, none, none]) (by kernel_rfl) ?_; show wpList _ _ _ [_] ⟨#[_, _, _, _, _, _, _, _, _, _, _, _, _, _, _, _, _, _, f 5, f 6, f 7, _, _, _, _, _, _, _, _, _, _, _, _, _, _, _, _, _, _, _, _, _, _, _, _, _, _, _, _, _, _, _, _], _⟩ _
              rw [show f 6 = _ from h6]
              rw [show f 7 = _ from h7]
              rw [show f 5 = _ from h5]
              clear h6 h7 h5
              repeat (first | go_guarded | go_step)
              exact hQ _ _ (Grow.refl _) rfl rfl
            refine obls_cons (fun f w' hR hH Q hQ => ?_) ?_
            · skip
              have h8 := hH.get 0 (21, 8) rfl
              have h5 := hH.get 1 (18, 5) rfl
              clear hH
              refine wpList_view ?_; show wpList _ _ _ [_] ⟨#[_, _, _, _, _, _, _, _, _, _, _, _, _, _, _, _, _, _, f 5, _, _, f 8, _, _, _, _, _, _, _, _, _, _, _, _, _, _, _, _, _, _, _, _, _, _, _, _, _, _, _, _, _, _, _], _⟩ _
              rw [show f 8 = _ from h8]
              rw [show f 5 = _ from h5]
              clear h8 h5
              have y0 := (HG.out.trans hR).cell HCELL.out
              repeat (first | go_guarded | go_step)
              exact hQ _ _ (Grow.refl _) rfl rfl
            refine obls_cons (fun f w' hR hH Q hQ => ?_) ?_
            · skip
              have h5 := hH.get 0 (18, 5) rfl
              clear hH
              refine wpList_view ?_; show wpList _ _ _ [_] ⟨#[_, _, _, _, _, _, _, _, _, _, _, _, _, _, _, _, _, _, f 5, _, _, _, _, _, _, _, _, _, _, _, _, _, _, _, _, _, _, _, _, _, _, _, _, _, _, _, _, _, _, _, _, _, _], _⟩ _
              rw [show f 5 = _ from h5]
              clear h5
              repeat (first | go_guarded | go_step)
              exact hQ _ _ (Grow.refl _) rfl rfl
            refine obls_cons (fun f w' hR hH Q hQ => ?_) ?_
            · skip
              have h10 := hH.get 0 (23, 10) rfl
              have h5 := hH.get 1 (18, 5) rfl
              clear hH
              refine wpList_view ?_; show wpList _ _ _ [_] ⟨#[_, _, _, _, _, _, _, _, _, _, _, _, _, _, _, _, _, _, f 5, _, _, _, _, f 10, _, _, _, _, _, _, _, _, _, _, _, _, _, _, _, _, _, _, _, _, _, _, _, _, _, _, _, _, _], _⟩ _
              rw [show f 10 = _ from h10]
              rw [show f 5 = _ from h5]
              clear h10 h5
              have y1 := (HBX.out.grow (HG.out.trans hR)).cell (i := 0) rfl
              repeat (first | go_guarded | go_step)
              exact hQ _ _ (Grow.refl _) rfl rfl
            refine obls_cons (fun f w' hR hH Q hQ => ?_) ?_
            · skip
              have h9 := hH.get 0 (22, 9) rfl
              have h11 := hH.get 1 (24, 11) rfl
              have h5 := hH.get 2 (18, 5) rfl
              clear hH
              refine wpList_merge (idx := [none, none, none, none, none, none, none, none, none, none, none, none, none, none, none, none, none, none, some 5, none, none, none, some 9, none, some 11, none, none, none, none, none, none, none, none, none, none, none, none, none, none, none, none, none, none, none, none, none, none, none, none, none, none, none, none]) (by kernel_rfl) ?_; show wpList _ _ _ [_] ⟨#[_, _, _, _, _, _, _, _, _, _, _, _, _, _, _, _, _, _, f 5, _, _, _, f 9, _, f 11, _, _, _, _, _, _, _, _, _, _, _, _, _, _, _, _, _, _, _, _, _, _, _, _, _, _, _, _], _⟩ _
              rw [show f 9 = _ from h9]
              rw [show f 11 = _ from h11]
              rw [show f 5 = _ from h5]
              clear h9 h11 h5
              repeat (first | go_guarded | go_step)
              exact hQ _ _ (Grow.refl _) rfl rfl
            refine obls_cons (fun f w' hR hH Q hQ => ?_) ?_
            · skip
              have h5 := hH.get 0 (18, 5) rfl
              have h12 := hH.get 1 (25, 12) rfl
              clear hH
              refine wpList_view ?_; show wpList _ _ _ [_] ⟨#[_, _, _, _, _, _, _, _, _, _, _, _, _, _, _, _, _, _, f 5, _, _, _, _, _, _, f 12, _, _, _, _, _, _, _, _, _, _, _, _, _, _, _, _, _, _, _, _, _, _, _, _, _, _, _], _⟩ _
              rw [show f 5 = _ from h5]
              rw [show f 12 = _ from h12]
              clear h5 h12
              repeat (first | go_guarded | go_step)
              exact hQ _ _ (Grow.refl _) rfl rfl
            exact obls_nil
          case mono => exact ⟨Mono.veq _, Mono.veq _, Mono.veq _, Mono.veq _, Mono.veq _, Mono.veq _, Mono.veq _, Mono.veq _, Mono.veq _, Mono.veq _, Mono.veq _, Mono.veq _, Mono.veq _, Mono.veq _, trivial⟩
          case tail =>
            intro f w' hR hH
            have q13 := hH.get 13 (26, 13) rfl
            clear hH
            refine wpList_merge (idx := [none, none, none, none, none, none, none, none, none, none, none, none, none, some 0, some 1, some 2, some 3, some 4, some 5, some 6, some 7, some 8, some 9, some 10, some 11, some 12, some 13, none, none, none, none, none, none, none, none, none, none, none, none, none, none, none, none, none, none, none, none, none, none, none, none, none, none]) (by kernel_rfl) ?_; show wpList _ _ _ [] ⟨#[_, _, _, _, _, _, _, _, _, _, _, _, _, f 0, f 1, f 2, f 3, f 4, f 5, f 6, f 7, f 8, f 9, f 10, f 11, f 12, f 13, _, _, _, _, _, _, _, _, _, _, _, _, _, _, _, _, _, _, _, _, _, _, _, _, _, _], _⟩ _
            rw [show f 13 = _ from q13]
            clear q13
            have HGr := Lib.hid (HG.out.trans hR)
            clear hR
            go_wp2_with fail
            go_ret
            exact ⟨by rw [HF.out]; rfl, HG1.out.trans HGr.out⟩
        · have t2 : decide (n ≤ z) = false := decide_eq_false h2
          have t3 : decide ((n : Int) ≤ (z : Int)) = false := decide_eq_false (by omega)
          have HFT : Hid (fitB n (z : Int) = true) := Lib.hid (fitB_of (by omega))
          clear h1 h2
          go_wp2_with fail
          apply (fun (v0 v1 v2 v3 v4 v5 v6 v7 v8 v9 v10 v11 v12 : Value) mono obl tail => wp_region_par (R := Grow) (Φ := phi [veq v0, veq v1, veq v2, veq v3, veq v4, veq v5, veq v6, veq v7, veq v8, veq v9, veq v10, veq v11, veq v12, (veq (Value.bool false))]) (m := 14) (dls := [[], [], [(13, 0), (14, 1)], [(15, 2)], [(16, 3)], [(17, 4)], [(18, 5)], [(18, 5)], [(19, 6), (20, 7), (18, 5)], [(21, 8), (18, 5)], [(18, 5)], [(23, 10), (18, 5)], [(22, 9), (24, 11), (18, 5)], [(18, 5), (25, 12)]]) (ds := [13, 14, 15, 16, 17, 18, 19, 20, 21, 22, 23, 24, 25, 26]) (by kernel_rfl) (by kernel_rfl) (by decide) rfl (Grow.drew _) (fun _ _ _ => Grow.trans) (mono_phi mono) obl tail)
          case obl =>
            refine obls_cons (fun f w' hR hH Q hQ => ?_) ?_
            · skip
              clear hH
              refine wpList_view ?_; show wpList _ _ _ [_] ⟨#[_, _, _, _, _, _, _, _, _, _, _, _, _, _, _, _, _, _, _, _, _, _, _, _, _, _, _, _, _, _, _, _, _, _, _, _, _, _, _, _, _, _, _, _, _, _, _, _, _, _, _, _, _], _⟩ _
              repeat (first | go_guarded | go_step)
              exact hQ _ _ (Grow.refl _) rfl rfl
            refine obls_cons (fun f w' hR hH Q hQ => ?_) ?_
            · skip
              clear hH
              refine wpList_view ?_; show wpList _ _ _ [_] ⟨#[_, _, _, _, _, _, _, _, _, _, _, _, _, _, _, _, _, _, _, _, _, _, _, _, _, _, _, _, _, _, _, _, _, _, _, _, _, _, _, _, _, _, _, _, _, _, _, _, _, _, _, _, _], _⟩ _
              repeat (first | go_guarded | go_step)
              exact hQ _ _ (Grow.refl _) rfl rfl
            refine obls_cons (fun f w' hR hH Q hQ => ?_) ?_
            · skip
              have h0 := hH.get 0 (13, 0) rfl
              have h1 := hH.get 1 (14, 1) rfl
              clear hH
              refine wpList_view ?_; show wpList _ _ _ [_] ⟨#[_, _, _, _, _, _, _, _, _, _, _, _, _, f 0, f 1, _, _, _, _, _, _, _, _, _, _, _, _, _, _, _, _, _, _, _, _, _, _, _, _, _, _, _, _, _, _, _, _, _, _, _, _, _, _], _⟩ _
              rw [show f 0 = _ from h0]
              rw [show f 1 = _ from h1]
              clear h0 h1
              repeat (first | go_guarded | go_step)
              exact hQ _ _ (Grow.refl _) rfl rfl
            refine obls_cons (fun f w' hR hH Q hQ => ?_) ?_
            · skip
              have h2 := hH.get 0 (15, 2) rfl
              clear hH
              refine wpList_view ?_; show wpList _ _ _ [_] ⟨#[_, _, _, _, _, _, _, _, _, _, _, _, _, _, _, f 2, _, _, _, _, _, _, _, _, _, _, _, _, _, _, _, _, _, _, _, _, _, _, _, _, _, _, _, _, _, _, _, _, _, _, _, _, _], _⟩ _
              rw [show f 2 = _ from h2]
              clear h2
              have y0 := (HG.out.trans hR).cell HCELL.out
              repeat (first | go_guarded | go_step)
              exact hQ _ _ (Grow.refl _) rfl rfl
            refine obls_cons (fun f w' hR hH Q hQ => ?_) ?_
            · skip
              have h3 := hH.get 0 (16, 3) rfl
              clear hH
              refine wpList_view ?_; show wpList _ _ _ [_] ⟨#[_, _, _, _, _, _, _, _, _, _, _, _, _, _, _, _, f 3, _, _, _, _, _, _, _, _, _, _, _, _, _, _, _, _, _, _, _, _, _, _, _, _, _, _, _, _, _, _, _, _, _, _, _, _], _⟩ _
              rw [show f 3 = _ from h3]
              clear h3
              repeat (first | go_guarded | go_step)
              exact hQ _ _ (Grow.refl _) rfl rfl
            refine obls_cons (fun f w' hR hH Q hQ => ?_) ?_
            · skip
              have h4 := hH.get 0 (17, 4) rfl
              clear hH
              refine wpList_view ?_; show wpList _ _ _ [_] ⟨#[_, _, _, _, _, _, _, _, _, _, _, _, _, _, _, _, _, f 4, _, _, _, _, _, _, _, _, _, _, _, _, _, _, _, _, _, _, _, _, _, _, _, _, _, _, _, _, _, _, _, _, _, _, _], _⟩ _
              rw [show f 4 = _ from h4]
              clear h4
              repeat (first | go_guarded | go_step)
              exact hQ _ _ (Grow.refl _) rfl rfl
            refine obls_cons (fun f w' hR hH Q hQ => ?_) ?_
            · skip
              have h5 := hH.get 0 (18, 5) rfl
              clear hH
              refine wpList_view ?_; show wpList _ _ _ [_] ⟨#[_, _, _, _, _, _, _, _, _, _, _, _, _, _, _, _, _, _, f 5, _, _, _, _, _, _, _, _, _, _, _, _, _, _, _, _, _, _, _, _, _, _, _, _, _, _, _, _, _, _, _, _, _, _], _⟩ _
              rw [show f 5 = _ from h5]
              clear h5
              repeat (first | go_guarded | go_step)
              exact hQ _ _ (Grow.refl _) rfl rfl
            refine obls_cons (fun f w' hR hH Q hQ => ?_) ?_
            · skip
              have h5 := hH.get 0 (18, 5) rfl
              clear hH
              refine wpList_view ?_; show wpList _ _ _ [_] ⟨#[_, _, _, _, _, _, _, _, _, _, _, _, _, _, _, _, _, _, f 5, _, _, _, _, _, _, _, _, _, _, _, _, _, _, _, _, _, _, _, _, _, _, _, _, _, _, _, _, _, _, _, _, _, _], _⟩ _
              rw [show f 5 = _ from h5]
              clear h5
              repeat (first | go_guarded | go_step)
              exact hQ _ _ (Grow.refl _) rfl rfl
            refine obls_cons (fun f w' hR hH Q hQ => ?_) ?_
            · skip
              have h6 := hH.get 0 (19, 6) rfl
              have h7 := hH.get 1 (20, 7) rfl
              have h5 := hH.get 2 (18, 5) rfl
              clear hH
              refine wpList_merge (idx := [none, none, none, none, none, none, none, none, none, none, none, none, none, none, none, none, none, none, some 5, some 6, some 7, none, none, none, none, none, none, none, none, none, none, none, none, none, none, none, none, none, none, none, none, none, none, none, none, none, none, none, none, none, none, none, none]) (by kernel_rfl) ?_; show wpList _ _ _ [_] ⟨#[_, _, _, _, _, _, _, _, _, _, _, _, _, _, _, _, _, _, f 5, f 6, f 7, _, _, _, _, _, _, _, _, _, _, _, _, _, _, _, _, _, _, _, _, _, _, _, _, _, _, _, _, _, _, _, _], _⟩ _
              rw [show f 6 = _ from h6]
              rw [show f 7 = _ from h7]
              rw [show f 5 = _ from h5]
              clear h6 h7 h5
              repeat (first | go_guarded | go_step)
              exact hQ _ _ (Grow.refl _) rfl rfl
            refine obls_cons (fun f w' hR hH Q hQ => ?_) ?_
            · skip
              have h8 := hH.get 0 (21, 8) rfl
              have h5 := hH.get 1 (18, 5) rfl
              clear hH
              refine wpList_view ?_; show wpList _ _ _ [_] ⟨#[_, _, _, _, _, _, _, _, _, _, _, _, _, _, _, _, _, _, f 5, _, _, f 8, _, _, _, _, _, _, _, _, _, _, _, _, _, _, _, _, _, _, _, _, _, _, _, _, _, _, _, _, _, _, _], _⟩ _
              rw [show f 8 = _ from h8]
              rw [show f 5 = _ from h5]
              clear h8 h5
              have y0 := (HG.out.trans hR).cell HCELL.out
              repeat (first | go_guarded | go_step)
              exact hQ _ _ (Grow.refl _) rfl rfl
            refine obls_cons (fun f w' hR hH Q hQ => ?_) ?_
            · skip
              have h5 := hH.get 0 (18, 5) rfl
              clear hH
              refine wpList_view ?_; show wpList _ _ _ [_] ⟨#[_, _, _, _, _, _, _, _, _, _, _, _, _, _, _, _, _, _, f 5, _, _, _, _, _, _, _, _, _, _, _, _, _, _, _, _, _, _, _, _, _, _, _, _, _, _, _, _, _, _, _, _, _, _], _⟩ _
              rw [show f 5 = _ from h5]
              clear h5
              repeat (first | go_guarded | go_step)
              exact hQ _ _ (Grow.refl _) rfl rfl
            refine obls_cons (fun f w' hR hH Q hQ => ?_) ?_
            · skip
              have h10 := hH.get 0 (23, 10) rfl
              have h5 := hH.get 1 (18, 5) rfl
              clear hH
              refine wpList_view ?_; show wpList _ _ _ [_] ⟨#[_, _, _, _, _, _, _, _, _, _, _, _, _, _, _, _, _, _, f 5, _, _, _, _, f 10, _, _, _, _, _, _, _, _, _, _, _, _, _, _, _, _, _, _, _, _, _, _, _, _, _, _, _, _, _], _⟩ _
              rw [show f 10 = _ from h10]
              rw [show f 5 = _ from h5]
              clear h10 h5
              have y1 := (HBX.out.grow (HG.out.trans hR)).cell (i := 0) rfl
              repeat (first | go_guarded | go_step)
              exact hQ _ _ (Grow.refl _) rfl rfl
            refine obls_cons (fun f w' hR hH Q hQ => ?_) ?_
            · skip
              have h9 := hH.get 0 (22, 9) rfl
              have h11 := hH.get 1 (24, 11) rfl
              have h5 := hH.get 2 (18, 5) rfl
              clear hH
              refine wpList_merge (idx := [none, none, none, none, none, none, none, none, none, none, none, none, none, none, none, none, none, none, some 5, none, none, none, some 9, none, some 11, none, none, none, none, none, none, none, none, none, none, none, none, none, none, none, none, none, none, none, none, none, none, none, none, none, none, none, none]) (by kernel_rfl) ?_; show wpList _ _ _ [_] ⟨#[_, _, _, _, _, _, _, _, _, _, _, _, _, _, _, _, _, _, f 5, _, _, _, f 9, _, f 11, _, _, _, _, _, _, _, _, _, _, _, _, _, _, _, _, _, _, _, _, _, _, _, _, _, _, _, _], _⟩ _
              rw [show f 9 = _ from h9]
              rw [show f 11 = _ from h11]
              rw [show f 5 = _ from h5]
              clear h9 h11 h5
              repeat (first | go_guarded | go_step)
              exact hQ _ _ (Grow.refl _) rfl rfl
            refine obls_cons (fun f w' hR hH Q hQ => ?_) ?_
            · skip
              have h5 := hH.get 0 (18, 5) rfl
              have h12 := hH.get 1 (25, 12) rfl
              clear hH
              refine wpList_view ?_; show wpList _ _ _ [_] ⟨#[_, _, _, _, _, _, _, _, _, _, _, _, _, _, _, _, _, _, f 5, _, _, _, _, _, _, f 12, _, _, _, _, _, _, _, _, _, _, _, _, _, _, _, _, _, _, _, _, _, _, _, _, _, _, _], _⟩ _
              rw [show f 5 = _ from h5]
              rw [show f 12 = _ from h12]
              clear h5 h12
              repeat (first | go_guarded | go_step)
              exact hQ _ _ (Grow.refl _) rfl rfl
            exact obls_nil
          case mono => exact ⟨Mono.veq _, Mono.veq _, Mono.veq _, Mono.veq _, Mono.veq _, Mono.veq _, Mono.veq _, Mono.veq _, Mono.veq _, Mono.veq _, Mono.veq _, Mono.veq _, Mono.veq _, Mono.veq _, trivial⟩
          case tail =>
            intro f w' hR hH
            have q13 : (veq (Value.bool false)) (f 13) w' := hH.get 13 (26, 13) rfl
            clear hH
            refine wpList_merge (idx := [none, none, none, none, none, none, none, none, none, none, none, none, none, some 0, some 1, some 2, some 3, some 4, some 5, some 6, some 7, some 8, some 9, some 10, some 11, some 12, some 13, none, none, none, none, none, none, none, none, none, none, none, none, none, none, none, none, none, none, none, none, none, none, none, none, none, none]) (by kernel_rfl) ?_; show wpList _ _ _ [] ⟨#[_, _, _, _, _, _, _, _, _, _, _, _, _, f 0, f 1, f 2, f 3, f 4, f 5, f 6, f 7, f 8, f 9, f 10, f 11, f 12, f 13, _, _, _, _, _, _, _, _, _, _, _, _, _, _, _, _, _, _, _, _, _, _, _, _, _, _], _⟩ _
            generalize f 13 = x13 at *
            obtain rfl : x13 = .bool false := q13
            have HGr := Lib.hid (HG.out.trans hR)
            clear hR
            go_wp2_with fail
            go_loopw [6] (fun i' wr => ∃ (m : Nat), m ≤ k ∧ i' = .int .i64 (m : Int) ∧ Grow W1 wr ∧ ∀ j x, j < m → ls[j]? = some x → x ≠ (z : Int) ∧ aheadI R (z : Int) x = false) (fun i' _ => k - (intOf i').toNat)
            case atStart => exact ⟨0, by omega, rfl, HGr.out, fun j x hj => absurd hj (by omega)⟩
            case round =>
              obtain ⟨m, hmk, rfl, hg, hno⟩ := hrel
              have HNO := Lib.hid hno
              have HGm := Lib.hid hg
              by_cases hlt2 : m < k
              · have hrow := HROW.out
                obtain ⟨b', off', x, e, hx, hcell⟩ := Row.iv_at hrow (k := m) (by omega)
                injection e with e
                injection e with e1 e2
                subst e1; subst e2
                have HCM := Lib.hid hcell
                have HX := Lib.hid hx
                have HLTm := Lib.hid hlt2
                have hlm : m < len := by omega
                clear hno hrow hcell hx hg
                by_cases hxz : x = (z : Int)
                · have HF : Hid (r = false) := Lib.hid (by
                    rw [HRE.out]
                    exact fits_no (k := k) (by rw [HLEN.out]; exact HLTk.out) (okK_no HZ.out (.inr ⟨m, x, HLTm.out, HX.out, .inl hxz⟩)))
                  subst hxz
                  have t4 : ((z : Int) == (z : Int)) = true := beq_self_eq_true _
                  go_wp2_with fail
                  apply (fun (v0 v1 v2 v3 v4 v5 v6 v7 v8 v9 v10 v11 v12 v13 v14 v15 v16 v17 v18 v19 v20 : Value) mono obl tail => wp_region_par (R := Grow) (Φ := phi [veq v0, veq v1, veq v2, veq v3, veq v4, veq v5, veq v6, veq v7, veq v8, veq v9, veq v10, veq v11, veq v12, veq v13, veq v14, veq v15, veq v16, veq v17, veq v18, veq v19, veq v20]) (m := 21) (dls := [[], [], [(32, 0), (33, 1)], [(34, 2)], [], [], [(36, 4), (37, 5)], [(38, 6)], [(35, 3), (39, 7)], [(40, 8)], [(41, 9)], [(41, 9)], [(41, 9)], [(43, 11), (44, 12), (41, 9)], [(45, 13), (41, 9)], [(41, 9)], [(41, 9)], [(47, 15), (48, 16), (41, 9)], [(49, 17), (41, 9)], [(42, 10), (46, 14), (50, 18), (41, 9)], [(41, 9), (51, 19)]]) (ds := [32, 33, 34, 35, 36, 37, 38, 39, 40, 41, 42, 43, 44, 45, 46, 47, 48, 49, 50, 51, 52]) (by kernel_rfl) (by kernel_rfl) (by decide) rfl (Grow.drew _) (fun _ _ _ => Grow.trans) (mono_phi mono) obl tail)
                  case obl =>
                    refine obls_cons (fun f w' hR hH Q hQ => ?_) ?_
                    · skip
                      clear hH
                      refine wpList_view ?_; show wpList _ _ _ [_] ⟨#[_, _, _, _, _, _, _, _, _, _, _, _, _, _, _, _, _, _, _, _, _, _, _, _, _, _, _, _, _, _, _, _, _, _, _, _, _, _, _, _, _, _, _, _, _, _, _, _, _, _, _, _, _], _⟩ _
                      repeat (first | go_guarded | go_step)
                      exact hQ _ _ (Grow.refl _) rfl rfl
                    refine obls_cons (fun f w' hR hH Q hQ => ?_) ?_
                    · skip
                      clear hH
                      refine wpList_view ?_; show wpList _ _ _ [_] ⟨#[_, _, _, _, _, _, _, _, _, _, _, _, _, _, _, _, _, _, _, _, _, _, _, _, _, _, _, _, _, _, _, _, _, _, _, _, _, _, _, _, _, _, _, _, _, _, _, _, _, _, _, _, _], _⟩ _
                      repeat (first | go_guarded | go_step)
                      exact hQ _ _ (Grow.refl _) rfl rfl
                    refine obls_cons (fun f w' hR hH Q hQ => ?_) ?_
                    · skip
                      have h0 := hH.get 0 (32, 0) rfl
                      have h1 := hH.get 1 (33, 1) rfl
                      clear hH
                      refine wpList_view ?_; show wpList _ _ _ [_] ⟨#[_, _, _, _, _, _, _, _, _, _, _, _, _, _, _, _, _, _, _, _, _, _, _, _, _, _, _, _, _, _, _, _, f 0, f 1, _, _, _, _, _, _, _, _, _, _, _, _, _, _, _, _, _, _, _], _⟩ _
                      rw [show f 0 = _ from h0]
                      rw [show f 1 = _ from h1]
                      clear h0 h1
                      repeat (first | go_guarded | go_step)
                      exact hQ _ _ (Grow.refl _) rfl rfl
                    refine obls_cons (fun f w' hR hH Q hQ => ?_) ?_
                    · skip
                      have h2 := hH.get 0 (34, 2) rfl
                      clear hH
                      refine wpList_view ?_; show wpList _ _ _ [_] ⟨#[_, _, _, _, _, _, _, _, _, _, _, _, _, _, _, _, _, _, _, _, _, _, _, _, _, _, _, _, _, _, _, _, _, _, f 2, _, _, _, _, _, _, _, _, _, _, _, _, _, _, _, _, _, _], _⟩ _
                      rw [show f 2 = _ from h2]
                      clear h2
                      have y0 := (HGm.out.trans hR).cell HCM.out
                      repeat (first | go_guarded | go_step)
                      exact hQ _ _ (Grow.refl _) rfl rfl
                    refine obls_cons (fun f w' hR hH Q hQ => ?_) ?_
                    · skip
                      clear hH
                      refine wpList_view ?_; show wpList _ _ _ [_] ⟨#[_, _, _, _, _, _, _, _, _, _, _, _, _, _, _, _, _, _, _, _, _, _, _, _, _, _, _, _, _, _, _, _, _, _, _, _, _, _, _, _, _, _, _, _, _, _, _, _, _, _, _, _, _], _⟩ _
                      repeat (first | go_guarded | go_step)
                      exact hQ _ _ (Grow.refl _) rfl rfl
                    refine obls_cons (fun f w' hR hH Q hQ => ?_) ?_
                    · skip
                      clear hH
                      refine wpList_view ?_; show wpList _ _ _ [_] ⟨#[_, _, _, _, _, _, _, _, _, _, _, _, _, _, _, _, _, _, _, _, _, _, _, _, _, _, _, _, _, _, _, _, _, _, _, _, _, _, _, _, _, _, _, _, _, _, _, _, _, _, _, _, _], _⟩ _
                      repeat (first | go_guarded | go_step)
                      exact hQ _ _ (Grow.refl _) rfl rfl
                    refine obls_cons (fun f w' hR hH Q hQ => ?_) ?_
                    · skip
                      have h4 := hH.get 0 (36, 4) rfl
                      have h5 := hH.get 1 (37, 5) rfl
                      clear hH
                      refine wpList_view ?_; show wpList _ _ _ [_] ⟨#[_, _, _, _, _, _, _, _, _, _, _, _, _, _, _, _, _, _, _, _, _, _, _, _, _, _, _, _, _, _, _, _, _, _, _, _, f 4, f 5, _, _, _, _, _, _, _, _, _, _, _, _, _, _, _], _⟩ _
                      rw [show f 4 = _ from h4]
                      rw [show f 5 = _ from h5]
                      clear h4 h5
                      repeat (first | go_guarded | go_step)
                      exact hQ _ _ (Grow.refl _) rfl rfl
                    refine obls_cons (fun f w' hR hH Q hQ => ?_) ?_
                    · skip
                      have h6 := hH.get 0 (38, 6) rfl
                      clear hH
                      refine wpList_view ?_; show wpList _ _ _ [_] ⟨#[_, _, _, _, _, _, _, _, _, _, _, _, _, _, _, _, _, _, _, _, _, _, _, _, _, _, _, _, _, _, _, _, _, _, _, _, _, _, f 6, _, _, _, _, _, _, _, _, _, _, _, _, _, _], _⟩ _
                      rw [show f 6 = _ from h6]
                      clear h6
                      have y0 := (HGm.out.trans hR).cell HCELL.out
                      repeat (first | go_guarded | go_step)
                      exact hQ _ _ (Grow.refl _) rfl rfl
                    refine obls_cons (fun f w' hR hH Q hQ => ?_) ?_
                    · skip
                      have h3 := hH.get 0 (35, 3) rfl
                      have h7 := hH.get 1 (39, 7) rfl
                      clear hH
                      refine wpList_view ?_; show wpList _ _ _ [_] ⟨#[_, _, _, _, _, _, _, _, _, _, _, _, _, _, _, _, _, _, _, _, _, _, _, _, _, _, _, _, _, _, _, _, _, _, _, f 3, _, _, _, f 7, _, _, _, _, _, _, _, _, _, _, _, _, _], _⟩ _
                      rw [show f 3 = _ from h3]
                      rw [show f 7 = _ from h7]
                      clear h3 h7
                      repeat (first | go_guarded | go_step)
                      exact hQ _ _ (Grow.refl _) rfl rfl
                    refine obls_cons (fun f w' hR hH Q hQ => ?_) ?_
                    · skip
                      have h8 := hH.get 0 (40, 8) rfl
                      clear hH
                      refine wpList_view ?_; show wpList _ _ _ [_] ⟨#[_, _, _, _, _, _, _, _, _, _, _, _, _, _, _, _, _, _, _, _, _, _, _, _, _, _, _, _, _, _, _, _, _, _, _, _, _, _, _, _, f 8, _, _, _, _, _, _, _, _, _, _, _, _], _⟩ _
                      rw [show f 8 = _ from h8]
                      clear h8
                      repeat (first | go_guarded | go_step)
                      exact hQ _ _ (Grow.refl _) rfl rfl
                    refine obls_cons (fun f w' hR hH Q hQ => ?_) ?_
                    · skip
                      have h9 := hH.get 0 (41, 9) rfl
                      clear hH
                      refine wpList_view ?_; show wpList _ _ _ [_] ⟨#[_, _, _, _, _, _, _, _, _, _, _, _, _, _, _, _, _, _, _, _, _, _, _, _, _, _, _, _, _, _, _, _, _, _, _, _, _, _, _, _, _, f 9, _, _, _, _, _, _, _, _, _, _, _], _⟩ _
                      rw [show f 9 = _ from h9]
                      clear h9
                      repeat (first | go_guarded | go_step)
                      exact hQ _ _ (Grow.refl _) rfl rfl
                    refine obls_cons (fun f w' hR hH Q hQ => ?_) ?_
                    · skip
                      have h9 := hH.get 0 (41, 9) rfl
                      clear hH
                      refine wpList_view ?_; show wpList _ _ _ [_] ⟨#[_, _, _, _, _, _, _, _, _, _, _, _, _, _, _, _, _, _, _, _, _, _, _, _, _, _, _, _, _, _, _, _, _, _, _, _, _, _, _, _, _, f 9, _, _, _, _, _, _, _, _, _, _, _], _⟩ _
                      rw [show f 9 = _ from h9]
                      clear h9
                      repeat (first | go_guarded | go_step)
                      exact hQ _ _ (Grow.refl _) rfl rfl
                    refine obls_cons (fun f w' hR hH Q hQ => ?_) ?_
                    · skip
                      have h9 := hH.get 0 (41, 9) rfl
                      clear hH
                      refine wpList_view ?_; show wpList _ _ _ [_] ⟨#[_, _, _, _, _, _, _, _, _, _, _, _, _, _, _, _, _, _, _, _, _, _, _, _, _, _, _, _, _, _, _, _, _, _, _, _, _, _, _, _, _, f 9, _, _, _, _, _, _, _, _, _, _, _], _⟩ _
                      rw [show f 9 = _ from h9]
                      clear h9
                      repeat (first | go_guarded | go_step)
                      exact hQ _ _ (Grow.refl _) rfl rfl
                    refine obls_cons (fun f w' hR hH Q hQ => ?_) ?_
                    · skip
                      have h11 := hH.get 0 (43, 11) rfl
                      have h12 := hH.get 1 (44, 12) rfl
                      have h9 := hH.get 2 (41, 9) rfl
                      clear hH
                      refine wpList_merge (idx := [none, none, none, none, none, none, none, none, none, none, none, none, none, none, none, none, none, none, none, none, none, none, none, none, none, none, none, none, none, none, none, none, none, none, none, none, none, none, none, none, none, some 9, none, some 11, some 12, none, none, none, none, none, none, none, none]) (by kernel_rfl) ?_; show wpList _ _ _ [_] ⟨#[_, _, _, _, _, _, _, _, _, _, _, _, _, _, _, _, _, _, _, _, _, _, _, _, _, _, _, _, _, _, _, _, _, _, _, _, _, _, _, _, _, f 9, _, f 11, f 12, _, _, _, _, _, _, _, _], _⟩ _
                      rw [show f 11 = _ from h11]
                      rw [show f 12 = _ from h12]
                      rw [show f 9 = _ from h9]
                      clear h11 h12 h9
                      repeat (first | go_guarded | go_step)
                      exact hQ _ _ (Grow.refl _) rfl rfl
                    refine obls_cons (fun f w' hR hH Q hQ => ?_) ?_
                    · skip
                      have h13 := hH.get 0 (45, 13) rfl
                      have h9 := hH.get 1 (41, 9) rfl
                      clear hH
                      refine wpList_view ?_; show wpList _ _ _ [_] ⟨#[_, _, _, _, _, _, _, _, _, _, _, _, _, _, _, _, _, _, _, _, _, _, _, _, _, _, _, _, _, _, _, _, _, _, _, _, _, _, _, _, _, f 9, _, _, _, f 13, _, _, _, _, _, _, _], _⟩ _
                      rw [show f 13 = _ from h13]
                      rw [show f 9 = _ from h9]
                      clear h13 h9
                      repeat (first | go_guarded | go_step)
                      exact hQ _ _ (Grow.refl _) rfl rfl
                    refine obls_cons (fun f w' hR hH Q hQ => ?_) ?_
                    · skip
                      have h9 := hH.get 0 (41, 9) rfl
                      clear hH
                      refine wpList_view ?_; show wpList _ _ _ [_] ⟨#[_, _, _, _, _, _, _, _, _, _, _, _, _, _, _, _, _, _, _, _, _, _, _, _, _, _, _, _, _, _, _, _, _, _, _, _, _, _, _, _, _, f 9, _, _, _, _, _, _, _, _, _, _, _], _⟩ _
                      rw [show f 9 = _ from h9]
                      clear h9
                      repeat (first | go_guarded | go_step)
                      exact hQ _ _ (Grow.refl _) rfl rfl
                    refine obls_cons (fun f w' hR hH Q hQ => ?_) ?_
                    · skip
                      have h9 := hH.get 0 (41, 9) rfl
                      clear hH
                      refine wpList_view ?_; show wpList _ _ _ [_] ⟨#[_, _, _, _, _, _, _, _, _, _, _, _, _, _, _, _, _, _, _, _, _, _, _, _, _, _, _, _, _, _, _, _, _, _, _, _, _, _, _, _, _, f 9, _, _, _, _, _, _, _, _, _, _, _], _⟩ _
                      rw [show f 9 = _ from h9]
                      clear h9
                      repeat (first | go_guarded | go_step)
                      exact hQ _ _ (Grow.refl _) rfl rfl
                    refine obls_cons (fun f w' hR hH Q hQ => ?_) ?_
                    · skip
                      have h15 := hH.get 0 (47, 15) rfl
                      have h16 := hH.get 1 (48, 16) rfl
                      have h9 := hH.get 2 (41, 9) rfl
                      clear hH
                      refine wpList_merge (idx := [none, none, none, none, none, none, none, none, none, none, none, none, none, none, none, none, none, none, none, none, none, none, none, none, none, none, none, none, none, none, none, none, none, none, none, none, none, none, none, none, none, some 9, none, none, none, none, none, some 15, some 16, none, none, none, none]) (by kernel_rfl) ?_; show wpList _ _ _ [_] ⟨#[_, _, _, _, _, _, _, _, _, _, _, _, _, _, _, _, _, _, _, _, _, _, _, _, _, _, _, _, _, _, _, _, _, _, _, _, _, _, _, _, _, f 9, _, _, _, _, _, f 15, f 16, _, _, _, _], _⟩ _
                      rw [show f 15 = _ from h15]
                      rw [show f 16 = _ from h16]
                      rw [show f 9 = _ from h9]
                      clear h15 h16 h9
                      repeat (first | go_guarded | go_step)
                      exact hQ _ _ (Grow.refl _) rfl rfl
                    refine obls_cons (fun f w' hR hH Q hQ => ?_) ?_
                    · skip
                      have h17 := hH.get 0 (49, 17) rfl
                      have h9 := hH.get 1 (41, 9) rfl
                      clear hH
                      refine wpList_view ?_; show wpList _ _ _ [_] ⟨#[_, _, _, _, _, _, _, _, _, _, _, _, _, _, _, _, _, _, _, _, _, _, _, _, _, _, _, _, _, _, _, _, _, _, _, _, _, _, _, _, _, f 9, _, _, _, _, _, _, _, f 17, _, _, _], _⟩ _
                      rw [show f 17 = _ from h17]
                      rw [show f 9 = _ from h9]
                      clear h17 h9
                      repeat (first | go_guarded | go_step)
                      exact hQ _ _ (Grow.refl _) rfl rfl
                    refine obls_cons (fun f w' hR hH Q hQ => ?_) ?_
                    · skip
                      have h10 := hH.get 0 (42, 10) rfl
                      have h14 := hH.get 1 (46, 14) rfl
                      have h18 := hH.get 2 (50, 18) rfl
                      have h9 := hH.get 3 (41, 9) rfl
                      clear hH
                      refine wpList_merge (idx := [none, none, none, none, none, none, none, none, none, none, none, none, none, none, none, none, none, none, none, none, none, none, none, none, none, none, none, none, none, none, none, none, none, none, none, none, none, none, none, none, none, some 9, some 10, none, none, none, some 14, none, none, none, some 18, none, none]) (by kernel_rfl) ?_; show wpList _ _ _ [_] ⟨#[_, _, _, _, _, _, _, _, _, _, _, _, _, _, _, _, _, _, _, _, _, _, _, _, _, _, _, _, _, _, _, _, _, _, _, _, _, _, _, _, _, f 9, f 10, _, _, _, f 14, _, _, _, f 18, _, _], _⟩ _
                      rw [show f 10 = _ from h10]
                      rw [show f 14 = _ from h14]
                      rw [show f 18 = _ from h18]
                      rw [show f 9 = _ from h9]
                      clear h10 h14 h18 h9
                      repeat (first | go_guarded | go_step)
                      exact hQ _ _ (Grow.refl _) rfl rfl
                    refine obls_cons (fun f w' hR hH Q hQ => ?_) ?_
                    · skip
                      have h9 := hH.get 0 (41, 9) rfl
                      have h19 := hH.get 1 (51, 19) rfl
                      clear hH
                      refine wpList_view ?_; show wpList _ _ _ [_] ⟨#[_, _, _, _, _, _, _, _, _, _, _, _, _, _, _, _, _, _, _, _, _, _, _, _, _, _, _, _, _, _, _, _, _, _, _, _, _, _, _, _, _, f 9, _, _, _, _, _, _, _, _, _, f 19, _], _⟩ _
                      rw [show f 9 = _ from h9]
                      rw [show f 19 = _ from h19]
                      clear h9 h19
                      repeat (first | go_guarded | go_step)
                      exact hQ _ _ (Grow.refl _) rfl rfl
                    exact obls_nil
                  case mono => exact ⟨Mono.veq _, Mono.veq _, Mono.veq _, Mono.veq _, Mono.veq _, Mono.veq _, Mono.veq _, Mono.veq _, Mono.veq _, Mono.veq _, Mono.veq _, Mono.veq _, Mono.veq _, Mono.veq _, Mono.veq _, Mono.veq _, Mono.veq _, Mono.veq _, Mono.veq _, Mono.veq _, Mono.veq _, trivial⟩
                  case tail =>
                    intro f w' hR hH
                    have q20 := hH.get 20 (52, 20) rfl
                    clear hH
                    refine wpList_merge (idx := [none, none, none, none, none, none, none, none, none, none, none, none, none, none, none, none, none, none, none, none, none, none, none, none, none, none, none, none, none, none, none, none, some 0, some 1, some 2, some 3, some 4, some 5, some 6, some 7, some 8, some 9, some 10, some 11, some 12, some 13, some 14, some 15, some 16, some 17, some 18, some 19, some 20]) (by kernel_rfl) ?_; show wpList _ _ _ [] ⟨#[_, _, _, _, _, _, _, _, _, _, _, _, _, _, _, _, _, _, _, _, _, _, _, _, _, _, _, _, _, _, _, _, f 0, f 1, f 2, f 3, f 4, f 5, f 6, f 7, f 8, f 9, f 10, f 11, f 12, f 13, f 14, f 15, f 16, f 17, f 18, f 19, f 20], _⟩ _
                    rw [show f 20 = _ from q20]
                    clear q20
                    have HGs := Lib.hid (HGm.out.trans hR)
                    clear hR
                    go_wp2_with fail
                    go_ret
                    exact ⟨by rw [HF.out]; rfl, HG1.out.trans HGs.out⟩
                · have t4 : (x == (z : Int)) = false := beq_false_of_ne hxz
                  obtain ⟨q, hq⟩ : ∃ q, q = aheadI R (z : Int) x := ⟨_, rfl⟩
                  have HBF : Hid (∀ w', Grow W1 w' → Calls Try.prog 49 #[.agg #[.int .i64 (n : Int), .slice A l c], .int .i64 (z : Int), .int .i64 x] w' fun e w2 => e = .returned (.bool q) ∧ Grow w' w2) := Lib.hid fun w' hg => by rw [hq]; exact KB.out w' _ _ hg
                  have HQ := Lib.hid hq
                  have HXZ := Lib.hid hxz
                  clear hq hxz
                  cases q
                  · go_wp2_with fail
                    apply (fun (v0 v1 v2 v3 v4 v5 v6 v7 v8 v9 v10 v11 v12 v13 v14 v15 v16 v17 v18 v19 v20 : Value) mono obl tail => wp_region_par (R := Grow) (Φ := phi [veq v0, veq v1, veq v2, veq v3, veq v4, veq v5, veq v6, veq v7, veq v8, veq v9, veq v10, veq v11, veq v12, veq v13, veq v14, veq v15, veq v16, veq v17, veq v18, veq v19, veq v20]) (m := 21) (dls := [[], [], [(32, 0), (33, 1)], [(34, 2)], [], [], [(36, 4), (37, 5)], [(38, 6)], [(35, 3), (39, 7)], [(40, 8)], [(41, 9)], [(41, 9)], [(41, 9)], [(43, 11), (44, 12), (41, 9)], [(45, 13), (41, 9)], [(41, 9)], [(41, 9)], [(47, 15), (48, 16), (41, 9)], [(49, 17), (41, 9)], [(42, 10), (46, 14), (50, 18), (41, 9)], [(41, 9), (51, 19)]]) (ds := [32, 33, 34, 35, 36, 37, 38, 39, 40, 41, 42, 43, 44, 45, 46, 47, 48, 49, 50, 51, 52]) (by kernel_rfl) (by kernel_rfl) (by decide) rfl (Grow.drew _) (fun _ _ _ => Grow.trans) (mono_phi mono) obl tail)
                    case obl =>
                      refine obls_cons (fun f w' hR hH Q hQ => ?_) ?_
                      · skip
                        clear hH
                        refine wpList_view ?_; show wpList _ _ _ [_] ⟨#[_, _, _, _, _, _, _, _, _, _, _, _, _, _, _, _, _, _, _, _, _, _, _, _, _, _, _, _, _, _, _, _, _, _, _, _, _, _, _, _, _, _, _, _, _, _, _, _, _, _, _, _, _], _⟩ _
                        repeat (first | go_guarded | go_step)
                        exact hQ _ _ (Grow.refl _) rfl rfl
                      refine obls_cons (fun f w' hR hH Q hQ => ?_) ?_
                      · skip
                        clear hH
                        refine wpList_view ?_; show wpList _ _ _ [_] ⟨#[_, _, _, _, _, _, _, _, _, _, _, _, _, _, _, _, _, _, _, _, _, _, _, _, _, _, _, _, _, _, _, _, _, _, _, _, _, _, _, _, _, _, _, _, _, _, _, _, _, _, _, _, _], _⟩ _
                        repeat (first | go_guarded | go_step)
                        exact hQ _ _ (Grow.refl _) rfl rfl
                      refine obls_cons (fun f w' hR hH Q hQ => ?_) ?_
                      · skip
                        have h0 := hH.get 0 (32, 0) rfl
                        have h1 := hH.get 1 (33, 1) rfl
                        clear hH
                        refine wpList_view ?_; show wpList _ _ _ [_] ⟨#[_, _, _, _, _, _, _, _, _, _, _, _, _, _, _, _, _, _, _, _, _, _, _, _, _, _, _, _, _, _, _, _, f 0, f 1, _, _, _, _, _, _, _, _, _, _, _, _, _, _, _, _, _, _, _], _⟩ _
                        rw [show f 0 = _ from h0]
                        rw [show f 1 = _ from h1]
                        clear h0 h1
                        repeat (first | go_guarded | go_step)
                        exact hQ _ _ (Grow.refl _) rfl rfl
                      refine obls_cons (fun f w' hR hH Q hQ => ?_) ?_
                      · skip
                        have h2 := hH.get 0 (34, 2) rfl
                        clear hH
                        refine wpList_view ?_; show wpList _ _ _ [_] ⟨#[_, _, _, _, _, _, _, _, _, _, _, _, _, _, _, _, _, _, _, _, _, _, _, _, _, _, _, _, _, _, _, _, _, _, f 2, _, _, _, _, _, _, _, _, _, _, _, _, _, _, _, _, _, _], _⟩ _
                        rw [show f 2 = _ from h2]
                        clear h2
                        have y0 := (HGm.out.trans hR).cell HCM.out
                        repeat (first | go_guarded | go_step)
                        exact hQ _ _ (Grow.refl _) rfl rfl
                      refine obls_cons (fun f w' hR hH Q hQ => ?_) ?_
                      · skip
                        clear hH
                        refine wpList_view ?_; show wpList _ _ _ [_] ⟨#[_, _, _, _, _, _, _, _, _, _, _, _, _, _, _, _, _, _, _, _, _, _, _, _, _, _, _, _, _, _, _, _, _, _, _, _, _, _, _, _, _, _, _, _, _, _, _, _, _, _, _, _, _], _⟩ _
                        repeat (first | go_guarded | go_step)
                        exact hQ _ _ (Grow.refl _) rfl rfl
                      refine obls_cons (fun f w' hR hH Q hQ => ?_) ?_
                      · skip
                        clear hH
                        refine wpList_view ?_; show wpList _ _ _ [_] ⟨#[_, _, _, _, _, _, _, _, _, _, _, _, _, _, _, _, _, _, _, _, _, _, _, _, _, _, _, _, _, _, _, _, _, _, _, _, _, _, _, _, _, _, _, _, _, _, _, _, _, _, _, _, _], _⟩ _
                        repeat (first | go_guarded | go_step)
                        exact hQ _ _ (Grow.refl _) rfl rfl
                      refine obls_cons (fun f w' hR hH Q hQ => ?_) ?_
                      · skip
                        have h4 := hH.get 0 (36, 4) rfl
                        have h5 := hH.get 1 (37, 5) rfl
                        clear hH
                        refine wpList_view ?_; show wpList _ _ _ [_] ⟨#[_, _, _, _, _, _, _, _, _, _, _, _, _, _, _, _, _, _, _, _, _, _, _, _, _, _, _, _, _, _, _, _, _, _, _, _, f 4, f 5, _, _, _, _, _, _, _, _, _, _, _, _, _, _, _], _⟩ _
                        rw [show f 4 = _ from h4]
                        rw [show f 5 = _ from h5]
                        clear h4 h5
                        repeat (first | go_guarded | go_step)
                        exact hQ _ _ (Grow.refl _) rfl rfl
                      refine obls_cons (fun f w' hR hH Q hQ => ?_) ?_
                      · skip
                        have h6 := hH.get 0 (38, 6) rfl
                        clear hH
                        refine wpList_view ?_; show wpList _ _ _ [_] ⟨#[_, _, _, _, _, _, _, _, _, _, _, _, _, _, _, _, _, _, _, _, _, _, _, _, _, _, _, _, _, _, _, _, _, _, _, _, _, _, f 6, _, _, _, _, _, _, _, _, _, _, _, _, _, _], _⟩ _
                        rw [show f 6 = _ from h6]
                        clear h6
                        have y0 := (HGm.out.trans hR).cell HCELL.out
                        repeat (first | go_guarded | go_step)
                        exact hQ _ _ (Grow.refl _) rfl rfl
                      refine obls_cons (fun f w' hR hH Q hQ => ?_) ?_
                      · skip
                        have h3 := hH.get 0 (35, 3) rfl
                        have h7 := hH.get 1 (39, 7) rfl
                        clear hH
                        refine wpList_view ?_; show wpList _ _ _ [_] ⟨#[_, _, _, _, _, _, _, _, _, _, _, _, _, _, _, _, _, _, _, _, _, _, _, _, _, _, _, _, _, _, _, _, _, _, _, f 3, _, _, _, f 7, _, _, _, _, _, _, _, _, _, _, _, _, _], _⟩ _
                        rw [show f 3 = _ from h3]
                        rw [show f 7 = _ from h7]
                        clear h3 h7
                        repeat (first | go_guarded | go_step)
                        exact hQ _ _ (Grow.refl _) rfl rfl
                      refine obls_cons (fun f w' hR hH Q hQ => ?_) ?_
                      · skip
                        have h8 := hH.get 0 (40, 8) rfl
                        clear hH
                        refine wpList_view ?_; show wpList _ _ _ [_] ⟨#[_, _, _, _, _, _, _, _, _, _, _, _, _, _, _, _, _, _, _, _, _, _, _, _, _, _, _, _, _, _, _, _, _, _, _, _, _, _, _, _, f 8, _, _, _, _, _, _, _, _, _, _, _, _], _⟩ _
                        rw [show f 8 = _ from h8]
                        clear h8
                        repeat (first | go_guarded | go_step)
                        exact hQ _ _ (Grow.refl _) rfl rfl
                      refine obls_cons (fun f w' hR hH Q hQ => ?_) ?_
                      · skip
                        have h9 := hH.get 0 (41, 9) rfl
                        clear hH
                        refine wpList_view ?_; show wpList _ _ _ [_] ⟨#[_, _, _, _, _, _, _, _, _, _, _, _, _, _, _, _, _, _, _, _, _, _, _, _, _, _, _, _, _, _, _, _, _, _, _, _, _, _, _, _, _, f 9, _, _, _, _, _, _, _, _, _, _, _], _⟩ _
                        rw [show f 9 = _ from h9]
                        clear h9
                        have hb := HBX.out.grow (HGm.out.trans hR)
                        go_wp2_with (refine load_blk rfl _ _ rfl b0 rfl _ _ _ hb und8 rfl (by rw [size8]; rfl) ?_)
                        exact hQ _ _ (Grow.refl _) rfl rfl
                      refine obls_cons (fun f w' hR hH Q hQ => ?_) ?_
                      · skip
                        have h9 := hH.get 0 (41, 9) rfl
                        clear hH
                        refine wpList_view ?_; show wpList _ _ _ [_] ⟨#[_, _, _, _, _, _, _, _, _, _, _, _, _, _, _, _, _, _, _, _, _, _, _, _, _, _, _, _, _, _, _, _, _, _, _, _, _, _, _, _, _, f 9, _, _, _, _, _, _, _, _, _, _, _], _⟩ _
                        rw [show f 9 = _ from h9]
                        clear h9
                        repeat (first | go_guarded | go_step)
                        exact hQ _ _ (Grow.refl _) rfl rfl
                      refine obls_cons (fun f w' hR hH Q hQ => ?_) ?_
                      · skip
                        have h9 := hH.get 0 (41, 9) rfl
                        clear hH
                        refine wpList_view ?_; show wpList _ _ _ [_] ⟨#[_, _, _, _, _, _, _, _, _, _, _, _, _, _, _, _, _, _, _, _, _, _, _, _, _, _, _, _, _, _, _, _, _, _, _, _, _, _, _, _, _, f 9, _, _, _, _, _, _, _, _, _, _, _], _⟩ _
                        rw [show f 9 = _ from h9]
                        clear h9
                        repeat (first | go_guarded | go_step)
                        exact hQ _ _ (Grow.refl _) rfl rfl
                      refine obls_cons (fun f w' hR hH Q hQ => ?_) ?_
                      · skip
                        have h11 := hH.get 0 (43, 11) rfl
                        have h12 := hH.get 1 (44, 12) rfl
                        have h9 := hH.get 2 (41, 9) rfl
                        clear hH
                        refine wpList_merge (idx := [none, none, none, none, none, none, none, none, none, none, none, none, none, none, none, none, none, none, none, none, none, none, none, none, none, none, none, none, none, none, none, none, none, none, none, none, none, none, none, none, none, some 9, none, some 11, some 12, none, none, none, none, none, none, none, none]) (by kernel_rfl) ?_; show wpList _ _ _ [_] ⟨#[_, _, _, _, _, _, _, _, _, _, _, _, _, _, _, _, _, _, _, _, _, _, _, _, _, _, _, _, _, _, _, _, _, _, _, _, _, _, _, _, _, f 9, _, f 11, f 12, _, _, _, _, _, _, _, _], _⟩ _
                        rw [show f 11 = _ from h11]
                        rw [show f 12 = _ from h12]
                        rw [show f 9 = _ from h9]
                        clear h11 h12 h9
                        repeat (first | go_guarded | go_step)
                        exact hQ _ _ (Grow.refl _) rfl rfl
                      refine obls_cons (fun f w' hR hH Q hQ => ?_) ?_
                      · skip
                        have h13 := hH.get 0 (45, 13) rfl
                        have h9 := hH.get 1 (41, 9) rfl
                        clear hH
                        refine wpList_view ?_; show wpList _ _ _ [_] ⟨#[_, _, _, _, _, _, _, _, _, _, _, _, _, _, _, _, _, _, _, _, _, _, _, _, _, _, _, _, _, _, _, _, _, _, _, _, _, _, _, _, _, f 9, _, _, _, f 13, _, _, _, _, _, _, _], _⟩ _
                        rw [show f 13 = _ from h13]
                        rw [show f 9 = _ from h9]
                        clear h13 h9
                        have y0 := (HGm.out.trans hR).cell HCELL.out
                        repeat (first | go_guarded | go_step)
                        exact hQ _ _ (Grow.refl _) rfl rfl
                      refine obls_cons (fun f w' hR hH Q hQ => ?_) ?_
                      · skip
                        have h9 := hH.get 0 (41, 9) rfl
                        clear hH
                        refine wpList_view ?_; show wpList _ _ _ [_] ⟨#[_, _, _, _, _, _, _, _, _, _, _, _, _, _, _, _, _, _, _, _, _, _, _, _, _, _, _, _, _, _, _, _, _, _, _, _, _, _, _, _, _, f 9, _, _, _, _, _, _, _, _, _, _, _], _⟩ _
                        rw [show f 9 = _ from h9]
                        clear h9
                        repeat (first | go_guarded | go_step)
                        exact hQ _ _ (Grow.refl _) rfl rfl
                      refine obls_cons (fun f w' hR hH Q hQ => ?_) ?_
                      · skip
                        have h9 := hH.get 0 (41, 9) rfl
                        clear hH
                        refine wpList_view ?_; show wpList _ _ _ [_] ⟨#[_, _, _, _, _, _, _, _, _, _, _, _, _, _, _, _, _, _, _, _, _, _, _, _, _, _, _, _, _, _, _, _, _, _, _, _, _, _, _, _, _, f 9, _, _, _, _, _, _, _, _, _, _, _], _⟩ _
                        rw [show f 9 = _ from h9]
                        clear h9
                        repeat (first | go_guarded | go_step)
                        exact hQ _ _ (Grow.refl _) rfl rfl
                      refine obls_cons (fun f w' hR hH Q hQ => ?_) ?_
                      · skip
                        have h15 := hH.get 0 (47, 15) rfl
                        have h16 := hH.get 1 (48, 16) rfl
                        have h9 := hH.get 2 (41, 9) rfl
                        clear hH
                        refine wpList_merge (idx := [none, none, none, none, none, none, none, none, none, none, none, none, none, none, none, none, none, none, none, none, none, none, none, none, none, none, none, none, none, none, none, none, none, none, none, none, none, none, none, none, none, some 9, none, none, none, none, none, some 15, some 16, none, none, none, none]) (by kernel_rfl) ?_; show wpList _ _ _ [_] ⟨#[_, _, _, _, _, _, _, _, _, _, _, _, _, _, _, _, _, _, _, _, _, _, _, _, _, _, _, _, _, _, _, _, _, _, _, _, _, _, _, _, _, f 9, _, _, _, _, _, f 15, f 16, _, _, _, _], _⟩ _
                        rw [show f 15 = _ from h15]
                        rw [show f 16 = _ from h16]
                        rw [show f 9 = _ from h9]
                        clear h15 h16 h9
                        repeat (first | go_guarded | go_step)
                        exact hQ _ _ (Grow.refl _) rfl rfl
                      refine obls_cons (fun f w' hR hH Q hQ => ?_) ?_
                      · skip
                        have h17 := hH.get 0 (49, 17) rfl
                        have h9 := hH.get 1 (41, 9) rfl
                        clear hH
                        refine wpList_view ?_; show wpList _ _ _ [_] ⟨#[_, _, _, _, _, _, _, _, _, _, _, _, _, _, _, _, _, _, _, _, _, _, _, _, _, _, _, _, _, _, _, _, _, _, _, _, _, _, _, _, _, f 9, _, _, _, _, _, _, _, f 17, _, _, _], _⟩ _
                        rw [show f 17 = _ from h17]
                        rw [show f 9 = _ from h9]
                        clear h17 h9
                        have y0 := (HGm.out.trans hR).cell HCM.out
                        repeat (first | go_guarded | go_step)
                        exact hQ _ _ (Grow.refl _) rfl rfl
                      refine obls_cons (fun f w' hR hH Q hQ => ?_) ?_
                      · skip
                        have h10 := hH.get 0 (42, 10) rfl
                        have h14 := hH.get 1 (46, 14) rfl
                        have h18 := hH.get 2 (50, 18) rfl
                        have h9 := hH.get 3 (41, 9) rfl
                        clear hH
                        refine wpList_merge (idx := [none, none, none, none, none, none, none, none, none, none, none, none, none, none, none, none, none, none, none, none, none, none, none, none, none, none, none, none, none, none, none, none, none, none, none, none, none, none, none, none, none, some 9, some 10, none, none, none, some 14, none, none, none, some 18, none, none]) (by kernel_rfl) ?_; show wpList _ _ _ [_] ⟨#[_, _, _, _, _, _, _, _, _, _, _, _, _, _, _, _, _, _, _, _, _, _, _, _, _, _, _, _, _, _, _, _, _, _, _, _, _, _, _, _, _, f 9, f 10, _, _, _, f 14, _, _, _, f 18, _, _], _⟩ _
                        rw [show f 10 = _ from h10]
                        rw [show f 14 = _ from h14]
                        rw [show f 18 = _ from h18]
                        rw [show f 9 = _ from h9]
                        clear h10 h14 h18 h9
                        go_wp2_with (go_at_call 49; refine (HBF.out w' (HGm.out.trans hR)).mono ?_; rintro e w1 ⟨rfl, hg1⟩)
                        exact hQ _ _ hg1 rfl rfl
                      refine obls_cons (fun f w' hR hH Q hQ => ?_) ?_
                      · skip
                        have h9 := hH.get 0 (41, 9) rfl
                        have h19 := hH.get 1 (51, 19) rfl
                        clear hH
                        refine wpList_view ?_; show wpList _ _ _ [_] ⟨#[_, _, _, _, _, _, _, _, _, _, _, _, _, _, _, _, _, _, _, _, _, _, _, _, _, _, _, _, _, _, _, _, _, _, _, _, _, _, _, _, _, f 9, _, _, _, _, _, _, _, _, _, f 19, _], _⟩ _
                        rw [show f 9 = _ from h9]
                        rw [show f 19 = _ from h19]
                        clear h9 h19
                        repeat (first | go_guarded | go_step)
                        exact hQ _ _ (Grow.refl _) rfl rfl
                      exact obls_nil
                    case mono => exact ⟨Mono.veq _, Mono.veq _, Mono.veq _, Mono.veq _, Mono.veq _, Mono.veq _, Mono.veq _, Mono.veq _, Mono.veq _, Mono.veq _, Mono.veq _, Mono.veq _, Mono.veq _, Mono.veq _, Mono.veq _, Mono.veq _, Mono.veq _, Mono.veq _, Mono.veq _, Mono.veq _, Mono.veq _, trivial⟩
                    case tail =>
                      intro f w' hR hH
                      have q20 := hH.get 20 (52, 20) rfl
                      clear hH
                      refine wpList_merge (idx := [none, none, none, none, none, none, none, none, none, none, none, none, none, none, none, none, none, none, none, none, none, none, none, none, none, none, none, none, none, none, none, none, some 0, some 1, some 2, some 3, some 4, some 5, some 6, some 7, some 8, some 9, some 10, some 11, some 12, some 13, some 14, some 15, some 16, some 17, some 18, some 19, some 20]) (by kernel_rfl) ?_; show wpList _ _ _ [] ⟨#[_, _, _, _, _, _, _, _, _, _, _, _, _, _, _, _, _, _, _, _, _, _, _, _, _, _, _, _, _, _, _, _, f 0, f 1, f 2, f 3, f 4, f 5, f 6, f 7, f 8, f 9, f 10, f 11, f 12, f 13, f 14, f 15, f 16, f 17, f 18, f 19, f 20], _⟩ _
                      rw [show f 20 = _ from q20]
                      clear q20
                      have HGs := Lib.hid (HGm.out.trans hR)
                      clear hR
                      go_wp2_with fail
                      go_roundw
                      case rel => exact ⟨m + 1, by have := HLTm.out; omega, by go_num, HGs.out, fun j y hj hy => by
                        by_cases hjm : j < m
                        · exact HNO.out j y hjm hy
                        · obtain rfl : j = m := by omega
                          rw [HX.out] at hy
                          obtain rfl := Option.some.inj hy
                          exact ⟨HXZ.out, HQ.out.symm⟩⟩
                      case measure => have := HLTm.out; simp [intOf] <;> omega
                  · have HF : Hid (r = false) := Lib.hid (by
                      rw [HRE.out]
                      exact fits_no (k := k) (by rw [HLEN.out]; exact HLTk.out) (okK_no HZ.out (.inr ⟨m, x, HLTm.out, HX.out, .inr HQ.out.symm⟩)))
                    go_wp2_with fail
                    apply (fun (v0 v1 v2 v3 v4 v5 v6 v7 v8 v9 v10 v11 v12 v13 v14 v15 v16 v17 v18 v19 v20 : Value) mono obl tail => wp_region_par (R := Grow) (Φ := phi [veq v0, veq v1, veq v2, veq v3, veq v4, veq v5, veq v6, veq v7, veq v8, veq v9, veq v10, veq v11, veq v12, veq v13, veq v14, veq v15, veq v16, veq v17, veq v18, veq v19, veq v20]) (m := 21) (dls := [[], [], [(32, 0), (33, 1)], [(34, 2)], [], [], [(36, 4), (37, 5)], [(38, 6)], [(35, 3), (39, 7)], [(40, 8)], [(41, 9)], [(41, 9)], [(41, 9)], [(43, 11), (44, 12), (41, 9)], [(45, 13), (41, 9)], [(41, 9)], [(41, 9)], [(47, 15), (48, 16), (41, 9)], [(49, 17), (41, 9)], [(42, 10), (46, 14), (50, 18), (41, 9)], [(41, 9), (51, 19)]]) (ds := [32, 33, 34, 35, 36, 37, 38, 39, 40, 41, 42, 43, 44, 45, 46, 47, 48, 49, 50, 51, 52]) (by kernel_rfl) (by kernel_rfl) (by decide) rfl (Grow.drew _) (fun _ _ _ => Grow.trans) (mono_phi mono) obl tail)
                    case obl =>
                      refine obls_cons (fun f w' hR hH Q hQ => ?_) ?_
                      · skip
                        clear hH
                        refine wpList_view ?_; show wpList _ _ _ [_] ⟨#[_, _, _, _, _, _, _, _, _, _, _, _, _, _, _, _, _, _, _, _, _, _, _, _, _, _, _, _, _, _, _, _, _, _, _, _, _, _, _, _, _, _, _, _, _, _, _, _, _, _, _, _, _], _⟩ _
                        repeat (first | go_guarded | go_step)
                        exact hQ _ _ (Grow.refl _) rfl rfl
                      refine obls_cons (fun f w' hR hH Q hQ => ?_) ?_
                      · skip
                        clear hH
                        refine wpList_view ?_; show wpList _ _ _ [_] ⟨#[_, _, _, _, _, _, _, _, _, _, _, _, _, _, _, _, _, _, _, _, _, _, _, _, _, _, _, _, _, _, _, _, _, _, _, _, _, _, _, _, _, _, _, _, _, _, _, _, _, _, _, _, _], _⟩ _
                        repeat (first | go_guarded | go_step)
                        exact hQ _ _ (Grow.refl _) rfl rfl
                      refine obls_cons (fun f w' hR hH Q hQ => ?_) ?_
                      · skip
                        have h0 := hH.get 0 (32, 0) rfl
                        have h1 := hH.get 1 (33, 1) rfl
                        clear hH
                        refine wpList_view ?_; show wpList _ _ _ [_] ⟨#[_, _, _, _, _, _, _, _, _, _, _, _, _, _, _, _, _, _, _, _, _, _, _, _, _, _, _, _, _, _, _, _, f 0, f 1, _, _, _, _, _, _, _, _, _, _, _, _, _, _, _, _, _, _, _], _⟩ _
                        rw [show f 0 = _ from h0]
                        rw [show f 1 = _ from h1]
                        clear h0 h1
                        repeat (first | go_guarded | go_step)
                        exact hQ _ _ (Grow.refl _) rfl rfl
                      refine obls_cons (fun f w' hR hH Q hQ => ?_) ?_
                      · skip
                        have h2 := hH.get 0 (34, 2) rfl
                        clear hH
                        refine wpList_view ?_; show wpList _ _ _ [_] ⟨#[_, _, _, _, _, _, _, _, _, _, _, _, _, _, _, _, _, _, _, _, _, _, _, _, _, _, _, _, _, _, _, _, _, _, f 2, _, _, _, _, _, _, _, _, _, _, _, _, _, _, _, _, _, _], _⟩ _
                        rw [show f 2 = _ from h2]
                        clear h2
                        have y0 := (HGm.out.trans hR).cell HCM.out
                        repeat (first | go_guarded | go_step)
                        exact hQ _ _ (Grow.refl _) rfl rfl
                      refine obls_cons (fun f w' hR hH Q hQ => ?_) ?_
                      · skip
                        clear hH
                        refine wpList_view ?_; show wpList _ _ _ [_] ⟨#[_, _, _, _, _, _, _, _, _, _, _, _, _, _, _, _, _, _, _, _, _, _, _, _, _, _, _, _, _, _, _, _, _, _, _, _, _, _, _, _, _, _, _, _, _, _, _, _, _, _, _, _, _], _⟩ _
                        repeat (first | go_guarded | go_step)
                        exact hQ _ _ (Grow.refl _) rfl rfl
                      refine obls_cons (fun f w' hR hH Q hQ => ?_) ?_
                      · skip
                        clear hH
                        refine wpList_view ?_; show wpList _ _ _ [_] ⟨#[_, _, _, _, _, _, _, _, _, _, _, _, _, _, _, _, _, _, _, _, _, _, _, _, _, _, _, _, _, _, _, _, _, _, _, _, _, _, _, _, _, _, _, _, _, _, _, _, _, _, _, _, _], _⟩ _
                        repeat (first | go_guarded | go_step)
                        exact hQ _ _ (Grow.refl _) rfl rfl
                      refine obls_cons (fun f w' hR hH Q hQ => ?_) ?_
                      · skip
                        have h4 := hH.get 0 (36, 4) rfl
                        have h5 := hH.get 1 (37, 5) rfl
                        clear hH
                        refine wpList_view ?_; show wpList _ _ _ [_] ⟨#[_, _, _, _, _, _, _, _, _, _, _, _, _, _, _, _, _, _, _, _, _, _, _, _, _, _, _, _, _, _, _, _, _, _, _, _, f 4, f 5, _, _, _, _, _, _, _, _, _, _, _, _, _, _, _], _⟩ _
                        rw [show f 4 = _ from h4]
                        rw [show f 5 = _ from h5]
                        clear h4 h5
                        repeat (first | go_guarded | go_step)
                        exact hQ _ _ (Grow.refl _) rfl rfl
                      refine obls_cons (fun f w' hR hH Q hQ => ?_) ?_
                      · skip
                        have h6 := hH.get 0 (38, 6) rfl
                        clear hH
                        refine wpList_view ?_; show wpList _ _ _ [_] ⟨#[_, _, _, _, _, _, _, _, _, _, _, _, _, _, _, _, _, _, _, _, _, _, _, _, _, _, _, _, _, _, _, _, _, _, _, _, _, _, f 6, _, _, _, _, _, _, _, _, _, _, _, _, _, _], _⟩ _
                        rw [show f 6 = _ from h6]
                        clear h6
                        have y0 := (HGm.out.trans hR).cell HCELL.out
                        repeat (first | go_guarded | go_step)
                        exact hQ _ _ (Grow.refl _) rfl rfl
                      refine obls_cons (fun f w' hR hH Q hQ => ?_) ?_
                      · skip
                        have h3 := hH.get 0 (35, 3) rfl
                        have h7 := hH.get 1 (39, 7) rfl
                        clear hH
                        refine wpList_view ?_; show wpList _ _ _ [_] ⟨#[_, _, _, _, _, _, _, _, _, _, _, _, _, _, _, _, _, _, _, _, _, _, _, _, _, _, _, _, _, _, _, _, _, _, _, f 3, _, _, _, f 7, _, _, _, _, _, _, _, _, _, _, _, _, _], _⟩ _
                        rw [show f 3 = _ from h3]
                        rw [show f 7 = _ from h7]
                        clear h3 h7
                        repeat (first | go_guarded | go_step)
                        exact hQ _ _ (Grow.refl _) rfl rfl
                      refine obls_cons (fun f w' hR hH Q hQ => ?_) ?_
                      · skip
                        have h8 := hH.get 0 (40, 8) rfl
                        clear hH
                        refine wpList_view ?_; show wpList _ _ _ [_] ⟨#[_, _, _, _, _, _, _, _, _, _, _, _, _, _, _, _, _, _, _, _, _, _, _, _, _, _, _, _, _, _, _, _, _, _, _, _, _, _, _, _, f 8, _, _, _, _, _, _, _, _, _, _, _, _], _⟩ _
                        rw [show f 8 = _ from h8]
                        clear h8
                        repeat (first | go_guarded | go_step)
                        exact hQ _ _ (Grow.refl _) rfl rfl
                      refine obls_cons (fun f w' hR hH Q hQ => ?_) ?_
                      · skip
                        have h9 := hH.get 0 (41, 9) rfl
                        clear hH
                        refine wpList_view ?_; show wpList _ _ _ [_] ⟨#[_, _, _, _, _, _, _, _, _, _, _, _, _, _, _, _, _, _, _, _, _, _, _, _, _, _, _, _, _, _, _, _, _, _, _, _, _, _, _, _, _, f 9, _, _, _, _, _, _, _, _, _, _, _], _⟩ _
                        rw [show f 9 = _ from h9]
                        clear h9
                        have hb := HBX.out.grow (HGm.out.trans hR)
                        go_wp2_with (refine load_blk rfl _ _ rfl b0 rfl _ _ _ hb und8 rfl (by rw [size8]; rfl) ?_)
                        exact hQ _ _ (Grow.refl _) rfl rfl
                      refine obls_cons (fun f w' hR hH Q hQ => ?_) ?_
                      · skip
                        have h9 := hH.get 0 (41, 9) rfl
                        clear hH
                        refine wpList_view ?_; show wpList _ _ _ [_] ⟨#[_, _, _, _, _, _, _, _, _, _, _, _, _, _, _, _, _, _, _, _, _, _, _, _, _, _, _, _, _, _, _, _, _, _, _, _, _, _, _, _, _, f 9, _, _, _, _, _, _, _, _, _, _, _], _⟩ _
                        rw [show f 9 = _ from h9]
                        clear h9
                        repeat (first | go_guarded | go_step)
                        exact hQ _ _ (Grow.refl _) rfl rfl
                      refine obls_cons (fun f w' hR hH Q hQ => ?_) ?_
                      · skip
                        have h9 := hH.get 0 (41, 9) rfl
                        clear hH
                        refine wpList_view ?_; show wpList _ _ _ [_] ⟨#[_, _, _, _, _, _, _, _, _, _, _, _, _, _, _, _, _, _, _, _, _, _, _, _, _, _, _, _, _, _, _, _, _, _, _, _, _, _, _, _, _, f 9, _, _, _, _, _, _, _, _, _, _, _], _⟩ _
                        rw [show f 9 = _ from h9]
                        clear h9
                        repeat (first | go_guarded | go_step)
                        exact hQ _ _ (Grow.refl _) rfl rfl
                      refine obls_cons (fun f w' hR hH Q hQ => ?_) ?_
                      · skip
                        have h11 := hH.get 0 (43, 11) rfl
                        have h12 := hH.get 1 (44, 12) rfl
                        have h9 := hH.get 2 (41, 9) rfl
                        clear hH
                        refine wpList_merge (idx := [none, none, none, none, none, none, none, none, none, none, none, none, none, none, none, none, none, none, none, none, none, none, none, none, none, none, none, none, none, none, none, none, none, none, none, none, none, none, none, none, none, some 9, none, some 11, some 12, none, none, none, none, none, none, none, none]) (by kernel_rfl) ?_; show wpList _ _ _ [_] ⟨#[_, _, _, _, _, _, _, _, _, _, _, _, _, _, _, _, _, _, _, _, _, _, _, _, _, _, _, _, _, _, _, _, _, _, _, _, _, _, _, _, _, f 9, _, f 11, f 12, _, _, _, _, _, _, _, _], _⟩ _
                        rw [show f 11 = _ from h11]
                        rw [show f 12 = _ from h12]
                        rw [show f 9 = _ from h9]
                        clear h11 h12 h9
                        repeat (first | go_guarded | go_step)
                        exact hQ _ _ (Grow.refl _) rfl rfl
                      refine obls_cons (fun f w' hR hH Q hQ => ?_) ?_
                      · skip
                        have h13 := hH.get 0 (45, 13) rfl
                        have h9 := hH.get 1 (41, 9) rfl
                        clear hH
                        refine wpList_view ?_; show wpList _ _ _ [_] ⟨#[_, _, _, _, _, _, _, _, _, _, _, _, _, _, _, _, _, _, _, _, _, _, _, _, _, _, _, _, _, _, _, _, _, _, _, _, _, _, _, _, _, f 9, _, _, _, f 13, _, _, _, _, _, _, _], _⟩ _
                        rw [show f 13 = _ from h13]
                        rw [show f 9 = _ from h9]
                        clear h13 h9
                        have y0 := (HGm.out.trans hR).cell HCELL.out
                        repeat (first | go_guarded | go_step)
                        exact hQ _ _ (Grow.refl _) rfl rfl
                      refine obls_cons (fun f w' hR hH Q hQ => ?_) ?_
                      · skip
                        have h9 := hH.get 0 (41, 9) rfl
                        clear hH
                        refine wpList_view ?_; show wpList _ _ _ [_] ⟨#[_, _, _, _, _, _, _, _, _, _, _, _, _, _, _, _, _, _, _, _, _, _, _, _, _, _, _, _, _, _, _, _, _, _, _, _, _, _, _, _, _, f 9, _, _, _, _, _, _, _, _, _, _, _], _⟩ _
                        rw [show f 9 = _ from h9]
                        clear h9
                        repeat (first | go_guarded | go_step)
                        exact hQ _ _ (Grow.refl _) rfl rfl
                      refine obls_cons (fun f w' hR hH Q hQ => ?_) ?_
                      · skip
                        have h9 := hH.get 0 (41, 9) rfl
                        clear hH
                        refine wpList_view ?_; show wpList _ _ _ [_] ⟨#[_, _, _, _, _, _, _, _, _, _, _, _, _, _, _, _, _, _, _, _, _, _, _, _, _, _, _, _, _, _, _, _, _, _, _, _, _, _, _, _, _, f 9, _, _, _, _, _, _, _, _, _, _, _], _⟩ _
                        rw [show f 9 = _ from h9]
                        clear h9
                        repeat (first | go_guarded | go_step)
                        exact hQ _ _ (Grow.refl _) rfl rfl
                      refine obls_cons (fun f w' hR hH Q hQ => ?_) ?_
                      · skip
                        have h15 := hH.get 0 (47, 15) rfl
                        have h16 := hH.get 1 (48, 16) rfl
                        have h9 := hH.get 2 (41, 9) rfl
                        clear hH
                        refine wpList_merge (idx := [none, none, none, none, none, none, none, none, none, none, none, none, none, none, none, none, none, none, none, none, none, none, none, none, none, none, none, none, none, none, none, none, none, none, none, none, none, none, none, none, none, some 9, none, none, none, none, none, some 15, some 16, none, none, none, none]) (by kernel_rfl) ?_; show wpList _ _ _ [_] ⟨#[_, _, _, _, _, _, _, _, _, _, _, _, _, _, _, _, _, _, _, _, _, _, _, _, _, _, _, _, _, _, _, _, _, _, _, _, _, _, _, _, _, f 9, _, _, _, _, _, f 15, f 16, _, _, _, _], _⟩ _
                        rw [show f 15 = _ from h15]
                        rw [show f 16 = _ from h16]
                        rw [show f 9 = _ from h9]
                        clear h15 h16 h9
                        repeat (first | go_guarded | go_step)
                        exact hQ _ _ (Grow.refl _) rfl rfl
                      refine obls_cons (fun f w' hR hH Q hQ => ?_) ?_
                      · skip
                        have h17 := hH.get 0 (49, 17) rfl
                        have h9 := hH.get 1 (41, 9) rfl
                        clear hH
                        refine wpList_view ?_; show wpList _ _ _ [_] ⟨#[_, _, _, _, _, _, _, _, _, _, _, _, _, _, _, _, _, _, _, _, _, _, _, _, _, _, _, _, _, _, _, _, _, _, _, _, _, _, _, _, _, f 9, _, _, _, _, _, _, _, f 17, _, _, _], _⟩ _
                        rw [show f 17 = _ from h17]
                        rw [show f 9 = _ from h9]
                        clear h17 h9
                        have y0 := (HGm.out.trans hR).cell HCM.out
                        repeat (first | go_guarded | go_step)
                        exact hQ _ _ (Grow.refl _) rfl rfl
                      refine obls_cons (fun f w' hR hH Q hQ => ?_) ?_
                      · skip
                        have h10 := hH.get 0 (42, 10) rfl
                        have h14 := hH.get 1 (46, 14) rfl
                        have h18 := hH.get 2 (50, 18) rfl
                        have h9 := hH.get 3 (41, 9) rfl
                        clear hH
                        refine wpList_merge (idx := [none, none, none, none, none, none, none, none, none, none, none, none, none, none, none, none, none, none, none, none, none, none, none, none, none, none, none, none, none, none, none, none, none, none, none, none, none, none, none, none, none, some 9, some 10, none, none, none, some 14, none, none, none, some 18, none, none]) (by kernel_rfl) ?_; show wpList _ _ _ [_] ⟨#[_, _, _, _, _, _, _, _, _, _, _, _, _, _, _, _, _, _, _, _, _, _, _, _, _, _, _, _, _, _, _, _, _, _, _, _, _, _, _, _, _, f 9, f 10, _, _, _, f 14, _, _, _, f 18, _, _], _⟩ _
                        rw [show f 10 = _ from h10]
                        rw [show f 14 = _ from h14]
                        rw [show f 18 = _ from h18]
                        rw [show f 9 = _ from h9]
                        clear h10 h14 h18 h9
                        go_wp2_with (go_at_call 49; refine (HBF.out w' (HGm.out.trans hR)).mono ?_; rintro e w1 ⟨rfl, hg1⟩)
                        exact hQ _ _ hg1 rfl rfl
                      refine obls_cons (fun f w' hR hH Q hQ => ?_) ?_
                      · skip
                        have h9 := hH.get 0 (41, 9) rfl
                        have h19 := hH.get 1 (51, 19) rfl
                        clear hH
                        refine wpList_view ?_; show wpList _ _ _ [_] ⟨#[_, _, _, _, _, _, _, _, _, _, _, _, _, _, _, _, _, _, _, _, _, _, _, _, _, _, _, _, _, _, _, _, _, _, _, _, _, _, _, _, _, f 9, _, _, _, _, _, _, _, _, _, f 19, _], _⟩ _
                        rw [show f 9 = _ from h9]
                        rw [show f 19 = _ from h19]
                        clear h9 h19
                        repeat (first | go_guarded | go_step)
                        exact hQ _ _ (Grow.refl _) rfl rfl
                      exact obls_nil
                    case mono => exact ⟨Mono.veq _, Mono.veq _, Mono.veq _, Mono.veq _, Mono.veq _, Mono.veq _, Mono.veq _, Mono.veq _, Mono.veq _, Mono.veq _, Mono.veq _, Mono.veq _, Mono.veq _, Mono.veq _, Mono.veq _, Mono.veq _, Mono.veq _, Mono.veq _, Mono.veq _, Mono.veq _, Mono.veq _, trivial⟩
                    case tail =>
                      intro f w' hR hH
                      have q20 := hH.get 20 (52, 20) rfl
                      clear hH
                      refine wpList_merge (idx := [none, none, none, none, none, none, none, none, none, none, none, none, none, none, none, none, none, none, none, none, none, none, none, none, none, none, none, none, none, none, none, none, some 0, some 1, some 2, some 3, some 4, some 5, some 6, some 7, some 8, some 9, some 10, some 11, some 12, some 13, some 14, some 15, some 16, some 17, some 18, some 19, some 20]) (by kernel_rfl) ?_; show wpList _ _ _ [] ⟨#[_, _, _, _, _, _, _, _, _, _, _, _, _, _, _, _, _, _, _, _, _, _, _, _, _, _, _, _, _, _, _, _, f 0, f 1, f 2, f 3, f 4, f 5, f 6, f 7, f 8, f 9, f 10, f 11, f 12, f 13, f 14, f 15, f 16, f 17, f 18, f 19, f 20], _⟩ _
                      rw [show f 20 = _ from q20]
                      clear q20
                      have HGs := Lib.hid (HGm.out.trans hR)
                      clear hR
                      go_wp2_with fail
                      go_ret
                      exact ⟨by rw [HF.out]; rfl, HG1.out.trans HGs.out⟩
              · obtain rfl : m = k := by omega
                have HNEW : Hid (∀ x, x < m + 1 → okK n R ls x = true) := Lib.hid fun x hx => by
                  by_cases hxm : x < m
                  · exact HALL.out x hxm
                  · obtain rfl : x = m := by omega
                    exact okK_yes HZ.out HFT.out fun j y hj hy => HNO.out j y hj hy
                clear hno hg
                go_wp2_with fail
                go_roundw
                case rel => exact ⟨m + 1, by have := HLTk.out; omega, by go_num, HGm.out, HNEW.out⟩
                case measure => have := HLTk.out; simp [intOf] <;> omega
    · obtain rfl : k = len := by omega
      have HF : Hid (r = true) := Lib.hid (by rw [HRE.out]; exact fits_yes fun x hx => hall x (by rw [← HLEN.out]; exact hx))
      clear hg hall
      go_wp2_with fail
      go_ret
      exact ⟨by rw [HF.out]; rfl, HG1.out.trans HG.out⟩
end Go.Proofs.Ytjfohglkpbgkaaa.toW
