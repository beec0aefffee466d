/- The walk of TopoFits. -/
import Derived.Test.YtjfohglkpbgkaaaToL2
import Derived.Test.YtjfohglkpbgkaaaFast
namespace Go.Proofs.Ytjfohglkpbgkaaa.toL
open Go Go.RowKit Go.Par Go.Kit Go.Proofs.Ytjfohglkpbgkaaa.Mk Go.Proofs.Ytjfohglkpbgkaaa.mkW Go.Proofs.Ytjfohglkpbgkaaa.Re Go.Proofs.Ytjfohglkpbgkaaa.reW Go.Proofs.Ytjfohglkpbgkaaa.mkR Go.Proofs.Ytjfohglkpbgkaaa.To Go.Proofs.Ytjfohglkpbgkaaa.toW

def brow (b : Bool) : List Value := [.bool b]
/-- what is kept while the places are told -/
structure PT (w0 : World) (ba n : Nat) (o : List Nat) (k : Nat) (w : World) : Prop where
  g : Grow w0 w
  bx : Blk w ba 3 ((List.range n).map fun x => nv (posN o k x))
theorem PT.step {w0 w : World} {ba n k x : Nat} {o : List Nat} (h : PT w0 ba n o k w) (hb : w0.heap.size ≤ ba) (hd : o.Nodup) (hx : o[k]? = some x) : PT w0 ba n o (k + 1) (w.setCell ⟨ba, x, none⟩ (nv (k + 1))) := by
  refine ⟨Grow.set_ h.g hb _, ?_⟩
  have := h.bx.set_ x (nv (k + 1))
  rw [map_set] at this
  rw [show (fun y => nv (posN o (k + 1) y)) = fun i => if i = x then nv (k + 1) else nv (posN o k i) by
    funext y
    rw [posN_step hd hx]
    split <;> rfl]
  exact this
set_option linter.unusedSimpArgs false in
set_option maxRecDepth 100000 in
set_option maxHeartbeats 16000000 in
theorem fits_walk (n0 : Int) (A : Option Addr) (len c : Nat) (xs : List (Int × Int)) (w : World) (hr : Recs 2 prow w A len xs) (hx : ∀ x ∈ xs, PairOk x)
    (A2 : Option Addr) (len2 c2 : Nat) (bs : List Bool) (hr2 : Recs 1 brow w A2 len2 bs) (hc2 : len2 ≤ c2) (hm2 : c2 ≤ maxLen) :
    Calls Try.prog 12 #[.int .i64 n0, .slice A len c, .slice A2 len2 c2] w fun e w' => e = .returned (.bool true) ∧ Grow w w' := by
  unfold maxLen at hm2
  have HWK := Lib.hid (works_any w)
  by_cases h1 : n0 < 0
  · skip
    have t1 : decide (n0 < 0) = true := decide_eq_true h1
    clear h1 hr hx hr2
    go_enter Try.func12, Try.ntmps12
    go_wp2_with fail
    refine HWK.out.mono ?_
    rintro e w1 ⟨rfl, hg1⟩
    go_wp2_with fail
    go_ret
    exact ⟨rfl, hg1⟩
  · have t1 : decide (n0 < 0) = false := decide_eq_false h1
    by_cases h2 : 30 < n0
    · skip
      have t2 : decide (30 < n0) = true := decide_eq_true h2
      clear h1 h2 hr hx hr2
      go_enter Try.func12, Try.ntmps12
      go_wp2_with fail
      refine HWK.out.mono ?_
      rintro e w1 ⟨rfl, hg1⟩
      go_wp2_with fail
      go_ret
      exact ⟨rfl, hg1⟩
    · have t2 : decide (30 < n0) = false := decide_eq_false h2
      by_cases h3 : 80 < len
      · skip
        have t3 : decide (80 < len) = true := decide_eq_true h3
        have t4 : decide ((80 : Int) < (len : Int)) = true := decide_eq_true (by omega)
        clear h1 h2 h3 hr hx hr2
        go_enter Try.func12, Try.ntmps12
        go_wp2_with fail
        refine HWK.out.mono ?_
        rintro e w1 ⟨rfl, hg1⟩
        go_wp2_with fail
        go_ret
        exact ⟨rfl, hg1⟩
      · have t3 : decide (80 < len) = false := decide_eq_false h3
        have t4 : decide ((80 : Int) < (len : Int)) = false := decide_eq_false (by omega)
        obtain ⟨n, rfl⟩ := Int.eq_ofNat_of_zero_le (show 0 ≤ n0 by omega)
        have hn30 : n ≤ 30 := by omega
        have t5 : decide (30 < n) = false := decide_eq_false (by omega)
        have hl80 : len ≤ 80 := by omega
        have hof := reW.of_any w (n : Int) A len c xs hr (by omega) hx
        rw [show clampN (n : Int) = n by unfold clampN; omega] at hof
        obtain ⟨R, hR⟩ : ∃ R, R = leadB (vp n xs) := ⟨_, rfl⟩
        rw [← hR] at hof
        have HOF := Lib.hid hof
        have HBD : Hid (Bd n R) := Lib.hid (by rw [hR]; exact bd)
        have HTR : Hid (Tr R) := Lib.hid (by rw [hR]; exact leadB_tr _)
        have HST : Hid (∀ a b : Nat, a < n → b < n → ((a : Int), (b : Int)) ∈ xs → R a b = true) := Lib.hid fun a b ha hb hm => by
          rw [hR]
          refine leadB_step (List.mem_map.2 ⟨((a : Int), (b : Int)), List.mem_filter.2 ⟨hm, ?_⟩, rfl⟩)
          unfold valid
          simp
          omega
        obtain ⟨o, ho⟩ : ∃ o, o = orderN n R := ⟨_, rfl⟩
        have HIN : Hid (Inv n R o) := Lib.hid (by rw [ho]; exact (order_inv HTR.out).1)
        have hol : o.length = n := by rw [ho]; exact (order_inv HTR.out).2
        have HOL := Lib.hid hol
        have HO := Lib.hid ho.symm
        have HX := Lib.hid hx
        have HR := Lib.hid hr
        have HR2 := Lib.hid hr2
        clear h1 h2 h3 hr hx hof hR hr2 ho hol HWK
        go_enter Try.func12, Try.ntmps12
        go_wp2_with fail
        refine HOF.out.mono ?_
        rintro e w2 ⟨gr, rfl, hrel, hg2⟩
        have HREL := Lib.hid hrel
        have HG2 := Lib.hid hg2
        have HOR := Lib.hid (order_any w2 gr n R hrel HBD.out HTR.out)
        clear hrel hg2 HOF
        go_wp2_with fail
        refine HOR.out.mono ?_
        rintro e w3 ⟨v, rfl, hv, hg3⟩
        rw [HO.out] at hv
        have HV := Lib.hid hv
        have HG3 := Lib.hid (HG2.out.trans hg3)
        have HREL3 := Lib.hid (HREL.out.grow hg3)
        obtain ⟨A8, c8, rfl, hc8, hm8, hrow, -⟩ := hv
        unfold maxLen at hm8
        rw [HOL.out] at hrow hc8 ⊢
        have HROW : Hid (∀ k, k < n → ∃ b off x, A8 = some ⟨b, off, none⟩ ∧ o[k]? = some x ∧ w3.cell? ⟨b, off + k, none⟩ = some (.int .i64 (x : Int))) := Lib.hid fun k hk => by
          have := Row.nat_at (L := o) (A := A8) (by rw [HOL.out]; exact hrow) (k := k) (by rw [HOL.out]; exact hk)
          exact this
        have hmk := make_row (P := Try.prog) (z := .int .i64 0) Try.underlying22 iI iIz iIs rfl n (by rw [iIb]; omega) (by omega)
        clear hg3 hrow HOR HREL HG2
        go_wp2_with fail
        obtain ⟨ba, hba⟩ : ∃ b, b = w3.heap.size := ⟨_, rfl⟩
        obtain ⟨W4, hW4⟩ : ∃ W, W = w3.alloc (.cells (Array.replicate n (.int .i64 0)) 3) := ⟨_, rfl⟩
        rw [← hba, ← hW4]
        have HPT : Hid (PT w3 ba n o 0 W4) := Lib.hid ⟨by rw [hW4]; exact Grow.alloc _ _, by
          rw [hW4]
          exact Blk.new _ _ _ _ (by rw [← List.toArray_replicate]; congr 1; apply List.ext_getElem?; intro i; by_cases hi : i < n <;> simp [hi, posN_zero, nv]) hba⟩
        have HBA : Hid (w3.heap.size ≤ ba) := Lib.hid (by omega)
        clear hmk hba hW4
        go_loopw [10] (fun i' wr => ∃ (k : Nat), k ≤ n ∧ i' = .int .i64 (k : Int) ∧ PT w3 ba n o k wr) (fun i' _ => n - (intOf i').toNat)
        case atStart => exact ⟨0, by omega, rfl, HPT.out⟩
        case round =>
          obtain ⟨k, hkn, rfl, pt⟩ := hrel
          have HPT1 := Lib.hid pt
          by_cases hlt : k < n
          · obtain ⟨b, off, x, rfl, hxk, hcell⟩ := HROW.out k hlt
            have hcl := pt.g.cell hcell
            have hxn : x < n := HIN.out.lt x (List.mem_of_getElem? hxk)
            have hca := pt.bx.cell (map_at hxn)
            rw [posN_new HIN.out.nodup hxk] at hca
            have hfa := pt.bx.free x
            have HST2 := Lib.hid (pt.step HBA.out HIN.out.nodup hxk)
            have u1 : decide ((x : Int) < 0) = false := decide_eq_false (by omega)
            have u2 : decide (n ≤ x) = false := decide_eq_false (by omega)
            have u3 : decide ((n : Int) ≤ (x : Int)) = false := decide_eq_false (by omega)
            have HLTk := Lib.hid hlt
            simp only [nv] at hca
            clear pt hxk hcell
            go_wp2_with fail
            go_roundw
            case rel => exact ⟨k + 1, by have := HLTk.out; omega, by go_num, HST2.out⟩
            case measure => have := HLTk.out; simp [intOf] <;> omega
          · obtain rfl : n = k := by omega
            obtain ⟨W5, hW5⟩ : ∃ W, W = wr := ⟨_, rfl⟩
            rw [← hW5] at HPT1
            have HW5 := Lib.hid hW5.symm
            clear pt hlt hkn HPT HBA hW5
            go_wp2_with fail
            go_loopw [11] (fun i' wr => ∃ (k : Nat), k ≤ len ∧ i' = .int .i64 (k : Int) ∧ Grow W5 wr) (fun i' _ => len - (intOf i').toNat)
            case atStart => exact ⟨0, by omega, rfl, by rw [HW5.out]; exact Grow.refl _⟩
            case round =>
              clear HW5
              obtain ⟨k, hkl, rfl, hg⟩ := hrel
              have HGk := Lib.hid (HPT1.out.g.trans hg)
              have HG5 := Lib.hid hg
              by_cases hlt : k < len
              · obtain ⟨b, off, x, rfl, hxk, hcell⟩ := HR.out.at_ (by decide) hlt
                obtain ⟨x1, x2⟩ := x
                have hxm := List.mem_of_getElem? hxk
                have hpx := HX.out _ hxm
                have HPX := Lib.hid hpx
                have HXM := Lib.hid hxm
                have HQ0 := Lib.hid (hcell 0 (.int .i64 x1) rfl)
                have HQ1 := Lib.hid (hcell 1 (.int .i64 x2) rfl)
                have HLTk := Lib.hid hlt
                clear hxk hcell hxm hpx hg
                go_wp2_with fail
                apply (fun (v0 v1 v2 v3 v4 v5 v6 v7 v8 v9 v10 v11 : Value) mono obl tail => wp_region_par (R := Grow) (Φ := phi [veq v0, veq v1, veq v2, veq v3, veq v4, veq v5, veq v6, veq v7, veq v8, veq v9, veq v10, veq v11]) (m := 12) (dls := [[], [], [(78, 0), (79, 1)], [(80, 2)], [(81, 3)], [], [], [(83, 5), (84, 6)], [(85, 7)], [(86, 8)], [(82, 4)], [(87, 9)]]) (ds := [78, 79, 80, 81, 82, 83, 84, 85, 86, 87, 12, 13]) (by kernel_rfl) (by kernel_rfl) (by decide) rfl (Grow.drew _) (fun _ _ _ => Grow.trans) (mono_phi mono) obl tail)
                case obl =>
                  refine obls_cons (fun f w' hR hH Q hQ => ?_) ?_
                  · skip
                    clear hH
                    refine wpList_view ?_; show wpList _ _ _ [_] ⟨#[_, _, _, _, _, _, _, _, _, _, _, _, _, _, _, _, _, _, _, _, _, _, _, _, _, _, _, _, _, _, _, _, _, _, _, _, _, _, _, _, _, _, _, _, _, _, _, _, _, _, _, _, _, _, _, _, _, _, _, _, _, _, _, _, _, _, _, _, _, _, _, _, _, _, _, _, _, _, _, _, _, _, _, _, _, _, _, _, _, _, _, _, _, _, _, _, _, _, _, _, _, _, _, _, _, _, _, _, _, _, _, _, _, _, _, _, _, _, _, _, _, _, _, _, _, _, _, _, _, _, _, _, _, _, _, _, _, _, _, _, _, _, _, _, _, _, _, _, _, _, _, _, _, _, _, _, _, _, _, _, _, _, _], _⟩ _
                    repeat (first | go_guarded | go_step)
                    exact hQ _ _ (Grow.refl _) rfl rfl
                  refine obls_cons (fun f w' hR hH Q hQ => ?_) ?_
                  · skip
                    clear hH
                    refine wpList_view ?_; show wpList _ _ _ [_] ⟨#[_, _, _, _, _, _, _, _, _, _, _, _, _, _, _, _, _, _, _, _, _, _, _, _, _, _, _, _, _, _, _, _, _, _, _, _, _, _, _, _, _, _, _, _, _, _, _, _, _, _, _, _, _, _, _, _, _, _, _, _, _, _, _, _, _, _, _, _, _, _, _, _, _, _, _, _, _, _, _, _, _, _, _, _, _, _, _, _, _, _, _, _, _, _, _, _, _, _, _, _, _, _, _, _, _, _, _, _, _, _, _, _, _, _, _, _, _, _, _, _, _, _, _, _, _, _, _, _, _, _, _, _, _, _, _, _, _, _, _, _, _, _, _, _, _, _, _, _, _, _, _, _, _, _, _, _, _, _, _, _, _, _, _], _⟩ _
                    repeat (first | go_guarded | go_step)
                    exact hQ _ _ (Grow.refl _) rfl rfl
                  refine obls_cons (fun f w' hR hH Q hQ => ?_) ?_
                  · skip
                    have h0 := hH.get 0 (78, 0) rfl
                    have h1 := hH.get 1 (79, 1) rfl
                    clear hH
                    refine wpList_view ?_; show wpList _ _ _ [_] ⟨#[_, _, _, _, _, _, _, _, _, _, _, _, _, _, _, _, _, _, _, _, _, _, _, _, _, _, _, _, _, _, _, _, _, _, _, _, _, _, _, _, _, _, _, _, _, _, _, _, _, _, _, _, _, _, _, _, _, _, _, _, _, _, _, _, _, _, _, _, _, _, _, _, _, _, _, _, _, _, f 0, f 1, _, _, _, _, _, _, _, _, _, _, _, _, _, _, _, _, _, _, _, _, _, _, _, _, _, _, _, _, _, _, _, _, _, _, _, _, _, _, _, _, _, _, _, _, _, _, _, _, _, _, _, _, _, _, _, _, _, _, _, _, _, _, _, _, _, _, _, _, _, _, _, _, _, _, _, _, _, _, _, _, _, _, _], _⟩ _
                    rw [show f 0 = _ from h0]
                    rw [show f 1 = _ from h1]
                    clear h0 h1
                    repeat (first | go_guarded | go_step)
                    exact hQ _ _ (Grow.refl _) rfl rfl
                  refine obls_cons (fun f w' hR hH Q hQ => ?_) ?_
                  · skip
                    have h2 := hH.get 0 (80, 2) rfl
                    clear hH
                    refine wpList_view ?_; show wpList _ _ _ [_] ⟨#[_, _, _, _, _, _, _, _, _, _, _, _, _, _, _, _, _, _, _, _, _, _, _, _, _, _, _, _, _, _, _, _, _, _, _, _, _, _, _, _, _, _, _, _, _, _, _, _, _, _, _, _, _, _, _, _, _, _, _, _, _, _, _, _, _, _, _, _, _, _, _, _, _, _, _, _, _, _, _, _, f 2, _, _, _, _, _, _, _, _, _, _, _, _, _, _, _, _, _, _, _, _, _, _, _, _, _, _, _, _, _, _, _, _, _, _, _, _, _, _, _, _, _, _, _, _, _, _, _, _, _, _, _, _, _, _, _, _, _, _, _, _, _, _, _, _, _, _, _, _, _, _, _, _, _, _, _, _, _, _, _, _, _, _], _⟩ _
                    rw [show f 2 = _ from h2]
                    clear h2
                    repeat (first | go_guarded | go_step)
                    exact hQ _ _ (Grow.refl _) rfl rfl
                  refine obls_cons (fun f w' hR hH Q hQ => ?_) ?_
                  · skip
                    have h3 := hH.get 0 (81, 3) rfl
                    clear hH
                    refine wpList_view ?_; show wpList _ _ _ [_] ⟨#[_, _, _, _, _, _, _, _, _, _, _, _, _, _, _, _, _, _, _, _, _, _, _, _, _, _, _, _, _, _, _, _, _, _, _, _, _, _, _, _, _, _, _, _, _, _, _, _, _, _, _, _, _, _, _, _, _, _, _, _, _, _, _, _, _, _, _, _, _, _, _, _, _, _, _, _, _, _, _, _, _, f 3, _, _, _, _, _, _, _, _, _, _, _, _, _, _, _, _, _, _, _, _, _, _, _, _, _, _, _, _, _, _, _, _, _, _, _, _, _, _, _, _, _, _, _, _, _, _, _, _, _, _, _, _, _, _, _, _, _, _, _, _, _, _, _, _, _, _, _, _, _, _, _, _, _, _, _, _, _, _, _, _, _], _⟩ _
                    rw [show f 3 = _ from h3]
                    clear h3
                    have y3 := (HG3.out.trans (HGk.out.trans hR)).cell HQ0.out
                    rw [Nat.add_zero] at y3
                    repeat (first | go_guarded | go_step)
                    exact hQ _ _ (Grow.refl _) rfl rfl
                  refine obls_cons (fun f w' hR hH Q hQ => ?_) ?_
                  · skip
                    clear hH
                    refine wpList_view ?_; show wpList _ _ _ [_] ⟨#[_, _, _, _, _, _, _, _, _, _, _, _, _, _, _, _, _, _, _, _, _, _, _, _, _, _, _, _, _, _, _, _, _, _, _, _, _, _, _, _, _, _, _, _, _, _, _, _, _, _, _, _, _, _, _, _, _, _, _, _, _, _, _, _, _, _, _, _, _, _, _, _, _, _, _, _, _, _, _, _, _, _, _, _, _, _, _, _, _, _, _, _, _, _, _, _, _, _, _, _, _, _, _, _, _, _, _, _, _, _, _, _, _, _, _, _, _, _, _, _, _, _, _, _, _, _, _, _, _, _, _, _, _, _, _, _, _, _, _, _, _, _, _, _, _, _, _, _, _, _, _, _, _, _, _, _, _, _, _, _, _, _, _], _⟩ _
                    repeat (first | go_guarded | go_step)
                    exact hQ _ _ (Grow.refl _) rfl rfl
                  refine obls_cons (fun f w' hR hH Q hQ => ?_) ?_
                  · skip
                    clear hH
                    refine wpList_view ?_; show wpList _ _ _ [_] ⟨#[_, _, _, _, _, _, _, _, _, _, _, _, _, _, _, _, _, _, _, _, _, _, _, _, _, _, _, _, _, _, _, _, _, _, _, _, _, _, _, _, _, _, _, _, _, _, _, _, _, _, _, _, _, _, _, _, _, _, _, _, _, _, _, _, _, _, _, _, _, _, _, _, _, _, _, _, _, _, _, _, _, _, _, _, _, _, _, _, _, _, _, _, _, _, _, _, _, _, _, _, _, _, _, _, _, _, _, _, _, _, _, _, _, _, _, _, _, _, _, _, _, _, _, _, _, _, _, _, _, _, _, _, _, _, _, _, _, _, _, _, _, _, _, _, _, _, _, _, _, _, _, _, _, _, _, _, _, _, _, _, _, _, _], _⟩ _
                    repeat (first | go_guarded | go_step)
                    exact hQ _ _ (Grow.refl _) rfl rfl
                  refine obls_cons (fun f w' hR hH Q hQ => ?_) ?_
                  · skip
                    have h5 := hH.get 0 (83, 5) rfl
                    have h6 := hH.get 1 (84, 6) rfl
                    clear hH
                    refine wpList_view ?_; show wpList _ _ _ [_] ⟨#[_, _, _, _, _, _, _, _, _, _, _, _, _, _, _, _, _, _, _, _, _, _, _, _, _, _, _, _, _, _, _, _, _, _, _, _, _, _, _, _, _, _, _, _, _, _, _, _, _, _, _, _, _, _, _, _, _, _, _, _, _, _, _, _, _, _, _, _, _, _, _, _, _, _, _, _, _, _, _, _, _, _, _, f 5, f 6, _, _, _, _, _, _, _, _, _, _, _, _, _, _, _, _, _, _, _, _, _, _, _, _, _, _, _, _, _, _, _, _, _, _, _, _, _, _, _, _, _, _, _, _, _, _, _, _, _, _, _, _, _, _, _, _, _, _, _, _, _, _, _, _, _, _, _, _, _, _, _, _, _, _, _, _, _, _], _⟩ _
                    rw [show f 5 = _ from h5]
                    rw [show f 6 = _ from h6]
                    clear h5 h6
                    repeat (first | go_guarded | go_step)
                    exact hQ _ _ (Grow.refl _) rfl rfl
                  refine obls_cons (fun f w' hR hH Q hQ => ?_) ?_
                  · skip
                    have h7 := hH.get 0 (85, 7) rfl
                    clear hH
                    refine wpList_view ?_; show wpList _ _ _ [_] ⟨#[_, _, _, _, _, _, _, _, _, _, _, _, _, _, _, _, _, _, _, _, _, _, _, _, _, _, _, _, _, _, _, _, _, _, _, _, _, _, _, _, _, _, _, _, _, _, _, _, _, _, _, _, _, _, _, _, _, _, _, _, _, _, _, _, _, _, _, _, _, _, _, _, _, _, _, _, _, _, _, _, _, _, _, _, _, f 7, _, _, _, _, _, _, _, _, _, _, _, _, _, _, _, _, _, _, _, _, _, _, _, _, _, _, _, _, _, _, _, _, _, _, _, _, _, _, _, _, _, _, _, _, _, _, _, _, _, _, _, _, _, _, _, _, _, _, _, _, _, _, _, _, _, _, _, _, _, _, _, _, _, _, _, _, _], _⟩ _
                    rw [show f 7 = _ from h7]
                    clear h7
                    repeat (first | go_guarded | go_step)
                    exact hQ _ _ (Grow.refl _) rfl rfl
                  refine obls_cons (fun f w' hR hH Q hQ => ?_) ?_
                  · skip
                    have h8 := hH.get 0 (86, 8) rfl
                    clear hH
                    refine wpList_view ?_; show wpList _ _ _ [_] ⟨#[_, _, _, _, _, _, _, _, _, _, _, _, _, _, _, _, _, _, _, _, _, _, _, _, _, _, _, _, _, _, _, _, _, _, _, _, _, _, _, _, _, _, _, _, _, _, _, _, _, _, _, _, _, _, _, _, _, _, _, _, _, _, _, _, _, _, _, _, _, _, _, _, _, _, _, _, _, _, _, _, _, _, _, _, _, _, f 8, _, _, _, _, _, _, _, _, _, _, _, _, _, _, _, _, _, _, _, _, _, _, _, _, _, _, _, _, _, _, _, _, _, _, _, _, _, _, _, _, _, _, _, _, _, _, _, _, _, _, _, _, _, _, _, _, _, _, _, _, _, _, _, _, _, _, _, _, _, _, _, _, _, _, _, _], _⟩ _
                    rw [show f 8 = _ from h8]
                    clear h8
                    have y4 := (HG3.out.trans (HGk.out.trans hR)).cell HQ1.out
                    repeat (first | go_guarded | go_step)
                    exact hQ _ _ (Grow.refl _) rfl rfl
                  refine obls_cons (fun f w' hR hH Q hQ => ?_) ?_
                  · skip
                    have h4 := hH.get 0 (82, 4) rfl
                    clear hH
                    refine wpList_view ?_; show wpList _ _ _ [_] ⟨#[_, _, _, _, _, _, _, _, _, _, _, _, _, _, _, _, _, _, _, _, _, _, _, _, _, _, _, _, _, _, _, _, _, _, _, _, _, _, _, _, _, _, _, _, _, _, _, _, _, _, _, _, _, _, _, _, _, _, _, _, _, _, _, _, _, _, _, _, _, _, _, _, _, _, _, _, _, _, _, _, _, _, f 4, _, _, _, _, _, _, _, _, _, _, _, _, _, _, _, _, _, _, _, _, _, _, _, _, _, _, _, _, _, _, _, _, _, _, _, _, _, _, _, _, _, _, _, _, _, _, _, _, _, _, _, _, _, _, _, _, _, _, _, _, _, _, _, _, _, _, _, _, _, _, _, _, _, _, _, _, _, _, _, _], _⟩ _
                    rw [show f 4 = _ from h4]
                    clear h4
                    repeat (first | go_guarded | go_step)
                    exact hQ _ _ (Grow.refl _) rfl rfl
                  refine obls_cons (fun f w' hR hH Q hQ => ?_) ?_
                  · skip
                    have h9 := hH.get 0 (87, 9) rfl
                    clear hH
                    refine wpList_view ?_; show wpList _ _ _ [_] ⟨#[_, _, _, _, _, _, _, _, _, _, _, _, _, _, _, _, _, _, _, _, _, _, _, _, _, _, _, _, _, _, _, _, _, _, _, _, _, _, _, _, _, _, _, _, _, _, _, _, _, _, _, _, _, _, _, _, _, _, _, _, _, _, _, _, _, _, _, _, _, _, _, _, _, _, _, _, _, _, _, _, _, _, _, _, _, _, _, f 9, _, _, _, _, _, _, _, _, _, _, _, _, _, _, _, _, _, _, _, _, _, _, _, _, _, _, _, _, _, _, _, _, _, _, _, _, _, _, _, _, _, _, _, _, _, _, _, _, _, _, _, _, _, _, _, _, _, _, _, _, _, _, _, _, _, _, _, _, _, _, _, _, _, _, _], _⟩ _
                    rw [show f 9 = _ from h9]
                    clear h9
                    repeat (first | go_guarded | go_step)
                    exact hQ _ _ (Grow.refl _) rfl rfl
                  exact obls_nil
                case mono => exact ⟨Mono.veq _, Mono.veq _, Mono.veq _, Mono.veq _, Mono.veq _, Mono.veq _, Mono.veq _, Mono.veq _, Mono.veq _, Mono.veq _, Mono.veq _, Mono.veq _, trivial⟩
                case tail =>
                  intro f w' hR hH
                  have q10 := hH.get 10 (12, 10) rfl
                  have q11 := hH.get 11 (13, 11) rfl
                  clear hH
                  refine wpList_merge (idx := [none, none, none, none, none, none, none, none, none, none, none, none, some 10, some 11, none, none, none, none, none, none, none, none, none, none, none, none, none, none, none, none, none, none, none, none, none, none, none, none, none, none, none, none, none, none, none, none, none, none, none, none, none, none, none, none, none, none, none, none, none, none, none, none, none, none, none, none, none, none, none, none, none, none, none, none, none, none, none, none, some 0, some 1, some 2, some 3, some 4, some 5, some 6, some 7, some 8, some 9, none, none, none, none, none, none, none, none, none, none, none, none, none, none, none, none, none, none, none, none, none, none, none, none, none, none, none, none, none, none, none, none, none, none, none, none, none, none, none, none, none, none, none, none, none, none, none, none, none, none, none, none, none, none, none, none, none, none, none, none, none, none, none, none, none, none, none, none, none, none, none, none, none, none, none]) (by kernel_rfl) ?_; show wpList _ _ _ [] ⟨#[_, _, _, _, _, _, _, _, _, _, _, _, f 10, f 11, _, _, _, _, _, _, _, _, _, _, _, _, _, _, _, _, _, _, _, _, _, _, _, _, _, _, _, _, _, _, _, _, _, _, _, _, _, _, _, _, _, _, _, _, _, _, _, _, _, _, _, _, _, _, _, _, _, _, _, _, _, _, _, _, f 0, f 1, f 2, f 3, f 4, f 5, f 6, f 7, f 8, f 9, _, _, _, _, _, _, _, _, _, _, _, _, _, _, _, _, _, _, _, _, _, _, _, _, _, _, _, _, _, _, _, _, _, _, _, _, _, _, _, _, _, _, _, _, _, _, _, _, _, _, _, _, _, _, _, _, _, _, _, _, _, _, _, _, _, _, _, _, _, _, _, _, _, _, _], _⟩ _
                  rw [show f 10 = _ from q10]
                  rw [show f 11 = _ from q11]
                  clear q10 q11
                  have HG6 := Lib.hid (HG5.out.trans hR)
                  clear hR
                  have KA : Hid (∀ wx, Grow W5 wx → Calls Try.prog 46 #[.pointer (some ⟨gr, 0, none⟩), .int .i64 x1, .int .i64 x2] wx fun e w2 => e = .returned (.bool (alikeI n R x1 x2)) ∧ wx = w2) := Lib.hid fun wx hg => alike_any wx gr n R (HREL3.out.grow (HPT1.out.g.trans hg)) x1 x2 HPX.out.1.1 HPX.out.1.2 HPX.out.2.1 HPX.out.2.2
                  obtain ⟨W6, hW6⟩ : ∃ W, W = w' := ⟨_, rfl⟩
                  rw [← hW6]
                  rw [← hW6] at HG6
                  clear hW6
                  by_cases d1 : 0 ≤ x1
                  · obtain ⟨a, rfl⟩ := Int.eq_ofNat_of_zero_le d1
                    have s1 : decide ((0 : Int) ≤ (a : Int)) = true := decide_eq_true (by omega)
                    by_cases d2 : a < n
                    · have s2 : decide (a < n) = true := decide_eq_true d2
                      have s3 : decide ((a : Int) < (n : Int)) = true := decide_eq_true (by omega)
                      by_cases d3 : 0 ≤ x2
                      · obtain ⟨b', rfl⟩ := Int.eq_ofNat_of_zero_le d3
                        have s4 : decide ((0 : Int) ≤ (b' : Int)) = true := decide_eq_true (by omega)
                        by_cases d4 : b' < n
                        · have s5 : decide (b' < n) = true := decide_eq_true d4
                          have s6 : decide ((b' : Int) < (n : Int)) = true := decide_eq_true (by omega)
                          have HR1 := Lib.hid (HST.out a b' d2 d4 HXM.out)
                          obtain ⟨pa, hpa⟩ : ∃ p, p = posN o n a := ⟨_, rfl⟩
                          obtain ⟨pb, hpb⟩ : ∃ p, p = posN o n b' := ⟨_, rfl⟩
                          have hca := HPT1.out.bx.cell (map_at d2)
                          have hcb := HPT1.out.bx.cell (map_at d4)
                          rw [← hpa] at hca
                          rw [← hpb] at hcb
                          simp only [nv] at hca hcb
                          have HCA := Lib.hid hca
                          have HCB := Lib.hid hcb
                          by_cases d5 : pb < pa
                          · have s7 : decide (pb < pa) = true := decide_eq_true d5
                            have s8 : decide ((pb : Int) < (pa : Int)) = true := decide_eq_true (by omega)
                            have hal := pos_lead HIN.out HOL.out d2 d4 HR1.out (by rw [HOL.out, ← hpa, ← hpb]; exact d5)
                            have KA2 : Hid (∀ wx, Grow W5 wx → Calls Try.prog 46 #[.pointer (some ⟨gr, 0, none⟩), .int .i64 (a : Int), .int .i64 (b' : Int)] wx fun e w2 => e = .returned (.bool true) ∧ wx = w2) := Lib.hid fun wx hg => by
                              have := KA.out wx hg
                              rw [alikeI_nat d2, hal] at this
                              exact this
                            clear hpa hpb hca hcb d1 d3 d5 hal KA
                            go_wp2_with fail
                            apply (fun (v0 v1 v2 v3 v4 v5 v6 v7 v8 v9 v10 v11 v12 v13 v14 v15 v16 v17 v18 v19 v20 v21 v22 v23 v24 v25 v26 v27 v28 v29 v30 v31 v32 : Value) mono obl tail => wp_region_par (R := Grow) (Φ := phi [veq v0, veq v1, veq v2, veq v3, veq v4, veq v5, veq v6, veq v7, veq v8, veq v9, veq v10, veq v11, veq v12, veq v13, veq v14, veq v15, veq v16, veq v17, veq v18, veq v19, veq v20, veq v21, veq v22, veq v23, veq v24, veq v25, veq v26, veq v27, veq v28, veq v29, veq v30, veq v31, veq v32, (veq (Value.bool false))]) (m := 34) (dls := [[], [(88, 0)], [(89, 1)], [(90, 2)], [(90, 2)], [(91, 3), (92, 4), (90, 2)], [(90, 2), (93, 5)], [(94, 6)], [(95, 7)], [(96, 8), (95, 7)], [(95, 7), (97, 9)], [(98, 10)], [(99, 11)], [(99, 11)], [(100, 12), (101, 13), (99, 11)], [(99, 11), (102, 14)], [(103, 15)], [(104, 16)], [(104, 16)], [(105, 17), (106, 18), (104, 16)], [(107, 19), (104, 16)], [(104, 16)], [(104, 16)], [(109, 21), (110, 22), (104, 16)], [(111, 23), (104, 16)], [(108, 20), (112, 24), (104, 16)], [(104, 16), (113, 25)], [(114, 26)], [(115, 27)], [(115, 27)], [(115, 27)], [(116, 28), (117, 29), (118, 30), (115, 27)], [(119, 31), (115, 27)], [(115, 27), (120, 32)]]) (ds := [88, 89, 90, 91, 92, 93, 94, 95, 96, 97, 98, 99, 100, 101, 102, 103, 104, 105, 106, 107, 108, 109, 110, 111, 112, 113, 114, 115, 116, 117, 118, 119, 120, 121]) (by kernel_rfl) (by kernel_rfl) (by decide) rfl (Grow.drew _) (fun _ _ _ => Grow.trans) (mono_phi mono) obl tail)
                            case obl =>
                              refine obls_frame (fun a1 ha => ?_)
                              have hsz := rd_size (n := 163) ha rfl
                              have e12 := rd_slot 12 ha rfl
                              have e0 := rd_slot 0 ha rfl
                              have e13 := rd_slot 13 ha rfl
                              have e9 := rd_slot 9 ha rfl
                              have e7 := rd_slot 7 ha rfl
                              clear ha
                              refine obls_cons (fun f w' hR hH Q0 hQ0 => ?_) ?_
                              · skip
                                have s12 := sv_off f [] e12 rfl
                                refine small_v hsz [(12, _)] ⟨some 1, (Op.move (.tmp 0)), 3, "", #[], none⟩ [_, undef] 1 rfl rfl ⟨s12, trivial⟩ rfl hQ0 ?_
                                clear hQ0 hH s12
                                intro Q hQ
                                repeat go_step
                                exact hQ _ _ (Grow.refl _) rfl rfl
                              refine obls_cons (fun f w' hR hH Q0 hQ0 => ?_) ?_
                              · skip
                                have s88 := (sv_at 88 0 hsz f [(88, 0)] rfl).trans (show f 0 = _ from hH.get 0 (88, 0) rfl)
                                refine small_v hsz [(88, _)] ⟨some 1, (Op.binOp BinOp.geq 3 (.tmp 0) (Operand.const (Value.int IntKind.i64 0)) 3), 4, "", #[], none⟩ [_, undef] 1 rfl rfl ⟨s88, trivial⟩ rfl hQ0 ?_
                                clear hQ0 hH s88
                                intro Q hQ
                                repeat go_step
                                exact hQ _ _ (Grow.refl _) rfl rfl
                              refine obls_cons (fun f w' hR hH Q0 hQ0 => ?_) ?_
                              · skip
                                have s89 := (sv_at 89 1 hsz f [(89, 1)] rfl).trans (show f 1 = _ from hH.get 0 (89, 1) rfl)
                                refine small_v hsz [(89, _)] ⟨some 1, (Op.move (.tmp 0)), 4, "", #[], none⟩ [_, undef] 1 rfl rfl ⟨s89, trivial⟩ rfl hQ0 ?_
                                clear hQ0 hH s89
                                intro Q hQ
                                repeat go_step
                                exact hQ _ _ (Grow.refl _) rfl rfl
                              refine obls_cons (fun f w' hR hH Q0 hQ0 => ?_) ?_
                              · skip
                                have s12 := sv_off f [(90, 2)] e12 rfl
                                have s90 := (sv_at 90 2 hsz f [(90, 2)] rfl).trans (show f 2 = _ from hH.get 0 (90, 2) rfl)
                                first
                                  | exact skip_v hsz rfl ((wanted_some (b := false) rfl rfl s90).trans rfl) hQ0 (Grow.refl _) rfl
                                  | refine small_v hsz [(12, _)] ⟨some 1, (Op.move (.tmp 0)), 3, "", #[], none⟩ [_, undef] 1 rfl ((wanted_some (b := true) rfl rfl s90).trans rfl) ⟨s12, trivial⟩ rfl hQ0 ?_
                                    clear hQ0 hH s12 s90
                                    intro Q hQ
                                    repeat go_step
                                    exact hQ _ _ (Grow.refl _) rfl rfl
                              refine obls_cons (fun f w' hR hH Q0 hQ0 => ?_) ?_
                              · skip
                                have s0 := sv_off f [(90, 2)] e0 rfl
                                have s90 := (sv_at 90 2 hsz f [(90, 2)] rfl).trans (show f 2 = _ from hH.get 0 (90, 2) rfl)
                                first
                                  | exact skip_v hsz rfl ((wanted_some (b := false) rfl rfl s90).trans rfl) hQ0 (Grow.refl _) rfl
                                  | refine small_v hsz [(0, _)] ⟨some 1, (Op.move (.tmp 0)), 3, "", #[], none⟩ [_, undef] 1 rfl ((wanted_some (b := true) rfl rfl s90).trans rfl) ⟨s0, trivial⟩ rfl hQ0 ?_
                                    clear hQ0 hH s0 s90
                                    intro Q hQ
                                    repeat go_step
                                    exact hQ _ _ (Grow.refl _) rfl rfl
                              refine obls_cons (fun f w' hR hH Q0 hQ0 => ?_) ?_
                              · skip
                                have s91 := (sv_at 91 3 hsz f [(91, 3), (92, 4), (90, 2)] rfl).trans (show f 3 = _ from hH.get 0 (91, 3) rfl)
                                have s92 := (sv_at 92 4 hsz f [(91, 3), (92, 4), (90, 2)] rfl).trans (show f 4 = _ from hH.get 1 (92, 4) rfl)
                                have s90 := (sv_at 90 2 hsz f [(91, 3), (92, 4), (90, 2)] rfl).trans (show f 2 = _ from hH.get 2 (90, 2) rfl)
                                first
                                  | exact skip_v hsz rfl ((wanted_some (b := false) rfl rfl s90).trans rfl) hQ0 (Grow.refl _) rfl
                                  | refine small_v hsz [(91, _), (92, _)] ⟨some 2, (Op.binOp BinOp.lss 3 (.tmp 0) (.tmp 1) 3), 4, "", #[], none⟩ [_, _, undef] 2 rfl ((wanted_some (b := true) rfl rfl s90).trans rfl) ⟨s91, s92, trivial⟩ rfl hQ0 ?_
                                    clear hQ0 hH s91 s92 s90
                                    intro Q hQ
                                    repeat go_step
                                    exact hQ _ _ (Grow.refl _) rfl rfl
                              refine obls_cons (fun f w' hR hH Q0 hQ0 => ?_) ?_
                              · skip
                                have s90 := (sv_at 90 2 hsz f [(90, 2), (93, 5)] rfl).trans (show f 2 = _ from hH.get 0 (90, 2) rfl)
                                have s93 := (sv_at 93 5 hsz f [(90, 2), (93, 5)] rfl).trans (show f 5 = _ from hH.get 1 (93, 5) rfl)
                                refine small_v hsz [(90, _), (93, _)] ⟨some 2, (Op.pick (.tmp 0) (.tmp 1) (Operand.const (Value.bool false))), 4, "", #[], none⟩ [_, _, undef] 2 rfl rfl ⟨s90, s93, trivial⟩ rfl hQ0 ?_
                                clear hQ0 hH s90 s93
                                intro Q hQ
                                repeat go_step
                                exact hQ _ _ (Grow.refl _) rfl rfl
                              refine obls_cons (fun f w' hR hH Q0 hQ0 => ?_) ?_
                              · skip
                                have s94 := (sv_at 94 6 hsz f [(94, 6)] rfl).trans (show f 6 = _ from hH.get 0 (94, 6) rfl)
                                refine small_v hsz [(94, _)] ⟨some 1, (Op.move (.tmp 0)), 4, "", #[], none⟩ [_, undef] 1 rfl rfl ⟨s94, trivial⟩ rfl hQ0 ?_
                                clear hQ0 hH s94
                                intro Q hQ
                                repeat go_step
                                exact hQ _ _ (Grow.refl _) rfl rfl
                              refine obls_cons (fun f w' hR hH Q0 hQ0 => ?_) ?_
                              · skip
                                have s13 := sv_off f [(95, 7)] e13 rfl
                                have s95 := (sv_at 95 7 hsz f [(95, 7)] rfl).trans (show f 7 = _ from hH.get 0 (95, 7) rfl)
                                first
                                  | exact skip_v hsz rfl ((wanted_some (b := false) rfl rfl s95).trans rfl) hQ0 (Grow.refl _) rfl
                                  | refine small_v hsz [(13, _)] ⟨some 1, (Op.move (.tmp 0)), 3, "", #[], none⟩ [_, undef] 1 rfl ((wanted_some (b := true) rfl rfl s95).trans rfl) ⟨s13, trivial⟩ rfl hQ0 ?_
                                    clear hQ0 hH s13 s95
                                    intro Q hQ
                                    repeat go_step
                                    exact hQ _ _ (Grow.refl _) rfl rfl
                              refine obls_cons (fun f w' hR hH Q0 hQ0 => ?_) ?_
                              · skip
                                have s96 := (sv_at 96 8 hsz f [(96, 8), (95, 7)] rfl).trans (show f 8 = _ from hH.get 0 (96, 8) rfl)
                                have s95 := (sv_at 95 7 hsz f [(96, 8), (95, 7)] rfl).trans (show f 7 = _ from hH.get 1 (95, 7) rfl)
                                first
                                  | exact skip_v hsz rfl ((wanted_some (b := false) rfl rfl s95).trans rfl) hQ0 (Grow.refl _) rfl
                                  | refine small_v hsz [(96, _)] ⟨some 1, (Op.binOp BinOp.geq 3 (.tmp 0) (Operand.const (Value.int IntKind.i64 0)) 3), 4, "", #[], none⟩ [_, undef] 1 rfl ((wanted_some (b := true) rfl rfl s95).trans rfl) ⟨s96, trivial⟩ rfl hQ0 ?_
                                    clear hQ0 hH s96 s95
                                    intro Q hQ
                                    repeat go_step
                                    exact hQ _ _ (Grow.refl _) rfl rfl
                              refine obls_cons (fun f w' hR hH Q0 hQ0 => ?_) ?_
                              · skip
                                have s95 := (sv_at 95 7 hsz f [(95, 7), (97, 9)] rfl).trans (show f 7 = _ from hH.get 0 (95, 7) rfl)
                                have s97 := (sv_at 97 9 hsz f [(95, 7), (97, 9)] rfl).trans (show f 9 = _ from hH.get 1 (97, 9) rfl)
                                refine small_v hsz [(95, _), (97, _)] ⟨some 2, (Op.pick (.tmp 0) (.tmp 1) (Operand.const (Value.bool false))), 4, "", #[], none⟩ [_, _, undef] 2 rfl rfl ⟨s95, s97, trivial⟩ rfl hQ0 ?_
                                clear hQ0 hH s95 s97
                                intro Q hQ
                                repeat go_step
                                exact hQ _ _ (Grow.refl _) rfl rfl
                              refine obls_cons (fun f w' hR hH Q0 hQ0 => ?_) ?_
                              · skip
                                have s98 := (sv_at 98 10 hsz f [(98, 10)] rfl).trans (show f 10 = _ from hH.get 0 (98, 10) rfl)
                                refine small_v hsz [(98, _)] ⟨some 1, (Op.move (.tmp 0)), 4, "", #[], none⟩ [_, undef] 1 rfl rfl ⟨s98, trivial⟩ rfl hQ0 ?_
                                clear hQ0 hH s98
                                intro Q hQ
                                repeat go_step
                                exact hQ _ _ (Grow.refl _) rfl rfl
                              refine obls_cons (fun f w' hR hH Q0 hQ0 => ?_) ?_
                              · skip
                                have s13 := sv_off f [(99, 11)] e13 rfl
                                have s99 := (sv_at 99 11 hsz f [(99, 11)] rfl).trans (show f 11 = _ from hH.get 0 (99, 11) rfl)
                                first
                                  | exact skip_v hsz rfl ((wanted_some (b := false) rfl rfl s99).trans rfl) hQ0 (Grow.refl _) rfl
                                  | refine small_v hsz [(13, _)] ⟨some 1, (Op.move (.tmp 0)), 3, "", #[], none⟩ [_, undef] 1 rfl ((wanted_some (b := true) rfl rfl s99).trans rfl) ⟨s13, trivial⟩ rfl hQ0 ?_
                                    clear hQ0 hH s13 s99
                                    intro Q hQ
                                    repeat go_step
                                    exact hQ _ _ (Grow.refl _) rfl rfl
                              refine obls_cons (fun f w' hR hH Q0 hQ0 => ?_) ?_
                              · skip
                                have s0 := sv_off f [(99, 11)] e0 rfl
                                have s99 := (sv_at 99 11 hsz f [(99, 11)] rfl).trans (show f 11 = _ from hH.get 0 (99, 11) rfl)
                                first
                                  | exact skip_v hsz rfl ((wanted_some (b := false) rfl rfl s99).trans rfl) hQ0 (Grow.refl _) rfl
                                  | refine small_v hsz [(0, _)] ⟨some 1, (Op.move (.tmp 0)), 3, "", #[], none⟩ [_, undef] 1 rfl ((wanted_some (b := true) rfl rfl s99).trans rfl) ⟨s0, trivial⟩ rfl hQ0 ?_
                                    clear hQ0 hH s0 s99
                                    intro Q hQ
                                    repeat go_step
                                    exact hQ _ _ (Grow.refl _) rfl rfl
                              refine obls_cons (fun f w' hR hH Q0 hQ0 => ?_) ?_
                              · skip
                                have s100 := (sv_at 100 12 hsz f [(100, 12), (101, 13), (99, 11)] rfl).trans (show f 12 = _ from hH.get 0 (100, 12) rfl)
                                have s101 := (sv_at 101 13 hsz f [(100, 12), (101, 13), (99, 11)] rfl).trans (show f 13 = _ from hH.get 1 (101, 13) rfl)
                                have s99 := (sv_at 99 11 hsz f [(100, 12), (101, 13), (99, 11)] rfl).trans (show f 11 = _ from hH.get 2 (99, 11) rfl)
                                first
                                  | exact skip_v hsz rfl ((wanted_some (b := false) rfl rfl s99).trans rfl) hQ0 (Grow.refl _) rfl
                                  | refine small_v hsz [(100, _), (101, _)] ⟨some 2, (Op.binOp BinOp.lss 3 (.tmp 0) (.tmp 1) 3), 4, "", #[], none⟩ [_, _, undef] 2 rfl ((wanted_some (b := true) rfl rfl s99).trans rfl) ⟨s100, s101, trivial⟩ rfl hQ0 ?_
                                    clear hQ0 hH s100 s101 s99
                                    intro Q hQ
                                    repeat go_step
                                    exact hQ _ _ (Grow.refl _) rfl rfl
                              refine obls_cons (fun f w' hR hH Q0 hQ0 => ?_) ?_
                              · skip
                                have s99 := (sv_at 99 11 hsz f [(99, 11), (102, 14)] rfl).trans (show f 11 = _ from hH.get 0 (99, 11) rfl)
                                have s102 := (sv_at 102 14 hsz f [(99, 11), (102, 14)] rfl).trans (show f 14 = _ from hH.get 1 (102, 14) rfl)
                                refine small_v hsz [(99, _), (102, _)] ⟨some 2, (Op.pick (.tmp 0) (.tmp 1) (Operand.const (Value.bool false))), 4, "", #[], none⟩ [_, _, undef] 2 rfl rfl ⟨s99, s102, trivial⟩ rfl hQ0 ?_
                                clear hQ0 hH s99 s102
                                intro Q hQ
                                repeat go_step
                                exact hQ _ _ (Grow.refl _) rfl rfl
                              refine obls_cons (fun f w' hR hH Q0 hQ0 => ?_) ?_
                              · skip
                                have s103 := (sv_at 103 15 hsz f [(103, 15)] rfl).trans (show f 15 = _ from hH.get 0 (103, 15) rfl)
                                refine small_v hsz [(103, _)] ⟨some 1, (Op.move (.tmp 0)), 4, "", #[], none⟩ [_, undef] 1 rfl rfl ⟨s103, trivial⟩ rfl hQ0 ?_
                                clear hQ0 hH s103
                                intro Q hQ
                                repeat go_step
                                exact hQ _ _ (Grow.refl _) rfl rfl
                              refine obls_cons (fun f w' hR hH Q0 hQ0 => ?_) ?_
                              · skip
                                have s9 := sv_off f [(104, 16)] e9 rfl
                                have s104 := (sv_at 104 16 hsz f [(104, 16)] rfl).trans (show f 16 = _ from hH.get 0 (104, 16) rfl)
                                first
                                  | exact skip_v hsz rfl ((wanted_some (b := false) rfl rfl s104).trans rfl) hQ0 (Grow.refl _) rfl
                                  | refine small_v hsz [(9, _)] ⟨some 1, (Op.move (.tmp 0)), 22, "", #[], none⟩ [_, undef] 1 rfl ((wanted_some (b := true) rfl rfl s104).trans rfl) ⟨s9, trivial⟩ rfl hQ0 ?_
                                    clear hQ0 hH s9 s104
                                    intro Q hQ
                                    repeat go_step
                                    exact hQ _ _ (Grow.refl _) rfl rfl
                              refine obls_cons (fun f w' hR hH Q0 hQ0 => ?_) ?_
                              · skip
                                have s12 := sv_off f [(104, 16)] e12 rfl
                                have s104 := (sv_at 104 16 hsz f [(104, 16)] rfl).trans (show f 16 = _ from hH.get 0 (104, 16) rfl)
                                first
                                  | exact skip_v hsz rfl ((wanted_some (b := false) rfl rfl s104).trans rfl) hQ0 (Grow.refl _) rfl
                                  | refine small_v hsz [(12, _)] ⟨some 1, (Op.move (.tmp 0)), 3, "", #[], none⟩ [_, undef] 1 rfl ((wanted_some (b := true) rfl rfl s104).trans rfl) ⟨s12, trivial⟩ rfl hQ0 ?_
                                    clear hQ0 hH s12 s104
                                    intro Q hQ
                                    repeat go_step
                                    exact hQ _ _ (Grow.refl _) rfl rfl
                              refine obls_cons (fun f w' hR hH Q0 hQ0 => ?_) ?_
                              · skip
                                have s105 := (sv_at 105 17 hsz f [(105, 17), (106, 18), (104, 16)] rfl).trans (show f 17 = _ from hH.get 0 (105, 17) rfl)
                                have s106 := (sv_at 106 18 hsz f [(105, 17), (106, 18), (104, 16)] rfl).trans (show f 18 = _ from hH.get 1 (106, 18) rfl)
                                have s104 := (sv_at 104 16 hsz f [(105, 17), (106, 18), (104, 16)] rfl).trans (show f 16 = _ from hH.get 2 (104, 16) rfl)
                                first
                                  | exact skip_v hsz rfl ((wanted_some (b := false) rfl rfl s104).trans rfl) hQ0 (Grow.refl _) rfl
                                  | refine small_v hsz [(105, _), (106, _)] ⟨some 2, (Op.indexAddr 22 (.tmp 0) (.tmp 1)), 0, "", #[], none⟩ [_, _, undef] 2 rfl ((wanted_some (b := true) rfl rfl s104).trans rfl) ⟨s105, s106, trivial⟩ rfl hQ0 ?_
                                    clear hQ0 hH s105 s106 s104
                                    intro Q hQ
                                    repeat go_step
                                    exact hQ _ _ (Grow.refl _) rfl rfl
                              refine obls_cons (fun f w' hR hH Q0 hQ0 => ?_) ?_
                              · skip
                                have s107 := (sv_at 107 19 hsz f [(107, 19), (104, 16)] rfl).trans (show f 19 = _ from hH.get 0 (107, 19) rfl)
                                have s104 := (sv_at 104 16 hsz f [(107, 19), (104, 16)] rfl).trans (show f 16 = _ from hH.get 1 (104, 16) rfl)
                                first
                                  | exact skip_v hsz rfl ((wanted_some (b := false) rfl rfl s104).trans rfl) hQ0 (Grow.refl _) rfl
                                  | refine small_v hsz [(107, _)] ⟨some 1, (Op.load 3 (.tmp 0)), 3, "", #[], none⟩ [_, undef] 1 rfl ((wanted_some (b := true) rfl rfl s104).trans rfl) ⟨s107, trivial⟩ rfl hQ0 ?_
                                    clear hQ0 hH s107 s104
                                    intro Q hQ
                                    have y3 := (HG6.out.trans hR).cell HCA.out
                                    repeat go_step
                                    exact hQ _ _ (Grow.refl _) rfl rfl
                              refine obls_cons (fun f w' hR hH Q0 hQ0 => ?_) ?_
                              · skip
                                have s9 := sv_off f [(104, 16)] e9 rfl
                                have s104 := (sv_at 104 16 hsz f [(104, 16)] rfl).trans (show f 16 = _ from hH.get 0 (104, 16) rfl)
                                first
                                  | exact skip_v hsz rfl ((wanted_some (b := false) rfl rfl s104).trans rfl) hQ0 (Grow.refl _) rfl
                                  | refine small_v hsz [(9, _)] ⟨some 1, (Op.move (.tmp 0)), 22, "", #[], none⟩ [_, undef] 1 rfl ((wanted_some (b := true) rfl rfl s104).trans rfl) ⟨s9, trivial⟩ rfl hQ0 ?_
                                    clear hQ0 hH s9 s104
                                    intro Q hQ
                                    repeat go_step
                                    exact hQ _ _ (Grow.refl _) rfl rfl
                              refine obls_cons (fun f w' hR hH Q0 hQ0 => ?_) ?_
                              · skip
                                have s13 := sv_off f [(104, 16)] e13 rfl
                                have s104 := (sv_at 104 16 hsz f [(104, 16)] rfl).trans (show f 16 = _ from hH.get 0 (104, 16) rfl)
                                first
                                  | exact skip_v hsz rfl ((wanted_some (b := false) rfl rfl s104).trans rfl) hQ0 (Grow.refl _) rfl
                                  | refine small_v hsz [(13, _)] ⟨some 1, (Op.move (.tmp 0)), 3, "", #[], none⟩ [_, undef] 1 rfl ((wanted_some (b := true) rfl rfl s104).trans rfl) ⟨s13, trivial⟩ rfl hQ0 ?_
                                    clear hQ0 hH s13 s104
                                    intro Q hQ
                                    repeat go_step
                                    exact hQ _ _ (Grow.refl _) rfl rfl
                              refine obls_cons (fun f w' hR hH Q0 hQ0 => ?_) ?_
                              · skip
                                have s109 := (sv_at 109 21 hsz f [(109, 21), (110, 22), (104, 16)] rfl).trans (show f 21 = _ from hH.get 0 (109, 21) rfl)
                                have s110 := (sv_at 110 22 hsz f [(109, 21), (110, 22), (104, 16)] rfl).trans (show f 22 = _ from hH.get 1 (110, 22) rfl)
                                have s104 := (sv_at 104 16 hsz f [(109, 21), (110, 22), (104, 16)] rfl).trans (show f 16 = _ from hH.get 2 (104, 16) rfl)
                                first
                                  | exact skip_v hsz rfl ((wanted_some (b := false) rfl rfl s104).trans rfl) hQ0 (Grow.refl _) rfl
                                  | refine small_v hsz [(109, _), (110, _)] ⟨some 2, (Op.indexAddr 22 (.tmp 0) (.tmp 1)), 0, "", #[], none⟩ [_, _, undef] 2 rfl ((wanted_some (b := true) rfl rfl s104).trans rfl) ⟨s109, s110, trivial⟩ rfl hQ0 ?_
                                    clear hQ0 hH s109 s110 s104
                                    intro Q hQ
                                    repeat go_step
                                    exact hQ _ _ (Grow.refl _) rfl rfl
                              refine obls_cons (fun f w' hR hH Q0 hQ0 => ?_) ?_
                              · skip
                                have s111 := (sv_at 111 23 hsz f [(111, 23), (104, 16)] rfl).trans (show f 23 = _ from hH.get 0 (111, 23) rfl)
                                have s104 := (sv_at 104 16 hsz f [(111, 23), (104, 16)] rfl).trans (show f 16 = _ from hH.get 1 (104, 16) rfl)
                                first
                                  | exact skip_v hsz rfl ((wanted_some (b := false) rfl rfl s104).trans rfl) hQ0 (Grow.refl _) rfl
                                  | refine small_v hsz [(111, _)] ⟨some 1, (Op.load 3 (.tmp 0)), 3, "", #[], none⟩ [_, undef] 1 rfl ((wanted_some (b := true) rfl rfl s104).trans rfl) ⟨s111, trivial⟩ rfl hQ0 ?_
                                    clear hQ0 hH s111 s104
                                    intro Q hQ
                                    have y4 := (HG6.out.trans hR).cell HCB.out
                                    repeat go_step
                                    exact hQ _ _ (Grow.refl _) rfl rfl
                              refine obls_cons (fun f w' hR hH Q0 hQ0 => ?_) ?_
                              · skip
                                have s108 := (sv_at 108 20 hsz f [(108, 20), (112, 24), (104, 16)] rfl).trans (show f 20 = _ from hH.get 0 (108, 20) rfl)
                                have s112 := (sv_at 112 24 hsz f [(108, 20), (112, 24), (104, 16)] rfl).trans (show f 24 = _ from hH.get 1 (112, 24) rfl)
                                have s104 := (sv_at 104 16 hsz f [(108, 20), (112, 24), (104, 16)] rfl).trans (show f 16 = _ from hH.get 2 (104, 16) rfl)
                                first
                                  | exact skip_v hsz rfl ((wanted_some (b := false) rfl rfl s104).trans rfl) hQ0 (Grow.refl _) rfl
                                  | refine small_v hsz [(108, _), (112, _)] ⟨some 2, (Op.binOp BinOp.gtr 3 (.tmp 0) (.tmp 1) 3), 4, "", #[], none⟩ [_, _, undef] 2 rfl ((wanted_some (b := true) rfl rfl s104).trans rfl) ⟨s108, s112, trivial⟩ rfl hQ0 ?_
                                    clear hQ0 hH s108 s112 s104
                                    intro Q hQ
                                    repeat go_step
                                    exact hQ _ _ (Grow.refl _) rfl rfl
                              refine obls_cons (fun f w' hR hH Q0 hQ0 => ?_) ?_
                              · skip
                                have s104 := (sv_at 104 16 hsz f [(104, 16), (113, 25)] rfl).trans (show f 16 = _ from hH.get 0 (104, 16) rfl)
                                have s113 := (sv_at 113 25 hsz f [(104, 16), (113, 25)] rfl).trans (show f 25 = _ from hH.get 1 (113, 25) rfl)
                                refine small_v hsz [(104, _), (113, _)] ⟨some 2, (Op.pick (.tmp 0) (.tmp 1) (Operand.const (Value.bool false))), 4, "", #[], none⟩ [_, _, undef] 2 rfl rfl ⟨s104, s113, trivial⟩ rfl hQ0 ?_
                                clear hQ0 hH s104 s113
                                intro Q hQ
                                repeat go_step
                                exact hQ _ _ (Grow.refl _) rfl rfl
                              refine obls_cons (fun f w' hR hH Q0 hQ0 => ?_) ?_
                              · skip
                                have s114 := (sv_at 114 26 hsz f [(114, 26)] rfl).trans (show f 26 = _ from hH.get 0 (114, 26) rfl)
                                refine small_v hsz [(114, _)] ⟨some 1, (Op.move (.tmp 0)), 4, "", #[], none⟩ [_, undef] 1 rfl rfl ⟨s114, trivial⟩ rfl hQ0 ?_
                                clear hQ0 hH s114
                                intro Q hQ
                                repeat go_step
                                exact hQ _ _ (Grow.refl _) rfl rfl
                              refine obls_cons (fun f w' hR hH Q0 hQ0 => ?_) ?_
                              · skip
                                have s7 := sv_off f [(115, 27)] e7 rfl
                                have s115 := (sv_at 115 27 hsz f [(115, 27)] rfl).trans (show f 27 = _ from hH.get 0 (115, 27) rfl)
                                first
                                  | exact skip_v hsz rfl ((wanted_some (b := false) rfl rfl s115).trans rfl) hQ0 (Grow.refl _) rfl
                                  | refine small_v hsz [(7, _)] ⟨some 1, (Op.move (.tmp 0)), 56, "", #[], none⟩ [_, undef] 1 rfl ((wanted_some (b := true) rfl rfl s115).trans rfl) ⟨s7, trivial⟩ rfl hQ0 ?_
                                    clear hQ0 hH s7 s115
                                    intro Q hQ
                                    repeat go_step
                                    exact hQ _ _ (Grow.refl _) rfl rfl
                              refine obls_cons (fun f w' hR hH Q0 hQ0 => ?_) ?_
                              · skip
                                have s12 := sv_off f [(115, 27)] e12 rfl
                                have s115 := (sv_at 115 27 hsz f [(115, 27)] rfl).trans (show f 27 = _ from hH.get 0 (115, 27) rfl)
                                first
                                  | exact skip_v hsz rfl ((wanted_some (b := false) rfl rfl s115).trans rfl) hQ0 (Grow.refl _) rfl
                                  | refine small_v hsz [(12, _)] ⟨some 1, (Op.move (.tmp 0)), 3, "", #[], none⟩ [_, undef] 1 rfl ((wanted_some (b := true) rfl rfl s115).trans rfl) ⟨s12, trivial⟩ rfl hQ0 ?_
                                    clear hQ0 hH s12 s115
                                    intro Q hQ
                                    repeat go_step
                                    exact hQ _ _ (Grow.refl _) rfl rfl
                              refine obls_cons (fun f w' hR hH Q0 hQ0 => ?_) ?_
                              · skip
                                have s13 := sv_off f [(115, 27)] e13 rfl
                                have s115 := (sv_at 115 27 hsz f [(115, 27)] rfl).trans (show f 27 = _ from hH.get 0 (115, 27) rfl)
                                first
                                  | exact skip_v hsz rfl ((wanted_some (b := false) rfl rfl s115).trans rfl) hQ0 (Grow.refl _) rfl
                                  | refine small_v hsz [(13, _)] ⟨some 1, (Op.move (.tmp 0)), 3, "", #[], none⟩ [_, undef] 1 rfl ((wanted_some (b := true) rfl rfl s115).trans rfl) ⟨s13, trivial⟩ rfl hQ0 ?_
                                    clear hQ0 hH s13 s115
                                    intro Q hQ
                                    repeat go_step
                                    exact hQ _ _ (Grow.refl _) rfl rfl
                              refine obls_cons (fun f w' hR hH Q0 hQ0 => ?_) ?_
                              · skip
                                have s116 := (sv_at 116 28 hsz f [(116, 28), (117, 29), (118, 30), (115, 27)] rfl).trans (show f 28 = _ from hH.get 0 (116, 28) rfl)
                                have s117 := (sv_at 117 29 hsz f [(116, 28), (117, 29), (118, 30), (115, 27)] rfl).trans (show f 29 = _ from hH.get 1 (117, 29) rfl)
                                have s118 := (sv_at 118 30 hsz f [(116, 28), (117, 29), (118, 30), (115, 27)] rfl).trans (show f 30 = _ from hH.get 2 (118, 30) rfl)
                                have s115 := (sv_at 115 27 hsz f [(116, 28), (117, 29), (118, 30), (115, 27)] rfl).trans (show f 27 = _ from hH.get 3 (115, 27) rfl)
                                first
                                  | exact skip_v hsz rfl ((wanted_some (b := false) rfl rfl s115).trans rfl) hQ0 (Grow.refl _) rfl
                                  | refine small_v hsz [(116, _), (117, _), (118, _)] ⟨some 3, (Op.call (Call.mk (Callee.value (Operand.func 46)) #[(.tmp 0), (.tmp 1), (.tmp 2)] #[56, 3, 3])), 4, "", #[], none⟩ [_, _, _, undef] 3 rfl ((wanted_some (b := true) rfl rfl s115).trans rfl) ⟨s116, s117, s118, trivial⟩ (ren_call rfl rfl) hQ0 ?_
                                    clear hQ0 hH s116 s117 s118 s115
                                    intro Q hQ
                                    go_wp2_with (go_at_call 46; refine (KA2.out w' (HG6.out.trans hR)).mono ?_; rintro e w1 ⟨rfl, rfl⟩)
                                    exact hQ _ _ (Grow.refl _) rfl rfl
                              refine obls_cons (fun f w' hR hH Q0 hQ0 => ?_) ?_
                              · skip
                                have s119 := (sv_at 119 31 hsz f [(119, 31), (115, 27)] rfl).trans (show f 31 = _ from hH.get 0 (119, 31) rfl)
                                have s115 := (sv_at 115 27 hsz f [(119, 31), (115, 27)] rfl).trans (show f 27 = _ from hH.get 1 (115, 27) rfl)
                                first
                                  | exact skip_v hsz rfl ((wanted_some (b := false) rfl rfl s115).trans rfl) hQ0 (Grow.refl _) rfl
                                  | refine small_v hsz [(119, _)] ⟨some 1, (Op.unOp UnOp.not 4 (.tmp 0)), 4, "", #[], none⟩ [_, undef] 1 rfl ((wanted_some (b := true) rfl rfl s115).trans rfl) ⟨s119, trivial⟩ rfl hQ0 ?_
                                    clear hQ0 hH s119 s115
                                    intro Q hQ
                                    repeat go_step
                                    exact hQ _ _ (Grow.refl _) rfl rfl
                              refine obls_cons (fun f w' hR hH Q0 hQ0 => ?_) ?_
                              · skip
                                have s115 := (sv_at 115 27 hsz f [(115, 27), (120, 32)] rfl).trans (show f 27 = _ from hH.get 0 (115, 27) rfl)
                                have s120 := (sv_at 120 32 hsz f [(115, 27), (120, 32)] rfl).trans (show f 32 = _ from hH.get 1 (120, 32) rfl)
                                refine small_v hsz [(115, _), (120, _)] ⟨some 2, (Op.pick (.tmp 0) (.tmp 1) (Operand.const (Value.bool false))), 4, "", #[], none⟩ [_, _, undef] 2 rfl rfl ⟨s115, s120, trivial⟩ rfl hQ0 ?_
                                clear hQ0 hH s115 s120
                                intro Q hQ
                                repeat go_step
                                exact hQ _ _ (Grow.refl _) rfl rfl
                              exact obls_nil
                            case mono => exact ⟨Mono.veq _, Mono.veq _, Mono.veq _, Mono.veq _, Mono.veq _, Mono.veq _, Mono.veq _, Mono.veq _, Mono.veq _, Mono.veq _, Mono.veq _, Mono.veq _, Mono.veq _, Mono.veq _, Mono.veq _, Mono.veq _, Mono.veq _, Mono.veq _, Mono.veq _, Mono.veq _, Mono.veq _, Mono.veq _, Mono.veq _, Mono.veq _, Mono.veq _, Mono.veq _, Mono.veq _, Mono.veq _, Mono.veq _, Mono.veq _, Mono.veq _, Mono.veq _, Mono.veq _, Mono.veq _, trivial⟩
                            case tail =>
                              intro f w' hR hH
                              have q33 : (veq (Value.bool false)) (f 33) w' := hH.get 33 (121, 33) rfl
                              clear hH
                              refine wpList_merge (idx := [none, none, none, none, none, none, none, none, none, none, none, none, none, none, none, none, none, none, none, none, none, none, none, none, none, none, none, none, none, none, none, none, none, none, none, none, none, none, none, none, none, none, none, none, none, none, none, none, none, none, none, none, none, none, none, none, none, none, none, none, none, none, none, none, none, none, none, none, none, none, none, none, none, none, none, none, none, none, none, none, none, none, none, none, none, none, none, none, some 0, some 1, some 2, some 3, some 4, some 5, some 6, some 7, some 8, some 9, some 10, some 11, some 12, some 13, some 14, some 15, some 16, some 17, some 18, some 19, some 20, some 21, some 22, some 23, some 24, some 25, some 26, some 27, some 28, some 29, some 30, some 31, some 32, some 33, none, none, none, none, none, none, none, none, none, none, none, none, none, none, none, none, none, none, none, none, none, none, none, none, none, none, none, none, none, none, none, none, none, none, none, none, none, none, none, none, none]) (by kernel_rfl) ?_; show wpList _ _ _ [] ⟨#[_, _, _, _, _, _, _, _, _, _, _, _, _, _, _, _, _, _, _, _, _, _, _, _, _, _, _, _, _, _, _, _, _, _, _, _, _, _, _, _, _, _, _, _, _, _, _, _, _, _, _, _, _, _, _, _, _, _, _, _, _, _, _, _, _, _, _, _, _, _, _, _, _, _, _, _, _, _, _, _, _, _, _, _, _, _, _, _, f 0, f 1, f 2, f 3, f 4, f 5, f 6, f 7, f 8, f 9, f 10, f 11, f 12, f 13, f 14, f 15, f 16, f 17, f 18, f 19, f 20, f 21, f 22, f 23, f 24, f 25, f 26, f 27, f 28, f 29, f 30, f 31, f 32, f 33, _, _, _, _, _, _, _, _, _, _, _, _, _, _, _, _, _, _, _, _, _, _, _, _, _, _, _, _, _, _, _, _, _, _, _, _, _, _, _, _, _], _⟩ _
                              obtain ⟨x33, hx33⟩ : ∃ x, f 33 = x := ⟨_, rfl⟩
                              rw [hx33] at q33 ⊢
                              clear hx33
                              obtain rfl := q33
                              have HG7 := Lib.hid (HG6.out.trans hR)
                              clear hR
                              go_wp2_with fail
                              go_roundw
                              case rel => exact ⟨k + 1, by have := HLTk.out; omega, by go_num, HG7.out⟩
                              case measure => have := HLTk.out; simp [intOf] <;> omega
                          · have s7 : decide (pb < pa) = false := decide_eq_false d5
                            have s8 : decide ((pb : Int) < (pa : Int)) = false := decide_eq_false (by omega)
                            clear hpa hpb hca hcb d1 d3 d5 KA
                            go_wp2_with fail
                            apply (fun (v0 v1 v2 v3 v4 v5 v6 v7 v8 v9 v10 v11 v12 v13 v14 v15 v16 v17 v18 v19 v20 v21 v22 v23 v24 v25 v26 v27 v28 v29 v30 v31 v32 : Value) mono obl tail => wp_region_par (R := Grow) (Φ := phi [veq v0, veq v1, veq v2, veq v3, veq v4, veq v5, veq v6, veq v7, veq v8, veq v9, veq v10, veq v11, veq v12, veq v13, veq v14, veq v15, veq v16, veq v17, veq v18, veq v19, veq v20, veq v21, veq v22, veq v23, veq v24, veq v25, veq v26, veq v27, veq v28, veq v29, veq v30, veq v31, veq v32, (veq (Value.bool false))]) (m := 34) (dls := [[], [(88, 0)], [(89, 1)], [(90, 2)], [(90, 2)], [(91, 3), (92, 4), (90, 2)], [(90, 2), (93, 5)], [(94, 6)], [(95, 7)], [(96, 8), (95, 7)], [(95, 7), (97, 9)], [(98, 10)], [(99, 11)], [(99, 11)], [(100, 12), (101, 13), (99, 11)], [(99, 11), (102, 14)], [(103, 15)], [(104, 16)], [(104, 16)], [(105, 17), (106, 18), (104, 16)], [(107, 19), (104, 16)], [(104, 16)], [(104, 16)], [(109, 21), (110, 22), (104, 16)], [(111, 23), (104, 16)], [(108, 20), (112, 24), (104, 16)], [(104, 16), (113, 25)], [(114, 26)], [(115, 27)], [(115, 27)], [(115, 27)], [(116, 28), (117, 29), (118, 30), (115, 27)], [(119, 31), (115, 27)], [(115, 27), (120, 32)]]) (ds := [88, 89, 90, 91, 92, 93, 94, 95, 96, 97, 98, 99, 100, 101, 102, 103, 104, 105, 106, 107, 108, 109, 110, 111, 112, 113, 114, 115, 116, 117, 118, 119, 120, 121]) (by kernel_rfl) (by kernel_rfl) (by decide) rfl (Grow.drew _) (fun _ _ _ => Grow.trans) (mono_phi mono) obl tail)
                            case obl =>
                              refine obls_frame (fun a1 ha => ?_)
                              have hsz := rd_size (n := 163) ha rfl
                              have e12 := rd_slot 12 ha rfl
                              have e0 := rd_slot 0 ha rfl
                              have e13 := rd_slot 13 ha rfl
                              have e9 := rd_slot 9 ha rfl
                              have e7 := rd_slot 7 ha rfl
                              clear ha
                              refine obls_cons (fun f w' hR hH Q0 hQ0 => ?_) ?_
                              · skip
                                have s12 := sv_off f [] e12 rfl
                                refine small_v hsz [(12, _)] ⟨some 1, (Op.move (.tmp 0)), 3, "", #[], none⟩ [_, undef] 1 rfl rfl ⟨s12, trivial⟩ rfl hQ0 ?_
                                clear hQ0 hH s12
                                intro Q hQ
                                repeat go_step
                                exact hQ _ _ (Grow.refl _) rfl rfl
                              refine obls_cons (fun f w' hR hH Q0 hQ0 => ?_) ?_
                              · skip
                                have s88 := (sv_at 88 0 hsz f [(88, 0)] rfl).trans (show f 0 = _ from hH.get 0 (88, 0) rfl)
                                refine small_v hsz [(88, _)] ⟨some 1, (Op.binOp BinOp.geq 3 (.tmp 0) (Operand.const (Value.int IntKind.i64 0)) 3), 4, "", #[], none⟩ [_, undef] 1 rfl rfl ⟨s88, trivial⟩ rfl hQ0 ?_
                                clear hQ0 hH s88
                                intro Q hQ
                                repeat go_step
                                exact hQ _ _ (Grow.refl _) rfl rfl
                              refine obls_cons (fun f w' hR hH Q0 hQ0 => ?_) ?_
                              · skip
                                have s89 := (sv_at 89 1 hsz f [(89, 1)] rfl).trans (show f 1 = _ from hH.get 0 (89, 1) rfl)
                                refine small_v hsz [(89, _)] ⟨some 1, (Op.move (.tmp 0)), 4, "", #[], none⟩ [_, undef] 1 rfl rfl ⟨s89, trivial⟩ rfl hQ0 ?_
                                clear hQ0 hH s89
                                intro Q hQ
                                repeat go_step
                                exact hQ _ _ (Grow.refl _) rfl rfl
                              refine obls_cons (fun f w' hR hH Q0 hQ0 => ?_) ?_
                              · skip
                                have s12 := sv_off f [(90, 2)] e12 rfl
                                have s90 := (sv_at 90 2 hsz f [(90, 2)] rfl).trans (show f 2 = _ from hH.get 0 (90, 2) rfl)
                                first
                                  | exact skip_v hsz rfl ((wanted_some (b := false) rfl rfl s90).trans rfl) hQ0 (Grow.refl _) rfl
                                  | refine small_v hsz [(12, _)] ⟨some 1, (Op.move (.tmp 0)), 3, "", #[], none⟩ [_, undef] 1 rfl ((wanted_some (b := true) rfl rfl s90).trans rfl) ⟨s12, trivial⟩ rfl hQ0 ?_
                                    clear hQ0 hH s12 s90
                                    intro Q hQ
                                    repeat go_step
                                    exact hQ _ _ (Grow.refl _) rfl rfl
                              refine obls_cons (fun f w' hR hH Q0 hQ0 => ?_) ?_
                              · skip
                                have s0 := sv_off f [(90, 2)] e0 rfl
                                have s90 := (sv_at 90 2 hsz f [(90, 2)] rfl).trans (show f 2 = _ from hH.get 0 (90, 2) rfl)
                                first
                                  | exact skip_v hsz rfl ((wanted_some (b := false) rfl rfl s90).trans rfl) hQ0 (Grow.refl _) rfl
                                  | refine small_v hsz [(0, _)] ⟨some 1, (Op.move (.tmp 0)), 3, "", #[], none⟩ [_, undef] 1 rfl ((wanted_some (b := true) rfl rfl s90).trans rfl) ⟨s0, trivial⟩ rfl hQ0 ?_
                                    clear hQ0 hH s0 s90
                                    intro Q hQ
                                    repeat go_step
                                    exact hQ _ _ (Grow.refl _) rfl rfl
                              refine obls_cons (fun f w' hR hH Q0 hQ0 => ?_) ?_
                              · skip
                                have s91 := (sv_at 91 3 hsz f [(91, 3), (92, 4), (90, 2)] rfl).trans (show f 3 = _ from hH.get 0 (91, 3) rfl)
                                have s92 := (sv_at 92 4 hsz f [(91, 3), (92, 4), (90, 2)] rfl).trans (show f 4 = _ from hH.get 1 (92, 4) rfl)
                                have s90 := (sv_at 90 2 hsz f [(91, 3), (92, 4), (90, 2)] rfl).trans (show f 2 = _ from hH.get 2 (90, 2) rfl)
                                first
                                  | exact skip_v hsz rfl ((wanted_some (b := false) rfl rfl s90).trans rfl) hQ0 (Grow.refl _) rfl
                                  | refine small_v hsz [(91, _), (92, _)] ⟨some 2, (Op.binOp BinOp.lss 3 (.tmp 0) (.tmp 1) 3), 4, "", #[], none⟩ [_, _, undef] 2 rfl ((wanted_some (b := true) rfl rfl s90).trans rfl) ⟨s91, s92, trivial⟩ rfl hQ0 ?_
                                    clear hQ0 hH s91 s92 s90
                                    intro Q hQ
                                    repeat go_step
                                    exact hQ _ _ (Grow.refl _) rfl rfl
                              refine obls_cons (fun f w' hR hH Q0 hQ0 => ?_) ?_
                              · skip
                                have s90 := (sv_at 90 2 hsz f [(90, 2), (93, 5)] rfl).trans (show f 2 = _ from hH.get 0 (90, 2) rfl)
                                have s93 := (sv_at 93 5 hsz f [(90, 2), (93, 5)] rfl).trans (show f 5 = _ from hH.get 1 (93, 5) rfl)
                                refine small_v hsz [(90, _), (93, _)] ⟨some 2, (Op.pick (.tmp 0) (.tmp 1) (Operand.const (Value.bool false))), 4, "", #[], none⟩ [_, _, undef] 2 rfl rfl ⟨s90, s93, trivial⟩ rfl hQ0 ?_
                                clear hQ0 hH s90 s93
                                intro Q hQ
                                repeat go_step
                                exact hQ _ _ (Grow.refl _) rfl rfl
                              refine obls_cons (fun f w' hR hH Q0 hQ0 => ?_) ?_
                              · skip
                                have s94 := (sv_at 94 6 hsz f [(94, 6)] rfl).trans (show f 6 = _ from hH.get 0 (94, 6) rfl)
                                refine small_v hsz [(94, _)] ⟨some 1, (Op.move (.tmp 0)), 4, "", #[], none⟩ [_, undef] 1 rfl rfl ⟨s94, trivial⟩ rfl hQ0 ?_
                                clear hQ0 hH s94
                                intro Q hQ
                                repeat go_step
                                exact hQ _ _ (Grow.refl _) rfl rfl
                              refine obls_cons (fun f w' hR hH Q0 hQ0 => ?_) ?_
                              · skip
                                have s13 := sv_off f [(95, 7)] e13 rfl
                                have s95 := (sv_at 95 7 hsz f [(95, 7)] rfl).trans (show f 7 = _ from hH.get 0 (95, 7) rfl)
                                first
                                  | exact skip_v hsz rfl ((wanted_some (b := false) rfl rfl s95).trans rfl) hQ0 (Grow.refl _) rfl
                                  | refine small_v hsz [(13, _)] ⟨some 1, (Op.move (.tmp 0)), 3, "", #[], none⟩ [_, undef] 1 rfl ((wanted_some (b := true) rfl rfl s95).trans rfl) ⟨s13, trivial⟩ rfl hQ0 ?_
                                    clear hQ0 hH s13 s95
                                    intro Q hQ
                                    repeat go_step
                                    exact hQ _ _ (Grow.refl _) rfl rfl
                              refine obls_cons (fun f w' hR hH Q0 hQ0 => ?_) ?_
                              · skip
                                have s96 := (sv_at 96 8 hsz f [(96, 8), (95, 7)] rfl).trans (show f 8 = _ from hH.get 0 (96, 8) rfl)
                                have s95 := (sv_at 95 7 hsz f [(96, 8), (95, 7)] rfl).trans (show f 7 = _ from hH.get 1 (95, 7) rfl)
                                first
                                  | exact skip_v hsz rfl ((wanted_some (b := false) rfl rfl s95).trans rfl) hQ0 (Grow.refl _) rfl
                                  | refine small_v hsz [(96, _)] ⟨some 1, (Op.binOp BinOp.geq 3 (.tmp 0) (Operand.const (Value.int IntKind.i64 0)) 3), 4, "", #[], none⟩ [_, undef] 1 rfl ((wanted_some (b := true) rfl rfl s95).trans rfl) ⟨s96, trivial⟩ rfl hQ0 ?_
                                    clear hQ0 hH s96 s95
                                    intro Q hQ
                                    repeat go_step
                                    exact hQ _ _ (Grow.refl _) rfl rfl
                              refine obls_cons (fun f w' hR hH Q0 hQ0 => ?_) ?_
                              · skip
                                have s95 := (sv_at 95 7 hsz f [(95, 7), (97, 9)] rfl).trans (show f 7 = _ from hH.get 0 (95, 7) rfl)
                                have s97 := (sv_at 97 9 hsz f [(95, 7), (97, 9)] rfl).trans (show f 9 = _ from hH.get 1 (97, 9) rfl)
                                refine small_v hsz [(95, _), (97, _)] ⟨some 2, (Op.pick (.tmp 0) (.tmp 1) (Operand.const (Value.bool false))), 4, "", #[], none⟩ [_, _, undef] 2 rfl rfl ⟨s95, s97, trivial⟩ rfl hQ0 ?_
                                clear hQ0 hH s95 s97
                                intro Q hQ
                                repeat go_step
                                exact hQ _ _ (Grow.refl _) rfl rfl
                              refine obls_cons (fun f w' hR hH Q0 hQ0 => ?_) ?_
                              · skip
                                have s98 := (sv_at 98 10 hsz f [(98, 10)] rfl).trans (show f 10 = _ from hH.get 0 (98, 10) rfl)
                                refine small_v hsz [(98, _)] ⟨some 1, (Op.move (.tmp 0)), 4, "", #[], none⟩ [_, undef] 1 rfl rfl ⟨s98, trivial⟩ rfl hQ0 ?_
                                clear hQ0 hH s98
                                intro Q hQ
                                repeat go_step
                                exact hQ _ _ (Grow.refl _) rfl rfl
                              refine obls_cons (fun f w' hR hH Q0 hQ0 => ?_) ?_
                              · skip
                                have s13 := sv_off f [(99, 11)] e13 rfl
                                have s99 := (sv_at 99 11 hsz f [(99, 11)] rfl).trans (show f 11 = _ from hH.get 0 (99, 11) rfl)
                                first
                                  | exact skip_v hsz rfl ((wanted_some (b := false) rfl rfl s99).trans rfl) hQ0 (Grow.refl _) rfl
                                  | refine small_v hsz [(13, _)] ⟨some 1, (Op.move (.tmp 0)), 3, "", #[], none⟩ [_, undef] 1 rfl ((wanted_some (b := true) rfl rfl s99).trans rfl) ⟨s13, trivial⟩ rfl hQ0 ?_
                                    clear hQ0 hH s13 s99
                                    intro Q hQ
                                    repeat go_step
                                    exact hQ _ _ (Grow.refl _) rfl rfl
                              refine obls_cons (fun f w' hR hH Q0 hQ0 => ?_) ?_
                              · skip
                                have s0 := sv_off f [(99, 11)] e0 rfl
                                have s99 := (sv_at 99 11 hsz f [(99, 11)] rfl).trans (show f 11 = _ from hH.get 0 (99, 11) rfl)
                                first
                                  | exact skip_v hsz rfl ((wanted_some (b := false) rfl rfl s99).trans rfl) hQ0 (Grow.refl _) rfl
                                  | refine small_v hsz [(0, _)] ⟨some 1, (Op.move (.tmp 0)), 3, "", #[], none⟩ [_, undef] 1 rfl ((wanted_some (b := true) rfl rfl s99).trans rfl) ⟨s0, trivial⟩ rfl hQ0 ?_
                                    clear hQ0 hH s0 s99
                                    intro Q hQ
                                    repeat go_step
                                    exact hQ _ _ (Grow.refl _) rfl rfl
                              refine obls_cons (fun f w' hR hH Q0 hQ0 => ?_) ?_
                              · skip
                                have s100 := (sv_at 100 12 hsz f [(100, 12), (101, 13), (99, 11)] rfl).trans (show f 12 = _ from hH.get 0 (100, 12) rfl)
                                have s101 := (sv_at 101 13 hsz f [(100, 12), (101, 13), (99, 11)] rfl).trans (show f 13 = _ from hH.get 1 (101, 13) rfl)
                                have s99 := (sv_at 99 11 hsz f [(100, 12), (101, 13), (99, 11)] rfl).trans (show f 11 = _ from hH.get 2 (99, 11) rfl)
                                first
                                  | exact skip_v hsz rfl ((wanted_some (b := false) rfl rfl s99).trans rfl) hQ0 (Grow.refl _) rfl
                                  | refine small_v hsz [(100, _), (101, _)] ⟨some 2, (Op.binOp BinOp.lss 3 (.tmp 0) (.tmp 1) 3), 4, "", #[], none⟩ [_, _, undef] 2 rfl ((wanted_some (b := true) rfl rfl s99).trans rfl) ⟨s100, s101, trivial⟩ rfl hQ0 ?_
                                    clear hQ0 hH s100 s101 s99
                                    intro Q hQ
                                    repeat go_step
                                    exact hQ _ _ (Grow.refl _) rfl rfl
                              refine obls_cons (fun f w' hR hH Q0 hQ0 => ?_) ?_
                              · skip
                                have s99 := (sv_at 99 11 hsz f [(99, 11), (102, 14)] rfl).trans (show f 11 = _ from hH.get 0 (99, 11) rfl)
                                have s102 := (sv_at 102 14 hsz f [(99, 11), (102, 14)] rfl).trans (show f 14 = _ from hH.get 1 (102, 14) rfl)
                                refine small_v hsz [(99, _), (102, _)] ⟨some 2, (Op.pick (.tmp 0) (.tmp 1) (Operand.const (Value.bool false))), 4, "", #[], none⟩ [_, _, undef] 2 rfl rfl ⟨s99, s102, trivial⟩ rfl hQ0 ?_
                                clear hQ0 hH s99 s102
                                intro Q hQ
                                repeat go_step
                                exact hQ _ _ (Grow.refl _) rfl rfl
                              refine obls_cons (fun f w' hR hH Q0 hQ0 => ?_) ?_
                              · skip
                                have s103 := (sv_at 103 15 hsz f [(103, 15)] rfl).trans (show f 15 = _ from hH.get 0 (103, 15) rfl)
                                refine small_v hsz [(103, _)] ⟨some 1, (Op.move (.tmp 0)), 4, "", #[], none⟩ [_, undef] 1 rfl rfl ⟨s103, trivial⟩ rfl hQ0 ?_
                                clear hQ0 hH s103
                                intro Q hQ
                                repeat go_step
                                exact hQ _ _ (Grow.refl _) rfl rfl
                              refine obls_cons (fun f w' hR hH Q0 hQ0 => ?_) ?_
                              · skip
                                have s9 := sv_off f [(104, 16)] e9 rfl
                                have s104 := (sv_at 104 16 hsz f [(104, 16)] rfl).trans (show f 16 = _ from hH.get 0 (104, 16) rfl)
                                first
                                  | exact skip_v hsz rfl ((wanted_some (b := false) rfl rfl s104).trans rfl) hQ0 (Grow.refl _) rfl
                                  | refine small_v hsz [(9, _)] ⟨some 1, (Op.move (.tmp 0)), 22, "", #[], none⟩ [_, undef] 1 rfl ((wanted_some (b := true) rfl rfl s104).trans rfl) ⟨s9, trivial⟩ rfl hQ0 ?_
                                    clear hQ0 hH s9 s104
                                    intro Q hQ
                                    repeat go_step
                                    exact hQ _ _ (Grow.refl _) rfl rfl
                              refine obls_cons (fun f w' hR hH Q0 hQ0 => ?_) ?_
                              · skip
                                have s12 := sv_off f [(104, 16)] e12 rfl
                                have s104 := (sv_at 104 16 hsz f [(104, 16)] rfl).trans (show f 16 = _ from hH.get 0 (104, 16) rfl)
                                first
                                  | exact skip_v hsz rfl ((wanted_some (b := false) rfl rfl s104).trans rfl) hQ0 (Grow.refl _) rfl
                                  | refine small_v hsz [(12, _)] ⟨some 1, (Op.move (.tmp 0)), 3, "", #[], none⟩ [_, undef] 1 rfl ((wanted_some (b := true) rfl rfl s104).trans rfl) ⟨s12, trivial⟩ rfl hQ0 ?_
                                    clear hQ0 hH s12 s104
                                    intro Q hQ
                                    repeat go_step
                                    exact hQ _ _ (Grow.refl _) rfl rfl
                              refine obls_cons (fun f w' hR hH Q0 hQ0 => ?_) ?_
                              · skip
                                have s105 := (sv_at 105 17 hsz f [(105, 17), (106, 18), (104, 16)] rfl).trans (show f 17 = _ from hH.get 0 (105, 17) rfl)
                                have s106 := (sv_at 106 18 hsz f [(105, 17), (106, 18), (104, 16)] rfl).trans (show f 18 = _ from hH.get 1 (106, 18) rfl)
                                have s104 := (sv_at 104 16 hsz f [(105, 17), (106, 18), (104, 16)] rfl).trans (show f 16 = _ from hH.get 2 (104, 16) rfl)
                                first
                                  | exact skip_v hsz rfl ((wanted_some (b := false) rfl rfl s104).trans rfl) hQ0 (Grow.refl _) rfl
                                  | refine small_v hsz [(105, _), (106, _)] ⟨some 2, (Op.indexAddr 22 (.tmp 0) (.tmp 1)), 0, "", #[], none⟩ [_, _, undef] 2 rfl ((wanted_some (b := true) rfl rfl s104).trans rfl) ⟨s105, s106, trivial⟩ rfl hQ0 ?_
                                    clear hQ0 hH s105 s106 s104
                                    intro Q hQ
                                    repeat go_step
                                    exact hQ _ _ (Grow.refl _) rfl rfl
                              refine obls_cons (fun f w' hR hH Q0 hQ0 => ?_) ?_
                              · skip
                                have s107 := (sv_at 107 19 hsz f [(107, 19), (104, 16)] rfl).trans (show f 19 = _ from hH.get 0 (107, 19) rfl)
                                have s104 := (sv_at 104 16 hsz f [(107, 19), (104, 16)] rfl).trans (show f 16 = _ from hH.get 1 (104, 16) rfl)
                                first
                                  | exact skip_v hsz rfl ((wanted_some (b := false) rfl rfl s104).trans rfl) hQ0 (Grow.refl _) rfl
                                  | refine small_v hsz [(107, _)] ⟨some 1, (Op.load 3 (.tmp 0)), 3, "", #[], none⟩ [_, undef] 1 rfl ((wanted_some (b := true) rfl rfl s104).trans rfl) ⟨s107, trivial⟩ rfl hQ0 ?_
                                    clear hQ0 hH s107 s104
                                    intro Q hQ
                                    have y3 := (HG6.out.trans hR).cell HCA.out
                                    repeat go_step
                                    exact hQ _ _ (Grow.refl _) rfl rfl
                              refine obls_cons (fun f w' hR hH Q0 hQ0 => ?_) ?_
                              · skip
                                have s9 := sv_off f [(104, 16)] e9 rfl
                                have s104 := (sv_at 104 16 hsz f [(104, 16)] rfl).trans (show f 16 = _ from hH.get 0 (104, 16) rfl)
                                first
                                  | exact skip_v hsz rfl ((wanted_some (b := false) rfl rfl s104).trans rfl) hQ0 (Grow.refl _) rfl
                                  | refine small_v hsz [(9, _)] ⟨some 1, (Op.move (.tmp 0)), 22, "", #[], none⟩ [_, undef] 1 rfl ((wanted_some (b := true) rfl rfl s104).trans rfl) ⟨s9, trivial⟩ rfl hQ0 ?_
                                    clear hQ0 hH s9 s104
                                    intro Q hQ
                                    repeat go_step
                                    exact hQ _ _ (Grow.refl _) rfl rfl
                              refine obls_cons (fun f w' hR hH Q0 hQ0 => ?_) ?_
                              · skip
                                have s13 := sv_off f [(104, 16)] e13 rfl
                                have s104 := (sv_at 104 16 hsz f [(104, 16)] rfl).trans (show f 16 = _ from hH.get 0 (104, 16) rfl)
                                first
                                  | exact skip_v hsz rfl ((wanted_some (b := false) rfl rfl s104).trans rfl) hQ0 (Grow.refl _) rfl
                                  | refine small_v hsz [(13, _)] ⟨some 1, (Op.move (.tmp 0)), 3, "", #[], none⟩ [_, undef] 1 rfl ((wanted_some (b := true) rfl rfl s104).trans rfl) ⟨s13, trivial⟩ rfl hQ0 ?_
                                    clear hQ0 hH s13 s104
                                    intro Q hQ
                                    repeat go_step
                                    exact hQ _ _ (Grow.refl _) rfl rfl
                              refine obls_cons (fun f w' hR hH Q0 hQ0 => ?_) ?_
                              · skip
                                have s109 := (sv_at 109 21 hsz f [(109, 21), (110, 22), (104, 16)] rfl).trans (show f 21 = _ from hH.get 0 (109, 21) rfl)
                                have s110 := (sv_at 110 22 hsz f [(109, 21), (110, 22), (104, 16)] rfl).trans (show f 22 = _ from hH.get 1 (110, 22) rfl)
                                have s104 := (sv_at 104 16 hsz f [(109, 21), (110, 22), (104, 16)] rfl).trans (show f 16 = _ from hH.get 2 (104, 16) rfl)
                                first
                                  | exact skip_v hsz rfl ((wanted_some (b := false) rfl rfl s104).trans rfl) hQ0 (Grow.refl _) rfl
                                  | refine small_v hsz [(109, _), (110, _)] ⟨some 2, (Op.indexAddr 22 (.tmp 0) (.tmp 1)), 0, "", #[], none⟩ [_, _, undef] 2 rfl ((wanted_some (b := true) rfl rfl s104).trans rfl) ⟨s109, s110, trivial⟩ rfl hQ0 ?_
                                    clear hQ0 hH s109 s110 s104
                                    intro Q hQ
                                    repeat go_step
                                    exact hQ _ _ (Grow.refl _) rfl rfl
                              refine obls_cons (fun f w' hR hH Q0 hQ0 => ?_) ?_
                              · skip
                                have s111 := (sv_at 111 23 hsz f [(111, 23), (104, 16)] rfl).trans (show f 23 = _ from hH.get 0 (111, 23) rfl)
                                have s104 := (sv_at 104 16 hsz f [(111, 23), (104, 16)] rfl).trans (show f 16 = _ from hH.get 1 (104, 16) rfl)
                                first
                                  | exact skip_v hsz rfl ((wanted_some (b := false) rfl rfl s104).trans rfl) hQ0 (Grow.refl _) rfl
                                  | refine small_v hsz [(111, _)] ⟨some 1, (Op.load 3 (.tmp 0)), 3, "", #[], none⟩ [_, undef] 1 rfl ((wanted_some (b := true) rfl rfl s104).trans rfl) ⟨s111, trivial⟩ rfl hQ0 ?_
                                    clear hQ0 hH s111 s104
                                    intro Q hQ
                                    have y4 := (HG6.out.trans hR).cell HCB.out
                                    repeat go_step
                                    exact hQ _ _ (Grow.refl _) rfl rfl
                              refine obls_cons (fun f w' hR hH Q0 hQ0 => ?_) ?_
                              · skip
                                have s108 := (sv_at 108 20 hsz f [(108, 20), (112, 24), (104, 16)] rfl).trans (show f 20 = _ from hH.get 0 (108, 20) rfl)
                                have s112 := (sv_at 112 24 hsz f [(108, 20), (112, 24), (104, 16)] rfl).trans (show f 24 = _ from hH.get 1 (112, 24) rfl)
                                have s104 := (sv_at 104 16 hsz f [(108, 20), (112, 24), (104, 16)] rfl).trans (show f 16 = _ from hH.get 2 (104, 16) rfl)
                                first
                                  | exact skip_v hsz rfl ((wanted_some (b := false) rfl rfl s104).trans rfl) hQ0 (Grow.refl _) rfl
                                  | refine small_v hsz [(108, _), (112, _)] ⟨some 2, (Op.binOp BinOp.gtr 3 (.tmp 0) (.tmp 1) 3), 4, "", #[], none⟩ [_, _, undef] 2 rfl ((wanted_some (b := true) rfl rfl s104).trans rfl) ⟨s108, s112, trivial⟩ rfl hQ0 ?_
                                    clear hQ0 hH s108 s112 s104
                                    intro Q hQ
                                    repeat go_step
                                    exact hQ _ _ (Grow.refl _) rfl rfl
                              refine obls_cons (fun f w' hR hH Q0 hQ0 => ?_) ?_
                              · skip
                                have s104 := (sv_at 104 16 hsz f [(104, 16), (113, 25)] rfl).trans (show f 16 = _ from hH.get 0 (104, 16) rfl)
                                have s113 := (sv_at 113 25 hsz f [(104, 16), (113, 25)] rfl).trans (show f 25 = _ from hH.get 1 (113, 25) rfl)
                                refine small_v hsz [(104, _), (113, _)] ⟨some 2, (Op.pick (.tmp 0) (.tmp 1) (Operand.const (Value.bool false))), 4, "", #[], none⟩ [_, _, undef] 2 rfl rfl ⟨s104, s113, trivial⟩ rfl hQ0 ?_
                                clear hQ0 hH s104 s113
                                intro Q hQ
                                repeat go_step
                                exact hQ _ _ (Grow.refl _) rfl rfl
                              refine obls_cons (fun f w' hR hH Q0 hQ0 => ?_) ?_
                              · skip
                                have s114 := (sv_at 114 26 hsz f [(114, 26)] rfl).trans (show f 26 = _ from hH.get 0 (114, 26) rfl)
                                refine small_v hsz [(114, _)] ⟨some 1, (Op.move (.tmp 0)), 4, "", #[], none⟩ [_, undef] 1 rfl rfl ⟨s114, trivial⟩ rfl hQ0 ?_
                                clear hQ0 hH s114
                                intro Q hQ
                                repeat go_step
                                exact hQ _ _ (Grow.refl _) rfl rfl
                              refine obls_cons (fun f w' hR hH Q0 hQ0 => ?_) ?_
                              · skip
                                have s7 := sv_off f [(115, 27)] e7 rfl
                                have s115 := (sv_at 115 27 hsz f [(115, 27)] rfl).trans (show f 27 = _ from hH.get 0 (115, 27) rfl)
                                first
                                  | exact skip_v hsz rfl ((wanted_some (b := false) rfl rfl s115).trans rfl) hQ0 (Grow.refl _) rfl
                                  | refine small_v hsz [(7, _)] ⟨some 1, (Op.move (.tmp 0)), 56, "", #[], none⟩ [_, undef] 1 rfl ((wanted_some (b := true) rfl rfl s115).trans rfl) ⟨s7, trivial⟩ rfl hQ0 ?_
                                    clear hQ0 hH s7 s115
                                    intro Q hQ
                                    repeat go_step
                                    exact hQ _ _ (Grow.refl _) rfl rfl
                              refine obls_cons (fun f w' hR hH Q0 hQ0 => ?_) ?_
                              · skip
                                have s12 := sv_off f [(115, 27)] e12 rfl
                                have s115 := (sv_at 115 27 hsz f [(115, 27)] rfl).trans (show f 27 = _ from hH.get 0 (115, 27) rfl)
                                first
                                  | exact skip_v hsz rfl ((wanted_some (b := false) rfl rfl s115).trans rfl) hQ0 (Grow.refl _) rfl
                                  | refine small_v hsz [(12, _)] ⟨some 1, (Op.move (.tmp 0)), 3, "", #[], none⟩ [_, undef] 1 rfl ((wanted_some (b := true) rfl rfl s115).trans rfl) ⟨s12, trivial⟩ rfl hQ0 ?_
                                    clear hQ0 hH s12 s115
                                    intro Q hQ
                                    repeat go_step
                                    exact hQ _ _ (Grow.refl _) rfl rfl
                              refine obls_cons (fun f w' hR hH Q0 hQ0 => ?_) ?_
                              · skip
                                have s13 := sv_off f [(115, 27)] e13 rfl
                                have s115 := (sv_at 115 27 hsz f [(115, 27)] rfl).trans (show f 27 = _ from hH.get 0 (115, 27) rfl)
                                first
                                  | exact skip_v hsz rfl ((wanted_some (b := false) rfl rfl s115).trans rfl) hQ0 (Grow.refl _) rfl
                                  | refine small_v hsz [(13, _)] ⟨some 1, (Op.move (.tmp 0)), 3, "", #[], none⟩ [_, undef] 1 rfl ((wanted_some (b := true) rfl rfl s115).trans rfl) ⟨s13, trivial⟩ rfl hQ0 ?_
                                    clear hQ0 hH s13 s115
                                    intro Q hQ
                                    repeat go_step
                                    exact hQ _ _ (Grow.refl _) rfl rfl
                              refine obls_cons (fun f w' hR hH Q0 hQ0 => ?_) ?_
                              · skip
                                have s116 := (sv_at 116 28 hsz f [(116, 28), (117, 29), (118, 30), (115, 27)] rfl).trans (show f 28 = _ from hH.get 0 (116, 28) rfl)
                                have s117 := (sv_at 117 29 hsz f [(116, 28), (117, 29), (118, 30), (115, 27)] rfl).trans (show f 29 = _ from hH.get 1 (117, 29) rfl)
                                have s118 := (sv_at 118 30 hsz f [(116, 28), (117, 29), (118, 30), (115, 27)] rfl).trans (show f 30 = _ from hH.get 2 (118, 30) rfl)
                                have s115 := (sv_at 115 27 hsz f [(116, 28), (117, 29), (118, 30), (115, 27)] rfl).trans (show f 27 = _ from hH.get 3 (115, 27) rfl)
                                first
                                  | exact skip_v hsz rfl ((wanted_some (b := false) rfl rfl s115).trans rfl) hQ0 (Grow.refl _) rfl
                                  | refine small_v hsz [(116, _), (117, _), (118, _)] ⟨some 3, (Op.call (Call.mk (Callee.value (Operand.func 46)) #[(.tmp 0), (.tmp 1), (.tmp 2)] #[56, 3, 3])), 4, "", #[], none⟩ [_, _, _, undef] 3 rfl ((wanted_some (b := true) rfl rfl s115).trans rfl) ⟨s116, s117, s118, trivial⟩ (ren_call rfl rfl) hQ0 ?_
                                    clear hQ0 hH s116 s117 s118 s115
                                    intro Q hQ
                                    repeat go_step
                                    exact hQ _ _ (Grow.refl _) rfl rfl
                              refine obls_cons (fun f w' hR hH Q0 hQ0 => ?_) ?_
                              · skip
                                have s119 := (sv_at 119 31 hsz f [(119, 31), (115, 27)] rfl).trans (show f 31 = _ from hH.get 0 (119, 31) rfl)
                                have s115 := (sv_at 115 27 hsz f [(119, 31), (115, 27)] rfl).trans (show f 27 = _ from hH.get 1 (115, 27) rfl)
                                first
                                  | exact skip_v hsz rfl ((wanted_some (b := false) rfl rfl s115).trans rfl) hQ0 (Grow.refl _) rfl
                                  | refine small_v hsz [(119, _)] ⟨some 1, (Op.unOp UnOp.not 4 (.tmp 0)), 4, "", #[], none⟩ [_, undef] 1 rfl ((wanted_some (b := true) rfl rfl s115).trans rfl) ⟨s119, trivial⟩ rfl hQ0 ?_
                                    clear hQ0 hH s119 s115
                                    intro Q hQ
                                    repeat go_step
                                    exact hQ _ _ (Grow.refl _) rfl rfl
                              refine obls_cons (fun f w' hR hH Q0 hQ0 => ?_) ?_
                              · skip
                                have s115 := (sv_at 115 27 hsz f [(115, 27), (120, 32)] rfl).trans (show f 27 = _ from hH.get 0 (115, 27) rfl)
                                have s120 := (sv_at 120 32 hsz f [(115, 27), (120, 32)] rfl).trans (show f 32 = _ from hH.get 1 (120, 32) rfl)
                                refine small_v hsz [(115, _), (120, _)] ⟨some 2, (Op.pick (.tmp 0) (.tmp 1) (Operand.const (Value.bool false))), 4, "", #[], none⟩ [_, _, undef] 2 rfl rfl ⟨s115, s120, trivial⟩ rfl hQ0 ?_
                                clear hQ0 hH s115 s120
                                intro Q hQ
                                repeat go_step
                                exact hQ _ _ (Grow.refl _) rfl rfl
                              exact obls_nil
                            case mono => exact ⟨Mono.veq _, Mono.veq _, Mono.veq _, Mono.veq _, Mono.veq _, Mono.veq _, Mono.veq _, Mono.veq _, Mono.veq _, Mono.veq _, Mono.veq _, Mono.veq _, Mono.veq _, Mono.veq _, Mono.veq _, Mono.veq _, Mono.veq _, Mono.veq _, Mono.veq _, Mono.veq _, Mono.veq _, Mono.veq _, Mono.veq _, Mono.veq _, Mono.veq _, Mono.veq _, Mono.veq _, Mono.veq _, Mono.veq _, Mono.veq _, Mono.veq _, Mono.veq _, Mono.veq _, Mono.veq _, trivial⟩
                            case tail =>
                              intro f w' hR hH
                              have q33 : (veq (Value.bool false)) (f 33) w' := hH.get 33 (121, 33) rfl
                              clear hH
                              refine wpList_merge (idx := [none, none, none, none, none, none, none, none, none, none, none, none, none, none, none, none, none, none, none, none, none, none, none, none, none, none, none, none, none, none, none, none, none, none, none, none, none, none, none, none, none, none, none, none, none, none, none, none, none, none, none, none, none, none, none, none, none, none, none, none, none, none, none, none, none, none, none, none, none, none, none, none, none, none, none, none, none, none, none, none, none, none, none, none, none, none, none, none, some 0, some 1, some 2, some 3, some 4, some 5, some 6, some 7, some 8, some 9, some 10, some 11, some 12, some 13, some 14, some 15, some 16, some 17, some 18, some 19, some 20, some 21, some 22, some 23, some 24, some 25, some 26, some 27, some 28, some 29, some 30, some 31, some 32, some 33, none, none, none, none, none, none, none, none, none, none, none, none, none, none, none, none, none, none, none, none, none, none, none, none, none, none, none, none, none, none, none, none, none, none, none, none, none, none, none, none, none]) (by kernel_rfl) ?_; show wpList _ _ _ [] ⟨#[_, _, _, _, _, _, _, _, _, _, _, _, _, _, _, _, _, _, _, _, _, _, _, _, _, _, _, _, _, _, _, _, _, _, _, _, _, _, _, _, _, _, _, _, _, _, _, _, _, _, _, _, _, _, _, _, _, _, _, _, _, _, _, _, _, _, _, _, _, _, _, _, _, _, _, _, _, _, _, _, _, _, _, _, _, _, _, _, f 0, f 1, f 2, f 3, f 4, f 5, f 6, f 7, f 8, f 9, f 10, f 11, f 12, f 13, f 14, f 15, f 16, f 17, f 18, f 19, f 20, f 21, f 22, f 23, f 24, f 25, f 26, f 27, f 28, f 29, f 30, f 31, f 32, f 33, _, _, _, _, _, _, _, _, _, _, _, _, _, _, _, _, _, _, _, _, _, _, _, _, _, _, _, _, _, _, _, _, _, _, _, _, _, _, _, _, _], _⟩ _
                              obtain ⟨x33, hx33⟩ : ∃ x, f 33 = x := ⟨_, rfl⟩
                              rw [hx33] at q33 ⊢
                              clear hx33
                              obtain rfl := q33
                              have HG7 := Lib.hid (HG6.out.trans hR)
                              clear hR
                              go_wp2_with fail
                              go_roundw
                              case rel => exact ⟨k + 1, by have := HLTk.out; omega, by go_num, HG7.out⟩
                              case measure => have := HLTk.out; simp [intOf] <;> omega
                        · have s5 : decide (b' < n) = false := decide_eq_false d4
                          have s6 : decide ((b' : Int) < (n : Int)) = false := decide_eq_false (by omega)
                          clear d1 d2 d3 d4 KA
                          go_wp2_with fail
                          apply (fun (v0 v1 v2 v3 v4 v5 v6 v7 v8 v9 v10 v11 v12 v13 v14 v15 v16 v17 v18 v19 v20 v21 v22 v23 v24 v25 v26 v27 v28 v29 v30 v31 v32 : Value) mono obl tail => wp_region_par (R := Grow) (Φ := phi [veq v0, veq v1, veq v2, veq v3, veq v4, veq v5, veq v6, veq v7, veq v8, veq v9, veq v10, veq v11, veq v12, veq v13, veq v14, veq v15, veq v16, veq v17, veq v18, veq v19, veq v20, veq v21, veq v22, veq v23, veq v24, veq v25, veq v26, veq v27, veq v28, veq v29, veq v30, veq v31, veq v32, (veq (Value.bool false))]) (m := 34) (dls := [[], [(88, 0)], [(89, 1)], [(90, 2)], [(90, 2)], [(91, 3), (92, 4), (90, 2)], [(90, 2), (93, 5)], [(94, 6)], [(95, 7)], [(96, 8), (95, 7)], [(95, 7), (97, 9)], [(98, 10)], [(99, 11)], [(99, 11)], [(100, 12), (101, 13), (99, 11)], [(99, 11), (102, 14)], [(103, 15)], [(104, 16)], [(104, 16)], [(105, 17), (106, 18), (104, 16)], [(107, 19), (104, 16)], [(104, 16)], [(104, 16)], [(109, 21), (110, 22), (104, 16)], [(111, 23), (104, 16)], [(108, 20), (112, 24), (104, 16)], [(104, 16), (113, 25)], [(114, 26)], [(115, 27)], [(115, 27)], [(115, 27)], [(116, 28), (117, 29), (118, 30), (115, 27)], [(119, 31), (115, 27)], [(115, 27), (120, 32)]]) (ds := [88, 89, 90, 91, 92, 93, 94, 95, 96, 97, 98, 99, 100, 101, 102, 103, 104, 105, 106, 107, 108, 109, 110, 111, 112, 113, 114, 115, 116, 117, 118, 119, 120, 121]) (by kernel_rfl) (by kernel_rfl) (by decide) rfl (Grow.drew _) (fun _ _ _ => Grow.trans) (mono_phi mono) obl tail)
                          case obl =>
                            refine obls_frame (fun a1 ha => ?_)
                            have hsz := rd_size (n := 163) ha rfl
                            have e12 := rd_slot 12 ha rfl
                            have e0 := rd_slot 0 ha rfl
                            have e13 := rd_slot 13 ha rfl
                            have e9 := rd_slot 9 ha rfl
                            have e7 := rd_slot 7 ha rfl
                            clear ha
                            refine obls_cons (fun f w' hR hH Q0 hQ0 => ?_) ?_
                            · skip
                              have s12 := sv_off f [] e12 rfl
                              refine small_v hsz [(12, _)] ⟨some 1, (Op.move (.tmp 0)), 3, "", #[], none⟩ [_, undef] 1 rfl rfl ⟨s12, trivial⟩ rfl hQ0 ?_
                              clear hQ0 hH s12
                              intro Q hQ
                              repeat go_step
                              exact hQ _ _ (Grow.refl _) rfl rfl
                            refine obls_cons (fun f w' hR hH Q0 hQ0 => ?_) ?_
                            · skip
                              have s88 := (sv_at 88 0 hsz f [(88, 0)] rfl).trans (show f 0 = _ from hH.get 0 (88, 0) rfl)
                              refine small_v hsz [(88, _)] ⟨some 1, (Op.binOp BinOp.geq 3 (.tmp 0) (Operand.const (Value.int IntKind.i64 0)) 3), 4, "", #[], none⟩ [_, undef] 1 rfl rfl ⟨s88, trivial⟩ rfl hQ0 ?_
                              clear hQ0 hH s88
                              intro Q hQ
                              repeat go_step
                              exact hQ _ _ (Grow.refl _) rfl rfl
                            refine obls_cons (fun f w' hR hH Q0 hQ0 => ?_) ?_
                            · skip
                              have s89 := (sv_at 89 1 hsz f [(89, 1)] rfl).trans (show f 1 = _ from hH.get 0 (89, 1) rfl)
                              refine small_v hsz [(89, _)] ⟨some 1, (Op.move (.tmp 0)), 4, "", #[], none⟩ [_, undef] 1 rfl rfl ⟨s89, trivial⟩ rfl hQ0 ?_
                              clear hQ0 hH s89
                              intro Q hQ
                              repeat go_step
                              exact hQ _ _ (Grow.refl _) rfl rfl
                            refine obls_cons (fun f w' hR hH Q0 hQ0 => ?_) ?_
                            · skip
                              have s12 := sv_off f [(90, 2)] e12 rfl
                              have s90 := (sv_at 90 2 hsz f [(90, 2)] rfl).trans (show f 2 = _ from hH.get 0 (90, 2) rfl)
                              first
                                | exact skip_v hsz rfl ((wanted_some (b := false) rfl rfl s90).trans rfl) hQ0 (Grow.refl _) rfl
                                | refine small_v hsz [(12, _)] ⟨some 1, (Op.move (.tmp 0)), 3, "", #[], none⟩ [_, undef] 1 rfl ((wanted_some (b := true) rfl rfl s90).trans rfl) ⟨s12, trivial⟩ rfl hQ0 ?_
                                  clear hQ0 hH s12 s90
                                  intro Q hQ
                                  repeat go_step
                                  exact hQ _ _ (Grow.refl _) rfl rfl
                            refine obls_cons (fun f w' hR hH Q0 hQ0 => ?_) ?_
                            · skip
                              have s0 := sv_off f [(90, 2)] e0 rfl
                              have s90 := (sv_at 90 2 hsz f [(90, 2)] rfl).trans (show f 2 = _ from hH.get 0 (90, 2) rfl)
                              first
                                | exact skip_v hsz rfl ((wanted_some (b := false) rfl rfl s90).trans rfl) hQ0 (Grow.refl _) rfl
                                | refine small_v hsz [(0, _)] ⟨some 1, (Op.move (.tmp 0)), 3, "", #[], none⟩ [_, undef] 1 rfl ((wanted_some (b := true) rfl rfl s90).trans rfl) ⟨s0, trivial⟩ rfl hQ0 ?_
                                  clear hQ0 hH s0 s90
                                  intro Q hQ
                                  repeat go_step
                                  exact hQ _ _ (Grow.refl _) rfl rfl
                            refine obls_cons (fun f w' hR hH Q0 hQ0 => ?_) ?_
                            · skip
                              have s91 := (sv_at 91 3 hsz f [(91, 3), (92, 4), (90, 2)] rfl).trans (show f 3 = _ from hH.get 0 (91, 3) rfl)
                              have s92 := (sv_at 92 4 hsz f [(91, 3), (92, 4), (90, 2)] rfl).trans (show f 4 = _ from hH.get 1 (92, 4) rfl)
                              have s90 := (sv_at 90 2 hsz f [(91, 3), (92, 4), (90, 2)] rfl).trans (show f 2 = _ from hH.get 2 (90, 2) rfl)
                              first
                                | exact skip_v hsz rfl ((wanted_some (b := false) rfl rfl s90).trans rfl) hQ0 (Grow.refl _) rfl
                                | refine small_v hsz [(91, _), (92, _)] ⟨some 2, (Op.binOp BinOp.lss 3 (.tmp 0) (.tmp 1) 3), 4, "", #[], none⟩ [_, _, undef] 2 rfl ((wanted_some (b := true) rfl rfl s90).trans rfl) ⟨s91, s92, trivial⟩ rfl hQ0 ?_
                                  clear hQ0 hH s91 s92 s90
                                  intro Q hQ
                                  repeat go_step
                                  exact hQ _ _ (Grow.refl _) rfl rfl
                            refine obls_cons (fun f w' hR hH Q0 hQ0 => ?_) ?_
                            · skip
                              have s90 := (sv_at 90 2 hsz f [(90, 2), (93, 5)] rfl).trans (show f 2 = _ from hH.get 0 (90, 2) rfl)
                              have s93 := (sv_at 93 5 hsz f [(90, 2), (93, 5)] rfl).trans (show f 5 = _ from hH.get 1 (93, 5) rfl)
                              refine small_v hsz [(90, _), (93, _)] ⟨some 2, (Op.pick (.tmp 0) (.tmp 1) (Operand.const (Value.bool false))), 4, "", #[], none⟩ [_, _, undef] 2 rfl rfl ⟨s90, s93, trivial⟩ rfl hQ0 ?_
                              clear hQ0 hH s90 s93
                              intro Q hQ
                              repeat go_step
                              exact hQ _ _ (Grow.refl _) rfl rfl
                            refine obls_cons (fun f w' hR hH Q0 hQ0 => ?_) ?_
                            · skip
                              have s94 := (sv_at 94 6 hsz f [(94, 6)] rfl).trans (show f 6 = _ from hH.get 0 (94, 6) rfl)
                              refine small_v hsz [(94, _)] ⟨some 1, (Op.move (.tmp 0)), 4, "", #[], none⟩ [_, undef] 1 rfl rfl ⟨s94, trivial⟩ rfl hQ0 ?_
                              clear hQ0 hH s94
                              intro Q hQ
                              repeat go_step
                              exact hQ _ _ (Grow.refl _) rfl rfl
                            refine obls_cons (fun f w' hR hH Q0 hQ0 => ?_) ?_
                            · skip
                              have s13 := sv_off f [(95, 7)] e13 rfl
                              have s95 := (sv_at 95 7 hsz f [(95, 7)] rfl).trans (show f 7 = _ from hH.get 0 (95, 7) rfl)
                              first
                                | exact skip_v hsz rfl ((wanted_some (b := false) rfl rfl s95).trans rfl) hQ0 (Grow.refl _) rfl
                                | refine small_v hsz [(13, _)] ⟨some 1, (Op.move (.tmp 0)), 3, "", #[], none⟩ [_, undef] 1 rfl ((wanted_some (b := true) rfl rfl s95).trans rfl) ⟨s13, trivial⟩ rfl hQ0 ?_
                                  clear hQ0 hH s13 s95
                                  intro Q hQ
                                  repeat go_step
                                  exact hQ _ _ (Grow.refl _) rfl rfl
                            refine obls_cons (fun f w' hR hH Q0 hQ0 => ?_) ?_
                            · skip
                              have s96 := (sv_at 96 8 hsz f [(96, 8), (95, 7)] rfl).trans (show f 8 = _ from hH.get 0 (96, 8) rfl)
                              have s95 := (sv_at 95 7 hsz f [(96, 8), (95, 7)] rfl).trans (show f 7 = _ from hH.get 1 (95, 7) rfl)
                              first
                                | exact skip_v hsz rfl ((wanted_some (b := false) rfl rfl s95).trans rfl) hQ0 (Grow.refl _) rfl
                                | refine small_v hsz [(96, _)] ⟨some 1, (Op.binOp BinOp.geq 3 (.tmp 0) (Operand.const (Value.int IntKind.i64 0)) 3), 4, "", #[], none⟩ [_, undef] 1 rfl ((wanted_some (b := true) rfl rfl s95).trans rfl) ⟨s96, trivial⟩ rfl hQ0 ?_
                                  clear hQ0 hH s96 s95
                                  intro Q hQ
                                  repeat go_step
                                  exact hQ _ _ (Grow.refl _) rfl rfl
                            refine obls_cons (fun f w' hR hH Q0 hQ0 => ?_) ?_
                            · skip
                              have s95 := (sv_at 95 7 hsz f [(95, 7), (97, 9)] rfl).trans (show f 7 = _ from hH.get 0 (95, 7) rfl)
                              have s97 := (sv_at 97 9 hsz f [(95, 7), (97, 9)] rfl).trans (show f 9 = _ from hH.get 1 (97, 9) rfl)
                              refine small_v hsz [(95, _), (97, _)] ⟨some 2, (Op.pick (.tmp 0) (.tmp 1) (Operand.const (Value.bool false))), 4, "", #[], none⟩ [_, _, undef] 2 rfl rfl ⟨s95, s97, trivial⟩ rfl hQ0 ?_
                              clear hQ0 hH s95 s97
                              intro Q hQ
                              repeat go_step
                              exact hQ _ _ (Grow.refl _) rfl rfl
                            refine obls_cons (fun f w' hR hH Q0 hQ0 => ?_) ?_
                            · skip
                              have s98 := (sv_at 98 10 hsz f [(98, 10)] rfl).trans (show f 10 = _ from hH.get 0 (98, 10) rfl)
                              refine small_v hsz [(98, _)] ⟨some 1, (Op.move (.tmp 0)), 4, "", #[], none⟩ [_, undef] 1 rfl rfl ⟨s98, trivial⟩ rfl hQ0 ?_
                              clear hQ0 hH s98
                              intro Q hQ
                              repeat go_step
                              exact hQ _ _ (Grow.refl _) rfl rfl
                            refine obls_cons (fun f w' hR hH Q0 hQ0 => ?_) ?_
                            · skip
                              have s13 := sv_off f [(99, 11)] e13 rfl
                              have s99 := (sv_at 99 11 hsz f [(99, 11)] rfl).trans (show f 11 = _ from hH.get 0 (99, 11) rfl)
                              first
                                | exact skip_v hsz rfl ((wanted_some (b := false) rfl rfl s99).trans rfl) hQ0 (Grow.refl _) rfl
                                | refine small_v hsz [(13, _)] ⟨some 1, (Op.move (.tmp 0)), 3, "", #[], none⟩ [_, undef] 1 rfl ((wanted_some (b := true) rfl rfl s99).trans rfl) ⟨s13, trivial⟩ rfl hQ0 ?_
                                  clear hQ0 hH s13 s99
                                  intro Q hQ
                                  repeat go_step
                                  exact hQ _ _ (Grow.refl _) rfl rfl
                            refine obls_cons (fun f w' hR hH Q0 hQ0 => ?_) ?_
                            · skip
                              have s0 := sv_off f [(99, 11)] e0 rfl
                              have s99 := (sv_at 99 11 hsz f [(99, 11)] rfl).trans (show f 11 = _ from hH.get 0 (99, 11) rfl)
                              first
                                | exact skip_v hsz rfl ((wanted_some (b := false) rfl rfl s99).trans rfl) hQ0 (Grow.refl _) rfl
                                | refine small_v hsz [(0, _)] ⟨some 1, (Op.move (.tmp 0)), 3, "", #[], none⟩ [_, undef] 1 rfl ((wanted_some (b := true) rfl rfl s99).trans rfl) ⟨s0, trivial⟩ rfl hQ0 ?_
                                  clear hQ0 hH s0 s99
                                  intro Q hQ
                                  repeat go_step
                                  exact hQ _ _ (Grow.refl _) rfl rfl
                            refine obls_cons (fun f w' hR hH Q0 hQ0 => ?_) ?_
                            · skip
                              have s100 := (sv_at 100 12 hsz f [(100, 12), (101, 13), (99, 11)] rfl).trans (show f 12 = _ from hH.get 0 (100, 12) rfl)
                              have s101 := (sv_at 101 13 hsz f [(100, 12), (101, 13), (99, 11)] rfl).trans (show f 13 = _ from hH.get 1 (101, 13) rfl)
                              have s99 := (sv_at 99 11 hsz f [(100, 12), (101, 13), (99, 11)] rfl).trans (show f 11 = _ from hH.get 2 (99, 11) rfl)
                              first
                                | exact skip_v hsz rfl ((wanted_some (b := false) rfl rfl s99).trans rfl) hQ0 (Grow.refl _) rfl
                                | refine small_v hsz [(100, _), (101, _)] ⟨some 2, (Op.binOp BinOp.lss 3 (.tmp 0) (.tmp 1) 3), 4, "", #[], none⟩ [_, _, undef] 2 rfl ((wanted_some (b := true) rfl rfl s99).trans rfl) ⟨s100, s101, trivial⟩ rfl hQ0 ?_
                                  clear hQ0 hH s100 s101 s99
                                  intro Q hQ
                                  repeat go_step
                                  exact hQ _ _ (Grow.refl _) rfl rfl
                            refine obls_cons (fun f w' hR hH Q0 hQ0 => ?_) ?_
                            · skip
                              have s99 := (sv_at 99 11 hsz f [(99, 11), (102, 14)] rfl).trans (show f 11 = _ from hH.get 0 (99, 11) rfl)
                              have s102 := (sv_at 102 14 hsz f [(99, 11), (102, 14)] rfl).trans (show f 14 = _ from hH.get 1 (102, 14) rfl)
                              refine small_v hsz [(99, _), (102, _)] ⟨some 2, (Op.pick (.tmp 0) (.tmp 1) (Operand.const (Value.bool false))), 4, "", #[], none⟩ [_, _, undef] 2 rfl rfl ⟨s99, s102, trivial⟩ rfl hQ0 ?_
                              clear hQ0 hH s99 s102
                              intro Q hQ
                              repeat go_step
                              exact hQ _ _ (Grow.refl _) rfl rfl
                            refine obls_cons (fun f w' hR hH Q0 hQ0 => ?_) ?_
                            · skip
                              have s103 := (sv_at 103 15 hsz f [(103, 15)] rfl).trans (show f 15 = _ from hH.get 0 (103, 15) rfl)
                              refine small_v hsz [(103, _)] ⟨some 1, (Op.move (.tmp 0)), 4, "", #[], none⟩ [_, undef] 1 rfl rfl ⟨s103, trivial⟩ rfl hQ0 ?_
                              clear hQ0 hH s103
                              intro Q hQ
                              repeat go_step
                              exact hQ _ _ (Grow.refl _) rfl rfl
                            refine obls_cons (fun f w' hR hH Q0 hQ0 => ?_) ?_
                            · skip
                              have s9 := sv_off f [(104, 16)] e9 rfl
                              have s104 := (sv_at 104 16 hsz f [(104, 16)] rfl).trans (show f 16 = _ from hH.get 0 (104, 16) rfl)
                              first
                                | exact skip_v hsz rfl ((wanted_some (b := false) rfl rfl s104).trans rfl) hQ0 (Grow.refl _) rfl
                                | refine small_v hsz [(9, _)] ⟨some 1, (Op.move (.tmp 0)), 22, "", #[], none⟩ [_, undef] 1 rfl ((wanted_some (b := true) rfl rfl s104).trans rfl) ⟨s9, trivial⟩ rfl hQ0 ?_
                                  clear hQ0 hH s9 s104
                                  intro Q hQ
                                  repeat go_step
                                  exact hQ _ _ (Grow.refl _) rfl rfl
                            refine obls_cons (fun f w' hR hH Q0 hQ0 => ?_) ?_
                            · skip
                              have s12 := sv_off f [(104, 16)] e12 rfl
                              have s104 := (sv_at 104 16 hsz f [(104, 16)] rfl).trans (show f 16 = _ from hH.get 0 (104, 16) rfl)
                              first
                                | exact skip_v hsz rfl ((wanted_some (b := false) rfl rfl s104).trans rfl) hQ0 (Grow.refl _) rfl
                                | refine small_v hsz [(12, _)] ⟨some 1, (Op.move (.tmp 0)), 3, "", #[], none⟩ [_, undef] 1 rfl ((wanted_some (b := true) rfl rfl s104).trans rfl) ⟨s12, trivial⟩ rfl hQ0 ?_
                                  clear hQ0 hH s12 s104
                                  intro Q hQ
                                  repeat go_step
                                  exact hQ _ _ (Grow.refl _) rfl rfl
                            refine obls_cons (fun f w' hR hH Q0 hQ0 => ?_) ?_
                            · skip
                              have s105 := (sv_at 105 17 hsz f [(105, 17), (106, 18), (104, 16)] rfl).trans (show f 17 = _ from hH.get 0 (105, 17) rfl)
                              have s106 := (sv_at 106 18 hsz f [(105, 17), (106, 18), (104, 16)] rfl).trans (show f 18 = _ from hH.get 1 (106, 18) rfl)
                              have s104 := (sv_at 104 16 hsz f [(105, 17), (106, 18), (104, 16)] rfl).trans (show f 16 = _ from hH.get 2 (104, 16) rfl)
                              first
                                | exact skip_v hsz rfl ((wanted_some (b := false) rfl rfl s104).trans rfl) hQ0 (Grow.refl _) rfl
                                | refine small_v hsz [(105, _), (106, _)] ⟨some 2, (Op.indexAddr 22 (.tmp 0) (.tmp 1)), 0, "", #[], none⟩ [_, _, undef] 2 rfl ((wanted_some (b := true) rfl rfl s104).trans rfl) ⟨s105, s106, trivial⟩ rfl hQ0 ?_
                                  clear hQ0 hH s105 s106 s104
                                  intro Q hQ
                                  repeat go_step
                                  exact hQ _ _ (Grow.refl _) rfl rfl
                            refine obls_cons (fun f w' hR hH Q0 hQ0 => ?_) ?_
                            · skip
                              have s107 := (sv_at 107 19 hsz f [(107, 19), (104, 16)] rfl).trans (show f 19 = _ from hH.get 0 (107, 19) rfl)
                              have s104 := (sv_at 104 16 hsz f [(107, 19), (104, 16)] rfl).trans (show f 16 = _ from hH.get 1 (104, 16) rfl)
                              first
                                | exact skip_v hsz rfl ((wanted_some (b := false) rfl rfl s104).trans rfl) hQ0 (Grow.refl _) rfl
                                | refine small_v hsz [(107, _)] ⟨some 1, (Op.load 3 (.tmp 0)), 3, "", #[], none⟩ [_, undef] 1 rfl ((wanted_some (b := true) rfl rfl s104).trans rfl) ⟨s107, trivial⟩ rfl hQ0 ?_
                                  clear hQ0 hH s107 s104
                                  intro Q hQ
                                  repeat go_step
                                  exact hQ _ _ (Grow.refl _) rfl rfl
                            refine obls_cons (fun f w' hR hH Q0 hQ0 => ?_) ?_
                            · skip
                              have s9 := sv_off f [(104, 16)] e9 rfl
                              have s104 := (sv_at 104 16 hsz f [(104, 16)] rfl).trans (show f 16 = _ from hH.get 0 (104, 16) rfl)
                              first
                                | exact skip_v hsz rfl ((wanted_some (b := false) rfl rfl s104).trans rfl) hQ0 (Grow.refl _) rfl
                                | refine small_v hsz [(9, _)] ⟨some 1, (Op.move (.tmp 0)), 22, "", #[], none⟩ [_, undef] 1 rfl ((wanted_some (b := true) rfl rfl s104).trans rfl) ⟨s9, trivial⟩ rfl hQ0 ?_
                                  clear hQ0 hH s9 s104
                                  intro Q hQ
                                  repeat go_step
                                  exact hQ _ _ (Grow.refl _) rfl rfl
                            refine obls_cons (fun f w' hR hH Q0 hQ0 => ?_) ?_
                            · skip
                              have s13 := sv_off f [(104, 16)] e13 rfl
                              have s104 := (sv_at 104 16 hsz f [(104, 16)] rfl).trans (show f 16 = _ from hH.get 0 (104, 16) rfl)
                              first
                                | exact skip_v hsz rfl ((wanted_some (b := false) rfl rfl s104).trans rfl) hQ0 (Grow.refl _) rfl
                                | refine small_v hsz [(13, _)] ⟨some 1, (Op.move (.tmp 0)), 3, "", #[], none⟩ [_, undef] 1 rfl ((wanted_some (b := true) rfl rfl s104).trans rfl) ⟨s13, trivial⟩ rfl hQ0 ?_
                                  clear hQ0 hH s13 s104
                                  intro Q hQ
                                  repeat go_step
                                  exact hQ _ _ (Grow.refl _) rfl rfl
                            refine obls_cons (fun f w' hR hH Q0 hQ0 => ?_) ?_
                            · skip
                              have s109 := (sv_at 109 21 hsz f [(109, 21), (110, 22), (104, 16)] rfl).trans (show f 21 = _ from hH.get 0 (109, 21) rfl)
                              have s110 := (sv_at 110 22 hsz f [(109, 21), (110, 22), (104, 16)] rfl).trans (show f 22 = _ from hH.get 1 (110, 22) rfl)
                              have s104 := (sv_at 104 16 hsz f [(109, 21), (110, 22), (104, 16)] rfl).trans (show f 16 = _ from hH.get 2 (104, 16) rfl)
                              first
                                | exact skip_v hsz rfl ((wanted_some (b := false) rfl rfl s104).trans rfl) hQ0 (Grow.refl _) rfl
                                | refine small_v hsz [(109, _), (110, _)] ⟨some 2, (Op.indexAddr 22 (.tmp 0) (.tmp 1)), 0, "", #[], none⟩ [_, _, undef] 2 rfl ((wanted_some (b := true) rfl rfl s104).trans rfl) ⟨s109, s110, trivial⟩ rfl hQ0 ?_
                                  clear hQ0 hH s109 s110 s104
                                  intro Q hQ
                                  repeat go_step
                                  exact hQ _ _ (Grow.refl _) rfl rfl
                            refine obls_cons (fun f w' hR hH Q0 hQ0 => ?_) ?_
                            · skip
                              have s111 := (sv_at 111 23 hsz f [(111, 23), (104, 16)] rfl).trans (show f 23 = _ from hH.get 0 (111, 23) rfl)
                              have s104 := (sv_at 104 16 hsz f [(111, 23), (104, 16)] rfl).trans (show f 16 = _ from hH.get 1 (104, 16) rfl)
                              first
                                | exact skip_v hsz rfl ((wanted_some (b := false) rfl rfl s104).trans rfl) hQ0 (Grow.refl _) rfl
                                | refine small_v hsz [(111, _)] ⟨some 1, (Op.load 3 (.tmp 0)), 3, "", #[], none⟩ [_, undef] 1 rfl ((wanted_some (b := true) rfl rfl s104).trans rfl) ⟨s111, trivial⟩ rfl hQ0 ?_
                                  clear hQ0 hH s111 s104
                                  intro Q hQ
                                  repeat go_step
                                  exact hQ _ _ (Grow.refl _) rfl rfl
                            refine obls_cons (fun f w' hR hH Q0 hQ0 => ?_) ?_
                            · skip
                              have s108 := (sv_at 108 20 hsz f [(108, 20), (112, 24), (104, 16)] rfl).trans (show f 20 = _ from hH.get 0 (108, 20) rfl)
                              have s112 := (sv_at 112 24 hsz f [(108, 20), (112, 24), (104, 16)] rfl).trans (show f 24 = _ from hH.get 1 (112, 24) rfl)
                              have s104 := (sv_at 104 16 hsz f [(108, 20), (112, 24), (104, 16)] rfl).trans (show f 16 = _ from hH.get 2 (104, 16) rfl)
                              first
                                | exact skip_v hsz rfl ((wanted_some (b := false) rfl rfl s104).trans rfl) hQ0 (Grow.refl _) rfl
                                | refine small_v hsz [(108, _), (112, _)] ⟨some 2, (Op.binOp BinOp.gtr 3 (.tmp 0) (.tmp 1) 3), 4, "", #[], none⟩ [_, _, undef] 2 rfl ((wanted_some (b := true) rfl rfl s104).trans rfl) ⟨s108, s112, trivial⟩ rfl hQ0 ?_
                                  clear hQ0 hH s108 s112 s104
                                  intro Q hQ
                                  repeat go_step
                                  exact hQ _ _ (Grow.refl _) rfl rfl
                            refine obls_cons (fun f w' hR hH Q0 hQ0 => ?_) ?_
                            · skip
                              have s104 := (sv_at 104 16 hsz f [(104, 16), (113, 25)] rfl).trans (show f 16 = _ from hH.get 0 (104, 16) rfl)
                              have s113 := (sv_at 113 25 hsz f [(104, 16), (113, 25)] rfl).trans (show f 25 = _ from hH.get 1 (113, 25) rfl)
                              refine small_v hsz [(104, _), (113, _)] ⟨some 2, (Op.pick (.tmp 0) (.tmp 1) (Operand.const (Value.bool false))), 4, "", #[], none⟩ [_, _, undef] 2 rfl rfl ⟨s104, s113, trivial⟩ rfl hQ0 ?_
                              clear hQ0 hH s104 s113
                              intro Q hQ
                              repeat go_step
                              exact hQ _ _ (Grow.refl _) rfl rfl
                            refine obls_cons (fun f w' hR hH Q0 hQ0 => ?_) ?_
                            · skip
                              have s114 := (sv_at 114 26 hsz f [(114, 26)] rfl).trans (show f 26 = _ from hH.get 0 (114, 26) rfl)
                              refine small_v hsz [(114, _)] ⟨some 1, (Op.move (.tmp 0)), 4, "", #[], none⟩ [_, undef] 1 rfl rfl ⟨s114, trivial⟩ rfl hQ0 ?_
                              clear hQ0 hH s114
                              intro Q hQ
                              repeat go_step
                              exact hQ _ _ (Grow.refl _) rfl rfl
                            refine obls_cons (fun f w' hR hH Q0 hQ0 => ?_) ?_
                            · skip
                              have s7 := sv_off f [(115, 27)] e7 rfl
                              have s115 := (sv_at 115 27 hsz f [(115, 27)] rfl).trans (show f 27 = _ from hH.get 0 (115, 27) rfl)
                              first
                                | exact skip_v hsz rfl ((wanted_some (b := false) rfl rfl s115).trans rfl) hQ0 (Grow.refl _) rfl
                                | refine small_v hsz [(7, _)] ⟨some 1, (Op.move (.tmp 0)), 56, "", #[], none⟩ [_, undef] 1 rfl ((wanted_some (b := true) rfl rfl s115).trans rfl) ⟨s7, trivial⟩ rfl hQ0 ?_
                                  clear hQ0 hH s7 s115
                                  intro Q hQ
                                  repeat go_step
                                  exact hQ _ _ (Grow.refl _) rfl rfl
                            refine obls_cons (fun f w' hR hH Q0 hQ0 => ?_) ?_
                            · skip
                              have s12 := sv_off f [(115, 27)] e12 rfl
                              have s115 := (sv_at 115 27 hsz f [(115, 27)] rfl).trans (show f 27 = _ from hH.get 0 (115, 27) rfl)
                              first
                                | exact skip_v hsz rfl ((wanted_some (b := false) rfl rfl s115).trans rfl) hQ0 (Grow.refl _) rfl
                                | refine small_v hsz [(12, _)] ⟨some 1, (Op.move (.tmp 0)), 3, "", #[], none⟩ [_, undef] 1 rfl ((wanted_some (b := true) rfl rfl s115).trans rfl) ⟨s12, trivial⟩ rfl hQ0 ?_
                                  clear hQ0 hH s12 s115
                                  intro Q hQ
                                  repeat go_step
                                  exact hQ _ _ (Grow.refl _) rfl rfl
                            refine obls_cons (fun f w' hR hH Q0 hQ0 => ?_) ?_
                            · skip
                              have s13 := sv_off f [(115, 27)] e13 rfl
                              have s115 := (sv_at 115 27 hsz f [(115, 27)] rfl).trans (show f 27 = _ from hH.get 0 (115, 27) rfl)
                              first
                                | exact skip_v hsz rfl ((wanted_some (b := false) rfl rfl s115).trans rfl) hQ0 (Grow.refl _) rfl
                                | refine small_v hsz [(13, _)] ⟨some 1, (Op.move (.tmp 0)), 3, "", #[], none⟩ [_, undef] 1 rfl ((wanted_some (b := true) rfl rfl s115).trans rfl) ⟨s13, trivial⟩ rfl hQ0 ?_
                                  clear hQ0 hH s13 s115
                                  intro Q hQ
                                  repeat go_step
                                  exact hQ _ _ (Grow.refl _) rfl rfl
                            refine obls_cons (fun f w' hR hH Q0 hQ0 => ?_) ?_
                            · skip
                              have s116 := (sv_at 116 28 hsz f [(116, 28), (117, 29), (118, 30), (115, 27)] rfl).trans (show f 28 = _ from hH.get 0 (116, 28) rfl)
                              have s117 := (sv_at 117 29 hsz f [(116, 28), (117, 29), (118, 30), (115, 27)] rfl).trans (show f 29 = _ from hH.get 1 (117, 29) rfl)
                              have s118 := (sv_at 118 30 hsz f [(116, 28), (117, 29), (118, 30), (115, 27)] rfl).trans (show f 30 = _ from hH.get 2 (118, 30) rfl)
                              have s115 := (sv_at 115 27 hsz f [(116, 28), (117, 29), (118, 30), (115, 27)] rfl).trans (show f 27 = _ from hH.get 3 (115, 27) rfl)
                              first
                                | exact skip_v hsz rfl ((wanted_some (b := false) rfl rfl s115).trans rfl) hQ0 (Grow.refl _) rfl
                                | refine small_v hsz [(116, _), (117, _), (118, _)] ⟨some 3, (Op.call (Call.mk (Callee.value (Operand.func 46)) #[(.tmp 0), (.tmp 1), (.tmp 2)] #[56, 3, 3])), 4, "", #[], none⟩ [_, _, _, undef] 3 rfl ((wanted_some (b := true) rfl rfl s115).trans rfl) ⟨s116, s117, s118, trivial⟩ (ren_call rfl rfl) hQ0 ?_
                                  clear hQ0 hH s116 s117 s118 s115
                                  intro Q hQ
                                  repeat go_step
                                  exact hQ _ _ (Grow.refl _) rfl rfl
                            refine obls_cons (fun f w' hR hH Q0 hQ0 => ?_) ?_
                            · skip
                              have s119 := (sv_at 119 31 hsz f [(119, 31), (115, 27)] rfl).trans (show f 31 = _ from hH.get 0 (119, 31) rfl)
                              have s115 := (sv_at 115 27 hsz f [(119, 31), (115, 27)] rfl).trans (show f 27 = _ from hH.get 1 (115, 27) rfl)
                              first
                                | exact skip_v hsz rfl ((wanted_some (b := false) rfl rfl s115).trans rfl) hQ0 (Grow.refl _) rfl
                                | refine small_v hsz [(119, _)] ⟨some 1, (Op.unOp UnOp.not 4 (.tmp 0)), 4, "", #[], none⟩ [_, undef] 1 rfl ((wanted_some (b := true) rfl rfl s115).trans rfl) ⟨s119, trivial⟩ rfl hQ0 ?_
                                  clear hQ0 hH s119 s115
                                  intro Q hQ
                                  repeat go_step
                                  exact hQ _ _ (Grow.refl _) rfl rfl
                            refine obls_cons (fun f w' hR hH Q0 hQ0 => ?_) ?_
                            · skip
                              have s115 := (sv_at 115 27 hsz f [(115, 27), (120, 32)] rfl).trans (show f 27 = _ from hH.get 0 (115, 27) rfl)
                              have s120 := (sv_at 120 32 hsz f [(115, 27), (120, 32)] rfl).trans (show f 32 = _ from hH.get 1 (120, 32) rfl)
                              refine small_v hsz [(115, _), (120, _)] ⟨some 2, (Op.pick (.tmp 0) (.tmp 1) (Operand.const (Value.bool false))), 4, "", #[], none⟩ [_, _, undef] 2 rfl rfl ⟨s115, s120, trivial⟩ rfl hQ0 ?_
                              clear hQ0 hH s115 s120
                              intro Q hQ
                              repeat go_step
                              exact hQ _ _ (Grow.refl _) rfl rfl
                            exact obls_nil
                          case mono => exact ⟨Mono.veq _, Mono.veq _, Mono.veq _, Mono.veq _, Mono.veq _, Mono.veq _, Mono.veq _, Mono.veq _, Mono.veq _, Mono.veq _, Mono.veq _, Mono.veq _, Mono.veq _, Mono.veq _, Mono.veq _, Mono.veq _, Mono.veq _, Mono.veq _, Mono.veq _, Mono.veq _, Mono.veq _, Mono.veq _, Mono.veq _, Mono.veq _, Mono.veq _, Mono.veq _, Mono.veq _, Mono.veq _, Mono.veq _, Mono.veq _, Mono.veq _, Mono.veq _, Mono.veq _, Mono.veq _, trivial⟩
                          case tail =>
                            intro f w' hR hH
                            have q33 : (veq (Value.bool false)) (f 33) w' := hH.get 33 (121, 33) rfl
                            clear hH
                            refine wpList_merge (idx := [none, none, none, none, none, none, none, none, none, none, none, none, none, none, none, none, none, none, none, none, none, none, none, none, none, none, none, none, none, none, none, none, none, none, none, none, none, none, none, none, none, none, none, none, none, none, none, none, none, none, none, none, none, none, none, none, none, none, none, none, none, none, none, none, none, none, none, none, none, none, none, none, none, none, none, none, none, none, none, none, none, none, none, none, none, none, none, none, some 0, some 1, some 2, some 3, some 4, some 5, some 6, some 7, some 8, some 9, some 10, some 11, some 12, some 13, some 14, some 15, some 16, some 17, some 18, some 19, some 20, some 21, some 22, some 23, some 24, some 25, some 26, some 27, some 28, some 29, some 30, some 31, some 32, some 33, none, none, none, none, none, none, none, none, none, none, none, none, none, none, none, none, none, none, none, none, none, none, none, none, none, none, none, none, none, none, none, none, none, none, none, none, none, none, none, none, none]) (by kernel_rfl) ?_; show wpList _ _ _ [] ⟨#[_, _, _, _, _, _, _, _, _, _, _, _, _, _, _, _, _, _, _, _, _, _, _, _, _, _, _, _, _, _, _, _, _, _, _, _, _, _, _, _, _, _, _, _, _, _, _, _, _, _, _, _, _, _, _, _, _, _, _, _, _, _, _, _, _, _, _, _, _, _, _, _, _, _, _, _, _, _, _, _, _, _, _, _, _, _, _, _, f 0, f 1, f 2, f 3, f 4, f 5, f 6, f 7, f 8, f 9, f 10, f 11, f 12, f 13, f 14, f 15, f 16, f 17, f 18, f 19, f 20, f 21, f 22, f 23, f 24, f 25, f 26, f 27, f 28, f 29, f 30, f 31, f 32, f 33, _, _, _, _, _, _, _, _, _, _, _, _, _, _, _, _, _, _, _, _, _, _, _, _, _, _, _, _, _, _, _, _, _, _, _, _, _, _, _, _, _], _⟩ _
                            obtain ⟨x33, hx33⟩ : ∃ x, f 33 = x := ⟨_, rfl⟩
                            rw [hx33] at q33 ⊢
                            clear hx33
                            obtain rfl := q33
                            have HG7 := Lib.hid (HG6.out.trans hR)
                            clear hR
                            go_wp2_with fail
                            go_roundw
                            case rel => exact ⟨k + 1, by have := HLTk.out; omega, by go_num, HG7.out⟩
                            case measure => have := HLTk.out; simp [intOf] <;> omega
                      · have s4 : decide (0 ≤ x2) = false := decide_eq_false d3
                        clear d1 d2 d3 KA
                        go_wp2_with fail
                        apply (fun (v0 v1 v2 v3 v4 v5 v6 v7 v8 v9 v10 v11 v12 v13 v14 v15 v16 v17 v18 v19 v20 v21 v22 v23 v24 v25 v26 v27 v28 v29 v30 v31 v32 : Value) mono obl tail => wp_region_par (R := Grow) (Φ := phi [veq v0, veq v1, veq v2, veq v3, veq v4, veq v5, veq v6, veq v7, veq v8, veq v9, veq v10, veq v11, veq v12, veq v13, veq v14, veq v15, veq v16, veq v17, veq v18, veq v19, veq v20, veq v21, veq v22, veq v23, veq v24, veq v25, veq v26, veq v27, veq v28, veq v29, veq v30, veq v31, veq v32, (veq (Value.bool false))]) (m := 34) (dls := [[], [(88, 0)], [(89, 1)], [(90, 2)], [(90, 2)], [(91, 3), (92, 4), (90, 2)], [(90, 2), (93, 5)], [(94, 6)], [(95, 7)], [(96, 8), (95, 7)], [(95, 7), (97, 9)], [(98, 10)], [(99, 11)], [(99, 11)], [(100, 12), (101, 13), (99, 11)], [(99, 11), (102, 14)], [(103, 15)], [(104, 16)], [(104, 16)], [(105, 17), (106, 18), (104, 16)], [(107, 19), (104, 16)], [(104, 16)], [(104, 16)], [(109, 21), (110, 22), (104, 16)], [(111, 23), (104, 16)], [(108, 20), (112, 24), (104, 16)], [(104, 16), (113, 25)], [(114, 26)], [(115, 27)], [(115, 27)], [(115, 27)], [(116, 28), (117, 29), (118, 30), (115, 27)], [(119, 31), (115, 27)], [(115, 27), (120, 32)]]) (ds := [88, 89, 90, 91, 92, 93, 94, 95, 96, 97, 98, 99, 100, 101, 102, 103, 104, 105, 106, 107, 108, 109, 110, 111, 112, 113, 114, 115, 116, 117, 118, 119, 120, 121]) (by kernel_rfl) (by kernel_rfl) (by decide) rfl (Grow.drew _) (fun _ _ _ => Grow.trans) (mono_phi mono) obl tail)
                        case obl =>
                          refine obls_frame (fun a1 ha => ?_)
                          have hsz := rd_size (n := 163) ha rfl
                          have e12 := rd_slot 12 ha rfl
                          have e0 := rd_slot 0 ha rfl
                          have e13 := rd_slot 13 ha rfl
                          have e9 := rd_slot 9 ha rfl
                          have e7 := rd_slot 7 ha rfl
                          clear ha
                          refine obls_cons (fun f w' hR hH Q0 hQ0 => ?_) ?_
                          · skip
                            have s12 := sv_off f [] e12 rfl
                            refine small_v hsz [(12, _)] ⟨some 1, (Op.move (.tmp 0)), 3, "", #[], none⟩ [_, undef] 1 rfl rfl ⟨s12, trivial⟩ rfl hQ0 ?_
                            clear hQ0 hH s12
                            intro Q hQ
                            repeat go_step
                            exact hQ _ _ (Grow.refl _) rfl rfl
                          refine obls_cons (fun f w' hR hH Q0 hQ0 => ?_) ?_
                          · skip
                            have s88 := (sv_at 88 0 hsz f [(88, 0)] rfl).trans (show f 0 = _ from hH.get 0 (88, 0) rfl)
                            refine small_v hsz [(88, _)] ⟨some 1, (Op.binOp BinOp.geq 3 (.tmp 0) (Operand.const (Value.int IntKind.i64 0)) 3), 4, "", #[], none⟩ [_, undef] 1 rfl rfl ⟨s88, trivial⟩ rfl hQ0 ?_
                            clear hQ0 hH s88
                            intro Q hQ
                            repeat go_step
                            exact hQ _ _ (Grow.refl _) rfl rfl
                          refine obls_cons (fun f w' hR hH Q0 hQ0 => ?_) ?_
                          · skip
                            have s89 := (sv_at 89 1 hsz f [(89, 1)] rfl).trans (show f 1 = _ from hH.get 0 (89, 1) rfl)
                            refine small_v hsz [(89, _)] ⟨some 1, (Op.move (.tmp 0)), 4, "", #[], none⟩ [_, undef] 1 rfl rfl ⟨s89, trivial⟩ rfl hQ0 ?_
                            clear hQ0 hH s89
                            intro Q hQ
                            repeat go_step
                            exact hQ _ _ (Grow.refl _) rfl rfl
                          refine obls_cons (fun f w' hR hH Q0 hQ0 => ?_) ?_
                          · skip
                            have s12 := sv_off f [(90, 2)] e12 rfl
                            have s90 := (sv_at 90 2 hsz f [(90, 2)] rfl).trans (show f 2 = _ from hH.get 0 (90, 2) rfl)
                            first
                              | exact skip_v hsz rfl ((wanted_some (b := false) rfl rfl s90).trans rfl) hQ0 (Grow.refl _) rfl
                              | refine small_v hsz [(12, _)] ⟨some 1, (Op.move (.tmp 0)), 3, "", #[], none⟩ [_, undef] 1 rfl ((wanted_some (b := true) rfl rfl s90).trans rfl) ⟨s12, trivial⟩ rfl hQ0 ?_
                                clear hQ0 hH s12 s90
                                intro Q hQ
                                repeat go_step
                                exact hQ _ _ (Grow.refl _) rfl rfl
                          refine obls_cons (fun f w' hR hH Q0 hQ0 => ?_) ?_
                          · skip
                            have s0 := sv_off f [(90, 2)] e0 rfl
                            have s90 := (sv_at 90 2 hsz f [(90, 2)] rfl).trans (show f 2 = _ from hH.get 0 (90, 2) rfl)
                            first
                              | exact skip_v hsz rfl ((wanted_some (b := false) rfl rfl s90).trans rfl) hQ0 (Grow.refl _) rfl
                              | refine small_v hsz [(0, _)] ⟨some 1, (Op.move (.tmp 0)), 3, "", #[], none⟩ [_, undef] 1 rfl ((wanted_some (b := true) rfl rfl s90).trans rfl) ⟨s0, trivial⟩ rfl hQ0 ?_
                                clear hQ0 hH s0 s90
                                intro Q hQ
                                repeat go_step
                                exact hQ _ _ (Grow.refl _) rfl rfl
                          refine obls_cons (fun f w' hR hH Q0 hQ0 => ?_) ?_
                          · skip
                            have s91 := (sv_at 91 3 hsz f [(91, 3), (92, 4), (90, 2)] rfl).trans (show f 3 = _ from hH.get 0 (91, 3) rfl)
                            have s92 := (sv_at 92 4 hsz f [(91, 3), (92, 4), (90, 2)] rfl).trans (show f 4 = _ from hH.get 1 (92, 4) rfl)
                            have s90 := (sv_at 90 2 hsz f [(91, 3), (92, 4), (90, 2)] rfl).trans (show f 2 = _ from hH.get 2 (90, 2) rfl)
                            first
                              | exact skip_v hsz rfl ((wanted_some (b := false) rfl rfl s90).trans rfl) hQ0 (Grow.refl _) rfl
                              | refine small_v hsz [(91, _), (92, _)] ⟨some 2, (Op.binOp BinOp.lss 3 (.tmp 0) (.tmp 1) 3), 4, "", #[], none⟩ [_, _, undef] 2 rfl ((wanted_some (b := true) rfl rfl s90).trans rfl) ⟨s91, s92, trivial⟩ rfl hQ0 ?_
                                clear hQ0 hH s91 s92 s90
                                intro Q hQ
                                repeat go_step
                                exact hQ _ _ (Grow.refl _) rfl rfl
                          refine obls_cons (fun f w' hR hH Q0 hQ0 => ?_) ?_
                          · skip
                            have s90 := (sv_at 90 2 hsz f [(90, 2), (93, 5)] rfl).trans (show f 2 = _ from hH.get 0 (90, 2) rfl)
                            have s93 := (sv_at 93 5 hsz f [(90, 2), (93, 5)] rfl).trans (show f 5 = _ from hH.get 1 (93, 5) rfl)
                            refine small_v hsz [(90, _), (93, _)] ⟨some 2, (Op.pick (.tmp 0) (.tmp 1) (Operand.const (Value.bool false))), 4, "", #[], none⟩ [_, _, undef] 2 rfl rfl ⟨s90, s93, trivial⟩ rfl hQ0 ?_
                            clear hQ0 hH s90 s93
                            intro Q hQ
                            repeat go_step
                            exact hQ _ _ (Grow.refl _) rfl rfl
                          refine obls_cons (fun f w' hR hH Q0 hQ0 => ?_) ?_
                          · skip
                            have s94 := (sv_at 94 6 hsz f [(94, 6)] rfl).trans (show f 6 = _ from hH.get 0 (94, 6) rfl)
                            refine small_v hsz [(94, _)] ⟨some 1, (Op.move (.tmp 0)), 4, "", #[], none⟩ [_, undef] 1 rfl rfl ⟨s94, trivial⟩ rfl hQ0 ?_
                            clear hQ0 hH s94
                            intro Q hQ
                            repeat go_step
                            exact hQ _ _ (Grow.refl _) rfl rfl
                          refine obls_cons (fun f w' hR hH Q0 hQ0 => ?_) ?_
                          · skip
                            have s13 := sv_off f [(95, 7)] e13 rfl
                            have s95 := (sv_at 95 7 hsz f [(95, 7)] rfl).trans (show f 7 = _ from hH.get 0 (95, 7) rfl)
                            first
                              | exact skip_v hsz rfl ((wanted_some (b := false) rfl rfl s95).trans rfl) hQ0 (Grow.refl _) rfl
                              | refine small_v hsz [(13, _)] ⟨some 1, (Op.move (.tmp 0)), 3, "", #[], none⟩ [_, undef] 1 rfl ((wanted_some (b := true) rfl rfl s95).trans rfl) ⟨s13, trivial⟩ rfl hQ0 ?_
                                clear hQ0 hH s13 s95
                                intro Q hQ
                                repeat go_step
                                exact hQ _ _ (Grow.refl _) rfl rfl
                          refine obls_cons (fun f w' hR hH Q0 hQ0 => ?_) ?_
                          · skip
                            have s96 := (sv_at 96 8 hsz f [(96, 8), (95, 7)] rfl).trans (show f 8 = _ from hH.get 0 (96, 8) rfl)
                            have s95 := (sv_at 95 7 hsz f [(96, 8), (95, 7)] rfl).trans (show f 7 = _ from hH.get 1 (95, 7) rfl)
                            first
                              | exact skip_v hsz rfl ((wanted_some (b := false) rfl rfl s95).trans rfl) hQ0 (Grow.refl _) rfl
                              | refine small_v hsz [(96, _)] ⟨some 1, (Op.binOp BinOp.geq 3 (.tmp 0) (Operand.const (Value.int IntKind.i64 0)) 3), 4, "", #[], none⟩ [_, undef] 1 rfl ((wanted_some (b := true) rfl rfl s95).trans rfl) ⟨s96, trivial⟩ rfl hQ0 ?_
                                clear hQ0 hH s96 s95
                                intro Q hQ
                                repeat go_step
                                exact hQ _ _ (Grow.refl _) rfl rfl
                          refine obls_cons (fun f w' hR hH Q0 hQ0 => ?_) ?_
                          · skip
                            have s95 := (sv_at 95 7 hsz f [(95, 7), (97, 9)] rfl).trans (show f 7 = _ from hH.get 0 (95, 7) rfl)
                            have s97 := (sv_at 97 9 hsz f [(95, 7), (97, 9)] rfl).trans (show f 9 = _ from hH.get 1 (97, 9) rfl)
                            refine small_v hsz [(95, _), (97, _)] ⟨some 2, (Op.pick (.tmp 0) (.tmp 1) (Operand.const (Value.bool false))), 4, "", #[], none⟩ [_, _, undef] 2 rfl rfl ⟨s95, s97, trivial⟩ rfl hQ0 ?_
                            clear hQ0 hH s95 s97
                            intro Q hQ
                            repeat go_step
                            exact hQ _ _ (Grow.refl _) rfl rfl
                          refine obls_cons (fun f w' hR hH Q0 hQ0 => ?_) ?_
                          · skip
                            have s98 := (sv_at 98 10 hsz f [(98, 10)] rfl).trans (show f 10 = _ from hH.get 0 (98, 10) rfl)
                            refine small_v hsz [(98, _)] ⟨some 1, (Op.move (.tmp 0)), 4, "", #[], none⟩ [_, undef] 1 rfl rfl ⟨s98, trivial⟩ rfl hQ0 ?_
                            clear hQ0 hH s98
                            intro Q hQ
                            repeat go_step
                            exact hQ _ _ (Grow.refl _) rfl rfl
                          refine obls_cons (fun f w' hR hH Q0 hQ0 => ?_) ?_
                          · skip
                            have s13 := sv_off f [(99, 11)] e13 rfl
                            have s99 := (sv_at 99 11 hsz f [(99, 11)] rfl).trans (show f 11 = _ from hH.get 0 (99, 11) rfl)
                            first
                              | exact skip_v hsz rfl ((wanted_some (b := false) rfl rfl s99).trans rfl) hQ0 (Grow.refl _) rfl
                              | refine small_v hsz [(13, _)] ⟨some 1, (Op.move (.tmp 0)), 3, "", #[], none⟩ [_, undef] 1 rfl ((wanted_some (b := true) rfl rfl s99).trans rfl) ⟨s13, trivial⟩ rfl hQ0 ?_
                                clear hQ0 hH s13 s99
                                intro Q hQ
                                repeat go_step
                                exact hQ _ _ (Grow.refl _) rfl rfl
                          refine obls_cons (fun f w' hR hH Q0 hQ0 => ?_) ?_
                          · skip
                            have s0 := sv_off f [(99, 11)] e0 rfl
                            have s99 := (sv_at 99 11 hsz f [(99, 11)] rfl).trans (show f 11 = _ from hH.get 0 (99, 11) rfl)
                            first
                              | exact skip_v hsz rfl ((wanted_some (b := false) rfl rfl s99).trans rfl) hQ0 (Grow.refl _) rfl
                              | refine small_v hsz [(0, _)] ⟨some 1, (Op.move (.tmp 0)), 3, "", #[], none⟩ [_, undef] 1 rfl ((wanted_some (b := true) rfl rfl s99).trans rfl) ⟨s0, trivial⟩ rfl hQ0 ?_
                                clear hQ0 hH s0 s99
                                intro Q hQ
                                repeat go_step
                                exact hQ _ _ (Grow.refl _) rfl rfl
                          refine obls_cons (fun f w' hR hH Q0 hQ0 => ?_) ?_
                          · skip
                            have s100 := (sv_at 100 12 hsz f [(100, 12), (101, 13), (99, 11)] rfl).trans (show f 12 = _ from hH.get 0 (100, 12) rfl)
                            have s101 := (sv_at 101 13 hsz f [(100, 12), (101, 13), (99, 11)] rfl).trans (show f 13 = _ from hH.get 1 (101, 13) rfl)
                            have s99 := (sv_at 99 11 hsz f [(100, 12), (101, 13), (99, 11)] rfl).trans (show f 11 = _ from hH.get 2 (99, 11) rfl)
                            first
                              | exact skip_v hsz rfl ((wanted_some (b := false) rfl rfl s99).trans rfl) hQ0 (Grow.refl _) rfl
                              | refine small_v hsz [(100, _), (101, _)] ⟨some 2, (Op.binOp BinOp.lss 3 (.tmp 0) (.tmp 1) 3), 4, "", #[], none⟩ [_, _, undef] 2 rfl ((wanted_some (b := true) rfl rfl s99).trans rfl) ⟨s100, s101, trivial⟩ rfl hQ0 ?_
                                clear hQ0 hH s100 s101 s99
                                intro Q hQ
                                repeat go_step
                                exact hQ _ _ (Grow.refl _) rfl rfl
                          refine obls_cons (fun f w' hR hH Q0 hQ0 => ?_) ?_
                          · skip
                            have s99 := (sv_at 99 11 hsz f [(99, 11), (102, 14)] rfl).trans (show f 11 = _ from hH.get 0 (99, 11) rfl)
                            have s102 := (sv_at 102 14 hsz f [(99, 11), (102, 14)] rfl).trans (show f 14 = _ from hH.get 1 (102, 14) rfl)
                            refine small_v hsz [(99, _), (102, _)] ⟨some 2, (Op.pick (.tmp 0) (.tmp 1) (Operand.const (Value.bool false))), 4, "", #[], none⟩ [_, _, undef] 2 rfl rfl ⟨s99, s102, trivial⟩ rfl hQ0 ?_
                            clear hQ0 hH s99 s102
                            intro Q hQ
                            repeat go_step
                            exact hQ _ _ (Grow.refl _) rfl rfl
                          refine obls_cons (fun f w' hR hH Q0 hQ0 => ?_) ?_
                          · skip
                            have s103 := (sv_at 103 15 hsz f [(103, 15)] rfl).trans (show f 15 = _ from hH.get 0 (103, 15) rfl)
                            refine small_v hsz [(103, _)] ⟨some 1, (Op.move (.tmp 0)), 4, "", #[], none⟩ [_, undef] 1 rfl rfl ⟨s103, trivial⟩ rfl hQ0 ?_
                            clear hQ0 hH s103
                            intro Q hQ
                            repeat go_step
                            exact hQ _ _ (Grow.refl _) rfl rfl
                          refine obls_cons (fun f w' hR hH Q0 hQ0 => ?_) ?_
                          · skip
                            have s9 := sv_off f [(104, 16)] e9 rfl
                            have s104 := (sv_at 104 16 hsz f [(104, 16)] rfl).trans (show f 16 = _ from hH.get 0 (104, 16) rfl)
                            first
                              | exact skip_v hsz rfl ((wanted_some (b := false) rfl rfl s104).trans rfl) hQ0 (Grow.refl _) rfl
                              | refine small_v hsz [(9, _)] ⟨some 1, (Op.move (.tmp 0)), 22, "", #[], none⟩ [_, undef] 1 rfl ((wanted_some (b := true) rfl rfl s104).trans rfl) ⟨s9, trivial⟩ rfl hQ0 ?_
                                clear hQ0 hH s9 s104
                                intro Q hQ
                                repeat go_step
                                exact hQ _ _ (Grow.refl _) rfl rfl
                          refine obls_cons (fun f w' hR hH Q0 hQ0 => ?_) ?_
                          · skip
                            have s12 := sv_off f [(104, 16)] e12 rfl
                            have s104 := (sv_at 104 16 hsz f [(104, 16)] rfl).trans (show f 16 = _ from hH.get 0 (104, 16) rfl)
                            first
                              | exact skip_v hsz rfl ((wanted_some (b := false) rfl rfl s104).trans rfl) hQ0 (Grow.refl _) rfl
                              | refine small_v hsz [(12, _)] ⟨some 1, (Op.move (.tmp 0)), 3, "", #[], none⟩ [_, undef] 1 rfl ((wanted_some (b := true) rfl rfl s104).trans rfl) ⟨s12, trivial⟩ rfl hQ0 ?_
                                clear hQ0 hH s12 s104
                                intro Q hQ
                                repeat go_step
                                exact hQ _ _ (Grow.refl _) rfl rfl
                          refine obls_cons (fun f w' hR hH Q0 hQ0 => ?_) ?_
                          · skip
                            have s105 := (sv_at 105 17 hsz f [(105, 17), (106, 18), (104, 16)] rfl).trans (show f 17 = _ from hH.get 0 (105, 17) rfl)
                            have s106 := (sv_at 106 18 hsz f [(105, 17), (106, 18), (104, 16)] rfl).trans (show f 18 = _ from hH.get 1 (106, 18) rfl)
                            have s104 := (sv_at 104 16 hsz f [(105, 17), (106, 18), (104, 16)] rfl).trans (show f 16 = _ from hH.get 2 (104, 16) rfl)
                            first
                              | exact skip_v hsz rfl ((wanted_some (b := false) rfl rfl s104).trans rfl) hQ0 (Grow.refl _) rfl
                              | refine small_v hsz [(105, _), (106, _)] ⟨some 2, (Op.indexAddr 22 (.tmp 0) (.tmp 1)), 0, "", #[], none⟩ [_, _, undef] 2 rfl ((wanted_some (b := true) rfl rfl s104).trans rfl) ⟨s105, s106, trivial⟩ rfl hQ0 ?_
                                clear hQ0 hH s105 s106 s104
                                intro Q hQ
                                repeat go_step
                                exact hQ _ _ (Grow.refl _) rfl rfl
                          refine obls_cons (fun f w' hR hH Q0 hQ0 => ?_) ?_
                          · skip
                            have s107 := (sv_at 107 19 hsz f [(107, 19), (104, 16)] rfl).trans (show f 19 = _ from hH.get 0 (107, 19) rfl)
                            have s104 := (sv_at 104 16 hsz f [(107, 19), (104, 16)] rfl).trans (show f 16 = _ from hH.get 1 (104, 16) rfl)
                            first
                              | exact skip_v hsz rfl ((wanted_some (b := false) rfl rfl s104).trans rfl) hQ0 (Grow.refl _) rfl
                              | refine small_v hsz [(107, _)] ⟨some 1, (Op.load 3 (.tmp 0)), 3, "", #[], none⟩ [_, undef] 1 rfl ((wanted_some (b := true) rfl rfl s104).trans rfl) ⟨s107, trivial⟩ rfl hQ0 ?_
                                clear hQ0 hH s107 s104
                                intro Q hQ
                                repeat go_step
                                exact hQ _ _ (Grow.refl _) rfl rfl
                          refine obls_cons (fun f w' hR hH Q0 hQ0 => ?_) ?_
                          · skip
                            have s9 := sv_off f [(104, 16)] e9 rfl
                            have s104 := (sv_at 104 16 hsz f [(104, 16)] rfl).trans (show f 16 = _ from hH.get 0 (104, 16) rfl)
                            first
                              | exact skip_v hsz rfl ((wanted_some (b := false) rfl rfl s104).trans rfl) hQ0 (Grow.refl _) rfl
                              | refine small_v hsz [(9, _)] ⟨some 1, (Op.move (.tmp 0)), 22, "", #[], none⟩ [_, undef] 1 rfl ((wanted_some (b := true) rfl rfl s104).trans rfl) ⟨s9, trivial⟩ rfl hQ0 ?_
                                clear hQ0 hH s9 s104
                                intro Q hQ
                                repeat go_step
                                exact hQ _ _ (Grow.refl _) rfl rfl
                          refine obls_cons (fun f w' hR hH Q0 hQ0 => ?_) ?_
                          · skip
                            have s13 := sv_off f [(104, 16)] e13 rfl
                            have s104 := (sv_at 104 16 hsz f [(104, 16)] rfl).trans (show f 16 = _ from hH.get 0 (104, 16) rfl)
                            first
                              | exact skip_v hsz rfl ((wanted_some (b := false) rfl rfl s104).trans rfl) hQ0 (Grow.refl _) rfl
                              | refine small_v hsz [(13, _)] ⟨some 1, (Op.move (.tmp 0)), 3, "", #[], none⟩ [_, undef] 1 rfl ((wanted_some (b := true) rfl rfl s104).trans rfl) ⟨s13, trivial⟩ rfl hQ0 ?_
                                clear hQ0 hH s13 s104
                                intro Q hQ
                                repeat go_step
                                exact hQ _ _ (Grow.refl _) rfl rfl
                          refine obls_cons (fun f w' hR hH Q0 hQ0 => ?_) ?_
                          · skip
                            have s109 := (sv_at 109 21 hsz f [(109, 21), (110, 22), (104, 16)] rfl).trans (show f 21 = _ from hH.get 0 (109, 21) rfl)
                            have s110 := (sv_at 110 22 hsz f [(109, 21), (110, 22), (104, 16)] rfl).trans (show f 22 = _ from hH.get 1 (110, 22) rfl)
                            have s104 := (sv_at 104 16 hsz f [(109, 21), (110, 22), (104, 16)] rfl).trans (show f 16 = _ from hH.get 2 (104, 16) rfl)
                            first
                              | exact skip_v hsz rfl ((wanted_some (b := false) rfl rfl s104).trans rfl) hQ0 (Grow.refl _) rfl
                              | refine small_v hsz [(109, _), (110, _)] ⟨some 2, (Op.indexAddr 22 (.tmp 0) (.tmp 1)), 0, "", #[], none⟩ [_, _, undef] 2 rfl ((wanted_some (b := true) rfl rfl s104).trans rfl) ⟨s109, s110, trivial⟩ rfl hQ0 ?_
                                clear hQ0 hH s109 s110 s104
                                intro Q hQ
                                repeat go_step
                                exact hQ _ _ (Grow.refl _) rfl rfl
                          refine obls_cons (fun f w' hR hH Q0 hQ0 => ?_) ?_
                          · skip
                            have s111 := (sv_at 111 23 hsz f [(111, 23), (104, 16)] rfl).trans (show f 23 = _ from hH.get 0 (111, 23) rfl)
                            have s104 := (sv_at 104 16 hsz f [(111, 23), (104, 16)] rfl).trans (show f 16 = _ from hH.get 1 (104, 16) rfl)
                            first
                              | exact skip_v hsz rfl ((wanted_some (b := false) rfl rfl s104).trans rfl) hQ0 (Grow.refl _) rfl
                              | refine small_v hsz [(111, _)] ⟨some 1, (Op.load 3 (.tmp 0)), 3, "", #[], none⟩ [_, undef] 1 rfl ((wanted_some (b := true) rfl rfl s104).trans rfl) ⟨s111, trivial⟩ rfl hQ0 ?_
                                clear hQ0 hH s111 s104
                                intro Q hQ
                                repeat go_step
                                exact hQ _ _ (Grow.refl _) rfl rfl
                          refine obls_cons (fun f w' hR hH Q0 hQ0 => ?_) ?_
                          · skip
                            have s108 := (sv_at 108 20 hsz f [(108, 20), (112, 24), (104, 16)] rfl).trans (show f 20 = _ from hH.get 0 (108, 20) rfl)
                            have s112 := (sv_at 112 24 hsz f [(108, 20), (112, 24), (104, 16)] rfl).trans (show f 24 = _ from hH.get 1 (112, 24) rfl)
                            have s104 := (sv_at 104 16 hsz f [(108, 20), (112, 24), (104, 16)] rfl).trans (show f 16 = _ from hH.get 2 (104, 16) rfl)
                            first
                              | exact skip_v hsz rfl ((wanted_some (b := false) rfl rfl s104).trans rfl) hQ0 (Grow.refl _) rfl
                              | refine small_v hsz [(108, _), (112, _)] ⟨some 2, (Op.binOp BinOp.gtr 3 (.tmp 0) (.tmp 1) 3), 4, "", #[], none⟩ [_, _, undef] 2 rfl ((wanted_some (b := true) rfl rfl s104).trans rfl) ⟨s108, s112, trivial⟩ rfl hQ0 ?_
                                clear hQ0 hH s108 s112 s104
                                intro Q hQ
                                repeat go_step
                                exact hQ _ _ (Grow.refl _) rfl rfl
                          refine obls_cons (fun f w' hR hH Q0 hQ0 => ?_) ?_
                          · skip
                            have s104 := (sv_at 104 16 hsz f [(104, 16), (113, 25)] rfl).trans (show f 16 = _ from hH.get 0 (104, 16) rfl)
                            have s113 := (sv_at 113 25 hsz f [(104, 16), (113, 25)] rfl).trans (show f 25 = _ from hH.get 1 (113, 25) rfl)
                            refine small_v hsz [(104, _), (113, _)] ⟨some 2, (Op.pick (.tmp 0) (.tmp 1) (Operand.const (Value.bool false))), 4, "", #[], none⟩ [_, _, undef] 2 rfl rfl ⟨s104, s113, trivial⟩ rfl hQ0 ?_
                            clear hQ0 hH s104 s113
                            intro Q hQ
                            repeat go_step
                            exact hQ _ _ (Grow.refl _) rfl rfl
                          refine obls_cons (fun f w' hR hH Q0 hQ0 => ?_) ?_
                          · skip
                            have s114 := (sv_at 114 26 hsz f [(114, 26)] rfl).trans (show f 26 = _ from hH.get 0 (114, 26) rfl)
                            refine small_v hsz [(114, _)] ⟨some 1, (Op.move (.tmp 0)), 4, "", #[], none⟩ [_, undef] 1 rfl rfl ⟨s114, trivial⟩ rfl hQ0 ?_
                            clear hQ0 hH s114
                            intro Q hQ
                            repeat go_step
                            exact hQ _ _ (Grow.refl _) rfl rfl
                          refine obls_cons (fun f w' hR hH Q0 hQ0 => ?_) ?_
                          · skip
                            have s7 := sv_off f [(115, 27)] e7 rfl
                            have s115 := (sv_at 115 27 hsz f [(115, 27)] rfl).trans (show f 27 = _ from hH.get 0 (115, 27) rfl)
                            first
                              | exact skip_v hsz rfl ((wanted_some (b := false) rfl rfl s115).trans rfl) hQ0 (Grow.refl _) rfl
                              | refine small_v hsz [(7, _)] ⟨some 1, (Op.move (.tmp 0)), 56, "", #[], none⟩ [_, undef] 1 rfl ((wanted_some (b := true) rfl rfl s115).trans rfl) ⟨s7, trivial⟩ rfl hQ0 ?_
                                clear hQ0 hH s7 s115
                                intro Q hQ
                                repeat go_step
                                exact hQ _ _ (Grow.refl _) rfl rfl
                          refine obls_cons (fun f w' hR hH Q0 hQ0 => ?_) ?_
                          · skip
                            have s12 := sv_off f [(115, 27)] e12 rfl
                            have s115 := (sv_at 115 27 hsz f [(115, 27)] rfl).trans (show f 27 = _ from hH.get 0 (115, 27) rfl)
                            first
                              | exact skip_v hsz rfl ((wanted_some (b := false) rfl rfl s115).trans rfl) hQ0 (Grow.refl _) rfl
                              | refine small_v hsz [(12, _)] ⟨some 1, (Op.move (.tmp 0)), 3, "", #[], none⟩ [_, undef] 1 rfl ((wanted_some (b := true) rfl rfl s115).trans rfl) ⟨s12, trivial⟩ rfl hQ0 ?_
                                clear hQ0 hH s12 s115
                                intro Q hQ
                                repeat go_step
                                exact hQ _ _ (Grow.refl _) rfl rfl
                          refine obls_cons (fun f w' hR hH Q0 hQ0 => ?_) ?_
                          · skip
                            have s13 := sv_off f [(115, 27)] e13 rfl
                            have s115 := (sv_at 115 27 hsz f [(115, 27)] rfl).trans (show f 27 = _ from hH.get 0 (115, 27) rfl)
                            first
                              | exact skip_v hsz rfl ((wanted_some (b := false) rfl rfl s115).trans rfl) hQ0 (Grow.refl _) rfl
                              | refine small_v hsz [(13, _)] ⟨some 1, (Op.move (.tmp 0)), 3, "", #[], none⟩ [_, undef] 1 rfl ((wanted_some (b := true) rfl rfl s115).trans rfl) ⟨s13, trivial⟩ rfl hQ0 ?_
                                clear hQ0 hH s13 s115
                                intro Q hQ
                                repeat go_step
                                exact hQ _ _ (Grow.refl _) rfl rfl
                          refine obls_cons (fun f w' hR hH Q0 hQ0 => ?_) ?_
                          · skip
                            have s116 := (sv_at 116 28 hsz f [(116, 28), (117, 29), (118, 30), (115, 27)] rfl).trans (show f 28 = _ from hH.get 0 (116, 28) rfl)
                            have s117 := (sv_at 117 29 hsz f [(116, 28), (117, 29), (118, 30), (115, 27)] rfl).trans (show f 29 = _ from hH.get 1 (117, 29) rfl)
                            have s118 := (sv_at 118 30 hsz f [(116, 28), (117, 29), (118, 30), (115, 27)] rfl).trans (show f 30 = _ from hH.get 2 (118, 30) rfl)
                            have s115 := (sv_at 115 27 hsz f [(116, 28), (117, 29), (118, 30), (115, 27)] rfl).trans (show f 27 = _ from hH.get 3 (115, 27) rfl)
                            first
                              | exact skip_v hsz rfl ((wanted_some (b := false) rfl rfl s115).trans rfl) hQ0 (Grow.refl _) rfl
                              | refine small_v hsz [(116, _), (117, _), (118, _)] ⟨some 3, (Op.call (Call.mk (Callee.value (Operand.func 46)) #[(.tmp 0), (.tmp 1), (.tmp 2)] #[56, 3, 3])), 4, "", #[], none⟩ [_, _, _, undef] 3 rfl ((wanted_some (b := true) rfl rfl s115).trans rfl) ⟨s116, s117, s118, trivial⟩ (ren_call rfl rfl) hQ0 ?_
                                clear hQ0 hH s116 s117 s118 s115
                                intro Q hQ
                                repeat go_step
                                exact hQ _ _ (Grow.refl _) rfl rfl
                          refine obls_cons (fun f w' hR hH Q0 hQ0 => ?_) ?_
                          · skip
                            have s119 := (sv_at 119 31 hsz f [(119, 31), (115, 27)] rfl).trans (show f 31 = _ from hH.get 0 (119, 31) rfl)
                            have s115 := (sv_at 115 27 hsz f [(119, 31), (115, 27)] rfl).trans (show f 27 = _ from hH.get 1 (115, 27) rfl)
                            first
                              | exact skip_v hsz rfl ((wanted_some (b := false) rfl rfl s115).trans rfl) hQ0 (Grow.refl _) rfl
                              | refine small_v hsz [(119, _)] ⟨some 1, (Op.unOp UnOp.not 4 (.tmp 0)), 4, "", #[], none⟩ [_, undef] 1 rfl ((wanted_some (b := true) rfl rfl s115).trans rfl) ⟨s119, trivial⟩ rfl hQ0 ?_
                                clear hQ0 hH s119 s115
                                intro Q hQ
                                repeat go_step
                                exact hQ _ _ (Grow.refl _) rfl rfl
                          refine obls_cons (fun f w' hR hH Q0 hQ0 => ?_) ?_
                          · skip
                            have s115 := (sv_at 115 27 hsz f [(115, 27), (120, 32)] rfl).trans (show f 27 = _ from hH.get 0 (115, 27) rfl)
                            have s120 := (sv_at 120 32 hsz f [(115, 27), (120, 32)] rfl).trans (show f 32 = _ from hH.get 1 (120, 32) rfl)
                            refine small_v hsz [(115, _), (120, _)] ⟨some 2, (Op.pick (.tmp 0) (.tmp 1) (Operand.const (Value.bool false))), 4, "", #[], none⟩ [_, _, undef] 2 rfl rfl ⟨s115, s120, trivial⟩ rfl hQ0 ?_
                            clear hQ0 hH s115 s120
                            intro Q hQ
                            repeat go_step
                            exact hQ _ _ (Grow.refl _) rfl rfl
                          exact obls_nil
                        case mono => exact ⟨Mono.veq _, Mono.veq _, Mono.veq _, Mono.veq _, Mono.veq _, Mono.veq _, Mono.veq _, Mono.veq _, Mono.veq _, Mono.veq _, Mono.veq _, Mono.veq _, Mono.veq _, Mono.veq _, Mono.veq _, Mono.veq _, Mono.veq _, Mono.veq _, Mono.veq _, Mono.veq _, Mono.veq _, Mono.veq _, Mono.veq _, Mono.veq _, Mono.veq _, Mono.veq _, Mono.veq _, Mono.veq _, Mono.veq _, Mono.veq _, Mono.veq _, Mono.veq _, Mono.veq _, Mono.veq _, trivial⟩
                        case tail =>
                          intro f w' hR hH
                          have q33 : (veq (Value.bool false)) (f 33) w' := hH.get 33 (121, 33) rfl
                          clear hH
                          refine wpList_merge (idx := [none, none, none, none, none, none, none, none, none, none, none, none, none, none, none, none, none, none, none, none, none, none, none, none, none, none, none, none, none, none, none, none, none, none, none, none, none, none, none, none, none, none, none, none, none, none, none, none, none, none, none, none, none, none, none, none, none, none, none, none, none, none, none, none, none, none, none, none, none, none, none, none, none, none, none, none, none, none, none, none, none, none, none, none, none, none, none, none, some 0, some 1, some 2, some 3, some 4, some 5, some 6, some 7, some 8, some 9, some 10, some 11, some 12, some 13, some 14, some 15, some 16, some 17, some 18, some 19, some 20, some 21, some 22, some 23, some 24, some 25, some 26, some 27, some 28, some 29, some 30, some 31, some 32, some 33, none, none, none, none, none, none, none, none, none, none, none, none, none, none, none, none, none, none, none, none, none, none, none, none, none, none, none, none, none, none, none, none, none, none, none, none, none, none, none, none, none]) (by kernel_rfl) ?_; show wpList _ _ _ [] ⟨#[_, _, _, _, _, _, _, _, _, _, _, _, _, _, _, _, _, _, _, _, _, _, _, _, _, _, _, _, _, _, _, _, _, _, _, _, _, _, _, _, _, _, _, _, _, _, _, _, _, _, _, _, _, _, _, _, _, _, _, _, _, _, _, _, _, _, _, _, _, _, _, _, _, _, _, _, _, _, _, _, _, _, _, _, _, _, _, _, f 0, f 1, f 2, f 3, f 4, f 5, f 6, f 7, f 8, f 9, f 10, f 11, f 12, f 13, f 14, f 15, f 16, f 17, f 18, f 19, f 20, f 21, f 22, f 23, f 24, f 25, f 26, f 27, f 28, f 29, f 30, f 31, f 32, f 33, _, _, _, _, _, _, _, _, _, _, _, _, _, _, _, _, _, _, _, _, _, _, _, _, _, _, _, _, _, _, _, _, _, _, _, _, _, _, _, _, _], _⟩ _
                          obtain ⟨x33, hx33⟩ : ∃ x, f 33 = x := ⟨_, rfl⟩
                          rw [hx33] at q33 ⊢
                          clear hx33
                          obtain rfl := q33
                          have HG7 := Lib.hid (HG6.out.trans hR)
                          clear hR
                          go_wp2_with fail
                          go_roundw
                          case rel => exact ⟨k + 1, by have := HLTk.out; omega, by go_num, HG7.out⟩
                          case measure => have := HLTk.out; simp [intOf] <;> omega
                    · have s2 : decide (a < n) = false := decide_eq_false d2
                      have s3 : decide ((a : Int) < (n : Int)) = false := decide_eq_false (by omega)
                      clear d1 d2 KA
                      go_wp2_with fail
                      apply (fun (v0 v1 v2 v3 v4 v5 v6 v7 v8 v9 v10 v11 v12 v13 v14 v15 v16 v17 v18 v19 v20 v21 v22 v23 v24 v25 v26 v27 v28 v29 v30 v31 v32 : Value) mono obl tail => wp_region_par (R := Grow) (Φ := phi [veq v0, veq v1, veq v2, veq v3, veq v4, veq v5, veq v6, veq v7, veq v8, veq v9, veq v10, veq v11, veq v12, veq v13, veq v14, veq v15, veq v16, veq v17, veq v18, veq v19, veq v20, veq v21, veq v22, veq v23, veq v24, veq v25, veq v26, veq v27, veq v28, veq v29, veq v30, veq v31, veq v32, (veq (Value.bool false))]) (m := 34) (dls := [[], [(88, 0)], [(89, 1)], [(90, 2)], [(90, 2)], [(91, 3), (92, 4), (90, 2)], [(90, 2), (93, 5)], [(94, 6)], [(95, 7)], [(96, 8), (95, 7)], [(95, 7), (97, 9)], [(98, 10)], [(99, 11)], [(99, 11)], [(100, 12), (101, 13), (99, 11)], [(99, 11), (102, 14)], [(103, 15)], [(104, 16)], [(104, 16)], [(105, 17), (106, 18), (104, 16)], [(107, 19), (104, 16)], [(104, 16)], [(104, 16)], [(109, 21), (110, 22), (104, 16)], [(111, 23), (104, 16)], [(108, 20), (112, 24), (104, 16)], [(104, 16), (113, 25)], [(114, 26)], [(115, 27)], [(115, 27)], [(115, 27)], [(116, 28), (117, 29), (118, 30), (115, 27)], [(119, 31), (115, 27)], [(115, 27), (120, 32)]]) (ds := [88, 89, 90, 91, 92, 93, 94, 95, 96, 97, 98, 99, 100, 101, 102, 103, 104, 105, 106, 107, 108, 109, 110, 111, 112, 113, 114, 115, 116, 117, 118, 119, 120, 121]) (by kernel_rfl) (by kernel_rfl) (by decide) rfl (Grow.drew _) (fun _ _ _ => Grow.trans) (mono_phi mono) obl tail)
                      case obl =>
                        refine obls_frame (fun a1 ha => ?_)
                        have hsz := rd_size (n := 163) ha rfl
                        have e12 := rd_slot 12 ha rfl
                        have e0 := rd_slot 0 ha rfl
                        have e13 := rd_slot 13 ha rfl
                        have e9 := rd_slot 9 ha rfl
                        have e7 := rd_slot 7 ha rfl
                        clear ha
                        refine obls_cons (fun f w' hR hH Q0 hQ0 => ?_) ?_
                        · skip
                          have s12 := sv_off f [] e12 rfl
                          refine small_v hsz [(12, _)] ⟨some 1, (Op.move (.tmp 0)), 3, "", #[], none⟩ [_, undef] 1 rfl rfl ⟨s12, trivial⟩ rfl hQ0 ?_
                          clear hQ0 hH s12
                          intro Q hQ
                          repeat go_step
                          exact hQ _ _ (Grow.refl _) rfl rfl
                        refine obls_cons (fun f w' hR hH Q0 hQ0 => ?_) ?_
                        · skip
                          have s88 := (sv_at 88 0 hsz f [(88, 0)] rfl).trans (show f 0 = _ from hH.get 0 (88, 0) rfl)
                          refine small_v hsz [(88, _)] ⟨some 1, (Op.binOp BinOp.geq 3 (.tmp 0) (Operand.const (Value.int IntKind.i64 0)) 3), 4, "", #[], none⟩ [_, undef] 1 rfl rfl ⟨s88, trivial⟩ rfl hQ0 ?_
                          clear hQ0 hH s88
                          intro Q hQ
                          repeat go_step
                          exact hQ _ _ (Grow.refl _) rfl rfl
                        refine obls_cons (fun f w' hR hH Q0 hQ0 => ?_) ?_
                        · skip
                          have s89 := (sv_at 89 1 hsz f [(89, 1)] rfl).trans (show f 1 = _ from hH.get 0 (89, 1) rfl)
                          refine small_v hsz [(89, _)] ⟨some 1, (Op.move (.tmp 0)), 4, "", #[], none⟩ [_, undef] 1 rfl rfl ⟨s89, trivial⟩ rfl hQ0 ?_
                          clear hQ0 hH s89
                          intro Q hQ
                          repeat go_step
                          exact hQ _ _ (Grow.refl _) rfl rfl
                        refine obls_cons (fun f w' hR hH Q0 hQ0 => ?_) ?_
                        · skip
                          have s12 := sv_off f [(90, 2)] e12 rfl
                          have s90 := (sv_at 90 2 hsz f [(90, 2)] rfl).trans (show f 2 = _ from hH.get 0 (90, 2) rfl)
                          first
                            | exact skip_v hsz rfl ((wanted_some (b := false) rfl rfl s90).trans rfl) hQ0 (Grow.refl _) rfl
                            | refine small_v hsz [(12, _)] ⟨some 1, (Op.move (.tmp 0)), 3, "", #[], none⟩ [_, undef] 1 rfl ((wanted_some (b := true) rfl rfl s90).trans rfl) ⟨s12, trivial⟩ rfl hQ0 ?_
                              clear hQ0 hH s12 s90
                              intro Q hQ
                              repeat go_step
                              exact hQ _ _ (Grow.refl _) rfl rfl
                        refine obls_cons (fun f w' hR hH Q0 hQ0 => ?_) ?_
                        · skip
                          have s0 := sv_off f [(90, 2)] e0 rfl
                          have s90 := (sv_at 90 2 hsz f [(90, 2)] rfl).trans (show f 2 = _ from hH.get 0 (90, 2) rfl)
                          first
                            | exact skip_v hsz rfl ((wanted_some (b := false) rfl rfl s90).trans rfl) hQ0 (Grow.refl _) rfl
                            | refine small_v hsz [(0, _)] ⟨some 1, (Op.move (.tmp 0)), 3, "", #[], none⟩ [_, undef] 1 rfl ((wanted_some (b := true) rfl rfl s90).trans rfl) ⟨s0, trivial⟩ rfl hQ0 ?_
                              clear hQ0 hH s0 s90
                              intro Q hQ
                              repeat go_step
                              exact hQ _ _ (Grow.refl _) rfl rfl
                        refine obls_cons (fun f w' hR hH Q0 hQ0 => ?_) ?_
                        · skip
                          have s91 := (sv_at 91 3 hsz f [(91, 3), (92, 4), (90, 2)] rfl).trans (show f 3 = _ from hH.get 0 (91, 3) rfl)
                          have s92 := (sv_at 92 4 hsz f [(91, 3), (92, 4), (90, 2)] rfl).trans (show f 4 = _ from hH.get 1 (92, 4) rfl)
                          have s90 := (sv_at 90 2 hsz f [(91, 3), (92, 4), (90, 2)] rfl).trans (show f 2 = _ from hH.get 2 (90, 2) rfl)
                          first
                            | exact skip_v hsz rfl ((wanted_some (b := false) rfl rfl s90).trans rfl) hQ0 (Grow.refl _) rfl
                            | refine small_v hsz [(91, _), (92, _)] ⟨some 2, (Op.binOp BinOp.lss 3 (.tmp 0) (.tmp 1) 3), 4, "", #[], none⟩ [_, _, undef] 2 rfl ((wanted_some (b := true) rfl rfl s90).trans rfl) ⟨s91, s92, trivial⟩ rfl hQ0 ?_
                              clear hQ0 hH s91 s92 s90
                              intro Q hQ
                              repeat go_step
                              exact hQ _ _ (Grow.refl _) rfl rfl
                        refine obls_cons (fun f w' hR hH Q0 hQ0 => ?_) ?_
                        · skip
                          have s90 := (sv_at 90 2 hsz f [(90, 2), (93, 5)] rfl).trans (show f 2 = _ from hH.get 0 (90, 2) rfl)
                          have s93 := (sv_at 93 5 hsz f [(90, 2), (93, 5)] rfl).trans (show f 5 = _ from hH.get 1 (93, 5) rfl)
                          refine small_v hsz [(90, _), (93, _)] ⟨some 2, (Op.pick (.tmp 0) (.tmp 1) (Operand.const (Value.bool false))), 4, "", #[], none⟩ [_, _, undef] 2 rfl rfl ⟨s90, s93, trivial⟩ rfl hQ0 ?_
                          clear hQ0 hH s90 s93
                          intro Q hQ
                          repeat go_step
                          exact hQ _ _ (Grow.refl _) rfl rfl
                        refine obls_cons (fun f w' hR hH Q0 hQ0 => ?_) ?_
                        · skip
                          have s94 := (sv_at 94 6 hsz f [(94, 6)] rfl).trans (show f 6 = _ from hH.get 0 (94, 6) rfl)
                          refine small_v hsz [(94, _)] ⟨some 1, (Op.move (.tmp 0)), 4, "", #[], none⟩ [_, undef] 1 rfl rfl ⟨s94, trivial⟩ rfl hQ0 ?_
                          clear hQ0 hH s94
                          intro Q hQ
                          repeat go_step
                          exact hQ _ _ (Grow.refl _) rfl rfl
                        refine obls_cons (fun f w' hR hH Q0 hQ0 => ?_) ?_
                        · skip
                          have s13 := sv_off f [(95, 7)] e13 rfl
                          have s95 := (sv_at 95 7 hsz f [(95, 7)] rfl).trans (show f 7 = _ from hH.get 0 (95, 7) rfl)
                          first
                            | exact skip_v hsz rfl ((wanted_some (b := false) rfl rfl s95).trans rfl) hQ0 (Grow.refl _) rfl
                            | refine small_v hsz [(13, _)] ⟨some 1, (Op.move (.tmp 0)), 3, "", #[], none⟩ [_, undef] 1 rfl ((wanted_some (b := true) rfl rfl s95).trans rfl) ⟨s13, trivial⟩ rfl hQ0 ?_
                              clear hQ0 hH s13 s95
                              intro Q hQ
                              repeat go_step
                              exact hQ _ _ (Grow.refl _) rfl rfl
                        refine obls_cons (fun f w' hR hH Q0 hQ0 => ?_) ?_
                        · skip
                          have s96 := (sv_at 96 8 hsz f [(96, 8), (95, 7)] rfl).trans (show f 8 = _ from hH.get 0 (96, 8) rfl)
                          have s95 := (sv_at 95 7 hsz f [(96, 8), (95, 7)] rfl).trans (show f 7 = _ from hH.get 1 (95, 7) rfl)
                          first
                            | exact skip_v hsz rfl ((wanted_some (b := false) rfl rfl s95).trans rfl) hQ0 (Grow.refl _) rfl
                            | refine small_v hsz [(96, _)] ⟨some 1, (Op.binOp BinOp.geq 3 (.tmp 0) (Operand.const (Value.int IntKind.i64 0)) 3), 4, "", #[], none⟩ [_, undef] 1 rfl ((wanted_some (b := true) rfl rfl s95).trans rfl) ⟨s96, trivial⟩ rfl hQ0 ?_
                              clear hQ0 hH s96 s95
                              intro Q hQ
                              repeat go_step
                              exact hQ _ _ (Grow.refl _) rfl rfl
                        refine obls_cons (fun f w' hR hH Q0 hQ0 => ?_) ?_
                        · skip
                          have s95 := (sv_at 95 7 hsz f [(95, 7), (97, 9)] rfl).trans (show f 7 = _ from hH.get 0 (95, 7) rfl)
                          have s97 := (sv_at 97 9 hsz f [(95, 7), (97, 9)] rfl).trans (show f 9 = _ from hH.get 1 (97, 9) rfl)
                          refine small_v hsz [(95, _), (97, _)] ⟨some 2, (Op.pick (.tmp 0) (.tmp 1) (Operand.const (Value.bool false))), 4, "", #[], none⟩ [_, _, undef] 2 rfl rfl ⟨s95, s97, trivial⟩ rfl hQ0 ?_
                          clear hQ0 hH s95 s97
                          intro Q hQ
                          repeat go_step
                          exact hQ _ _ (Grow.refl _) rfl rfl
                        refine obls_cons (fun f w' hR hH Q0 hQ0 => ?_) ?_
                        · skip
                          have s98 := (sv_at 98 10 hsz f [(98, 10)] rfl).trans (show f 10 = _ from hH.get 0 (98, 10) rfl)
                          refine small_v hsz [(98, _)] ⟨some 1, (Op.move (.tmp 0)), 4, "", #[], none⟩ [_, undef] 1 rfl rfl ⟨s98, trivial⟩ rfl hQ0 ?_
                          clear hQ0 hH s98
                          intro Q hQ
                          repeat go_step
                          exact hQ _ _ (Grow.refl _) rfl rfl
                        refine obls_cons (fun f w' hR hH Q0 hQ0 => ?_) ?_
                        · skip
                          have s13 := sv_off f [(99, 11)] e13 rfl
                          have s99 := (sv_at 99 11 hsz f [(99, 11)] rfl).trans (show f 11 = _ from hH.get 0 (99, 11) rfl)
                          first
                            | exact skip_v hsz rfl ((wanted_some (b := false) rfl rfl s99).trans rfl) hQ0 (Grow.refl _) rfl
                            | refine small_v hsz [(13, _)] ⟨some 1, (Op.move (.tmp 0)), 3, "", #[], none⟩ [_, undef] 1 rfl ((wanted_some (b := true) rfl rfl s99).trans rfl) ⟨s13, trivial⟩ rfl hQ0 ?_
                              clear hQ0 hH s13 s99
                              intro Q hQ
                              repeat go_step
                              exact hQ _ _ (Grow.refl _) rfl rfl
                        refine obls_cons (fun f w' hR hH Q0 hQ0 => ?_) ?_
                        · skip
                          have s0 := sv_off f [(99, 11)] e0 rfl
                          have s99 := (sv_at 99 11 hsz f [(99, 11)] rfl).trans (show f 11 = _ from hH.get 0 (99, 11) rfl)
                          first
                            | exact skip_v hsz rfl ((wanted_some (b := false) rfl rfl s99).trans rfl) hQ0 (Grow.refl _) rfl
                            | refine small_v hsz [(0, _)] ⟨some 1, (Op.move (.tmp 0)), 3, "", #[], none⟩ [_, undef] 1 rfl ((wanted_some (b := true) rfl rfl s99).trans rfl) ⟨s0, trivial⟩ rfl hQ0 ?_
                              clear hQ0 hH s0 s99
                              intro Q hQ
                              repeat go_step
                              exact hQ _ _ (Grow.refl _) rfl rfl
                        refine obls_cons (fun f w' hR hH Q0 hQ0 => ?_) ?_
                        · skip
                          have s100 := (sv_at 100 12 hsz f [(100, 12), (101, 13), (99, 11)] rfl).trans (show f 12 = _ from hH.get 0 (100, 12) rfl)
                          have s101 := (sv_at 101 13 hsz f [(100, 12), (101, 13), (99, 11)] rfl).trans (show f 13 = _ from hH.get 1 (101, 13) rfl)
                          have s99 := (sv_at 99 11 hsz f [(100, 12), (101, 13), (99, 11)] rfl).trans (show f 11 = _ from hH.get 2 (99, 11) rfl)
                          first
                            | exact skip_v hsz rfl ((wanted_some (b := false) rfl rfl s99).trans rfl) hQ0 (Grow.refl _) rfl
                            | refine small_v hsz [(100, _), (101, _)] ⟨some 2, (Op.binOp BinOp.lss 3 (.tmp 0) (.tmp 1) 3), 4, "", #[], none⟩ [_, _, undef] 2 rfl ((wanted_some (b := true) rfl rfl s99).trans rfl) ⟨s100, s101, trivial⟩ rfl hQ0 ?_
                              clear hQ0 hH s100 s101 s99
                              intro Q hQ
                              repeat go_step
                              exact hQ _ _ (Grow.refl _) rfl rfl
                        refine obls_cons (fun f w' hR hH Q0 hQ0 => ?_) ?_
                        · skip
                          have s99 := (sv_at 99 11 hsz f [(99, 11), (102, 14)] rfl).trans (show f 11 = _ from hH.get 0 (99, 11) rfl)
                          have s102 := (sv_at 102 14 hsz f [(99, 11), (102, 14)] rfl).trans (show f 14 = _ from hH.get 1 (102, 14) rfl)
                          refine small_v hsz [(99, _), (102, _)] ⟨some 2, (Op.pick (.tmp 0) (.tmp 1) (Operand.const (Value.bool false))), 4, "", #[], none⟩ [_, _, undef] 2 rfl rfl ⟨s99, s102, trivial⟩ rfl hQ0 ?_
                          clear hQ0 hH s99 s102
                          intro Q hQ
                          repeat go_step
                          exact hQ _ _ (Grow.refl _) rfl rfl
                        refine obls_cons (fun f w' hR hH Q0 hQ0 => ?_) ?_
                        · skip
                          have s103 := (sv_at 103 15 hsz f [(103, 15)] rfl).trans (show f 15 = _ from hH.get 0 (103, 15) rfl)
                          refine small_v hsz [(103, _)] ⟨some 1, (Op.move (.tmp 0)), 4, "", #[], none⟩ [_, undef] 1 rfl rfl ⟨s103, trivial⟩ rfl hQ0 ?_
                          clear hQ0 hH s103
                          intro Q hQ
                          repeat go_step
                          exact hQ _ _ (Grow.refl _) rfl rfl
                        refine obls_cons (fun f w' hR hH Q0 hQ0 => ?_) ?_
                        · skip
                          have s9 := sv_off f [(104, 16)] e9 rfl
                          have s104 := (sv_at 104 16 hsz f [(104, 16)] rfl).trans (show f 16 = _ from hH.get 0 (104, 16) rfl)
                          first
                            | exact skip_v hsz rfl ((wanted_some (b := false) rfl rfl s104).trans rfl) hQ0 (Grow.refl _) rfl
                            | refine small_v hsz [(9, _)] ⟨some 1, (Op.move (.tmp 0)), 22, "", #[], none⟩ [_, undef] 1 rfl ((wanted_some (b := true) rfl rfl s104).trans rfl) ⟨s9, trivial⟩ rfl hQ0 ?_
                              clear hQ0 hH s9 s104
                              intro Q hQ
                              repeat go_step
                              exact hQ _ _ (Grow.refl _) rfl rfl
                        refine obls_cons (fun f w' hR hH Q0 hQ0 => ?_) ?_
                        · skip
                          have s12 := sv_off f [(104, 16)] e12 rfl
                          have s104 := (sv_at 104 16 hsz f [(104, 16)] rfl).trans (show f 16 = _ from hH.get 0 (104, 16) rfl)
                          first
                            | exact skip_v hsz rfl ((wanted_some (b := false) rfl rfl s104).trans rfl) hQ0 (Grow.refl _) rfl
                            | refine small_v hsz [(12, _)] ⟨some 1, (Op.move (.tmp 0)), 3, "", #[], none⟩ [_, undef] 1 rfl ((wanted_some (b := true) rfl rfl s104).trans rfl) ⟨s12, trivial⟩ rfl hQ0 ?_
                              clear hQ0 hH s12 s104
                              intro Q hQ
                              repeat go_step
                              exact hQ _ _ (Grow.refl _) rfl rfl
                        refine obls_cons (fun f w' hR hH Q0 hQ0 => ?_) ?_
                        · skip
                          have s105 := (sv_at 105 17 hsz f [(105, 17), (106, 18), (104, 16)] rfl).trans (show f 17 = _ from hH.get 0 (105, 17) rfl)
                          have s106 := (sv_at 106 18 hsz f [(105, 17), (106, 18), (104, 16)] rfl).trans (show f 18 = _ from hH.get 1 (106, 18) rfl)
                          have s104 := (sv_at 104 16 hsz f [(105, 17), (106, 18), (104, 16)] rfl).trans (show f 16 = _ from hH.get 2 (104, 16) rfl)
                          first
                            | exact skip_v hsz rfl ((wanted_some (b := false) rfl rfl s104).trans rfl) hQ0 (Grow.refl _) rfl
                            | refine small_v hsz [(105, _), (106, _)] ⟨some 2, (Op.indexAddr 22 (.tmp 0) (.tmp 1)), 0, "", #[], none⟩ [_, _, undef] 2 rfl ((wanted_some (b := true) rfl rfl s104).trans rfl) ⟨s105, s106, trivial⟩ rfl hQ0 ?_
                              clear hQ0 hH s105 s106 s104
                              intro Q hQ
                              repeat go_step
                              exact hQ _ _ (Grow.refl _) rfl rfl
                        refine obls_cons (fun f w' hR hH Q0 hQ0 => ?_) ?_
                        · skip
                          have s107 := (sv_at 107 19 hsz f [(107, 19), (104, 16)] rfl).trans (show f 19 = _ from hH.get 0 (107, 19) rfl)
                          have s104 := (sv_at 104 16 hsz f [(107, 19), (104, 16)] rfl).trans (show f 16 = _ from hH.get 1 (104, 16) rfl)
                          first
                            | exact skip_v hsz rfl ((wanted_some (b := false) rfl rfl s104).trans rfl) hQ0 (Grow.refl _) rfl
                            | refine small_v hsz [(107, _)] ⟨some 1, (Op.load 3 (.tmp 0)), 3, "", #[], none⟩ [_, undef] 1 rfl ((wanted_some (b := true) rfl rfl s104).trans rfl) ⟨s107, trivial⟩ rfl hQ0 ?_
                              clear hQ0 hH s107 s104
                              intro Q hQ
                              repeat go_step
                              exact hQ _ _ (Grow.refl _) rfl rfl
                        refine obls_cons (fun f w' hR hH Q0 hQ0 => ?_) ?_
                        · skip
                          have s9 := sv_off f [(104, 16)] e9 rfl
                          have s104 := (sv_at 104 16 hsz f [(104, 16)] rfl).trans (show f 16 = _ from hH.get 0 (104, 16) rfl)
                          first
                            | exact skip_v hsz rfl ((wanted_some (b := false) rfl rfl s104).trans rfl) hQ0 (Grow.refl _) rfl
                            | refine small_v hsz [(9, _)] ⟨some 1, (Op.move (.tmp 0)), 22, "", #[], none⟩ [_, undef] 1 rfl ((wanted_some (b := true) rfl rfl s104).trans rfl) ⟨s9, trivial⟩ rfl hQ0 ?_
                              clear hQ0 hH s9 s104
                              intro Q hQ
                              repeat go_step
                              exact hQ _ _ (Grow.refl _) rfl rfl
                        refine obls_cons (fun f w' hR hH Q0 hQ0 => ?_) ?_
                        · skip
                          have s13 := sv_off f [(104, 16)] e13 rfl
                          have s104 := (sv_at 104 16 hsz f [(104, 16)] rfl).trans (show f 16 = _ from hH.get 0 (104, 16) rfl)
                          first
                            | exact skip_v hsz rfl ((wanted_some (b := false) rfl rfl s104).trans rfl) hQ0 (Grow.refl _) rfl
                            | refine small_v hsz [(13, _)] ⟨some 1, (Op.move (.tmp 0)), 3, "", #[], none⟩ [_, undef] 1 rfl ((wanted_some (b := true) rfl rfl s104).trans rfl) ⟨s13, trivial⟩ rfl hQ0 ?_
                              clear hQ0 hH s13 s104
                              intro Q hQ
                              repeat go_step
                              exact hQ _ _ (Grow.refl _) rfl rfl
                        refine obls_cons (fun f w' hR hH Q0 hQ0 => ?_) ?_
                        · skip
                          have s109 := (sv_at 109 21 hsz f [(109, 21), (110, 22), (104, 16)] rfl).trans (show f 21 = _ from hH.get 0 (109, 21) rfl)
                          have s110 := (sv_at 110 22 hsz f [(109, 21), (110, 22), (104, 16)] rfl).trans (show f 22 = _ from hH.get 1 (110, 22) rfl)
                          have s104 := (sv_at 104 16 hsz f [(109, 21), (110, 22), (104, 16)] rfl).trans (show f 16 = _ from hH.get 2 (104, 16) rfl)
                          first
                            | exact skip_v hsz rfl ((wanted_some (b := false) rfl rfl s104).trans rfl) hQ0 (Grow.refl _) rfl
                            | refine small_v hsz [(109, _), (110, _)] ⟨some 2, (Op.indexAddr 22 (.tmp 0) (.tmp 1)), 0, "", #[], none⟩ [_, _, undef] 2 rfl ((wanted_some (b := true) rfl rfl s104).trans rfl) ⟨s109, s110, trivial⟩ rfl hQ0 ?_
                              clear hQ0 hH s109 s110 s104
                              intro Q hQ
                              repeat go_step
                              exact hQ _ _ (Grow.refl _) rfl rfl
                        refine obls_cons (fun f w' hR hH Q0 hQ0 => ?_) ?_
                        · skip
                          have s111 := (sv_at 111 23 hsz f [(111, 23), (104, 16)] rfl).trans (show f 23 = _ from hH.get 0 (111, 23) rfl)
                          have s104 := (sv_at 104 16 hsz f [(111, 23), (104, 16)] rfl).trans (show f 16 = _ from hH.get 1 (104, 16) rfl)
                          first
                            | exact skip_v hsz rfl ((wanted_some (b := false) rfl rfl s104).trans rfl) hQ0 (Grow.refl _) rfl
                            | refine small_v hsz [(111, _)] ⟨some 1, (Op.load 3 (.tmp 0)), 3, "", #[], none⟩ [_, undef] 1 rfl ((wanted_some (b := true) rfl rfl s104).trans rfl) ⟨s111, trivial⟩ rfl hQ0 ?_
                              clear hQ0 hH s111 s104
                              intro Q hQ
                              repeat go_step
                              exact hQ _ _ (Grow.refl _) rfl rfl
                        refine obls_cons (fun f w' hR hH Q0 hQ0 => ?_) ?_
                        · skip
                          have s108 := (sv_at 108 20 hsz f [(108, 20), (112, 24), (104, 16)] rfl).trans (show f 20 = _ from hH.get 0 (108, 20) rfl)
                          have s112 := (sv_at 112 24 hsz f [(108, 20), (112, 24), (104, 16)] rfl).trans (show f 24 = _ from hH.get 1 (112, 24) rfl)
                          have s104 := (sv_at 104 16 hsz f [(108, 20), (112, 24), (104, 16)] rfl).trans (show f 16 = _ from hH.get 2 (104, 16) rfl)
                          first
                            | exact skip_v hsz rfl ((wanted_some (b := false) rfl rfl s104).trans rfl) hQ0 (Grow.refl _) rfl
                            | refine small_v hsz [(108, _), (112, _)] ⟨some 2, (Op.binOp BinOp.gtr 3 (.tmp 0) (.tmp 1) 3), 4, "", #[], none⟩ [_, _, undef] 2 rfl ((wanted_some (b := true) rfl rfl s104).trans rfl) ⟨s108, s112, trivial⟩ rfl hQ0 ?_
                              clear hQ0 hH s108 s112 s104
                              intro Q hQ
                              repeat go_step
                              exact hQ _ _ (Grow.refl _) rfl rfl
                        refine obls_cons (fun f w' hR hH Q0 hQ0 => ?_) ?_
                        · skip
                          have s104 := (sv_at 104 16 hsz f [(104, 16), (113, 25)] rfl).trans (show f 16 = _ from hH.get 0 (104, 16) rfl)
                          have s113 := (sv_at 113 25 hsz f [(104, 16), (113, 25)] rfl).trans (show f 25 = _ from hH.get 1 (113, 25) rfl)
                          refine small_v hsz [(104, _), (113, _)] ⟨some 2, (Op.pick (.tmp 0) (.tmp 1) (Operand.const (Value.bool false))), 4, "", #[], none⟩ [_, _, undef] 2 rfl rfl ⟨s104, s113, trivial⟩ rfl hQ0 ?_
                          clear hQ0 hH s104 s113
                          intro Q hQ
                          repeat go_step
                          exact hQ _ _ (Grow.refl _) rfl rfl
                        refine obls_cons (fun f w' hR hH Q0 hQ0 => ?_) ?_
                        · skip
                          have s114 := (sv_at 114 26 hsz f [(114, 26)] rfl).trans (show f 26 = _ from hH.get 0 (114, 26) rfl)
                          refine small_v hsz [(114, _)] ⟨some 1, (Op.move (.tmp 0)), 4, "", #[], none⟩ [_, undef] 1 rfl rfl ⟨s114, trivial⟩ rfl hQ0 ?_
                          clear hQ0 hH s114
                          intro Q hQ
                          repeat go_step
                          exact hQ _ _ (Grow.refl _) rfl rfl
                        refine obls_cons (fun f w' hR hH Q0 hQ0 => ?_) ?_
                        · skip
                          have s7 := sv_off f [(115, 27)] e7 rfl
                          have s115 := (sv_at 115 27 hsz f [(115, 27)] rfl).trans (show f 27 = _ from hH.get 0 (115, 27) rfl)
                          first
                            | exact skip_v hsz rfl ((wanted_some (b := false) rfl rfl s115).trans rfl) hQ0 (Grow.refl _) rfl
                            | refine small_v hsz [(7, _)] ⟨some 1, (Op.move (.tmp 0)), 56, "", #[], none⟩ [_, undef] 1 rfl ((wanted_some (b := true) rfl rfl s115).trans rfl) ⟨s7, trivial⟩ rfl hQ0 ?_
                              clear hQ0 hH s7 s115
                              intro Q hQ
                              repeat go_step
                              exact hQ _ _ (Grow.refl _) rfl rfl
                        refine obls_cons (fun f w' hR hH Q0 hQ0 => ?_) ?_
                        · skip
                          have s12 := sv_off f [(115, 27)] e12 rfl
                          have s115 := (sv_at 115 27 hsz f [(115, 27)] rfl).trans (show f 27 = _ from hH.get 0 (115, 27) rfl)
                          first
                            | exact skip_v hsz rfl ((wanted_some (b := false) rfl rfl s115).trans rfl) hQ0 (Grow.refl _) rfl
                            | refine small_v hsz [(12, _)] ⟨some 1, (Op.move (.tmp 0)), 3, "", #[], none⟩ [_, undef] 1 rfl ((wanted_some (b := true) rfl rfl s115).trans rfl) ⟨s12, trivial⟩ rfl hQ0 ?_
                              clear hQ0 hH s12 s115
                              intro Q hQ
                              repeat go_step
                              exact hQ _ _ (Grow.refl _) rfl rfl
                        refine obls_cons (fun f w' hR hH Q0 hQ0 => ?_) ?_
                        · skip
                          have s13 := sv_off f [(115, 27)] e13 rfl
                          have s115 := (sv_at 115 27 hsz f [(115, 27)] rfl).trans (show f 27 = _ from hH.get 0 (115, 27) rfl)
                          first
                            | exact skip_v hsz rfl ((wanted_some (b := false) rfl rfl s115).trans rfl) hQ0 (Grow.refl _) rfl
                            | refine small_v hsz [(13, _)] ⟨some 1, (Op.move (.tmp 0)), 3, "", #[], none⟩ [_, undef] 1 rfl ((wanted_some (b := true) rfl rfl s115).trans rfl) ⟨s13, trivial⟩ rfl hQ0 ?_
                              clear hQ0 hH s13 s115
                              intro Q hQ
                              repeat go_step
                              exact hQ _ _ (Grow.refl _) rfl rfl
                        refine obls_cons (fun f w' hR hH Q0 hQ0 => ?_) ?_
                        · skip
                          have s116 := (sv_at 116 28 hsz f [(116, 28), (117, 29), (118, 30), (115, 27)] rfl).trans (show f 28 = _ from hH.get 0 (116, 28) rfl)
                          have s117 := (sv_at 117 29 hsz f [(116, 28), (117, 29), (118, 30), (115, 27)] rfl).trans (show f 29 = _ from hH.get 1 (117, 29) rfl)
                          have s118 := (sv_at 118 30 hsz f [(116, 28), (117, 29), (118, 30), (115, 27)] rfl).trans (show f 30 = _ from hH.get 2 (118, 30) rfl)
                          have s115 := (sv_at 115 27 hsz f [(116, 28), (117, 29), (118, 30), (115, 27)] rfl).trans (show f 27 = _ from hH.get 3 (115, 27) rfl)
                          first
                            | exact skip_v hsz rfl ((wanted_some (b := false) rfl rfl s115).trans rfl) hQ0 (Grow.refl _) rfl
                            | refine small_v hsz [(116, _), (117, _), (118, _)] ⟨some 3, (Op.call (Call.mk (Callee.value (Operand.func 46)) #[(.tmp 0), (.tmp 1), (.tmp 2)] #[56, 3, 3])), 4, "", #[], none⟩ [_, _, _, undef] 3 rfl ((wanted_some (b := true) rfl rfl s115).trans rfl) ⟨s116, s117, s118, trivial⟩ (ren_call rfl rfl) hQ0 ?_
                              clear hQ0 hH s116 s117 s118 s115
                              intro Q hQ
                              repeat go_step
                              exact hQ _ _ (Grow.refl _) rfl rfl
                        refine obls_cons (fun f w' hR hH Q0 hQ0 => ?_) ?_
                        · skip
                          have s119 := (sv_at 119 31 hsz f [(119, 31), (115, 27)] rfl).trans (show f 31 = _ from hH.get 0 (119, 31) rfl)
                          have s115 := (sv_at 115 27 hsz f [(119, 31), (115, 27)] rfl).trans (show f 27 = _ from hH.get 1 (115, 27) rfl)
                          first
                            | exact skip_v hsz rfl ((wanted_some (b := false) rfl rfl s115).trans rfl) hQ0 (Grow.refl _) rfl
                            | refine small_v hsz [(119, _)] ⟨some 1, (Op.unOp UnOp.not 4 (.tmp 0)), 4, "", #[], none⟩ [_, undef] 1 rfl ((wanted_some (b := true) rfl rfl s115).trans rfl) ⟨s119, trivial⟩ rfl hQ0 ?_
                              clear hQ0 hH s119 s115
                              intro Q hQ
                              repeat go_step
                              exact hQ _ _ (Grow.refl _) rfl rfl
                        refine obls_cons (fun f w' hR hH Q0 hQ0 => ?_) ?_
                        · skip
                          have s115 := (sv_at 115 27 hsz f [(115, 27), (120, 32)] rfl).trans (show f 27 = _ from hH.get 0 (115, 27) rfl)
                          have s120 := (sv_at 120 32 hsz f [(115, 27), (120, 32)] rfl).trans (show f 32 = _ from hH.get 1 (120, 32) rfl)
                          refine small_v hsz [(115, _), (120, _)] ⟨some 2, (Op.pick (.tmp 0) (.tmp 1) (Operand.const (Value.bool false))), 4, "", #[], none⟩ [_, _, undef] 2 rfl rfl ⟨s115, s120, trivial⟩ rfl hQ0 ?_
                          clear hQ0 hH s115 s120
                          intro Q hQ
                          repeat go_step
                          exact hQ _ _ (Grow.refl _) rfl rfl
                        exact obls_nil
                      case mono => exact ⟨Mono.veq _, Mono.veq _, Mono.veq _, Mono.veq _, Mono.veq _, Mono.veq _, Mono.veq _, Mono.veq _, Mono.veq _, Mono.veq _, Mono.veq _, Mono.veq _, Mono.veq _, Mono.veq _, Mono.veq _, Mono.veq _, Mono.veq _, Mono.veq _, Mono.veq _, Mono.veq _, Mono.veq _, Mono.veq _, Mono.veq _, Mono.veq _, Mono.veq _, Mono.veq _, Mono.veq _, Mono.veq _, Mono.veq _, Mono.veq _, Mono.veq _, Mono.veq _, Mono.veq _, Mono.veq _, trivial⟩
                      case tail =>
                        intro f w' hR hH
                        have q33 : (veq (Value.bool false)) (f 33) w' := hH.get 33 (121, 33) rfl
                        clear hH
                        refine wpList_merge (idx := [none, none, none, none, none, none, none, none, none, none, none, none, none, none, none, none, none, none, none, none, none, none, none, none, none, none, none, none, none, none, none, none, none, none, none, none, none, none, none, none, none, none, none, none, none, none, none, none, none, none, none, none, none, none, none, none, none, none, none, none, none, none, none, none, none, none, none, none, none, none, none, none, none, none, none, none, none, none, none, none, none, none, none, none, none, none, none, none, some 0, some 1, some 2, some 3, some 4, some 5, some 6, some 7, some 8, some 9, some 10, some 11, some 12, some 13, some 14, some 15, some 16, some 17, some 18, some 19, some 20, some 21, some 22, some 23, some 24, some 25, some 26, some 27, some 28, some 29, some 30, some 31, some 32, some 33, none, none, none, none, none, none, none, none, none, none, none, none, none, none, none, none, none, none, none, none, none, none, none, none, none, none, none, none, none, none, none, none, none, none, none, none, none, none, none, none, none]) (by kernel_rfl) ?_; show wpList _ _ _ [] ⟨#[_, _, _, _, _, _, _, _, _, _, _, _, _, _, _, _, _, _, _, _, _, _, _, _, _, _, _, _, _, _, _, _, _, _, _, _, _, _, _, _, _, _, _, _, _, _, _, _, _, _, _, _, _, _, _, _, _, _, _, _, _, _, _, _, _, _, _, _, _, _, _, _, _, _, _, _, _, _, _, _, _, _, _, _, _, _, _, _, f 0, f 1, f 2, f 3, f 4, f 5, f 6, f 7, f 8, f 9, f 10, f 11, f 12, f 13, f 14, f 15, f 16, f 17, f 18, f 19, f 20, f 21, f 22, f 23, f 24, f 25, f 26, f 27, f 28, f 29, f 30, f 31, f 32, f 33, _, _, _, _, _, _, _, _, _, _, _, _, _, _, _, _, _, _, _, _, _, _, _, _, _, _, _, _, _, _, _, _, _, _, _, _, _, _, _, _, _], _⟩ _
                        obtain ⟨x33, hx33⟩ : ∃ x, f 33 = x := ⟨_, rfl⟩
                        rw [hx33] at q33 ⊢
                        clear hx33
                        obtain rfl := q33
                        have HG7 := Lib.hid (HG6.out.trans hR)
                        clear hR
                        go_wp2_with fail
                        go_roundw
                        case rel => exact ⟨k + 1, by have := HLTk.out; omega, by go_num, HG7.out⟩
                        case measure => have := HLTk.out; simp [intOf] <;> omega
                  · have s1 : decide (0 ≤ x1) = false := decide_eq_false d1
                    clear d1 KA
                    go_wp2_with fail
                    apply (fun (v0 v1 v2 v3 v4 v5 v6 v7 v8 v9 v10 v11 v12 v13 v14 v15 v16 v17 v18 v19 v20 v21 v22 v23 v24 v25 v26 v27 v28 v29 v30 v31 v32 : Value) mono obl tail => wp_region_par (R := Grow) (Φ := phi [veq v0, veq v1, veq v2, veq v3, veq v4, veq v5, veq v6, veq v7, veq v8, veq v9, veq v10, veq v11, veq v12, veq v13, veq v14, veq v15, veq v16, veq v17, veq v18, veq v19, veq v20, veq v21, veq v22, veq v23, veq v24, veq v25, veq v26, veq v27, veq v28, veq v29, veq v30, veq v31, veq v32, (veq (Value.bool false))]) (m := 34) (dls := [[], [(88, 0)], [(89, 1)], [(90, 2)], [(90, 2)], [(91, 3), (92, 4), (90, 2)], [(90, 2), (93, 5)], [(94, 6)], [(95, 7)], [(96, 8), (95, 7)], [(95, 7), (97, 9)], [(98, 10)], [(99, 11)], [(99, 11)], [(100, 12), (101, 13), (99, 11)], [(99, 11), (102, 14)], [(103, 15)], [(104, 16)], [(104, 16)], [(105, 17), (106, 18), (104, 16)], [(107, 19), (104, 16)], [(104, 16)], [(104, 16)], [(109, 21), (110, 22), (104, 16)], [(111, 23), (104, 16)], [(108, 20), (112, 24), (104, 16)], [(104, 16), (113, 25)], [(114, 26)], [(115, 27)], [(115, 27)], [(115, 27)], [(116, 28), (117, 29), (118, 30), (115, 27)], [(119, 31), (115, 27)], [(115, 27), (120, 32)]]) (ds := [88, 89, 90, 91, 92, 93, 94, 95, 96, 97, 98, 99, 100, 101, 102, 103, 104, 105, 106, 107, 108, 109, 110, 111, 112, 113, 114, 115, 116, 117, 118, 119, 120, 121]) (by kernel_rfl) (by kernel_rfl) (by decide) rfl (Grow.drew _) (fun _ _ _ => Grow.trans) (mono_phi mono) obl tail)
                    case obl =>
                      refine obls_frame (fun a1 ha => ?_)
                      have hsz := rd_size (n := 163) ha rfl
                      have e12 := rd_slot 12 ha rfl
                      have e0 := rd_slot 0 ha rfl
                      have e13 := rd_slot 13 ha rfl
                      have e9 := rd_slot 9 ha rfl
                      have e7 := rd_slot 7 ha rfl
                      clear ha
                      refine obls_cons (fun f w' hR hH Q0 hQ0 => ?_) ?_
                      · skip
                        have s12 := sv_off f [] e12 rfl
                        refine small_v hsz [(12, _)] ⟨some 1, (Op.move (.tmp 0)), 3, "", #[], none⟩ [_, undef] 1 rfl rfl ⟨s12, trivial⟩ rfl hQ0 ?_
                        clear hQ0 hH s12
                        intro Q hQ
                        repeat go_step
                        exact hQ _ _ (Grow.refl _) rfl rfl
                      refine obls_cons (fun f w' hR hH Q0 hQ0 => ?_) ?_
                      · skip
                        have s88 := (sv_at 88 0 hsz f [(88, 0)] rfl).trans (show f 0 = _ from hH.get 0 (88, 0) rfl)
                        refine small_v hsz [(88, _)] ⟨some 1, (Op.binOp BinOp.geq 3 (.tmp 0) (Operand.const (Value.int IntKind.i64 0)) 3), 4, "", #[], none⟩ [_, undef] 1 rfl rfl ⟨s88, trivial⟩ rfl hQ0 ?_
                        clear hQ0 hH s88
                        intro Q hQ
                        repeat go_step
                        exact hQ _ _ (Grow.refl _) rfl rfl
                      refine obls_cons (fun f w' hR hH Q0 hQ0 => ?_) ?_
                      · skip
                        have s89 := (sv_at 89 1 hsz f [(89, 1)] rfl).trans (show f 1 = _ from hH.get 0 (89, 1) rfl)
                        refine small_v hsz [(89, _)] ⟨some 1, (Op.move (.tmp 0)), 4, "", #[], none⟩ [_, undef] 1 rfl rfl ⟨s89, trivial⟩ rfl hQ0 ?_
                        clear hQ0 hH s89
                        intro Q hQ
                        repeat go_step
                        exact hQ _ _ (Grow.refl _) rfl rfl
                      refine obls_cons (fun f w' hR hH Q0 hQ0 => ?_) ?_
                      · skip
                        have s12 := sv_off f [(90, 2)] e12 rfl
                        have s90 := (sv_at 90 2 hsz f [(90, 2)] rfl).trans (show f 2 = _ from hH.get 0 (90, 2) rfl)
                        first
                          | exact skip_v hsz rfl ((wanted_some (b := false) rfl rfl s90).trans rfl) hQ0 (Grow.refl _) rfl
                          | refine small_v hsz [(12, _)] ⟨some 1, (Op.move (.tmp 0)), 3, "", #[], none⟩ [_, undef] 1 rfl ((wanted_some (b := true) rfl rfl s90).trans rfl) ⟨s12, trivial⟩ rfl hQ0 ?_
                            clear hQ0 hH s12 s90
                            intro Q hQ
                            repeat go_step
                            exact hQ _ _ (Grow.refl _) rfl rfl
                      refine obls_cons (fun f w' hR hH Q0 hQ0 => ?_) ?_
                      · skip
                        have s0 := sv_off f [(90, 2)] e0 rfl
                        have s90 := (sv_at 90 2 hsz f [(90, 2)] rfl).trans (show f 2 = _ from hH.get 0 (90, 2) rfl)
                        first
                          | exact skip_v hsz rfl ((wanted_some (b := false) rfl rfl s90).trans rfl) hQ0 (Grow.refl _) rfl
                          | refine small_v hsz [(0, _)] ⟨some 1, (Op.move (.tmp 0)), 3, "", #[], none⟩ [_, undef] 1 rfl ((wanted_some (b := true) rfl rfl s90).trans rfl) ⟨s0, trivial⟩ rfl hQ0 ?_
                            clear hQ0 hH s0 s90
                            intro Q hQ
                            repeat go_step
                            exact hQ _ _ (Grow.refl _) rfl rfl
                      refine obls_cons (fun f w' hR hH Q0 hQ0 => ?_) ?_
                      · skip
                        have s91 := (sv_at 91 3 hsz f [(91, 3), (92, 4), (90, 2)] rfl).trans (show f 3 = _ from hH.get 0 (91, 3) rfl)
                        have s92 := (sv_at 92 4 hsz f [(91, 3), (92, 4), (90, 2)] rfl).trans (show f 4 = _ from hH.get 1 (92, 4) rfl)
                        have s90 := (sv_at 90 2 hsz f [(91, 3), (92, 4), (90, 2)] rfl).trans (show f 2 = _ from hH.get 2 (90, 2) rfl)
                        first
                          | exact skip_v hsz rfl ((wanted_some (b := false) rfl rfl s90).trans rfl) hQ0 (Grow.refl _) rfl
                          | refine small_v hsz [(91, _), (92, _)] ⟨some 2, (Op.binOp BinOp.lss 3 (.tmp 0) (.tmp 1) 3), 4, "", #[], none⟩ [_, _, undef] 2 rfl ((wanted_some (b := true) rfl rfl s90).trans rfl) ⟨s91, s92, trivial⟩ rfl hQ0 ?_
                            clear hQ0 hH s91 s92 s90
                            intro Q hQ
                            repeat go_step
                            exact hQ _ _ (Grow.refl _) rfl rfl
                      refine obls_cons (fun f w' hR hH Q0 hQ0 => ?_) ?_
                      · skip
                        have s90 := (sv_at 90 2 hsz f [(90, 2), (93, 5)] rfl).trans (show f 2 = _ from hH.get 0 (90, 2) rfl)
                        have s93 := (sv_at 93 5 hsz f [(90, 2), (93, 5)] rfl).trans (show f 5 = _ from hH.get 1 (93, 5) rfl)
                        refine small_v hsz [(90, _), (93, _)] ⟨some 2, (Op.pick (.tmp 0) (.tmp 1) (Operand.const (Value.bool false))), 4, "", #[], none⟩ [_, _, undef] 2 rfl rfl ⟨s90, s93, trivial⟩ rfl hQ0 ?_
                        clear hQ0 hH s90 s93
                        intro Q hQ
                        repeat go_step
                        exact hQ _ _ (Grow.refl _) rfl rfl
                      refine obls_cons (fun f w' hR hH Q0 hQ0 => ?_) ?_
                      · skip
                        have s94 := (sv_at 94 6 hsz f [(94, 6)] rfl).trans (show f 6 = _ from hH.get 0 (94, 6) rfl)
                        refine small_v hsz [(94, _)] ⟨some 1, (Op.move (.tmp 0)), 4, "", #[], none⟩ [_, undef] 1 rfl rfl ⟨s94, trivial⟩ rfl hQ0 ?_
                        clear hQ0 hH s94
                        intro Q hQ
                        repeat go_step
                        exact hQ _ _ (Grow.refl _) rfl rfl
                      refine obls_cons (fun f w' hR hH Q0 hQ0 => ?_) ?_
                      · skip
                        have s13 := sv_off f [(95, 7)] e13 rfl
                        have s95 := (sv_at 95 7 hsz f [(95, 7)] rfl).trans (show f 7 = _ from hH.get 0 (95, 7) rfl)
                        first
                          | exact skip_v hsz rfl ((wanted_some (b := false) rfl rfl s95).trans rfl) hQ0 (Grow.refl _) rfl
                          | refine small_v hsz [(13, _)] ⟨some 1, (Op.move (.tmp 0)), 3, "", #[], none⟩ [_, undef] 1 rfl ((wanted_some (b := true) rfl rfl s95).trans rfl) ⟨s13, trivial⟩ rfl hQ0 ?_
                            clear hQ0 hH s13 s95
                            intro Q hQ
                            repeat go_step
                            exact hQ _ _ (Grow.refl _) rfl rfl
                      refine obls_cons (fun f w' hR hH Q0 hQ0 => ?_) ?_
                      · skip
                        have s96 := (sv_at 96 8 hsz f [(96, 8), (95, 7)] rfl).trans (show f 8 = _ from hH.get 0 (96, 8) rfl)
                        have s95 := (sv_at 95 7 hsz f [(96, 8), (95, 7)] rfl).trans (show f 7 = _ from hH.get 1 (95, 7) rfl)
                        first
                          | exact skip_v hsz rfl ((wanted_some (b := false) rfl rfl s95).trans rfl) hQ0 (Grow.refl _) rfl
                          | refine small_v hsz [(96, _)] ⟨some 1, (Op.binOp BinOp.geq 3 (.tmp 0) (Operand.const (Value.int IntKind.i64 0)) 3), 4, "", #[], none⟩ [_, undef] 1 rfl ((wanted_some (b := true) rfl rfl s95).trans rfl) ⟨s96, trivial⟩ rfl hQ0 ?_
                            clear hQ0 hH s96 s95
                            intro Q hQ
                            repeat go_step
                            exact hQ _ _ (Grow.refl _) rfl rfl
                      refine obls_cons (fun f w' hR hH Q0 hQ0 => ?_) ?_
                      · skip
                        have s95 := (sv_at 95 7 hsz f [(95, 7), (97, 9)] rfl).trans (show f 7 = _ from hH.get 0 (95, 7) rfl)
                        have s97 := (sv_at 97 9 hsz f [(95, 7), (97, 9)] rfl).trans (show f 9 = _ from hH.get 1 (97, 9) rfl)
                        refine small_v hsz [(95, _), (97, _)] ⟨some 2, (Op.pick (.tmp 0) (.tmp 1) (Operand.const (Value.bool false))), 4, "", #[], none⟩ [_, _, undef] 2 rfl rfl ⟨s95, s97, trivial⟩ rfl hQ0 ?_
                        clear hQ0 hH s95 s97
                        intro Q hQ
                        repeat go_step
                        exact hQ _ _ (Grow.refl _) rfl rfl
                      refine obls_cons (fun f w' hR hH Q0 hQ0 => ?_) ?_
                      · skip
                        have s98 := (sv_at 98 10 hsz f [(98, 10)] rfl).trans (show f 10 = _ from hH.get 0 (98, 10) rfl)
                        refine small_v hsz [(98, _)] ⟨some 1, (Op.move (.tmp 0)), 4, "", #[], none⟩ [_, undef] 1 rfl rfl ⟨s98, trivial⟩ rfl hQ0 ?_
                        clear hQ0 hH s98
                        intro Q hQ
                        repeat go_step
                        exact hQ _ _ (Grow.refl _) rfl rfl
                      refine obls_cons (fun f w' hR hH Q0 hQ0 => ?_) ?_
                      · skip
                        have s13 := sv_off f [(99, 11)] e13 rfl
                        have s99 := (sv_at 99 11 hsz f [(99, 11)] rfl).trans (show f 11 = _ from hH.get 0 (99, 11) rfl)
                        first
                          | exact skip_v hsz rfl ((wanted_some (b := false) rfl rfl s99).trans rfl) hQ0 (Grow.refl _) rfl
                          | refine small_v hsz [(13, _)] ⟨some 1, (Op.move (.tmp 0)), 3, "", #[], none⟩ [_, undef] 1 rfl ((wanted_some (b := true) rfl rfl s99).trans rfl) ⟨s13, trivial⟩ rfl hQ0 ?_
                            clear hQ0 hH s13 s99
                            intro Q hQ
                            repeat go_step
                            exact hQ _ _ (Grow.refl _) rfl rfl
                      refine obls_cons (fun f w' hR hH Q0 hQ0 => ?_) ?_
                      · skip
                        have s0 := sv_off f [(99, 11)] e0 rfl
                        have s99 := (sv_at 99 11 hsz f [(99, 11)] rfl).trans (show f 11 = _ from hH.get 0 (99, 11) rfl)
                        first
                          | exact skip_v hsz rfl ((wanted_some (b := false) rfl rfl s99).trans rfl) hQ0 (Grow.refl _) rfl
                          | refine small_v hsz [(0, _)] ⟨some 1, (Op.move (.tmp 0)), 3, "", #[], none⟩ [_, undef] 1 rfl ((wanted_some (b := true) rfl rfl s99).trans rfl) ⟨s0, trivial⟩ rfl hQ0 ?_
                            clear hQ0 hH s0 s99
                            intro Q hQ
                            repeat go_step
                            exact hQ _ _ (Grow.refl _) rfl rfl
                      refine obls_cons (fun f w' hR hH Q0 hQ0 => ?_) ?_
                      · skip
                        have s100 := (sv_at 100 12 hsz f [(100, 12), (101, 13), (99, 11)] rfl).trans (show f 12 = _ from hH.get 0 (100, 12) rfl)
                        have s101 := (sv_at 101 13 hsz f [(100, 12), (101, 13), (99, 11)] rfl).trans (show f 13 = _ from hH.get 1 (101, 13) rfl)
                        have s99 := (sv_at 99 11 hsz f [(100, 12), (101, 13), (99, 11)] rfl).trans (show f 11 = _ from hH.get 2 (99, 11) rfl)
                        first
                          | exact skip_v hsz rfl ((wanted_some (b := false) rfl rfl s99).trans rfl) hQ0 (Grow.refl _) rfl
                          | refine small_v hsz [(100, _), (101, _)] ⟨some 2, (Op.binOp BinOp.lss 3 (.tmp 0) (.tmp 1) 3), 4, "", #[], none⟩ [_, _, undef] 2 rfl ((wanted_some (b := true) rfl rfl s99).trans rfl) ⟨s100, s101, trivial⟩ rfl hQ0 ?_
                            clear hQ0 hH s100 s101 s99
                            intro Q hQ
                            repeat go_step
                            exact hQ _ _ (Grow.refl _) rfl rfl
                      refine obls_cons (fun f w' hR hH Q0 hQ0 => ?_) ?_
                      · skip
                        have s99 := (sv_at 99 11 hsz f [(99, 11), (102, 14)] rfl).trans (show f 11 = _ from hH.get 0 (99, 11) rfl)
                        have s102 := (sv_at 102 14 hsz f [(99, 11), (102, 14)] rfl).trans (show f 14 = _ from hH.get 1 (102, 14) rfl)
                        refine small_v hsz [(99, _), (102, _)] ⟨some 2, (Op.pick (.tmp 0) (.tmp 1) (Operand.const (Value.bool false))), 4, "", #[], none⟩ [_, _, undef] 2 rfl rfl ⟨s99, s102, trivial⟩ rfl hQ0 ?_
                        clear hQ0 hH s99 s102
                        intro Q hQ
                        repeat go_step
                        exact hQ _ _ (Grow.refl _) rfl rfl
                      refine obls_cons (fun f w' hR hH Q0 hQ0 => ?_) ?_
                      · skip
                        have s103 := (sv_at 103 15 hsz f [(103, 15)] rfl).trans (show f 15 = _ from hH.get 0 (103, 15) rfl)
                        refine small_v hsz [(103, _)] ⟨some 1, (Op.move (.tmp 0)), 4, "", #[], none⟩ [_, undef] 1 rfl rfl ⟨s103, trivial⟩ rfl hQ0 ?_
                        clear hQ0 hH s103
                        intro Q hQ
                        repeat go_step
                        exact hQ _ _ (Grow.refl _) rfl rfl
                      refine obls_cons (fun f w' hR hH Q0 hQ0 => ?_) ?_
                      · skip
                        have s9 := sv_off f [(104, 16)] e9 rfl
                        have s104 := (sv_at 104 16 hsz f [(104, 16)] rfl).trans (show f 16 = _ from hH.get 0 (104, 16) rfl)
                        first
                          | exact skip_v hsz rfl ((wanted_some (b := false) rfl rfl s104).trans rfl) hQ0 (Grow.refl _) rfl
                          | refine small_v hsz [(9, _)] ⟨some 1, (Op.move (.tmp 0)), 22, "", #[], none⟩ [_, undef] 1 rfl ((wanted_some (b := true) rfl rfl s104).trans rfl) ⟨s9, trivial⟩ rfl hQ0 ?_
                            clear hQ0 hH s9 s104
                            intro Q hQ
                            repeat go_step
                            exact hQ _ _ (Grow.refl _) rfl rfl
                      refine obls_cons (fun f w' hR hH Q0 hQ0 => ?_) ?_
                      · skip
                        have s12 := sv_off f [(104, 16)] e12 rfl
                        have s104 := (sv_at 104 16 hsz f [(104, 16)] rfl).trans (show f 16 = _ from hH.get 0 (104, 16) rfl)
                        first
                          | exact skip_v hsz rfl ((wanted_some (b := false) rfl rfl s104).trans rfl) hQ0 (Grow.refl _) rfl
                          | refine small_v hsz [(12, _)] ⟨some 1, (Op.move (.tmp 0)), 3, "", #[], none⟩ [_, undef] 1 rfl ((wanted_some (b := true) rfl rfl s104).trans rfl) ⟨s12, trivial⟩ rfl hQ0 ?_
                            clear hQ0 hH s12 s104
                            intro Q hQ
                            repeat go_step
                            exact hQ _ _ (Grow.refl _) rfl rfl
                      refine obls_cons (fun f w' hR hH Q0 hQ0 => ?_) ?_
                      · skip
                        have s105 := (sv_at 105 17 hsz f [(105, 17), (106, 18), (104, 16)] rfl).trans (show f 17 = _ from hH.get 0 (105, 17) rfl)
                        have s106 := (sv_at 106 18 hsz f [(105, 17), (106, 18), (104, 16)] rfl).trans (show f 18 = _ from hH.get 1 (106, 18) rfl)
                        have s104 := (sv_at 104 16 hsz f [(105, 17), (106, 18), (104, 16)] rfl).trans (show f 16 = _ from hH.get 2 (104, 16) rfl)
                        first
                          | exact skip_v hsz rfl ((wanted_some (b := false) rfl rfl s104).trans rfl) hQ0 (Grow.refl _) rfl
                          | refine small_v hsz [(105, _), (106, _)] ⟨some 2, (Op.indexAddr 22 (.tmp 0) (.tmp 1)), 0, "", #[], none⟩ [_, _, undef] 2 rfl ((wanted_some (b := true) rfl rfl s104).trans rfl) ⟨s105, s106, trivial⟩ rfl hQ0 ?_
                            clear hQ0 hH s105 s106 s104
                            intro Q hQ
                            repeat go_step
                            exact hQ _ _ (Grow.refl _) rfl rfl
                      refine obls_cons (fun f w' hR hH Q0 hQ0 => ?_) ?_
                      · skip
                        have s107 := (sv_at 107 19 hsz f [(107, 19), (104, 16)] rfl).trans (show f 19 = _ from hH.get 0 (107, 19) rfl)
                        have s104 := (sv_at 104 16 hsz f [(107, 19), (104, 16)] rfl).trans (show f 16 = _ from hH.get 1 (104, 16) rfl)
                        first
                          | exact skip_v hsz rfl ((wanted_some (b := false) rfl rfl s104).trans rfl) hQ0 (Grow.refl _) rfl
                          | refine small_v hsz [(107, _)] ⟨some 1, (Op.load 3 (.tmp 0)), 3, "", #[], none⟩ [_, undef] 1 rfl ((wanted_some (b := true) rfl rfl s104).trans rfl) ⟨s107, trivial⟩ rfl hQ0 ?_
                            clear hQ0 hH s107 s104
                            intro Q hQ
                            repeat go_step
                            exact hQ _ _ (Grow.refl _) rfl rfl
                      refine obls_cons (fun f w' hR hH Q0 hQ0 => ?_) ?_
                      · skip
                        have s9 := sv_off f [(104, 16)] e9 rfl
                        have s104 := (sv_at 104 16 hsz f [(104, 16)] rfl).trans (show f 16 = _ from hH.get 0 (104, 16) rfl)
                        first
                          | exact skip_v hsz rfl ((wanted_some (b := false) rfl rfl s104).trans rfl) hQ0 (Grow.refl _) rfl
                          | refine small_v hsz [(9, _)] ⟨some 1, (Op.move (.tmp 0)), 22, "", #[], none⟩ [_, undef] 1 rfl ((wanted_some (b := true) rfl rfl s104).trans rfl) ⟨s9, trivial⟩ rfl hQ0 ?_
                            clear hQ0 hH s9 s104
                            intro Q hQ
                            repeat go_step
                            exact hQ _ _ (Grow.refl _) rfl rfl
                      refine obls_cons (fun f w' hR hH Q0 hQ0 => ?_) ?_
                      · skip
                        have s13 := sv_off f [(104, 16)] e13 rfl
                        have s104 := (sv_at 104 16 hsz f [(104, 16)] rfl).trans (show f 16 = _ from hH.get 0 (104, 16) rfl)
                        first
                          | exact skip_v hsz rfl ((wanted_some (b := false) rfl rfl s104).trans rfl) hQ0 (Grow.refl _) rfl
                          | refine small_v hsz [(13, _)] ⟨some 1, (Op.move (.tmp 0)), 3, "", #[], none⟩ [_, undef] 1 rfl ((wanted_some (b := true) rfl rfl s104).trans rfl) ⟨s13, trivial⟩ rfl hQ0 ?_
                            clear hQ0 hH s13 s104
                            intro Q hQ
                            repeat go_step
                            exact hQ _ _ (Grow.refl _) rfl rfl
                      refine obls_cons (fun f w' hR hH Q0 hQ0 => ?_) ?_
                      · skip
                        have s109 := (sv_at 109 21 hsz f [(109, 21), (110, 22), (104, 16)] rfl).trans (show f 21 = _ from hH.get 0 (109, 21) rfl)
                        have s110 := (sv_at 110 22 hsz f [(109, 21), (110, 22), (104, 16)] rfl).trans (show f 22 = _ from hH.get 1 (110, 22) rfl)
                        have s104 := (sv_at 104 16 hsz f [(109, 21), (110, 22), (104, 16)] rfl).trans (show f 16 = _ from hH.get 2 (104, 16) rfl)
                        first
                          | exact skip_v hsz rfl ((wanted_some (b := false) rfl rfl s104).trans rfl) hQ0 (Grow.refl _) rfl
                          | refine small_v hsz [(109, _), (110, _)] ⟨some 2, (Op.indexAddr 22 (.tmp 0) (.tmp 1)), 0, "", #[], none⟩ [_, _, undef] 2 rfl ((wanted_some (b := true) rfl rfl s104).trans rfl) ⟨s109, s110, trivial⟩ rfl hQ0 ?_
                            clear hQ0 hH s109 s110 s104
                            intro Q hQ
                            repeat go_step
                            exact hQ _ _ (Grow.refl _) rfl rfl
                      refine obls_cons (fun f w' hR hH Q0 hQ0 => ?_) ?_
                      · skip
                        have s111 := (sv_at 111 23 hsz f [(111, 23), (104, 16)] rfl).trans (show f 23 = _ from hH.get 0 (111, 23) rfl)
                        have s104 := (sv_at 104 16 hsz f [(111, 23), (104, 16)] rfl).trans (show f 16 = _ from hH.get 1 (104, 16) rfl)
                        first
                          | exact skip_v hsz rfl ((wanted_some (b := false) rfl rfl s104).trans rfl) hQ0 (Grow.refl _) rfl
                          | refine small_v hsz [(111, _)] ⟨some 1, (Op.load 3 (.tmp 0)), 3, "", #[], none⟩ [_, undef] 1 rfl ((wanted_some (b := true) rfl rfl s104).trans rfl) ⟨s111, trivial⟩ rfl hQ0 ?_
                            clear hQ0 hH s111 s104
                            intro Q hQ
                            repeat go_step
                            exact hQ _ _ (Grow.refl _) rfl rfl
                      refine obls_cons (fun f w' hR hH Q0 hQ0 => ?_) ?_
                      · skip
                        have s108 := (sv_at 108 20 hsz f [(108, 20), (112, 24), (104, 16)] rfl).trans (show f 20 = _ from hH.get 0 (108, 20) rfl)
                        have s112 := (sv_at 112 24 hsz f [(108, 20), (112, 24), (104, 16)] rfl).trans (show f 24 = _ from hH.get 1 (112, 24) rfl)
                        have s104 := (sv_at 104 16 hsz f [(108, 20), (112, 24), (104, 16)] rfl).trans (show f 16 = _ from hH.get 2 (104, 16) rfl)
                        first
                          | exact skip_v hsz rfl ((wanted_some (b := false) rfl rfl s104).trans rfl) hQ0 (Grow.refl _) rfl
                          | refine small_v hsz [(108, _), (112, _)] ⟨some 2, (Op.binOp BinOp.gtr 3 (.tmp 0) (.tmp 1) 3), 4, "", #[], none⟩ [_, _, undef] 2 rfl ((wanted_some (b := true) rfl rfl s104).trans rfl) ⟨s108, s112, trivial⟩ rfl hQ0 ?_
                            clear hQ0 hH s108 s112 s104
                            intro Q hQ
                            repeat go_step
                            exact hQ _ _ (Grow.refl _) rfl rfl
                      refine obls_cons (fun f w' hR hH Q0 hQ0 => ?_) ?_
                      · skip
                        have s104 := (sv_at 104 16 hsz f [(104, 16), (113, 25)] rfl).trans (show f 16 = _ from hH.get 0 (104, 16) rfl)
                        have s113 := (sv_at 113 25 hsz f [(104, 16), (113, 25)] rfl).trans (show f 25 = _ from hH.get 1 (113, 25) rfl)
                        refine small_v hsz [(104, _), (113, _)] ⟨some 2, (Op.pick (.tmp 0) (.tmp 1) (Operand.const (Value.bool false))), 4, "", #[], none⟩ [_, _, undef] 2 rfl rfl ⟨s104, s113, trivial⟩ rfl hQ0 ?_
                        clear hQ0 hH s104 s113
                        intro Q hQ
                        repeat go_step
                        exact hQ _ _ (Grow.refl _) rfl rfl
                      refine obls_cons (fun f w' hR hH Q0 hQ0 => ?_) ?_
                      · skip
                        have s114 := (sv_at 114 26 hsz f [(114, 26)] rfl).trans (show f 26 = _ from hH.get 0 (114, 26) rfl)
                        refine small_v hsz [(114, _)] ⟨some 1, (Op.move (.tmp 0)), 4, "", #[], none⟩ [_, undef] 1 rfl rfl ⟨s114, trivial⟩ rfl hQ0 ?_
                        clear hQ0 hH s114
                        intro Q hQ
                        repeat go_step
                        exact hQ _ _ (Grow.refl _) rfl rfl
                      refine obls_cons (fun f w' hR hH Q0 hQ0 => ?_) ?_
                      · skip
                        have s7 := sv_off f [(115, 27)] e7 rfl
                        have s115 := (sv_at 115 27 hsz f [(115, 27)] rfl).trans (show f 27 = _ from hH.get 0 (115, 27) rfl)
                        first
                          | exact skip_v hsz rfl ((wanted_some (b := false) rfl rfl s115).trans rfl) hQ0 (Grow.refl _) rfl
                          | refine small_v hsz [(7, _)] ⟨some 1, (Op.move (.tmp 0)), 56, "", #[], none⟩ [_, undef] 1 rfl ((wanted_some (b := true) rfl rfl s115).trans rfl) ⟨s7, trivial⟩ rfl hQ0 ?_
                            clear hQ0 hH s7 s115
                            intro Q hQ
                            repeat go_step
                            exact hQ _ _ (Grow.refl _) rfl rfl
                      refine obls_cons (fun f w' hR hH Q0 hQ0 => ?_) ?_
                      · skip
                        have s12 := sv_off f [(115, 27)] e12 rfl
                        have s115 := (sv_at 115 27 hsz f [(115, 27)] rfl).trans (show f 27 = _ from hH.get 0 (115, 27) rfl)
                        first
                          | exact skip_v hsz rfl ((wanted_some (b := false) rfl rfl s115).trans rfl) hQ0 (Grow.refl _) rfl
                          | refine small_v hsz [(12, _)] ⟨some 1, (Op.move (.tmp 0)), 3, "", #[], none⟩ [_, undef] 1 rfl ((wanted_some (b := true) rfl rfl s115).trans rfl) ⟨s12, trivial⟩ rfl hQ0 ?_
                            clear hQ0 hH s12 s115
                            intro Q hQ
                            repeat go_step
                            exact hQ _ _ (Grow.refl _) rfl rfl
                      refine obls_cons (fun f w' hR hH Q0 hQ0 => ?_) ?_
                      · skip
                        have s13 := sv_off f [(115, 27)] e13 rfl
                        have s115 := (sv_at 115 27 hsz f [(115, 27)] rfl).trans (show f 27 = _ from hH.get 0 (115, 27) rfl)
                        first
                          | exact skip_v hsz rfl ((wanted_some (b := false) rfl rfl s115).trans rfl) hQ0 (Grow.refl _) rfl
                          | refine small_v hsz [(13, _)] ⟨some 1, (Op.move (.tmp 0)), 3, "", #[], none⟩ [_, undef] 1 rfl ((wanted_some (b := true) rfl rfl s115).trans rfl) ⟨s13, trivial⟩ rfl hQ0 ?_
                            clear hQ0 hH s13 s115
                            intro Q hQ
                            repeat go_step
                            exact hQ _ _ (Grow.refl _) rfl rfl
                      refine obls_cons (fun f w' hR hH Q0 hQ0 => ?_) ?_
                      · skip
                        have s116 := (sv_at 116 28 hsz f [(116, 28), (117, 29), (118, 30), (115, 27)] rfl).trans (show f 28 = _ from hH.get 0 (116, 28) rfl)
                        have s117 := (sv_at 117 29 hsz f [(116, 28), (117, 29), (118, 30), (115, 27)] rfl).trans (show f 29 = _ from hH.get 1 (117, 29) rfl)
                        have s118 := (sv_at 118 30 hsz f [(116, 28), (117, 29), (118, 30), (115, 27)] rfl).trans (show f 30 = _ from hH.get 2 (118, 30) rfl)
                        have s115 := (sv_at 115 27 hsz f [(116, 28), (117, 29), (118, 30), (115, 27)] rfl).trans (show f 27 = _ from hH.get 3 (115, 27) rfl)
                        first
                          | exact skip_v hsz rfl ((wanted_some (b := false) rfl rfl s115).trans rfl) hQ0 (Grow.refl _) rfl
                          | refine small_v hsz [(116, _), (117, _), (118, _)] ⟨some 3, (Op.call (Call.mk (Callee.value (Operand.func 46)) #[(.tmp 0), (.tmp 1), (.tmp 2)] #[56, 3, 3])), 4, "", #[], none⟩ [_, _, _, undef] 3 rfl ((wanted_some (b := true) rfl rfl s115).trans rfl) ⟨s116, s117, s118, trivial⟩ (ren_call rfl rfl) hQ0 ?_
                            clear hQ0 hH s116 s117 s118 s115
                            intro Q hQ
                            repeat go_step
                            exact hQ _ _ (Grow.refl _) rfl rfl
                      refine obls_cons (fun f w' hR hH Q0 hQ0 => ?_) ?_
                      · skip
                        have s119 := (sv_at 119 31 hsz f [(119, 31), (115, 27)] rfl).trans (show f 31 = _ from hH.get 0 (119, 31) rfl)
                        have s115 := (sv_at 115 27 hsz f [(119, 31), (115, 27)] rfl).trans (show f 27 = _ from hH.get 1 (115, 27) rfl)
                        first
                          | exact skip_v hsz rfl ((wanted_some (b := false) rfl rfl s115).trans rfl) hQ0 (Grow.refl _) rfl
                          | refine small_v hsz [(119, _)] ⟨some 1, (Op.unOp UnOp.not 4 (.tmp 0)), 4, "", #[], none⟩ [_, undef] 1 rfl ((wanted_some (b := true) rfl rfl s115).trans rfl) ⟨s119, trivial⟩ rfl hQ0 ?_
                            clear hQ0 hH s119 s115
                            intro Q hQ
                            repeat go_step
                            exact hQ _ _ (Grow.refl _) rfl rfl
                      refine obls_cons (fun f w' hR hH Q0 hQ0 => ?_) ?_
                      · skip
                        have s115 := (sv_at 115 27 hsz f [(115, 27), (120, 32)] rfl).trans (show f 27 = _ from hH.get 0 (115, 27) rfl)
                        have s120 := (sv_at 120 32 hsz f [(115, 27), (120, 32)] rfl).trans (show f 32 = _ from hH.get 1 (120, 32) rfl)
                        refine small_v hsz [(115, _), (120, _)] ⟨some 2, (Op.pick (.tmp 0) (.tmp 1) (Operand.const (Value.bool false))), 4, "", #[], none⟩ [_, _, undef] 2 rfl rfl ⟨s115, s120, trivial⟩ rfl hQ0 ?_
                        clear hQ0 hH s115 s120
                        intro Q hQ
                        repeat go_step
                        exact hQ _ _ (Grow.refl _) rfl rfl
                      exact obls_nil
                    case mono => exact ⟨Mono.veq _, Mono.veq _, Mono.veq _, Mono.veq _, Mono.veq _, Mono.veq _, Mono.veq _, Mono.veq _, Mono.veq _, Mono.veq _, Mono.veq _, Mono.veq _, Mono.veq _, Mono.veq _, Mono.veq _, Mono.veq _, Mono.veq _, Mono.veq _, Mono.veq _, Mono.veq _, Mono.veq _, Mono.veq _, Mono.veq _, Mono.veq _, Mono.veq _, Mono.veq _, Mono.veq _, Mono.veq _, Mono.veq _, Mono.veq _, Mono.veq _, Mono.veq _, Mono.veq _, Mono.veq _, trivial⟩
                    case tail =>
                      intro f w' hR hH
                      have q33 : (veq (Value.bool false)) (f 33) w' := hH.get 33 (121, 33) rfl
                      clear hH
                      refine wpList_merge (idx := [none, none, none, none, none, none, none, none, none, none, none, none, none, none, none, none, none, none, none, none, none, none, none, none, none, none, none, none, none, none, none, none, none, none, none, none, none, none, none, none, none, none, none, none, none, none, none, none, none, none, none, none, none, none, none, none, none, none, none, none, none, none, none, none, none, none, none, none, none, none, none, none, none, none, none, none, none, none, none, none, none, none, none, none, none, none, none, none, some 0, some 1, some 2, some 3, some 4, some 5, some 6, some 7, some 8, some 9, some 10, some 11, some 12, some 13, some 14, some 15, some 16, some 17, some 18, some 19, some 20, some 21, some 22, some 23, some 24, some 25, some 26, some 27, some 28, some 29, some 30, some 31, some 32, some 33, none, none, none, none, none, none, none, none, none, none, none, none, none, none, none, none, none, none, none, none, none, none, none, none, none, none, none, none, none, none, none, none, none, none, none, none, none, none, none, none, none]) (by kernel_rfl) ?_; show wpList _ _ _ [] ⟨#[_, _, _, _, _, _, _, _, _, _, _, _, _, _, _, _, _, _, _, _, _, _, _, _, _, _, _, _, _, _, _, _, _, _, _, _, _, _, _, _, _, _, _, _, _, _, _, _, _, _, _, _, _, _, _, _, _, _, _, _, _, _, _, _, _, _, _, _, _, _, _, _, _, _, _, _, _, _, _, _, _, _, _, _, _, _, _, _, f 0, f 1, f 2, f 3, f 4, f 5, f 6, f 7, f 8, f 9, f 10, f 11, f 12, f 13, f 14, f 15, f 16, f 17, f 18, f 19, f 20, f 21, f 22, f 23, f 24, f 25, f 26, f 27, f 28, f 29, f 30, f 31, f 32, f 33, _, _, _, _, _, _, _, _, _, _, _, _, _, _, _, _, _, _, _, _, _, _, _, _, _, _, _, _, _, _, _, _, _, _, _, _, _, _, _, _, _], _⟩ _
                      obtain ⟨x33, hx33⟩ : ∃ x, f 33 = x := ⟨_, rfl⟩
                      rw [hx33] at q33 ⊢
                      clear hx33
                      obtain rfl := q33
                      have HG7 := Lib.hid (HG6.out.trans hR)
                      clear hR
                      go_wp2_with fail
                      go_roundw
                      case rel => exact ⟨k + 1, by have := HLTk.out; omega, by go_num, HG7.out⟩
                      case measure => have := HLTk.out; simp [intOf] <;> omega
              · clear hg
                obtain ⟨W6, hW6⟩ : ∃ W, W = wr := ⟨_, rfl⟩
                rw [← hW6] at HG5 HGk
                have HW6 := Lib.hid hW6.symm
                clear hW6
                go_wp2_with fail
                go_loopw [14, 15] (fun v0 i' wr => ∃ (k : Nat) (v : Value), k ≤ n ∧ i' = .int .i64 (k : Int) ∧ v = v0 ∧ OR W6 (keepP o bs k) v wr) (fun _ i' _ => n - (intOf i').toNat)
                case atStart => exact ⟨0, _, by omega, rfl, rfl, by rw [HW6.out]; exact Grow.refl _, World.ownsRow_nil _ _ _ _⟩
                case round =>
                  clear HW6
                  obtain ⟨m, v, hmn, rfl, rfl, po⟩ := hrel
                  have HPO := Lib.hid po
                  by_cases hlt3 : m < n
                  · have HLTm := Lib.hid hlt3
                    obtain ⟨b, off, x, rfl, hxk, hcell⟩ := HROW.out m hlt3
                    have hcl := (HGk.out.trans po.g).cell hcell
                    have hcl2 := (hcl : wr.cell? _ = some (.int .i64 (x : Int)))
                    have HXK := Lib.hid hxk
                    have HKL : Hid ((keepP o bs m).length ≤ 30) := Lib.hid (by
                      have := (keepP_sub o bs m (by rw [HOL.out]; omega)).length_le
                      rw [List.length_take] at this
                      omega)
                    clear po hcell hxk hcl2
                    by_cases hq : len2 ≤ m
                    · have s1 : decide (len2 ≤ m) = true := decide_eq_true hq
                      have s2 : decide ((len2 : Int) ≤ (m : Int)) = true := decide_eq_true (by omega)
                      have HK : Hid (keepP o bs (m + 1) = keepP o bs m ++ [x]) := Lib.hid (keepP_yes HXK.out (.inl (by have := HR2.out.1; omega)))
                      clear hq
                      go_wp2_with (refine wpList_append_row rfl _ _ _ rfl W6.heap.size 3 _ _ 1 8 Try.underlying22 iI iIz iIs iIb rfl (by decide) v (keepP o bs m).length ((keepP o bs m).map nv) rfl (own_grow HPO.out.own (Grow.alloc _ _)) (some ⟨wr.heap.size, 0, none⟩) 1 1 [nv x] rfl (Row.new _ [nv x] 3 (0, 0)) (by simp [nv, Value.oneCell']) (by have := HKL.out; unfold maxLen; omega) (by have := HKL.out; omega) (Nat.le_trans HPO.out.g.size (by simp)) ?_; intro v1 w1 hown1 hgb1 hv1)
                      have HPO2 : Hid (OR W6 (keepP o bs (m + 1)) v1 w1) := Lib.hid (by
                        refine HPO.out.app (Grow.alloc _ _) hgb1 ?_
                        rw [HK.out, List.length_append, List.map_append]
                        exact hown1)
                      clear hgb1 hv1 hown1
                      go_roundw
                      case rel => exact ⟨m + 1, _, by have := HLTm.out; omega, by go_num, rfl, HPO2.out⟩
                      case measure => have := HLTm.out; simp [intOf] <;> omega
                    · have s1 : decide (len2 ≤ m) = false := decide_eq_false hq
                      have s2 : decide ((len2 : Int) ≤ (m : Int)) = false := decide_eq_false (by omega)
                      obtain ⟨b2, off2, q, rfl, hqk, hcell2⟩ := HR2.out.at_ (by decide) (show m < len2 by omega)
                      have hcl3 := (HG3.out.trans (HGk.out.trans HPO.out.g)).cell (hcell2 0 (.bool q) rfl)
                      rw [Nat.mul_one, Nat.add_zero] at hcl3
                      have hm2l : m < len2 := by omega
                      cases q
                      · have HK : Hid (keepP o bs (m + 1) = keepP o bs m ++ [x]) := Lib.hid (keepP_yes HXK.out (.inr hqk))
                        clear hq hqk hcell2
                        go_wp2_with (refine wpList_append_row rfl _ _ _ rfl W6.heap.size 3 _ _ 1 8 Try.underlying22 iI iIz iIs iIb rfl (by decide) v (keepP o bs m).length ((keepP o bs m).map nv) rfl (own_grow HPO.out.own (Grow.alloc _ _)) (some ⟨wr.heap.size, 0, none⟩) 1 1 [nv x] rfl (Row.new _ [nv x] 3 (0, 0)) (by simp [nv, Value.oneCell']) (by have := HKL.out; unfold maxLen; omega) (by have := HKL.out; omega) (Nat.le_trans HPO.out.g.size (by simp)) ?_; intro v1 w1 hown1 hgb1 hv1)
                        have HPO2 : Hid (OR W6 (keepP o bs (m + 1)) v1 w1) := Lib.hid (by
                          refine HPO.out.app (Grow.alloc _ _) hgb1 ?_
                          rw [HK.out, List.length_append, List.map_append]
                          exact hown1)
                        clear hgb1 hv1 hown1
                        go_roundw
                        case rel => exact ⟨m + 1, _, by have := HLTm.out; omega, by go_num, rfl, HPO2.out⟩
                        case measure => have := HLTm.out; simp [intOf] <;> omega
                      · have HK : Hid (keepP o bs (m + 1) = keepP o bs m) := Lib.hid (keepP_no hqk)
                        clear hq hqk hcell2
                        go_wp2_with fail
                        go_roundw
                        case rel => exact ⟨m + 1, _, by have := HLTm.out; omega, by go_num, rfl, by rw [HK.out]; exact HPO.out⟩
                        case measure => have := HLTm.out; simp [intOf] <;> omega
                  · obtain rfl : n = m := by omega
                    obtain ⟨A9, c9, e9, -⟩ := own_form po.own
                    have hvp : IntsV wr v (keepP o bs n) := IntsV.own po.own
                    have HSB := keepP_sub o bs n (by rw [HOL.out]; exact Nat.le_refl _)
                    have hts : (keepP o bs n).Sublist o := HSB.trans (List.take_sublist _ _)
                    have hv8 := (HV.out.grow HGk.out).grow po.g
                    have hrl := (HREL3.out.grow HGk.out).grow po.g
                    have f1 := fits_nat wr gr n R hrl _ o (by rw [HOL.out] at hv8; exact hv8) (fun x hx => by have := HIN.out.lt x hx; omega)
                    rw [fits_part HIN.out.lt HIN.out.nodup HIN.out.ord] at f1
                    have HF1 := Lib.hid f1
                    have KF2 : Hid (∀ wx, Grow wr wx → Calls Try.prog 53 #[.pointer (some ⟨gr, 0, none⟩), v] wx fun e w2 => e = .returned (.bool true) ∧ Grow wx w2) := Lib.hid fun wx hg => by
                      have f2 := fits_nat wx gr n R (hrl.grow hg) v _ (hvp.grow hg) (fun x hx => by have := HIN.out.lt x (hts.subset hx); omega)
                      rwa [fits_part (fun x hx => HIN.out.lt x (hts.subset hx)) (HIN.out.nodup.sublist hts) (HIN.out.ord.sublist hts)] at f2
                    have HGE := Lib.hid (HG3.out.trans (HGk.out.trans po.g))
                    have s9 : ((n : Int) == (n : Int)) = true := beq_self_eq_true _
                    clear po hvp HSB hts hv8 hrl f1 e9
                    go_wp2_with fail
                    refine HF1.out.mono ?_
                    rintro e w7 ⟨rfl, hg7⟩
                    have HG7 := Lib.hid hg7
                    have HF2 := Lib.hid (KF2.out w7 hg7)
                    clear hg7
                    go_wp2_with fail
                    refine HF2.out.mono ?_
                    rintro e w8 ⟨rfl, hg8⟩
                    have HG8 := Lib.hid hg8
                    have HWK := Lib.hid (works_any w8)
                    clear hg8
                    go_wp2_with fail
                    refine HWK.out.mono ?_
                    rintro e w9 ⟨rfl, hg9⟩
                    have HG9 := Lib.hid hg9
                    clear hg9
                    go_wp2_with fail
                    go_ret
                    exact ⟨rfl, HGE.out.trans (HG7.out.trans (HG8.out.trans HG9.out))⟩
end Go.Proofs.Ytjfohglkpbgkaaa.toL
