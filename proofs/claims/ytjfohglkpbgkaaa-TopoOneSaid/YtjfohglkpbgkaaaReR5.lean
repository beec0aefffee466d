/- The walk of the document's Group. -/
import Derived.Test.YtjfohglkpbgkaaaReR4
namespace Go.Proofs.Ytjfohglkpbgkaaa.reW
open Go Go.RowKit Go.Par Go.Kit Go.Proofs.Ytjfohglkpbgkaaa.Mk Go.Proofs.Ytjfohglkpbgkaaa.mkW Go.Proofs.Ytjfohglkpbgkaaa.Re Go.Proofs.Ytjfohglkpbgkaaa.mkR Go.Proofs.Ytjfohglkpbgkaaa.mkL

/-- the least that is alike, of those that were looked at -/
structure Least (R : Nat → Nat → Bool) (i : Nat) (o : List Nat) (k out : Nat) : Prop where
  le : out ≤ i
  al : alikeN R i out = true
  min_ : ∀ (t x : Nat), t < k → o[t]? = some x → R x i = true → out ≤ x
theorem Least.group {R : Nat → Nat → Bool} {i : Nat} {o : List Nat} {k out : Nat} (h : Least R i o k out) (hk : o.length ≤ k) (ho : ∀ j : Nat, j ∈ o ↔ R i j = true) : groupN R i = out :=
  group_eq h.al fun x hx => by
    cases hc : alikeN R i x with
    | false => rfl
    | true =>
      simp only [alikeN, Bool.or_eq_true, beq_iff_eq, Bool.and_eq_true] at hc
      have := h.le
      rcases hc with hc | ⟨h1, h2⟩
      · omega
      · obtain ⟨t, ht, e⟩ := List.getElem_of_mem ((ho x).2 h1)
        have := h.min_ t x (by omega) (by rw [List.getElem?_eq_getElem ht, e]) h2
        omega
set_option maxRecDepth 100000 in
set_option maxHeartbeats 4000000 in
theorem ref_group (w : World) (n : Nat) (v : Value) (L : List (Nat × Nat)) (hv : RefV w v L) (hL : L.length ≤ 1000000) (i : Int) :
    Calls Try.prog 44 #[.agg #[.int .i64 (n : Int), v], .int .i64 i] w fun e w' => e = .returned (.int .i64 (groupI n (leadB L) i)) ∧ Grow w w' := by
  have HV := Lib.hid hv
  obtain ⟨A, c, rfl, -⟩ := hv
  obtain ⟨l, hl⟩ : ∃ l, l = L.length := ⟨_, rfl⟩
  rw [← hl] at HV ⊢
  obtain ⟨W1, hW1⟩ : ∃ W, W = w.alloc (.cells #[.int .i64 (n : Int), .slice A l c] TX8) := ⟨_, rfl⟩
  obtain ⟨b0, hb0⟩ : ∃ b, b = w.heap.size := ⟨_, rfl⟩
  have hg1 : Grow w W1 := by rw [hW1]; exact Grow.alloc _ _
  have hbx : Blk W1 b0 TX8 [.int .i64 (n : Int), .slice A l c] := by rw [hW1]; exact Blk.new w _ _ _ rfl hb0
  have x0 := hbx.cell (i := 0) rfl
  have HBX := Lib.hid hbx
  have HVW := Lib.hid (HV.out.grow hg1)
  have HG1 := Lib.hid hg1
  have HW1 := Lib.hid hW1
  have HB0 := Lib.hid hb0
  have HLL := Lib.hid hL
  clear hl hW1 hb0 hg1 hL HV
  by_cases hi : 0 ≤ i
  · obtain ⟨k, rfl⟩ := Int.eq_ofNat_of_zero_le hi
    by_cases hlt : k < n
    · have HB := Lib.hid (behind_any W1 n _ L HVW.out HLL.out (k : Int))
      obtain ⟨r, hr⟩ : ∃ r, r = groupN (leadB L) k := ⟨_, rfl⟩
      rw [show groupI n (leadB L) (k : Int) = (r : Int) by unfold groupI; rw [decide_eq_true (show (0 : Int) ≤ (k : Int) by omega), decide_eq_true (show (k : Int) < (n : Int) by omega)]; simp [hr]]
      have HR := Lib.hid hr
      have t1 : decide ((k : Int) < 0) = false := decide_eq_false (by omega)
      have t2 : decide (n ≤ k) = false := decide_eq_false (by omega)
      have t3 : decide ((n : Int) ≤ (k : Int)) = false := decide_eq_false (by omega)
      clear hr hi hlt
      go_enter Try.func44, Try.ntmps44
      go_wp2_with fail
      rw [← HW1.out, ← HB0.out]
      go_wp2_with (refine load_blk rfl _ _ rfl b0 rfl _ _ _ hbx und8 rfl (by rw [size8]; rfl) ?_)
      refine HB.out.mono ?_
      rintro e w2 ⟨v', o, rfl, hi, hol, ho, hg2⟩
      have HLO : Hid (∀ j : Nat, j ∈ o ↔ leadB L k j = true) := Lib.hid fun j => by rw [ho]; simp
      obtain ⟨A2, c2, rfl, a2, b2, r2, -⟩ := hi
      obtain ⟨lo, hlo⟩ : ∃ m, m = o.length := ⟨_, rfl⟩
      have HLOL := Lib.hid hlo
      have HROW := Lib.hid r2
      have HG2 := Lib.hid hg2
      have hlo6 : lo ≤ 1000000 := by rw [hlo]; exact Nat.le_trans hol HLL.out
      rw [← hlo]
      clear hlo a2 b2 r2 ho hg2 hbx x0 hol
      go_wp2_with fail
      go_loopw [6, 7] (fun o' i' wr => ∃ (t out : Nat), t ≤ lo ∧ i' = .int .i64 (t : Int) ∧ o' = .int .i64 (out : Int) ∧ Hid (Least (leadB L) k o t out) ∧ Grow w2 wr) (fun _ i' _ => lo - (intOf i').toNat)
      case atStart => exact ⟨0, k, by omega, rfl, rfl, Lib.hid ⟨Nat.le_refl _, alikeN_refl k, fun t x ht => absurd ht (by omega)⟩, Grow.refl _⟩
      case round =>
        obtain ⟨t, out, htl, rfl, rfl, HM, hg⟩ := hrel
        by_cases hlt : t < lo
        · obtain ⟨b, off, x, rfl, hx, hcell⟩ := Row.nat_at (HROW.out.grow hg) (k := t) (by have := HLOL.out; omega)
          have HX := Lib.hid hx
          have HG := Lib.hid hg
          have HC := Lib.hid hcell
          have hbx2 := (HBX.out.grow HG2.out).grow hg
          have HBX2 := Lib.hid hbx2
          have HLT := Lib.hid hlt
          obtain ⟨a, ha⟩ : ∃ a, a = leadB L x k := ⟨_, rfl⟩
          have HH : Hid (∀ w', Grow wr w' → Calls Try.prog 42 #[.agg #[.int .i64 (n : Int), .slice A l c], .int .i64 (x : Int), .int .i64 (k : Int)] w' fun e w2 => e = .returned (.bool a) ∧ Grow w' w2) := Lib.hid fun w' hg' => by
            have := ref_hasr w' n _ L (HVW.out.grow (HG2.out.trans (HG.out.trans hg'))) HLL.out (x : Int) (k : Int)
            rw [show leadI (leadB L) (x : Int) (k : Int) = a by rw [ha]; simp [leadI]] at this
            exact this
          have HA := Lib.hid ha
          obtain ⟨e1, he1⟩ : ∃ e, e = decide (x < out) := ⟨_, rfl⟩
          have t4 := he1.symm
          have t5 : decide ((x : Int) < (out : Int)) = e1 := by rw [he1]; exact decide_eq_decide.2 (by omega)
          have HE := Lib.hid he1
          clear hx hg ha hbx2 he1
          cases e1
          · clear hcell
            go_wp2_with fail
            apply (fun (v0 v1 v2 v3 v4 v5 v6 v7 v8 v9 v10 v11 v12 v13 v14 : Value) mono obl tail => wp_region_par (R := Grow) (Φ := phi [veq v0, veq v1, veq v2, veq v3, veq v4, veq v5, veq v6, veq v7, veq v8, veq v9, veq v10, veq v11, veq v12, veq v13, veq v14]) (m := 15) (dls := [[], [], [(26, 0), (27, 1)], [(28, 2)], [], [(29, 3), (30, 4)], [(31, 5)], [(32, 6)], [(32, 6)], [(32, 6)], [(34, 8), (35, 9), (32, 6)], [(36, 10), (32, 6)], [(32, 6)], [(33, 7), (37, 11), (38, 12), (32, 6)], [(32, 6), (39, 13)]]) (ds := [26, 27, 28, 29, 30, 31, 32, 33, 34, 35, 36, 37, 38, 39, 40]) (by kernel_rfl) (by kernel_rfl) (by decide) rfl (Grow.drew _) (fun _ _ _ => Grow.trans) (mono_phi mono) obl tail)
            case obl =>
              refine obls_cons (fun f w' hR hH Q hQ => ?_) ?_
              · skip
                clear hH
                refine wpList_view ?_; show wpList _ _ _ [_] ⟨#[_, _, _, _, _, _, _, _, _, _, _, _, _, _, _, _, _, _, _, _, _, _, _, _, _, _, _, _, _, _, _, _, _, _, _, _, _, _, _, _, _, _, _, _, _, _], _⟩ _
                repeat (first | go_guarded | go_step)
                exact hQ _ _ (Grow.refl _) rfl rfl
              refine obls_cons (fun f w' hR hH Q hQ => ?_) ?_
              · skip
                clear hH
                refine wpList_view ?_; show wpList _ _ _ [_] ⟨#[_, _, _, _, _, _, _, _, _, _, _, _, _, _, _, _, _, _, _, _, _, _, _, _, _, _, _, _, _, _, _, _, _, _, _, _, _, _, _, _, _, _, _, _, _, _], _⟩ _
                repeat (first | go_guarded | go_step)
                exact hQ _ _ (Grow.refl _) rfl rfl
              refine obls_cons (fun f w' hR hH Q hQ => ?_) ?_
              · skip
                have h0 := hH.get 0 (26, 0) rfl
                have h1 := hH.get 1 (27, 1) rfl
                clear hH
                refine wpList_view ?_; show wpList _ _ _ [_] ⟨#[_, _, _, _, _, _, _, _, _, _, _, _, _, _, _, _, _, _, _, _, _, _, _, _, _, _, f 0, f 1, _, _, _, _, _, _, _, _, _, _, _, _, _, _, _, _, _, _], _⟩ _
                rw [show f 0 = _ from h0]
                rw [show f 1 = _ from h1]
                clear h0 h1
                repeat (first | go_guarded | go_step)
                exact hQ _ _ (Grow.refl _) rfl rfl
              refine obls_cons (fun f w' hR hH Q hQ => ?_) ?_
              · skip
                have h2 := hH.get 0 (28, 2) rfl
                clear hH
                refine wpList_view ?_; show wpList _ _ _ [_] ⟨#[_, _, _, _, _, _, _, _, _, _, _, _, _, _, _, _, _, _, _, _, _, _, _, _, _, _, _, _, f 2, _, _, _, _, _, _, _, _, _, _, _, _, _, _, _, _, _], _⟩ _
                rw [show f 2 = _ from h2]
                clear h2
                have y1 := hR.cell HC.out
                repeat (first | go_guarded | go_step)
                exact hQ _ _ (Grow.refl _) rfl rfl
              refine obls_cons (fun f w' hR hH Q hQ => ?_) ?_
              · skip
                clear hH
                refine wpList_view ?_; show wpList _ _ _ [_] ⟨#[_, _, _, _, _, _, _, _, _, _, _, _, _, _, _, _, _, _, _, _, _, _, _, _, _, _, _, _, _, _, _, _, _, _, _, _, _, _, _, _, _, _, _, _, _, _], _⟩ _
                repeat (first | go_guarded | go_step)
                exact hQ _ _ (Grow.refl _) rfl rfl
              refine obls_cons (fun f w' hR hH Q hQ => ?_) ?_
              · skip
                have h3 := hH.get 0 (29, 3) rfl
                have h4 := hH.get 1 (30, 4) rfl
                clear hH
                refine wpList_view ?_; show wpList _ _ _ [_] ⟨#[_, _, _, _, _, _, _, _, _, _, _, _, _, _, _, _, _, _, _, _, _, _, _, _, _, _, _, _, _, f 3, f 4, _, _, _, _, _, _, _, _, _, _, _, _, _, _, _], _⟩ _
                rw [show f 3 = _ from h3]
                rw [show f 4 = _ from h4]
                clear h3 h4
                repeat (first | go_guarded | go_step)
                exact hQ _ _ (Grow.refl _) rfl rfl
              refine obls_cons (fun f w' hR hH Q hQ => ?_) ?_
              · skip
                have h5 := hH.get 0 (31, 5) rfl
                clear hH
                refine wpList_view ?_; show wpList _ _ _ [_] ⟨#[_, _, _, _, _, _, _, _, _, _, _, _, _, _, _, _, _, _, _, _, _, _, _, _, _, _, _, _, _, _, _, f 5, _, _, _, _, _, _, _, _, _, _, _, _, _, _], _⟩ _
                rw [show f 5 = _ from h5]
                clear h5
                repeat (first | go_guarded | go_step)
                exact hQ _ _ (Grow.refl _) rfl rfl
              refine obls_cons (fun f w' hR hH Q hQ => ?_) ?_
              · skip
                have h6 := hH.get 0 (32, 6) rfl
                clear hH
                refine wpList_view ?_; show wpList _ _ _ [_] ⟨#[_, _, _, _, _, _, _, _, _, _, _, _, _, _, _, _, _, _, _, _, _, _, _, _, _, _, _, _, _, _, _, _, f 6, _, _, _, _, _, _, _, _, _, _, _, _, _], _⟩ _
                rw [show f 6 = _ from h6]
                clear h6
                repeat (first | go_guarded | go_step)
                exact hQ _ _ (Grow.refl _) rfl rfl
              refine obls_cons (fun f w' hR hH Q hQ => ?_) ?_
              · skip
                have h6 := hH.get 0 (32, 6) rfl
                clear hH
                refine wpList_view ?_; show wpList _ _ _ [_] ⟨#[_, _, _, _, _, _, _, _, _, _, _, _, _, _, _, _, _, _, _, _, _, _, _, _, _, _, _, _, _, _, _, _, f 6, _, _, _, _, _, _, _, _, _, _, _, _, _], _⟩ _
                rw [show f 6 = _ from h6]
                clear h6
                repeat (first | go_guarded | go_step)
                exact hQ _ _ (Grow.refl _) rfl rfl
              refine obls_cons (fun f w' hR hH Q hQ => ?_) ?_
              · skip
                have h6 := hH.get 0 (32, 6) rfl
                clear hH
                refine wpList_view ?_; show wpList _ _ _ [_] ⟨#[_, _, _, _, _, _, _, _, _, _, _, _, _, _, _, _, _, _, _, _, _, _, _, _, _, _, _, _, _, _, _, _, f 6, _, _, _, _, _, _, _, _, _, _, _, _, _], _⟩ _
                rw [show f 6 = _ from h6]
                clear h6
                repeat (first | go_guarded | go_step)
                exact hQ _ _ (Grow.refl _) rfl rfl
              refine obls_cons (fun f w' hR hH Q hQ => ?_) ?_
              · skip
                have h8 := hH.get 0 (34, 8) rfl
                have h9 := hH.get 1 (35, 9) rfl
                have h6 := hH.get 2 (32, 6) rfl
                clear hH
                refine wpList_merge (idx := [none, none, none, none, none, none, none, none, none, none, none, none, none, none, none, none, none, none, none, none, none, none, none, none, none, none, none, none, none, none, none, none, some 6, none, some 8, some 9, none, none, none, none, none, none, none, none, none, none]) (by kernel_rfl) ?_; show wpList _ _ _ [_] ⟨#[_, _, _, _, _, _, _, _, _, _, _, _, _, _, _, _, _, _, _, _, _, _, _, _, _, _, _, _, _, _, _, _, f 6, _, f 8, f 9, _, _, _, _, _, _, _, _, _, _], _⟩ _
                rw [show f 8 = _ from h8]
                rw [show f 9 = _ from h9]
                rw [show f 6 = _ from h6]
                clear h8 h9 h6
                repeat (first | go_guarded | go_step)
                exact hQ _ _ (Grow.refl _) rfl rfl
              refine obls_cons (fun f w' hR hH Q hQ => ?_) ?_
              · skip
                have h10 := hH.get 0 (36, 10) rfl
                have h6 := hH.get 1 (32, 6) rfl
                clear hH
                refine wpList_view ?_; show wpList _ _ _ [_] ⟨#[_, _, _, _, _, _, _, _, _, _, _, _, _, _, _, _, _, _, _, _, _, _, _, _, _, _, _, _, _, _, _, _, f 6, _, _, _, f 10, _, _, _, _, _, _, _, _, _], _⟩ _
                rw [show f 10 = _ from h10]
                rw [show f 6 = _ from h6]
                clear h10 h6
                repeat (first | go_guarded | go_step)
                exact hQ _ _ (Grow.refl _) rfl rfl
              refine obls_cons (fun f w' hR hH Q hQ => ?_) ?_
              · skip
                have h6 := hH.get 0 (32, 6) rfl
                clear hH
                refine wpList_view ?_; show wpList _ _ _ [_] ⟨#[_, _, _, _, _, _, _, _, _, _, _, _, _, _, _, _, _, _, _, _, _, _, _, _, _, _, _, _, _, _, _, _, f 6, _, _, _, _, _, _, _, _, _, _, _, _, _], _⟩ _
                rw [show f 6 = _ from h6]
                clear h6
                repeat (first | go_guarded | go_step)
                exact hQ _ _ (Grow.refl _) rfl rfl
              refine obls_cons (fun f w' hR hH Q hQ => ?_) ?_
              · skip
                have h7 := hH.get 0 (33, 7) rfl
                have h11 := hH.get 1 (37, 11) rfl
                have h12 := hH.get 2 (38, 12) rfl
                have h6 := hH.get 3 (32, 6) rfl
                clear hH
                refine wpList_merge (idx := [none, none, none, none, none, none, none, none, none, none, none, none, none, none, none, none, none, none, none, none, none, none, none, none, none, none, none, none, none, none, none, none, some 6, some 7, none, none, none, some 11, some 12, none, none, none, none, none, none, none]) (by kernel_rfl) ?_; show wpList _ _ _ [_] ⟨#[_, _, _, _, _, _, _, _, _, _, _, _, _, _, _, _, _, _, _, _, _, _, _, _, _, _, _, _, _, _, _, _, f 6, f 7, _, _, _, f 11, f 12, _, _, _, _, _, _, _], _⟩ _
                rw [show f 7 = _ from h7]
                rw [show f 11 = _ from h11]
                rw [show f 12 = _ from h12]
                rw [show f 6 = _ from h6]
                clear h7 h11 h12 h6
                repeat (first | go_guarded | go_step)
                exact hQ _ _ (Grow.refl _) rfl rfl
              refine obls_cons (fun f w' hR hH Q hQ => ?_) ?_
              · skip
                have h6 := hH.get 0 (32, 6) rfl
                have h13 := hH.get 1 (39, 13) rfl
                clear hH
                refine wpList_view ?_; show wpList _ _ _ [_] ⟨#[_, _, _, _, _, _, _, _, _, _, _, _, _, _, _, _, _, _, _, _, _, _, _, _, _, _, _, _, _, _, _, _, f 6, _, _, _, _, _, _, f 13, _, _, _, _, _, _], _⟩ _
                rw [show f 6 = _ from h6]
                rw [show f 13 = _ from h13]
                clear h6 h13
                repeat (first | go_guarded | go_step)
                exact hQ _ _ (Grow.refl _) rfl rfl
              exact obls_nil
            case mono => exact ⟨Mono.veq _, Mono.veq _, Mono.veq _, Mono.veq _, Mono.veq _, Mono.veq _, Mono.veq _, Mono.veq _, Mono.veq _, Mono.veq _, Mono.veq _, Mono.veq _, Mono.veq _, Mono.veq _, Mono.veq _, trivial⟩
            case tail =>
              intro f w' hR hH
              have q14 := hH.get 14 (40, 14) rfl
              clear hH
              refine wpList_merge (idx := [none, none, none, none, none, none, none, none, none, none, none, none, none, none, none, none, none, none, none, none, none, none, none, none, none, none, some 0, some 1, some 2, some 3, some 4, some 5, some 6, some 7, some 8, some 9, some 10, some 11, some 12, some 13, some 14, none, none, none, none, none]) (by kernel_rfl) ?_; show wpList _ _ _ [] ⟨#[_, _, _, _, _, _, _, _, _, _, _, _, _, _, _, _, _, _, _, _, _, _, _, _, _, _, f 0, f 1, f 2, f 3, f 4, f 5, f 6, f 7, f 8, f 9, f 10, f 11, f 12, f 13, f 14, _, _, _, _, _], _⟩ _
              rw [show f 14 = _ from q14]
              clear q14
              have HGr := Lib.hid hR
              clear hR
              go_wp2_with fail
              go_roundw
              case rel => exact ⟨t + 1, out, by have := HLT.out; omega, by go_num, rfl, Lib.hid ⟨HM.out.le, HM.out.al, fun s y hs hy hr => by
                by_cases hst : s < t
                · exact HM.out.min_ s y hst hy hr
                · obtain rfl : s = t := by omega
                  rw [HX.out] at hy
                  obtain rfl := Option.some.inj hy
                  have := of_decide_eq_false HE.out.symm
                  omega⟩, HG.out.trans HGr.out⟩
              case measure => have := HLT.out; simp [intOf] <;> omega
          · cases a
            · clear hcell
              go_wp2_with fail
              apply (fun (v0 v1 v2 v3 v4 v5 v6 v7 v8 v9 v10 v11 v12 v13 v14 : Value) mono obl tail => wp_region_par (R := Grow) (Φ := phi [veq v0, veq v1, veq v2, veq v3, veq v4, veq v5, veq v6, veq v7, veq v8, veq v9, veq v10, veq v11, veq v12, veq v13, veq v14]) (m := 15) (dls := [[], [], [(26, 0), (27, 1)], [(28, 2)], [], [(29, 3), (30, 4)], [(31, 5)], [(32, 6)], [(32, 6)], [(32, 6)], [(34, 8), (35, 9), (32, 6)], [(36, 10), (32, 6)], [(32, 6)], [(33, 7), (37, 11), (38, 12), (32, 6)], [(32, 6), (39, 13)]]) (ds := [26, 27, 28, 29, 30, 31, 32, 33, 34, 35, 36, 37, 38, 39, 40]) (by kernel_rfl) (by kernel_rfl) (by decide) rfl (Grow.drew _) (fun _ _ _ => Grow.trans) (mono_phi mono) obl tail)
              case obl =>
                refine obls_cons (fun f w' hR hH Q hQ => ?_) ?_
                · skip
                  clear hH
                  refine wpList_view ?_; show wpList _ _ _ [_] ⟨#[_, _, _, _, _, _, _, _, _, _, _, _, _, _, _, _, _, _, _, _, _, _, _, _, _, _, _, _, _, _, _, _, _, _, _, _, _, _, _, _, _, _, _, _, _, _], _⟩ _
                  repeat (first | go_guarded | go_step)
                  exact hQ _ _ (Grow.refl _) rfl rfl
                refine obls_cons (fun f w' hR hH Q hQ => ?_) ?_
                · skip
                  clear hH
                  refine wpList_view ?_; show wpList _ _ _ [_] ⟨#[_, _, _, _, _, _, _, _, _, _, _, _, _, _, _, _, _, _, _, _, _, _, _, _, _, _, _, _, _, _, _, _, _, _, _, _, _, _, _, _, _, _, _, _, _, _], _⟩ _
                  repeat (first | go_guarded | go_step)
                  exact hQ _ _ (Grow.refl _) rfl rfl
                refine obls_cons (fun f w' hR hH Q hQ => ?_) ?_
                · skip
                  have h0 := hH.get 0 (26, 0) rfl
                  have h1 := hH.get 1 (27, 1) rfl
                  clear hH
                  refine wpList_view ?_; show wpList _ _ _ [_] ⟨#[_, _, _, _, _, _, _, _, _, _, _, _, _, _, _, _, _, _, _, _, _, _, _, _, _, _, f 0, f 1, _, _, _, _, _, _, _, _, _, _, _, _, _, _, _, _, _, _], _⟩ _
                  rw [show f 0 = _ from h0]
                  rw [show f 1 = _ from h1]
                  clear h0 h1
                  repeat (first | go_guarded | go_step)
                  exact hQ _ _ (Grow.refl _) rfl rfl
                refine obls_cons (fun f w' hR hH Q hQ => ?_) ?_
                · skip
                  have h2 := hH.get 0 (28, 2) rfl
                  clear hH
                  refine wpList_view ?_; show wpList _ _ _ [_] ⟨#[_, _, _, _, _, _, _, _, _, _, _, _, _, _, _, _, _, _, _, _, _, _, _, _, _, _, _, _, f 2, _, _, _, _, _, _, _, _, _, _, _, _, _, _, _, _, _], _⟩ _
                  rw [show f 2 = _ from h2]
                  clear h2
                  have y1 := hR.cell HC.out
                  repeat (first | go_guarded | go_step)
                  exact hQ _ _ (Grow.refl _) rfl rfl
                refine obls_cons (fun f w' hR hH Q hQ => ?_) ?_
                · skip
                  clear hH
                  refine wpList_view ?_; show wpList _ _ _ [_] ⟨#[_, _, _, _, _, _, _, _, _, _, _, _, _, _, _, _, _, _, _, _, _, _, _, _, _, _, _, _, _, _, _, _, _, _, _, _, _, _, _, _, _, _, _, _, _, _], _⟩ _
                  repeat (first | go_guarded | go_step)
                  exact hQ _ _ (Grow.refl _) rfl rfl
                refine obls_cons (fun f w' hR hH Q hQ => ?_) ?_
                · skip
                  have h3 := hH.get 0 (29, 3) rfl
                  have h4 := hH.get 1 (30, 4) rfl
                  clear hH
                  refine wpList_view ?_; show wpList _ _ _ [_] ⟨#[_, _, _, _, _, _, _, _, _, _, _, _, _, _, _, _, _, _, _, _, _, _, _, _, _, _, _, _, _, f 3, f 4, _, _, _, _, _, _, _, _, _, _, _, _, _, _, _], _⟩ _
                  rw [show f 3 = _ from h3]
                  rw [show f 4 = _ from h4]
                  clear h3 h4
                  repeat (first | go_guarded | go_step)
                  exact hQ _ _ (Grow.refl _) rfl rfl
                refine obls_cons (fun f w' hR hH Q hQ => ?_) ?_
                · skip
                  have h5 := hH.get 0 (31, 5) rfl
                  clear hH
                  refine wpList_view ?_; show wpList _ _ _ [_] ⟨#[_, _, _, _, _, _, _, _, _, _, _, _, _, _, _, _, _, _, _, _, _, _, _, _, _, _, _, _, _, _, _, f 5, _, _, _, _, _, _, _, _, _, _, _, _, _, _], _⟩ _
                  rw [show f 5 = _ from h5]
                  clear h5
                  repeat (first | go_guarded | go_step)
                  exact hQ _ _ (Grow.refl _) rfl rfl
                refine obls_cons (fun f w' hR hH Q hQ => ?_) ?_
                · skip
                  have h6 := hH.get 0 (32, 6) rfl
                  clear hH
                  refine wpList_view ?_; show wpList _ _ _ [_] ⟨#[_, _, _, _, _, _, _, _, _, _, _, _, _, _, _, _, _, _, _, _, _, _, _, _, _, _, _, _, _, _, _, _, f 6, _, _, _, _, _, _, _, _, _, _, _, _, _], _⟩ _
                  rw [show f 6 = _ from h6]
                  clear h6
                  have hb := HBX2.out.grow hR
                  go_wp2_with (refine load_blk rfl _ _ rfl b0 rfl _ _ _ hb und8 rfl (by rw [size8]; rfl) ?_)
                  exact hQ _ _ (Grow.refl _) rfl rfl
                refine obls_cons (fun f w' hR hH Q hQ => ?_) ?_
                · skip
                  have h6 := hH.get 0 (32, 6) rfl
                  clear hH
                  refine wpList_view ?_; show wpList _ _ _ [_] ⟨#[_, _, _, _, _, _, _, _, _, _, _, _, _, _, _, _, _, _, _, _, _, _, _, _, _, _, _, _, _, _, _, _, f 6, _, _, _, _, _, _, _, _, _, _, _, _, _], _⟩ _
                  rw [show f 6 = _ from h6]
                  clear h6
                  repeat (first | go_guarded | go_step)
                  exact hQ _ _ (Grow.refl _) rfl rfl
                refine obls_cons (fun f w' hR hH Q hQ => ?_) ?_
                · skip
                  have h6 := hH.get 0 (32, 6) rfl
                  clear hH
                  refine wpList_view ?_; show wpList _ _ _ [_] ⟨#[_, _, _, _, _, _, _, _, _, _, _, _, _, _, _, _, _, _, _, _, _, _, _, _, _, _, _, _, _, _, _, _, f 6, _, _, _, _, _, _, _, _, _, _, _, _, _], _⟩ _
                  rw [show f 6 = _ from h6]
                  clear h6
                  repeat (first | go_guarded | go_step)
                  exact hQ _ _ (Grow.refl _) rfl rfl
                refine obls_cons (fun f w' hR hH Q hQ => ?_) ?_
                · skip
                  have h8 := hH.get 0 (34, 8) rfl
                  have h9 := hH.get 1 (35, 9) rfl
                  have h6 := hH.get 2 (32, 6) rfl
                  clear hH
                  refine wpList_merge (idx := [none, none, none, none, none, none, none, none, none, none, none, none, none, none, none, none, none, none, none, none, none, none, none, none, none, none, none, none, none, none, none, none, some 6, none, some 8, some 9, none, none, none, none, none, none, none, none, none, none]) (by kernel_rfl) ?_; show wpList _ _ _ [_] ⟨#[_, _, _, _, _, _, _, _, _, _, _, _, _, _, _, _, _, _, _, _, _, _, _, _, _, _, _, _, _, _, _, _, f 6, _, f 8, f 9, _, _, _, _, _, _, _, _, _, _], _⟩ _
                  rw [show f 8 = _ from h8]
                  rw [show f 9 = _ from h9]
                  rw [show f 6 = _ from h6]
                  clear h8 h9 h6
                  repeat (first | go_guarded | go_step)
                  exact hQ _ _ (Grow.refl _) rfl rfl
                refine obls_cons (fun f w' hR hH Q hQ => ?_) ?_
                · skip
                  have h10 := hH.get 0 (36, 10) rfl
                  have h6 := hH.get 1 (32, 6) rfl
                  clear hH
                  refine wpList_view ?_; show wpList _ _ _ [_] ⟨#[_, _, _, _, _, _, _, _, _, _, _, _, _, _, _, _, _, _, _, _, _, _, _, _, _, _, _, _, _, _, _, _, f 6, _, _, _, f 10, _, _, _, _, _, _, _, _, _], _⟩ _
                  rw [show f 10 = _ from h10]
                  rw [show f 6 = _ from h6]
                  clear h10 h6
                  have y1 := hR.cell HC.out
                  repeat (first | go_guarded | go_step)
                  exact hQ _ _ (Grow.refl _) rfl rfl
                refine obls_cons (fun f w' hR hH Q hQ => ?_) ?_
                · skip
                  have h6 := hH.get 0 (32, 6) rfl
                  clear hH
                  refine wpList_view ?_; show wpList _ _ _ [_] ⟨#[_, _, _, _, _, _, _, _, _, _, _, _, _, _, _, _, _, _, _, _, _, _, _, _, _, _, _, _, _, _, _, _, f 6, _, _, _, _, _, _, _, _, _, _, _, _, _], _⟩ _
                  rw [show f 6 = _ from h6]
                  clear h6
                  repeat (first | go_guarded | go_step)
                  exact hQ _ _ (Grow.refl _) rfl rfl
                refine obls_cons (fun f w' hR hH Q hQ => ?_) ?_
                · skip
                  have h7 := hH.get 0 (33, 7) rfl
                  have h11 := hH.get 1 (37, 11) rfl
                  have h12 := hH.get 2 (38, 12) rfl
                  have h6 := hH.get 3 (32, 6) rfl
                  clear hH
                  refine wpList_merge (idx := [none, none, none, none, none, none, none, none, none, none, none, none, none, none, none, none, none, none, none, none, none, none, none, none, none, none, none, none, none, none, none, none, some 6, some 7, none, none, none, some 11, some 12, none, none, none, none, none, none, none]) (by kernel_rfl) ?_; show wpList _ _ _ [_] ⟨#[_, _, _, _, _, _, _, _, _, _, _, _, _, _, _, _, _, _, _, _, _, _, _, _, _, _, _, _, _, _, _, _, f 6, f 7, _, _, _, f 11, f 12, _, _, _, _, _, _, _], _⟩ _
                  rw [show f 7 = _ from h7]
                  rw [show f 11 = _ from h11]
                  rw [show f 12 = _ from h12]
                  rw [show f 6 = _ from h6]
                  clear h7 h11 h12 h6
                  go_wp2_with (go_at_call 42; refine (HH.out w' hR).mono ?_; rintro e w1 ⟨rfl, hg1⟩)
                  exact hQ _ _ hg1 rfl rfl
                refine obls_cons (fun f w' hR hH Q hQ => ?_) ?_
                · skip
                  have h6 := hH.get 0 (32, 6) rfl
                  have h13 := hH.get 1 (39, 13) rfl
                  clear hH
                  refine wpList_view ?_; show wpList _ _ _ [_] ⟨#[_, _, _, _, _, _, _, _, _, _, _, _, _, _, _, _, _, _, _, _, _, _, _, _, _, _, _, _, _, _, _, _, f 6, _, _, _, _, _, _, f 13, _, _, _, _, _, _], _⟩ _
                  rw [show f 6 = _ from h6]
                  rw [show f 13 = _ from h13]
                  clear h6 h13
                  repeat (first | go_guarded | go_step)
                  exact hQ _ _ (Grow.refl _) rfl rfl
                exact obls_nil
              case mono => exact ⟨Mono.veq _, Mono.veq _, Mono.veq _, Mono.veq _, Mono.veq _, Mono.veq _, Mono.veq _, Mono.veq _, Mono.veq _, Mono.veq _, Mono.veq _, Mono.veq _, Mono.veq _, Mono.veq _, Mono.veq _, trivial⟩
              case tail =>
                intro f w' hR hH
                have q14 := hH.get 14 (40, 14) rfl
                clear hH
                refine wpList_merge (idx := [none, none, none, none, none, none, none, none, none, none, none, none, none, none, none, none, none, none, none, none, none, none, none, none, none, none, some 0, some 1, some 2, some 3, some 4, some 5, some 6, some 7, some 8, some 9, some 10, some 11, some 12, some 13, some 14, none, none, none, none, none]) (by kernel_rfl) ?_; show wpList _ _ _ [] ⟨#[_, _, _, _, _, _, _, _, _, _, _, _, _, _, _, _, _, _, _, _, _, _, _, _, _, _, f 0, f 1, f 2, f 3, f 4, f 5, f 6, f 7, f 8, f 9, f 10, f 11, f 12, f 13, f 14, _, _, _, _, _], _⟩ _
                rw [show f 14 = _ from q14]
                clear q14
                have HGr := Lib.hid hR
                clear hR
                go_wp2_with fail
                go_roundw
                case rel => exact ⟨t + 1, out, by have := HLT.out; omega, by go_num, rfl, Lib.hid ⟨HM.out.le, HM.out.al, fun s y hs hy hr => by
                  by_cases hst : s < t
                  · exact HM.out.min_ s y hst hy hr
                  · obtain rfl : s = t := by omega
                    rw [HX.out] at hy
                    obtain rfl := Option.some.inj hy
                    rw [← HA.out] at hr; cases hr⟩, HG.out.trans HGr.out⟩
                case measure => have := HLT.out; simp [intOf] <;> omega
            · clear hcell
              go_wp2_with fail
              apply (fun (v0 v1 v2 v3 v4 v5 v6 v7 v8 v9 v10 v11 v12 v13 v14 : Value) mono obl tail => wp_region_par (R := Grow) (Φ := phi [veq v0, veq v1, veq v2, veq v3, veq v4, veq v5, veq v6, veq v7, veq v8, veq v9, veq v10, veq v11, veq v12, veq v13, veq v14]) (m := 15) (dls := [[], [], [(26, 0), (27, 1)], [(28, 2)], [], [(29, 3), (30, 4)], [(31, 5)], [(32, 6)], [(32, 6)], [(32, 6)], [(34, 8), (35, 9), (32, 6)], [(36, 10), (32, 6)], [(32, 6)], [(33, 7), (37, 11), (38, 12), (32, 6)], [(32, 6), (39, 13)]]) (ds := [26, 27, 28, 29, 30, 31, 32, 33, 34, 35, 36, 37, 38, 39, 40]) (by kernel_rfl) (by kernel_rfl) (by decide) rfl (Grow.drew _) (fun _ _ _ => Grow.trans) (mono_phi mono) obl tail)
              case obl =>
                refine obls_cons (fun f w' hR hH Q hQ => ?_) ?_
                · skip
                  clear hH
                  refine wpList_view ?_; show wpList _ _ _ [_] ⟨#[_, _, _, _, _, _, _, _, _, _, _, _, _, _, _, _, _, _, _, _, _, _, _, _, _, _, _, _, _, _, _, _, _, _, _, _, _, _, _, _, _, _, _, _, _, _], _⟩ _
                  repeat (first | go_guarded | go_step)
                  exact hQ _ _ (Grow.refl _) rfl rfl
                refine obls_cons (fun f w' hR hH Q hQ => ?_) ?_
                · skip
                  clear hH
                  refine wpList_view ?_; show wpList _ _ _ [_] ⟨#[_, _, _, _, _, _, _, _, _, _, _, _, _, _, _, _, _, _, _, _, _, _, _, _, _, _, _, _, _, _, _, _, _, _, _, _, _, _, _, _, _, _, _, _, _, _], _⟩ _
                  repeat (first | go_guarded | go_step)
                  exact hQ _ _ (Grow.refl _) rfl rfl
                refine obls_cons (fun f w' hR hH Q hQ => ?_) ?_
                · skip
                  have h0 := hH.get 0 (26, 0) rfl
                  have h1 := hH.get 1 (27, 1) rfl
                  clear hH
                  refine wpList_view ?_; show wpList _ _ _ [_] ⟨#[_, _, _, _, _, _, _, _, _, _, _, _, _, _, _, _, _, _, _, _, _, _, _, _, _, _, f 0, f 1, _, _, _, _, _, _, _, _, _, _, _, _, _, _, _, _, _, _], _⟩ _
                  rw [show f 0 = _ from h0]
                  rw [show f 1 = _ from h1]
                  clear h0 h1
                  repeat (first | go_guarded | go_step)
                  exact hQ _ _ (Grow.refl _) rfl rfl
                refine obls_cons (fun f w' hR hH Q hQ => ?_) ?_
                · skip
                  have h2 := hH.get 0 (28, 2) rfl
                  clear hH
                  refine wpList_view ?_; show wpList _ _ _ [_] ⟨#[_, _, _, _, _, _, _, _, _, _, _, _, _, _, _, _, _, _, _, _, _, _, _, _, _, _, _, _, f 2, _, _, _, _, _, _, _, _, _, _, _, _, _, _, _, _, _], _⟩ _
                  rw [show f 2 = _ from h2]
                  clear h2
                  have y1 := hR.cell HC.out
                  repeat (first | go_guarded | go_step)
                  exact hQ _ _ (Grow.refl _) rfl rfl
                refine obls_cons (fun f w' hR hH Q hQ => ?_) ?_
                · skip
                  clear hH
                  refine wpList_view ?_; show wpList _ _ _ [_] ⟨#[_, _, _, _, _, _, _, _, _, _, _, _, _, _, _, _, _, _, _, _, _, _, _, _, _, _, _, _, _, _, _, _, _, _, _, _, _, _, _, _, _, _, _, _, _, _], _⟩ _
                  repeat (first | go_guarded | go_step)
                  exact hQ _ _ (Grow.refl _) rfl rfl
                refine obls_cons (fun f w' hR hH Q hQ => ?_) ?_
                · skip
                  have h3 := hH.get 0 (29, 3) rfl
                  have h4 := hH.get 1 (30, 4) rfl
                  clear hH
                  refine wpList_view ?_; show wpList _ _ _ [_] ⟨#[_, _, _, _, _, _, _, _, _, _, _, _, _, _, _, _, _, _, _, _, _, _, _, _, _, _, _, _, _, f 3, f 4, _, _, _, _, _, _, _, _, _, _, _, _, _, _, _], _⟩ _
                  rw [show f 3 = _ from h3]
                  rw [show f 4 = _ from h4]
                  clear h3 h4
                  repeat (first | go_guarded | go_step)
                  exact hQ _ _ (Grow.refl _) rfl rfl
                refine obls_cons (fun f w' hR hH Q hQ => ?_) ?_
                · skip
                  have h5 := hH.get 0 (31, 5) rfl
                  clear hH
                  refine wpList_view ?_; show wpList _ _ _ [_] ⟨#[_, _, _, _, _, _, _, _, _, _, _, _, _, _, _, _, _, _, _, _, _, _, _, _, _, _, _, _, _, _, _, f 5, _, _, _, _, _, _, _, _, _, _, _, _, _, _], _⟩ _
                  rw [show f 5 = _ from h5]
                  clear h5
                  repeat (first | go_guarded | go_step)
                  exact hQ _ _ (Grow.refl _) rfl rfl
                refine obls_cons (fun f w' hR hH Q hQ => ?_) ?_
                · skip
                  have h6 := hH.get 0 (32, 6) rfl
                  clear hH
                  refine wpList_view ?_; show wpList _ _ _ [_] ⟨#[_, _, _, _, _, _, _, _, _, _, _, _, _, _, _, _, _, _, _, _, _, _, _, _, _, _, _, _, _, _, _, _, f 6, _, _, _, _, _, _, _, _, _, _, _, _, _], _⟩ _
                  rw [show f 6 = _ from h6]
                  clear h6
                  have hb := HBX2.out.grow hR
                  go_wp2_with (refine load_blk rfl _ _ rfl b0 rfl _ _ _ hb und8 rfl (by rw [size8]; rfl) ?_)
                  exact hQ _ _ (Grow.refl _) rfl rfl
                refine obls_cons (fun f w' hR hH Q hQ => ?_) ?_
                · skip
                  have h6 := hH.get 0 (32, 6) rfl
                  clear hH
                  refine wpList_view ?_; show wpList _ _ _ [_] ⟨#[_, _, _, _, _, _, _, _, _, _, _, _, _, _, _, _, _, _, _, _, _, _, _, _, _, _, _, _, _, _, _, _, f 6, _, _, _, _, _, _, _, _, _, _, _, _, _], _⟩ _
                  rw [show f 6 = _ from h6]
                  clear h6
                  repeat (first | go_guarded | go_step)
                  exact hQ _ _ (Grow.refl _) rfl rfl
                refine obls_cons (fun f w' hR hH Q hQ => ?_) ?_
                · skip
                  have h6 := hH.get 0 (32, 6) rfl
                  clear hH
                  refine wpList_view ?_; show wpList _ _ _ [_] ⟨#[_, _, _, _, _, _, _, _, _, _, _, _, _, _, _, _, _, _, _, _, _, _, _, _, _, _, _, _, _, _, _, _, f 6, _, _, _, _, _, _, _, _, _, _, _, _, _], _⟩ _
                  rw [show f 6 = _ from h6]
                  clear h6
                  repeat (first | go_guarded | go_step)
                  exact hQ _ _ (Grow.refl _) rfl rfl
                refine obls_cons (fun f w' hR hH Q hQ => ?_) ?_
                · skip
                  have h8 := hH.get 0 (34, 8) rfl
                  have h9 := hH.get 1 (35, 9) rfl
                  have h6 := hH.get 2 (32, 6) rfl
                  clear hH
                  refine wpList_merge (idx := [none, none, none, none, none, none, none, none, none, none, none, none, none, none, none, none, none, none, none, none, none, none, none, none, none, none, none, none, none, none, none, none, some 6, none, some 8, some 9, none, none, none, none, none, none, none, none, none, none]) (by kernel_rfl) ?_; show wpList _ _ _ [_] ⟨#[_, _, _, _, _, _, _, _, _, _, _, _, _, _, _, _, _, _, _, _, _, _, _, _, _, _, _, _, _, _, _, _, f 6, _, f 8, f 9, _, _, _, _, _, _, _, _, _, _], _⟩ _
                  rw [show f 8 = _ from h8]
                  rw [show f 9 = _ from h9]
                  rw [show f 6 = _ from h6]
                  clear h8 h9 h6
                  repeat (first | go_guarded | go_step)
                  exact hQ _ _ (Grow.refl _) rfl rfl
                refine obls_cons (fun f w' hR hH Q hQ => ?_) ?_
                · skip
                  have h10 := hH.get 0 (36, 10) rfl
                  have h6 := hH.get 1 (32, 6) rfl
                  clear hH
                  refine wpList_view ?_; show wpList _ _ _ [_] ⟨#[_, _, _, _, _, _, _, _, _, _, _, _, _, _, _, _, _, _, _, _, _, _, _, _, _, _, _, _, _, _, _, _, f 6, _, _, _, f 10, _, _, _, _, _, _, _, _, _], _⟩ _
                  rw [show f 10 = _ from h10]
                  rw [show f 6 = _ from h6]
                  clear h10 h6
                  have y1 := hR.cell HC.out
                  repeat (first | go_guarded | go_step)
                  exact hQ _ _ (Grow.refl _) rfl rfl
                refine obls_cons (fun f w' hR hH Q hQ => ?_) ?_
                · skip
                  have h6 := hH.get 0 (32, 6) rfl
                  clear hH
                  refine wpList_view ?_; show wpList _ _ _ [_] ⟨#[_, _, _, _, _, _, _, _, _, _, _, _, _, _, _, _, _, _, _, _, _, _, _, _, _, _, _, _, _, _, _, _, f 6, _, _, _, _, _, _, _, _, _, _, _, _, _], _⟩ _
                  rw [show f 6 = _ from h6]
                  clear h6
                  repeat (first | go_guarded | go_step)
                  exact hQ _ _ (Grow.refl _) rfl rfl
                refine obls_cons (fun f w' hR hH Q hQ => ?_) ?_
                · skip
                  have h7 := hH.get 0 (33, 7) rfl
                  have h11 := hH.get 1 (37, 11) rfl
                  have h12 := hH.get 2 (38, 12) rfl
                  have h6 := hH.get 3 (32, 6) rfl
                  clear hH
                  refine wpList_merge (idx := [none, none, none, none, none, none, none, none, none, none, none, none, none, none, none, none, none, none, none, none, none, none, none, none, none, none, none, none, none, none, none, none, some 6, some 7, none, none, none, some 11, some 12, none, none, none, none, none, none, none]) (by kernel_rfl) ?_; show wpList _ _ _ [_] ⟨#[_, _, _, _, _, _, _, _, _, _, _, _, _, _, _, _, _, _, _, _, _, _, _, _, _, _, _, _, _, _, _, _, f 6, f 7, _, _, _, f 11, f 12, _, _, _, _, _, _, _], _⟩ _
                  rw [show f 7 = _ from h7]
                  rw [show f 11 = _ from h11]
                  rw [show f 12 = _ from h12]
                  rw [show f 6 = _ from h6]
                  clear h7 h11 h12 h6
                  go_wp2_with (go_at_call 42; refine (HH.out w' hR).mono ?_; rintro e w1 ⟨rfl, hg1⟩)
                  exact hQ _ _ hg1 rfl rfl
                refine obls_cons (fun f w' hR hH Q hQ => ?_) ?_
                · skip
                  have h6 := hH.get 0 (32, 6) rfl
                  have h13 := hH.get 1 (39, 13) rfl
                  clear hH
                  refine wpList_view ?_; show wpList _ _ _ [_] ⟨#[_, _, _, _, _, _, _, _, _, _, _, _, _, _, _, _, _, _, _, _, _, _, _, _, _, _, _, _, _, _, _, _, f 6, _, _, _, _, _, _, f 13, _, _, _, _, _, _], _⟩ _
                  rw [show f 6 = _ from h6]
                  rw [show f 13 = _ from h13]
                  clear h6 h13
                  repeat (first | go_guarded | go_step)
                  exact hQ _ _ (Grow.refl _) rfl rfl
                exact obls_nil
              case mono => exact ⟨Mono.veq _, Mono.veq _, Mono.veq _, Mono.veq _, Mono.veq _, Mono.veq _, Mono.veq _, Mono.veq _, Mono.veq _, Mono.veq _, Mono.veq _, Mono.veq _, Mono.veq _, Mono.veq _, Mono.veq _, trivial⟩
              case tail =>
                intro f w' hR hH
                have q14 := hH.get 14 (40, 14) rfl
                clear hH
                refine wpList_merge (idx := [none, none, none, none, none, none, none, none, none, none, none, none, none, none, none, none, none, none, none, none, none, none, none, none, none, none, some 0, some 1, some 2, some 3, some 4, some 5, some 6, some 7, some 8, some 9, some 10, some 11, some 12, some 13, some 14, none, none, none, none, none]) (by kernel_rfl) ?_; show wpList _ _ _ [] ⟨#[_, _, _, _, _, _, _, _, _, _, _, _, _, _, _, _, _, _, _, _, _, _, _, _, _, _, f 0, f 1, f 2, f 3, f 4, f 5, f 6, f 7, f 8, f 9, f 10, f 11, f 12, f 13, f 14, _, _, _, _, _], _⟩ _
                rw [show f 14 = _ from q14]
                clear q14
                have HGr := Lib.hid hR
                have y1 := hR.cell HC.out
                clear hR
                go_wp2_with fail
                go_roundw
                case rel => exact ⟨t + 1, x, by have := HLT.out; omega, by go_num, rfl, Lib.hid ⟨by have := HM.out.le; have := of_decide_eq_true HE.out.symm; omega, by unfold alikeN; rw [(HLO.out x).1 (List.mem_of_getElem? HX.out), ← HA.out]; simp, fun s y hs hy hr => by
                  have h1 := of_decide_eq_true HE.out.symm
                  by_cases hst : s < t
                  · have := HM.out.min_ s y hst hy hr; omega
                  · obtain rfl : s = t := by omega
                    rw [HX.out] at hy
                    obtain rfl := Option.some.inj hy
                    omega⟩, HG.out.trans HGr.out⟩
                case measure => have := HLT.out; simp [intOf] <;> omega
        · obtain rfl : t = lo := by omega
          have HEND : Hid (r = out ∧ Grow w wr) := Lib.hid ⟨by rw [HR.out]; exact HM.out.group (by rw [← HLOL.out]; exact Nat.le_refl _) HLO.out, HG1.out.trans (HG2.out.trans hg)⟩
          clear hg
          go_wp2_with fail
          go_ret
          exact ⟨by rw [HEND.out.1]; rfl, HEND.out.2⟩
    · rw [show groupI n (leadB L) (k : Int) = -1 by unfold groupI; rw [decide_eq_false (show ¬ (k : Int) < (n : Int) by omega)]; simp]
      have t1 : decide ((k : Int) < 0) = false := decide_eq_false (by omega)
      have t2 : decide (n ≤ k) = true := decide_eq_true (by omega)
      have t3 : decide ((n : Int) ≤ (k : Int)) = true := decide_eq_true (by omega)
      clear hi hlt
      go_enter Try.func44, Try.ntmps44
      go_wp2_with fail
      rw [← HW1.out]
      go_ret
      exact ⟨rfl, HG1.out⟩
  · rw [show groupI n (leadB L) i = -1 by unfold groupI; rw [decide_eq_false hi]; simp]
    have t1 : decide (i < 0) = true := decide_eq_true (by omega)
    clear hi
    go_enter Try.func44, Try.ntmps44
    go_wp2_with fail
    rw [← HW1.out]
    go_ret
    exact ⟨rfl, HG1.out⟩
end Go.Proofs.Ytjfohglkpbgkaaa.reW
