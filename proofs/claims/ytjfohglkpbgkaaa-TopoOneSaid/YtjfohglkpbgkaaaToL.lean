/- The statements on order: the chapter's example; TopoSays. -/
import Derived.Test.YtjfohglkpbgkaaaToR3
import Derived.Test.YtjfohglkpbgkaaaReL
import Derived.Test.YtjfohglkpbgkaaaMkR5
namespace Go.Proofs.Ytjfohglkpbgkaaa.toL
open Go Go.RowKit Go.Par Go.Kit Go.Proofs.Ytjfohglkpbgkaaa.Mk Go.Proofs.Ytjfohglkpbgkaaa.mkW Go.Proofs.Ytjfohglkpbgkaaa.Re Go.Proofs.Ytjfohglkpbgkaaa.reW Go.Proofs.Ytjfohglkpbgkaaa.mkR Go.Proofs.Ytjfohglkpbgkaaa.To Go.Proofs.Ytjfohglkpbgkaaa.toW

theorem e_order : orderN 3 (leadB (vp 3 [(2, 0)])) = [1, 2, 0] := by decide +kernel
theorem e_fits : fitsB 3 (leadB (vp 3 [(2, 0)])) [2, 1, 0] = true := by decide +kernel
theorem e_nofit : fitsB 3 (leadB (vp 3 [(2, 0)])) [0, 2] = false := by decide +kernel
theorem bd {n : Nat} {xs : List (Int × Int)} : Bd n (leadB (vp n xs)) := fun i j h => ⟨reL.lead_lt1 i j h, reL.lead_lt i j h⟩
/-- a slice of constants -/
theorem ints_new (w : World) (L : List Nat) {g : Nat} {cs : Array Value} (hg : g = w.heap.size) (hc : cs = (L.map nv).toArray) (hm : L.length ≤ maxLen) : IntsV (w.alloc (.cells cs 3)) (.slice (some ⟨g, 0, none⟩) L.length L.length) L := by
  have hb : Blk (w.alloc (.cells cs 3)) g 3 (L.map nv) := Blk.new w _ _ _ hc hg
  refine ⟨_, _, rfl, Nat.le_refl _, hm, ?_, fun _ ad had => ?_⟩
  · have := hb.row
    rwa [List.length_map] at this
  · injection had with had
    subst had
    exact ⟨_, hb⟩
theorem iv_nv (L : List Nat) : L.map nv = (L.map fun n : Nat => (n : Int)).map iv := by simp [nv, iv]
theorem fits_nat (w : World) (gr n : Nat) (R : Nat → Nat → Bool) (h : RelP w gr n R) (v : Value) (L : List Nat) (hv : IntsV w v L) (hL : ∀ x ∈ L, x ≤ 100000) :
    Calls Try.prog 53 #[.pointer (some ⟨gr, 0, none⟩), v] w fun e w' => e = .returned (.bool (fitsB n R (L.map fun n : Nat => (n : Int)))) ∧ Grow w w' := by
  obtain ⟨A, c, rfl, h1, h2, h3, -⟩ := hv
  rw [iv_nv] at h3
  exact toW.fits_any w gr n R h A L.length c _ h3 h1 h2 fun z hz => by
    obtain ⟨x, hx, rfl⟩ := List.mem_map.1 hz
    have := hL x hx
    exact ⟨by omega, by omega⟩
set_option maxRecDepth 100000 in
set_option maxHeartbeats 1000000 in
theorem works_any (w : World) : Calls Try.prog 50 #[] w fun e w' => e = .returned (.bool true) ∧ Grow w w' := by
  obtain ⟨xs, hxs⟩ : ∃ xs : List (Int × Int), xs = [(2, 0)] := ⟨_, rfl⟩
  obtain ⟨W1, hW1⟩ : ∃ W, W = w.alloc (.cells #[.int .i64 2, .int .i64 0] T2) := ⟨_, rfl⟩
  have hr : Recs 2 prow W1 (some ⟨w.heap.size, 0, none⟩) 1 xs := by
    rw [hxs, hW1]
    exact ⟨rfl, fun _ => rfl, Row.new w [.int .i64 2, .int .i64 0] T2 (0, 0)⟩
  have hok : ∀ x ∈ xs, PairOk x := by
    rw [hxs]
    intro x hx
    simp only [List.mem_cons, List.not_mem_nil, or_false] at hx
    rcases hx with rfl
    exact ⟨⟨by decide, by decide⟩, ⟨by decide, by decide⟩⟩
  have hof := reW.of_any W1 3 (some ⟨w.heap.size, 0, none⟩) 1 1 xs hr (by decide) hok
  rw [show clampN 3 = 3 by decide] at hof
  obtain ⟨R, hR⟩ : ∃ R, R = leadB (vp 3 xs) := ⟨_, rfl⟩
  rw [← hR] at hof
  have HOF := Lib.hid hof
  have HW1 := Lib.hid hW1
  have hG1 : Grow w W1 := by rw [hW1]; exact Grow.alloc _ _
  have HG1 := Lib.hid hG1
  have HE : Hid (orderN 3 R = [1, 2, 0] ∧ fitsB 3 R [2, 1, 0] = true ∧ fitsB 3 R [0, 2] = false) := Lib.hid (by rw [hR, hxs]; exact ⟨e_order, e_fits, e_nofit⟩)
  have HBD : Hid (Bd 3 R) := Lib.hid (by rw [hR]; exact bd)
  have HTR : Hid (Tr R) := Lib.hid (by rw [hR]; exact leadB_tr _)
  clear hof hr hok hR hxs hW1 hG1
  go_enter Try.func50, Try.ntmps50
  go_wp2_with fail
  rw [← HW1.out]
  refine HOF.out.mono ?_
  rintro e w2 ⟨gr, rfl, hrel, hg2⟩
  have HREL := Lib.hid hrel
  have HG2 := Lib.hid (HG1.out.trans hg2)
  have HOR := Lib.hid (order_any w2 gr 3 R hrel HBD.out HTR.out)
  clear hrel hg2
  go_wp2_with fail
  refine HOR.out.mono ?_
  rintro e w3 ⟨v, rfl, hv, hg3⟩
  rw [HE.out.1] at hv
  have HV := Lib.hid hv
  have HG3 := Lib.hid hg3
  clear hv hg3
  go_wp2_with fail
  obtain ⟨W4, hW4⟩ : ∃ W, W = w3.alloc (.cells #[.int .i64 1, .int .i64 2, .int .i64 0] 3) := ⟨_, rfl⟩
  rw [← hW4]
  have hg4 : Grow w3 W4 := by rw [hW4]; exact Grow.alloc _ _
  have hi := ints_any W4 v (.slice (some ⟨w3.heap.size, 0, none⟩) 3 3) [1, 2, 0] [1, 2, 0] (HV.out.grow hg4) (by rw [hW4]; exact ints_new w3 [1, 2, 0] rfl rfl (by decide))
  rw [if_pos rfl] at hi
  have HI := Lib.hid hi
  have HG4 := Lib.hid (HG3.out.trans hg4)
  clear hW4 hg4 hi
  refine HI.out.mono ?_
  rintro e w5 ⟨rfl, hg5⟩
  have HG5 := Lib.hid (HG4.out.trans hg5)
  clear hg5
  go_wp2_with fail
  obtain ⟨W6, hW6⟩ : ∃ W, W = w5.alloc (.cells #[.int .i64 2, .int .i64 1, .int .i64 0] 3) := ⟨_, rfl⟩
  rw [← hW6]
  have hg6 : Grow w5 W6 := by rw [hW6]; exact Grow.alloc _ _
  have hi := fits_nat W6 gr 3 R (HREL.out.grow (HG5.out.trans hg6)) (.slice (some ⟨w5.heap.size, 0, none⟩) 3 3) [2, 1, 0] (by rw [hW6]; exact ints_new w5 [2, 1, 0] rfl rfl (by decide)) (by decide)
  rw [show ([2, 1, 0] : List Nat).map (fun n : Nat => (n : Int)) = [2, 1, 0] from rfl, HE.out.2.1] at hi
  have HI := Lib.hid hi
  have HG6 := Lib.hid (HG5.out.trans hg6)
  clear hW6 hg6 hi
  refine HI.out.mono ?_
  rintro e w7 ⟨rfl, hg7⟩
  have HG7 := Lib.hid (HG6.out.trans hg7)
  clear hg7
  go_wp2_with fail
  obtain ⟨W8, hW8⟩ : ∃ W, W = w7.alloc (.cells #[.int .i64 0, .int .i64 2] 3) := ⟨_, rfl⟩
  rw [← hW8]
  have hg8 : Grow w7 W8 := by rw [hW8]; exact Grow.alloc _ _
  have hi := fits_nat W8 gr 3 R (HREL.out.grow (HG7.out.trans hg8)) (.slice (some ⟨w7.heap.size, 0, none⟩) 2 2) [0, 2] (by rw [hW8]; exact ints_new w7 [0, 2] rfl rfl (by decide)) (by decide)
  rw [show ([0, 2] : List Nat).map (fun n : Nat => (n : Int)) = [0, 2] from rfl, HE.out.2.2] at hi
  have HI := Lib.hid hi
  have HG8 := Lib.hid (HG7.out.trans hg8)
  clear hW8 hg8 hi
  refine HI.out.mono ?_
  rintro e w9 ⟨rfl, hg9⟩
  have HG9 := Lib.hid (HG8.out.trans hg9)
  clear hg9
  go_wp2_with fail
  go_ret
  exact ⟨rfl, HG2.out.trans HG9.out⟩
/-- a value that is a slice of just these numbers -/
def IsI (L : List Nat) : Value → World → Prop := fun u w => IntsV w u L
theorem IsI.mono {L : List Nat} : Mono Grow (IsI L) := fun _ _ _ h hg => h.grow hg
theorem ints_same (w : World) (v1 v2 : Value) (L : List Nat) (h1 : IntsV w v1 L) (h2 : IntsV w v2 L) : Calls Try.prog 33 #[v1, v2] w fun e w' => e = .returned (.int .i64 1) ∧ Grow w w' := by
  have := ints_any w v1 v2 L L h1 h2
  rwa [if_pos rfl] at this
set_option linter.unusedSimpArgs false in
set_option maxRecDepth 100000 in
set_option maxHeartbeats 8000000 in
theorem says_walk (n0 : Int) (A : Option Addr) (len c : Nat) (xs : List (Int × Int)) (w : World) (hr : Recs 2 prow w A len xs) (hx : ∀ x ∈ xs, PairOk x)
    (A2 : Option Addr) (len2 c2 : Nat) (zs : List Int) (hr2 : Row w A2 len2 (zs.map iv)) (hc2 : len2 ≤ c2) (hm2 : c2 ≤ maxLen) (hz : ∀ z ∈ zs, i64ok z) :
    Calls Try.prog 10 #[.int .i64 n0, .slice A len c, .slice A2 len2 c2] w fun e w' => e = .returned (.bool true) ∧ Grow w w' := by
  have HWK := Lib.hid (works_any w)
  by_cases h14 : 14 < n0
  · have t1 : decide (14 < n0) = true := decide_eq_true h14
    clear h14 hr hx hr2 hz
    go_enter Try.func10, Try.ntmps10
    go_wp2_with fail
    refine HWK.out.mono ?_
    rintro e w1 ⟨rfl, hg1⟩
    go_wp2_with fail
    go_ret
    exact ⟨rfl, hg1⟩
  · have t1 : decide (14 < n0) = false := decide_eq_false h14
    by_cases h40 : 40 < len
    · have t2 : decide (40 < len) = true := decide_eq_true h40
      have t3 : decide ((40 : Int) < (len : Int)) = true := decide_eq_true (by omega)
      clear h14 h40 hr hx hr2 hz
      go_enter Try.func10, Try.ntmps10
      go_wp2_with fail
      refine HWK.out.mono ?_
      rintro e w1 ⟨rfl, hg1⟩
      go_wp2_with fail
      go_ret
      exact ⟨rfl, hg1⟩
    · have t2 : decide (40 < len) = false := decide_eq_false h40
      have t3 : decide ((40 : Int) < (len : Int)) = false := decide_eq_false (by omega)
      by_cases h30 : 30 < len2
      · have t4 : decide (30 < len2) = true := decide_eq_true h30
        have t5 : decide ((30 : Int) < (len2 : Int)) = true := decide_eq_true (by omega)
        clear h14 h40 h30 hr hx hr2 hz
        go_enter Try.func10, Try.ntmps10
        go_wp2_with fail
        refine HWK.out.mono ?_
        rintro e w1 ⟨rfl, hg1⟩
        go_wp2_with fail
        go_ret
        exact ⟨rfl, hg1⟩
      · have t4 : decide (30 < len2) = false := decide_eq_false h30
        have t5 : decide ((30 : Int) < (len2 : Int)) = false := decide_eq_false (by omega)
        obtain ⟨n, hn⟩ : ∃ n, n = clampN n0 := ⟨_, rfl⟩
        have hnl : n ≤ 14 := by rw [hn]; unfold clampN; omega
        have hof := reW.of_any w n0 A len c xs hr (by omega) hx
        rw [← hn] at hof
        obtain ⟨Lx, hLx⟩ : ∃ L, L = vp n xs := ⟨_, rfl⟩
        rw [← hLx] at hof
        obtain ⟨R, hR⟩ : ∃ R, R = leadB Lx := ⟨_, rfl⟩
        rw [← hR] at hof
        have HOF := Lib.hid hof
        have hrf := fun w' (hg : Grow w w') => ref_of w' n0 A len c xs (hr.grow hg) (by omega)
        rw [← hn, ← hLx] at hrf
        have HRF := Lib.hid hrf
        have HLL : Hid (Lx.length ≤ 1000000) := Lib.hid (by have := reL.vp_len n xs; have := hr.1; rw [hLx]; omega)
        have HBD : Hid (Bd n R) := Lib.hid (by rw [hR, hLx]; exact bd)
        have HTR : Hid (Tr R) := Lib.hid (by rw [hR]; exact leadB_tr _)
        have HRR := Lib.hid hR
        have HZ := Lib.hid hz
        have HROW := Lib.hid hr2
        clear h14 h40 h30 hr hx hof hrf hLx hR HWK hz hr2 hn
        go_enter Try.func10, Try.ntmps10
        go_wp2_with fail
        refine HOF.out.mono ?_
        rintro e w2 ⟨gr, rfl, hrel, hg2⟩
        have HREL := Lib.hid hrel
        have HG2 := Lib.hid hg2
        have HRF2 := Lib.hid (HRF.out w2 hg2)
        clear hrel hg2 HOF
        go_wp2_with fail
        refine HRF2.out.mono ?_
        rintro e w3 ⟨v, rfl, hv, hg3⟩
        have HV := Lib.hid hv
        obtain ⟨A3, c3, rfl, -⟩ := hv
        obtain ⟨l3, hl3⟩ : ∃ l, l = Lx.length := ⟨_, rfl⟩
        rw [← hl3] at HV ⊢
        have HG3 := Lib.hid hg3
        clear hg3 hl3 HRF2 HRF
        go_wp2_with fail
        obtain ⟨b8, hb8⟩ : ∃ b, b = w3.heap.size := ⟨_, rfl⟩
        obtain ⟨W4, hW4⟩ : ∃ W, W = w3.alloc (.cells #[.int .i64 (n : Int), .slice A3 l3 c3] TX8) := ⟨_, rfl⟩
        rw [← hW4, ← hb8]
        have hg4 : Grow w3 W4 := by rw [hW4]; exact Grow.alloc _ _
        have HB8 : Hid (Blk W4 b8 TX8 [.int .i64 (n : Int), .slice A3 l3 c3]) := Lib.hid (by rw [hW4]; exact Blk.new _ _ _ _ rfl hb8)
        have HG : Hid (Grow w W4) := Lib.hid (HG2.out.trans (HG3.out.trans hg4))
        have HREL4 := Lib.hid (HREL.out.grow (HG3.out.trans hg4))
        have HV4 := Lib.hid (HV.out.grow hg4)
        obtain ⟨o, ho⟩ : ∃ o, o = orderN n R := ⟨_, rfl⟩
        obtain ⟨f, hf⟩ : ∃ f, f = fitsB n R zs := ⟨_, rfl⟩
        have K1 : Hid (∀ w', Grow W4 w' → Calls Try.prog 51 #[.pointer (some ⟨gr, 0, none⟩)] w' fun e w2 => ∃ u, e = .returned u ∧ IntsV w2 u o ∧ Grow w' w2) := Lib.hid fun w' hg => by rw [ho]; exact order_any w' gr n R (HREL4.out.grow hg) HBD.out HTR.out
        have K2 : Hid (∀ w', Grow W4 w' → Calls Try.prog 52 #[.agg #[.int .i64 (n : Int), .slice A3 l3 c3]] w' fun e w2 => ∃ u, e = .returned u ∧ IntsV w2 u o ∧ Grow w' w2) := Lib.hid fun w' hg => by rw [ho, HRR.out]; exact ref_order w' n _ Lx (HV4.out.grow hg) HLL.out (by omega)
        have K3 : Hid (∀ w', Grow W4 w' → Calls Try.prog 53 #[.pointer (some ⟨gr, 0, none⟩), .slice A2 len2 c2] w' fun e w2 => e = .returned (.bool f) ∧ Grow w' w2) := Lib.hid fun w' hg => by rw [hf]; exact toW.fits_any w' gr n R (HREL4.out.grow hg) A2 len2 c2 zs (HROW.out.grow (HG.out.trans hg)) hc2 hm2 HZ.out
        have K4 : Hid (∀ w', Grow W4 w' → Calls Try.prog 54 #[.agg #[.int .i64 (n : Int), .slice A3 l3 c3], .slice A2 len2 c2] w' fun e w2 => e = .returned (.bool f) ∧ Grow w' w2) := Lib.hid fun w' hg => by rw [hf, HRR.out]; exact ref_fits w' n _ Lx (HV4.out.grow hg) HLL.out A2 len2 c2 zs (HROW.out.grow (HG.out.trans hg)) hc2 hm2
        have hff : (f == f) = true := beq_self_eq_true f
        clear hW4 hb8 hg4 ho hf HREL HG2 HG3 HV HREL4 HV4 HLL HBD HTR HRR HZ HROW
        apply (fun (v0 v2 v4 v5 v6 v7 v8 v9 v10 v11 v12 v13 v14 v15 v16 v17 v18 : Value) mono obl tail => wp_region_par (R := Grow) (Φ := phi [veq v0, (IsI o), veq v2, (IsI o), veq v4, veq v5, veq v6, veq v7, veq v8, veq v9, veq v10, veq v11, veq v12, veq v13, veq v14, veq v15, veq v16, veq v17, veq v18]) (m := 19) (dls := [[], [(28, 0)], [], [(30, 2)], [(29, 1), (31, 3)], [(32, 4)], [(33, 5)], [(34, 6)], [(34, 6)], [(35, 7), (36, 8), (34, 6)], [(34, 6)], [(34, 6)], [(38, 10), (39, 11), (34, 6)], [(37, 9), (40, 12), (34, 6)], [(34, 6), (41, 13)], [(42, 14)], [(43, 15)], [(43, 15), (44, 16)], [(45, 17)]]) (ds := [28, 29, 30, 31, 32, 33, 34, 35, 36, 37, 38, 39, 40, 41, 42, 43, 44, 45, 6]) (by kernel_rfl) (by kernel_rfl) (by decide) rfl (Grow.drew _) (fun _ _ _ => Grow.trans) (mono_phi mono) obl tail)
        case obl =>
          refine obls_cons (fun f w' hR hH Q hQ => ?_) ?_
          · skip
            clear hH
            refine wpList_view ?_; show wpList _ _ _ [_] ⟨#[_, _, _, _, _, _, _, _, _, _, _, _, _, _, _, _, _, _, _, _, _, _, _, _, _, _, _, _, _, _, _, _, _, _, _, _, _, _, _, _, _, _, _, _, _, _], _⟩ _
            repeat (first | go_guarded | go_step)
            exact hQ _ _ (Grow.refl _) rfl rfl
          refine obls_cons (fun f w' hR hH Q hQ => ?_) ?_
          · skip
            have h0 := hH.get 0 (28, 0) rfl
            clear hH
            refine wpList_view ?_; show wpList _ _ _ [_] ⟨#[_, _, _, _, _, _, _, _, _, _, _, _, _, _, _, _, _, _, _, _, _, _, _, _, _, _, _, _, f 0, _, _, _, _, _, _, _, _, _, _, _, _, _, _, _, _, _], _⟩ _
            rw [show f 0 = _ from h0]
            clear h0
            go_wp2_with (go_at_call 51; refine (K1.out w' hR).mono ?_; rintro e w1 ⟨v1, rfl, ho1, hg1⟩)
            exact hQ _ _ hg1 ho1 rfl
          refine obls_cons (fun f w' hR hH Q hQ => ?_) ?_
          · skip
            clear hH
            refine wpList_view ?_; show wpList _ _ _ [_] ⟨#[_, _, _, _, _, _, _, _, _, _, _, _, _, _, _, _, _, _, _, _, _, _, _, _, _, _, _, _, _, _, _, _, _, _, _, _, _, _, _, _, _, _, _, _, _, _], _⟩ _
            have hb := HB8.out.grow hR
            go_wp2_with (refine load_blk rfl _ _ rfl b8 rfl _ _ _ hb und8 rfl (by rw [size8]; rfl) ?_)
            exact hQ _ _ (Grow.refl _) rfl rfl
          refine obls_cons (fun f w' hR hH Q hQ => ?_) ?_
          · skip
            have h2 := hH.get 0 (30, 2) rfl
            clear hH
            refine wpList_view ?_; show wpList _ _ _ [_] ⟨#[_, _, _, _, _, _, _, _, _, _, _, _, _, _, _, _, _, _, _, _, _, _, _, _, _, _, _, _, _, _, f 2, _, _, _, _, _, _, _, _, _, _, _, _, _, _, _], _⟩ _
            rw [show f 2 = _ from h2]
            clear h2
            go_wp2_with (go_at_call 52; refine (K2.out w' hR).mono ?_; rintro e w1 ⟨v1, rfl, ho1, hg1⟩)
            exact hQ _ _ hg1 ho1 rfl
          refine obls_cons (fun f w' hR hH Q hQ => ?_) ?_
          · skip
            have h1 := hH.get 0 (29, 1) rfl
            have h3 := hH.get 1 (31, 3) rfl
            clear hH
            refine wpList_view ?_; show wpList _ _ _ [_] ⟨#[_, _, _, _, _, _, _, _, _, _, _, _, _, _, _, _, _, _, _, _, _, _, _, _, _, _, _, _, _, f 1, _, f 3, _, _, _, _, _, _, _, _, _, _, _, _, _, _], _⟩ _
            replace h1 : (IsI o) (f 1) w' := h1
            generalize f 1 = u1 at h1 ⊢
            replace h3 : (IsI o) (f 3) w' := h3
            generalize f 3 = u3 at h3 ⊢
            go_wp2_with (go_at_call 33; refine (ints_same w' _ _ o h1 h3).mono ?_; rintro e w1 ⟨rfl, hg1⟩)
            exact hQ _ _ hg1 rfl rfl
          refine obls_cons (fun f w' hR hH Q hQ => ?_) ?_
          · skip
            have h4 := hH.get 0 (32, 4) rfl
            clear hH
            refine wpList_view ?_; show wpList _ _ _ [_] ⟨#[_, _, _, _, _, _, _, _, _, _, _, _, _, _, _, _, _, _, _, _, _, _, _, _, _, _, _, _, _, _, _, _, f 4, _, _, _, _, _, _, _, _, _, _, _, _, _], _⟩ _
            rw [show f 4 = _ from h4]
            clear h4
            repeat (first | go_guarded | go_step)
            exact hQ _ _ (Grow.refl _) rfl rfl
          refine obls_cons (fun f w' hR hH Q hQ => ?_) ?_
          · skip
            have h5 := hH.get 0 (33, 5) rfl
            clear hH
            refine wpList_view ?_; show wpList _ _ _ [_] ⟨#[_, _, _, _, _, _, _, _, _, _, _, _, _, _, _, _, _, _, _, _, _, _, _, _, _, _, _, _, _, _, _, _, _, f 5, _, _, _, _, _, _, _, _, _, _, _, _], _⟩ _
            rw [show f 5 = _ from h5]
            clear h5
            repeat (first | go_guarded | go_step)
            exact hQ _ _ (Grow.refl _) rfl rfl
          refine obls_cons (fun f w' hR hH Q hQ => ?_) ?_
          · skip
            have h6 := hH.get 0 (34, 6) rfl
            clear hH
            refine wpList_view ?_; show wpList _ _ _ [_] ⟨#[_, _, _, _, _, _, _, _, _, _, _, _, _, _, _, _, _, _, _, _, _, _, _, _, _, _, _, _, _, _, _, _, _, _, f 6, _, _, _, _, _, _, _, _, _, _, _], _⟩ _
            rw [show f 6 = _ from h6]
            clear h6
            repeat (first | go_guarded | go_step)
            exact hQ _ _ (Grow.refl _) rfl rfl
          refine obls_cons (fun f w' hR hH Q hQ => ?_) ?_
          · skip
            have h6 := hH.get 0 (34, 6) rfl
            clear hH
            refine wpList_view ?_; show wpList _ _ _ [_] ⟨#[_, _, _, _, _, _, _, _, _, _, _, _, _, _, _, _, _, _, _, _, _, _, _, _, _, _, _, _, _, _, _, _, _, _, f 6, _, _, _, _, _, _, _, _, _, _, _], _⟩ _
            rw [show f 6 = _ from h6]
            clear h6
            repeat (first | go_guarded | go_step)
            exact hQ _ _ (Grow.refl _) rfl rfl
          refine obls_cons (fun f w' hR hH Q hQ => ?_) ?_
          · skip
            have h7 := hH.get 0 (35, 7) rfl
            have h8 := hH.get 1 (36, 8) rfl
            have h6 := hH.get 2 (34, 6) rfl
            clear hH
            refine wpList_merge (idx := [none, none, none, none, none, none, none, none, none, none, none, none, none, none, none, none, none, none, none, none, none, none, none, none, none, none, none, none, none, none, none, none, none, none, some 6, some 7, some 8, none, none, none, none, none, none, none, none, none]) (by kernel_rfl) ?_; show wpList _ _ _ [_] ⟨#[_, _, _, _, _, _, _, _, _, _, _, _, _, _, _, _, _, _, _, _, _, _, _, _, _, _, _, _, _, _, _, _, _, _, f 6, f 7, f 8, _, _, _, _, _, _, _, _, _], _⟩ _
            rw [show f 7 = _ from h7]
            rw [show f 8 = _ from h8]
            rw [show f 6 = _ from h6]
            clear h7 h8 h6
            go_wp2_with (go_at_call 53; refine (K3.out w' hR).mono ?_; rintro e w1 ⟨rfl, hg1⟩)
            exact hQ _ _ hg1 rfl rfl
          refine obls_cons (fun f w' hR hH Q hQ => ?_) ?_
          · skip
            have h6 := hH.get 0 (34, 6) rfl
            clear hH
            refine wpList_view ?_; show wpList _ _ _ [_] ⟨#[_, _, _, _, _, _, _, _, _, _, _, _, _, _, _, _, _, _, _, _, _, _, _, _, _, _, _, _, _, _, _, _, _, _, f 6, _, _, _, _, _, _, _, _, _, _, _], _⟩ _
            rw [show f 6 = _ from h6]
            clear h6
            have hb := HB8.out.grow hR
            go_wp2_with (refine load_blk rfl _ _ rfl b8 rfl _ _ _ hb und8 rfl (by rw [size8]; rfl) ?_)
            exact hQ _ _ (Grow.refl _) rfl rfl
          refine obls_cons (fun f w' hR hH Q hQ => ?_) ?_
          · skip
            have h6 := hH.get 0 (34, 6) rfl
            clear hH
            refine wpList_view ?_; show wpList _ _ _ [_] ⟨#[_, _, _, _, _, _, _, _, _, _, _, _, _, _, _, _, _, _, _, _, _, _, _, _, _, _, _, _, _, _, _, _, _, _, f 6, _, _, _, _, _, _, _, _, _, _, _], _⟩ _
            rw [show f 6 = _ from h6]
            clear h6
            repeat (first | go_guarded | go_step)
            exact hQ _ _ (Grow.refl _) rfl rfl
          refine obls_cons (fun f w' hR hH Q hQ => ?_) ?_
          · skip
            have h10 := hH.get 0 (38, 10) rfl
            have h11 := hH.get 1 (39, 11) rfl
            have h6 := hH.get 2 (34, 6) rfl
            clear hH
            refine wpList_merge (idx := [none, none, none, none, none, none, none, none, none, none, none, none, none, none, none, none, none, none, none, none, none, none, none, none, none, none, none, none, none, none, none, none, none, none, some 6, none, none, none, some 10, some 11, none, none, none, none, none, none]) (by kernel_rfl) ?_; show wpList _ _ _ [_] ⟨#[_, _, _, _, _, _, _, _, _, _, _, _, _, _, _, _, _, _, _, _, _, _, _, _, _, _, _, _, _, _, _, _, _, _, f 6, _, _, _, f 10, f 11, _, _, _, _, _, _], _⟩ _
            rw [show f 10 = _ from h10]
            rw [show f 11 = _ from h11]
            rw [show f 6 = _ from h6]
            clear h10 h11 h6
            go_wp2_with (go_at_call 54; refine (K4.out w' hR).mono ?_; rintro e w1 ⟨rfl, hg1⟩)
            exact hQ _ _ hg1 rfl rfl
          refine obls_cons (fun f w' hR hH Q hQ => ?_) ?_
          · skip
            have h9 := hH.get 0 (37, 9) rfl
            have h12 := hH.get 1 (40, 12) rfl
            have h6 := hH.get 2 (34, 6) rfl
            clear hH
            refine wpList_merge (idx := [none, none, none, none, none, none, none, none, none, none, none, none, none, none, none, none, none, none, none, none, none, none, none, none, none, none, none, none, none, none, none, none, none, none, some 6, none, none, some 9, none, none, some 12, none, none, none, none, none]) (by kernel_rfl) ?_; show wpList _ _ _ [_] ⟨#[_, _, _, _, _, _, _, _, _, _, _, _, _, _, _, _, _, _, _, _, _, _, _, _, _, _, _, _, _, _, _, _, _, _, f 6, _, _, f 9, _, _, f 12, _, _, _, _, _], _⟩ _
            rw [show f 9 = _ from h9]
            rw [show f 12 = _ from h12]
            rw [show f 6 = _ from h6]
            clear h9 h12 h6
            repeat (first | go_guarded | go_step)
            exact hQ _ _ (Grow.refl _) rfl rfl
          refine obls_cons (fun f w' hR hH Q hQ => ?_) ?_
          · skip
            have h6 := hH.get 0 (34, 6) rfl
            have h13 := hH.get 1 (41, 13) rfl
            clear hH
            refine wpList_view ?_; show wpList _ _ _ [_] ⟨#[_, _, _, _, _, _, _, _, _, _, _, _, _, _, _, _, _, _, _, _, _, _, _, _, _, _, _, _, _, _, _, _, _, _, f 6, _, _, _, _, _, _, f 13, _, _, _, _], _⟩ _
            rw [show f 6 = _ from h6]
            rw [show f 13 = _ from h13]
            clear h6 h13
            repeat (first | go_guarded | go_step)
            exact hQ _ _ (Grow.refl _) rfl rfl
          refine obls_cons (fun f w' hR hH Q hQ => ?_) ?_
          · skip
            have h14 := hH.get 0 (42, 14) rfl
            clear hH
            refine wpList_view ?_; show wpList _ _ _ [_] ⟨#[_, _, _, _, _, _, _, _, _, _, _, _, _, _, _, _, _, _, _, _, _, _, _, _, _, _, _, _, _, _, _, _, _, _, _, _, _, _, _, _, _, _, f 14, _, _, _], _⟩ _
            rw [show f 14 = _ from h14]
            clear h14
            repeat (first | go_guarded | go_step)
            exact hQ _ _ (Grow.refl _) rfl rfl
          refine obls_cons (fun f w' hR hH Q hQ => ?_) ?_
          · skip
            have h15 := hH.get 0 (43, 15) rfl
            clear hH
            refine wpList_view ?_; show wpList _ _ _ [_] ⟨#[_, _, _, _, _, _, _, _, _, _, _, _, _, _, _, _, _, _, _, _, _, _, _, _, _, _, _, _, _, _, _, _, _, _, _, _, _, _, _, _, _, _, _, f 15, _, _], _⟩ _
            rw [show f 15 = _ from h15]
            clear h15
            go_wp2_with (go_at_call 50; refine (works_any w').mono ?_; rintro e w1 ⟨rfl, hg1⟩)
            exact hQ _ _ hg1 rfl rfl
          refine obls_cons (fun f w' hR hH Q hQ => ?_) ?_
          · skip
            have h15 := hH.get 0 (43, 15) rfl
            have h16 := hH.get 1 (44, 16) rfl
            clear hH
            refine wpList_view ?_; show wpList _ _ _ [_] ⟨#[_, _, _, _, _, _, _, _, _, _, _, _, _, _, _, _, _, _, _, _, _, _, _, _, _, _, _, _, _, _, _, _, _, _, _, _, _, _, _, _, _, _, _, f 15, f 16, _], _⟩ _
            rw [show f 15 = _ from h15]
            rw [show f 16 = _ from h16]
            clear h15 h16
            repeat (first | go_guarded | go_step)
            exact hQ _ _ (Grow.refl _) rfl rfl
          refine obls_cons (fun f w' hR hH Q hQ => ?_) ?_
          · skip
            have h17 := hH.get 0 (45, 17) rfl
            clear hH
            refine wpList_view ?_; show wpList _ _ _ [_] ⟨#[_, _, _, _, _, _, _, _, _, _, _, _, _, _, _, _, _, _, _, _, _, _, _, _, _, _, _, _, _, _, _, _, _, _, _, _, _, _, _, _, _, _, _, _, _, f 17], _⟩ _
            rw [show f 17 = _ from h17]
            clear h17
            repeat (first | go_guarded | go_step)
            exact hQ _ _ (Grow.refl _) rfl rfl
          exact obls_nil
        case mono => exact ⟨Mono.veq _, IsI.mono, Mono.veq _, IsI.mono, Mono.veq _, Mono.veq _, Mono.veq _, Mono.veq _, Mono.veq _, Mono.veq _, Mono.veq _, Mono.veq _, Mono.veq _, Mono.veq _, Mono.veq _, Mono.veq _, Mono.veq _, Mono.veq _, Mono.veq _, trivial⟩
        case tail =>
          intro f w' hR hH
          have q18 := hH.get 18 (6, 18) rfl
          clear hH
          refine wpList_merge (idx := [none, none, none, none, none, none, some 18, none, none, none, none, none, none, none, none, none, none, none, none, none, none, none, none, none, none, none, none, none, some 0, some 1, some 2, some 3, some 4, some 5, some 6, some 7, some 8, some 9, some 10, some 11, some 12, some 13, some 14, some 15, some 16, some 17]) (by kernel_rfl) ?_; show wpList _ _ _ [] ⟨#[_, _, _, _, _, _, f 18, _, _, _, _, _, _, _, _, _, _, _, _, _, _, _, _, _, _, _, _, _, f 0, f 1, f 2, f 3, f 4, f 5, f 6, f 7, f 8, f 9, f 10, f 11, f 12, f 13, f 14, f 15, f 16, f 17], _⟩ _
          rw [show f 18 = _ from q18]
          clear q18
          have HGr := Lib.hid hR
          clear hR
          go_wp2_with fail
          go_ret
          exact ⟨rfl, HG.out.trans HGr.out⟩
end Go.Proofs.Ytjfohglkpbgkaaa.toL
