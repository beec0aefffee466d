/- Tags: Of, Within, All. -/
import Derived.Test.YthclgmpjmhacdaaTgQ
namespace Go.Proofs.Ythclgmpjmhacdaa.tg
open Go Go.RowKit Go.Par Go.Kit Go.Maps

theorem of_nil (w : World) (v : List Int) : Calls Try.prog 20 #[.pointer none, vv v] w fun e w' => e = .returned (.slice none 0 0) ∧ Grow w w' := by
  unfold vv
  obtain ⟨cv, hcv⟩ : ∃ A, A = ints .u16 v := ⟨_, rfl⟩
  rw [← hcv]
  have HG := Lib.hid (Grow.alloc w (.cells cv.toArray TV))
  clear hcv
  go_enter Try.func20, Try.ntmps20
  go_wp2_with fail
  apply (fun (v0 v1 v2 v3 v4 v5 v6 v7 v8 v9 v10 : Value) mono obl tail => wp_region_par (R := Grow) (Φ := phi [veq v0, veq v1, veq v2, veq v3, veq v4, veq v5, veq v6, veq v7, veq v8, veq v9, veq v10]) (m := 11) (dls := [[], [(5, 0)], [(6, 1)], [(7, 2)], [(8, 3), (7, 2)], [(9, 4), (7, 2)], [(10, 5), (7, 2)], [(7, 2)], [(11, 6), (12, 7), (7, 2)], [(13, 8), (7, 2)], [(7, 2), (14, 9)]]) (ds := [5, 6, 7, 8, 9, 10, 11, 12, 13, 14, 15]) (by kernel_rfl) (by kernel_rfl) (by decide) rfl (Grow.drew _) (fun _ _ _ => Grow.trans) (mono_phi mono) obl tail)
  case obl =>
    refine obls_frame (fun a1 ha => ?_)
    have hsz := rd_size (n := 19) ha rfl
    have e0 := rd_slot 0 ha rfl
    have e3 := rd_slot 3 ha rfl
    clear ha
    refine obls_cons (fun f w' hR hH Q0 hQ0 => ?_) ?_
    · skip
      have s0 := sv_off f [] e0 rfl
      refine small_v hsz [(0, _)] ⟨some 1, (Op.move (.tmp 0)), 24, "", #[], none⟩ [_, undef] 1 rfl rfl ⟨s0, trivial⟩ rfl rfl hQ0 ?_
      clear hQ0 hH s0
      intro Q hQ
      repeat go_step
      exact hQ _ _ (Grow.refl _) rfl rfl
    refine obls_cons (fun f w' hR hH Q0 hQ0 => ?_) ?_
    · skip
      have s5 := (sv_at 5 0 hsz f [(5, 0)] rfl).trans (show f 0 = _ from hH.get 0 (5, 0) rfl)
      refine small_v hsz [(5, _)] ⟨some 1, (Op.binOp BinOp.eql 24 (.tmp 0) (Operand.const (Value.pointer none)) 24), 4, "", #[], none⟩ [_, undef] 1 rfl rfl ⟨s5, trivial⟩ rfl rfl hQ0 ?_
      clear hQ0 hH s5
      intro Q hQ
      repeat go_step
      exact hQ _ _ (Grow.refl _) rfl rfl
    refine obls_cons (fun f w' hR hH Q0 hQ0 => ?_) ?_
    · skip
      have s6 := (sv_at 6 1 hsz f [(6, 1)] rfl).trans (show f 1 = _ from hH.get 0 (6, 1) rfl)
      refine small_v hsz [(6, _)] ⟨some 1, (Op.move (.tmp 0)), 4, "", #[], none⟩ [_, undef] 1 rfl rfl ⟨s6, trivial⟩ rfl rfl hQ0 ?_
      clear hQ0 hH s6
      intro Q hQ
      repeat go_step
      exact hQ _ _ (Grow.refl _) rfl rfl
    refine obls_cons (fun f w' hR hH Q0 hQ0 => ?_) ?_
    · skip
      have s0 := sv_off f [(7, 2)] e0 rfl
      have s7 := (sv_at 7 2 hsz f [(7, 2)] rfl).trans (show f 2 = _ from hH.get 0 (7, 2) rfl)
      first
        | exact skip_v hsz rfl ((wanted_some (b := true) rfl rfl s7).trans rfl) hQ0 (Grow.refl _) rfl
        | exact skip_v hsz rfl (wanted_undef rfl rfl s7) hQ0 (Grow.refl _) rfl
        | refine small_v hsz [(0, _)] ⟨some 1, (Op.move (.tmp 0)), 24, "", #[], none⟩ [_, undef] 1 rfl ((wanted_some (b := false) rfl rfl s7).trans rfl) ⟨s0, trivial⟩ rfl rfl hQ0 ?_
          clear hQ0 hH s0 s7
          intro Q hQ
          repeat go_step
          exact hQ _ _ (Grow.refl _) rfl rfl
    refine obls_cons (fun f w' hR hH Q0 hQ0 => ?_) ?_
    · skip
      have s8 := (sv_at 8 3 hsz f [(8, 3), (7, 2)] rfl).trans (show f 3 = _ from hH.get 0 (8, 3) rfl)
      have s7 := (sv_at 7 2 hsz f [(8, 3), (7, 2)] rfl).trans (show f 2 = _ from hH.get 1 (7, 2) rfl)
      first
        | exact skip_v hsz rfl ((wanted_some (b := true) rfl rfl s7).trans rfl) hQ0 (Grow.refl _) rfl
        | exact skip_v hsz rfl (wanted_undef rfl rfl s7) hQ0 (Grow.refl _) rfl
        | refine small_v hsz [(8, _)] ⟨some 1, (Op.nilCheck (.tmp 0)), 0, "", #[], none⟩ [_, undef] 1 rfl ((wanted_some (b := false) rfl rfl s7).trans rfl) ⟨s8, trivial⟩ rfl rfl hQ0 ?_
          clear hQ0 hH s8 s7
          intro Q hQ
          repeat go_step
          exact hQ _ _ (Grow.refl _) rfl rfl
    refine obls_cons (fun f w' hR hH Q0 hQ0 => ?_) ?_
    · skip
      have s9 := (sv_at 9 4 hsz f [(9, 4), (7, 2)] rfl).trans (show f 4 = _ from hH.get 0 (9, 4) rfl)
      have s7 := (sv_at 7 2 hsz f [(9, 4), (7, 2)] rfl).trans (show f 2 = _ from hH.get 1 (7, 2) rfl)
      first
        | exact skip_v hsz rfl ((wanted_some (b := true) rfl rfl s7).trans rfl) hQ0 (Grow.refl _) rfl
        | exact skip_v hsz rfl (wanted_undef rfl rfl s7) hQ0 (Grow.refl _) rfl
        | refine small_v hsz [(9, _)] ⟨some 1, (Op.fieldAddr 79 (.tmp 0) 1), 0, "", #[], none⟩ [_, undef] 1 rfl ((wanted_some (b := false) rfl rfl s7).trans rfl) ⟨s9, trivial⟩ rfl rfl hQ0 ?_
          clear hQ0 hH s9 s7
          intro Q hQ
          repeat go_step
          exact hQ _ _ (Grow.refl _) rfl rfl
    refine obls_cons (fun f w' hR hH Q0 hQ0 => ?_) ?_
    · skip
      have s10 := (sv_at 10 5 hsz f [(10, 5), (7, 2)] rfl).trans (show f 5 = _ from hH.get 0 (10, 5) rfl)
      have s7 := (sv_at 7 2 hsz f [(10, 5), (7, 2)] rfl).trans (show f 2 = _ from hH.get 1 (7, 2) rfl)
      first
        | exact skip_v hsz rfl ((wanted_some (b := true) rfl rfl s7).trans rfl) hQ0 (Grow.refl _) rfl
        | exact skip_v hsz rfl (wanted_undef rfl rfl s7) hQ0 (Grow.refl _) rfl
        | refine small_v hsz [(10, _)] ⟨some 1, (Op.load 77 (.tmp 0)), 77, "", #[], none⟩ [_, undef] 1 rfl ((wanted_some (b := false) rfl rfl s7).trans rfl) ⟨s10, trivial⟩ rfl rfl hQ0 ?_
          clear hQ0 hH s10 s7
          intro Q hQ
          repeat go_step
          exact hQ _ _ (Grow.refl _) rfl rfl
    refine obls_cons (fun f w' hR hH Q0 hQ0 => ?_) ?_
    · skip
      have s3 := sv_off f [(7, 2)] e3 rfl
      have s7 := (sv_at 7 2 hsz f [(7, 2)] rfl).trans (show f 2 = _ from hH.get 0 (7, 2) rfl)
      first
        | exact skip_v hsz rfl ((wanted_some (b := true) rfl rfl s7).trans rfl) hQ0 (Grow.refl _) rfl
        | exact skip_v hsz rfl (wanted_undef rfl rfl s7) hQ0 (Grow.refl _) rfl
        | refine small_v hsz [(3, _)] ⟨some 1, (Op.load 37 (.tmp 0)), 37, "", #[], none⟩ [_, undef] 1 rfl ((wanted_some (b := false) rfl rfl s7).trans rfl) ⟨s3, trivial⟩ rfl rfl hQ0 ?_
          clear hQ0 hH s3 s7
          intro Q hQ
          repeat go_step
          exact hQ _ _ (Grow.refl _) rfl rfl
    refine obls_cons (fun f w' hR hH Q0 hQ0 => ?_) ?_
    · skip
      have s11 := (sv_at 11 6 hsz f [(11, 6), (12, 7), (7, 2)] rfl).trans (show f 6 = _ from hH.get 0 (11, 6) rfl)
      have s12 := (sv_at 12 7 hsz f [(11, 6), (12, 7), (7, 2)] rfl).trans (show f 7 = _ from hH.get 1 (12, 7) rfl)
      have s7 := (sv_at 7 2 hsz f [(11, 6), (12, 7), (7, 2)] rfl).trans (show f 2 = _ from hH.get 2 (7, 2) rfl)
      first
        | exact skip_v hsz rfl ((wanted_some (b := true) rfl rfl s7).trans rfl) hQ0 (Grow.refl _) rfl
        | exact skip_v hsz rfl (wanted_undef rfl rfl s7) hQ0 (Grow.refl _) rfl
        | refine small_v hsz [(11, _), (12, _)] ⟨some 2, (Op.lookup 77 (.tmp 0) (.tmp 1) false), 3, "", #[], none⟩ [_, _, undef] 2 rfl ((wanted_some (b := false) rfl rfl s7).trans rfl) ⟨s11, s12, trivial⟩ rfl rfl hQ0 ?_
          clear hQ0 hH s11 s12 s7
          intro Q hQ
          repeat go_step
          exact hQ _ _ (Grow.refl _) rfl rfl
    refine obls_cons (fun f w' hR hH Q0 hQ0 => ?_) ?_
    · skip
      have s13 := (sv_at 13 8 hsz f [(13, 8), (7, 2)] rfl).trans (show f 8 = _ from hH.get 0 (13, 8) rfl)
      have s7 := (sv_at 7 2 hsz f [(13, 8), (7, 2)] rfl).trans (show f 2 = _ from hH.get 1 (7, 2) rfl)
      first
        | exact skip_v hsz rfl ((wanted_some (b := true) rfl rfl s7).trans rfl) hQ0 (Grow.refl _) rfl
        | exact skip_v hsz rfl (wanted_undef rfl rfl s7) hQ0 (Grow.refl _) rfl
        | refine small_v hsz [(13, _)] ⟨some 1, (Op.binOp BinOp.eql 3 (.tmp 0) (Operand.const (Value.int IntKind.i64 0)) 3), 4, "", #[], none⟩ [_, undef] 1 rfl ((wanted_some (b := false) rfl rfl s7).trans rfl) ⟨s13, trivial⟩ rfl rfl hQ0 ?_
          clear hQ0 hH s13 s7
          intro Q hQ
          repeat go_step
          exact hQ _ _ (Grow.refl _) rfl rfl
    refine obls_cons (fun f w' hR hH Q0 hQ0 => ?_) ?_
    · skip
      have s7 := (sv_at 7 2 hsz f [(7, 2), (14, 9)] rfl).trans (show f 2 = _ from hH.get 0 (7, 2) rfl)
      have s14 := (sv_at 14 9 hsz f [(7, 2), (14, 9)] rfl).trans (show f 9 = _ from hH.get 1 (14, 9) rfl)
      refine small_v hsz [(7, _), (14, _)] ⟨some 2, (Op.pick (.tmp 0) (Operand.const (Value.bool true)) (.tmp 1)), 4, "", #[], none⟩ [_, _, undef] 2 rfl rfl ⟨s7, s14, trivial⟩ rfl rfl hQ0 ?_
      clear hQ0 hH s7 s14
      intro Q hQ
      repeat go_step
      exact hQ _ _ (Grow.refl _) rfl rfl
    exact obls_nil
  case mono => exact ⟨Mono.veq _, Mono.veq _, Mono.veq _, Mono.veq _, Mono.veq _, Mono.veq _, Mono.veq _, Mono.veq _, Mono.veq _, Mono.veq _, Mono.veq _, trivial⟩
  case tail =>
    intro f w' hR hH
    have q10 := hH.get 10 (15, 10) rfl
    clear hH
    refine wpList_merge (idx := [none, none, none, none, none, some 0, some 1, some 2, some 3, some 4, some 5, some 6, some 7, some 8, some 9, some 10, none, none, none]) (by kernel_rfl) ?_; show wpList _ _ _ [] ⟨#[_, _, _, _, _, f 0, f 1, f 2, f 3, f 4, f 5, f 6, f 7, f 8, f 9, f 10, _, _, _], _⟩ _
    rw [show f 10 = _ from q10]
    clear q10
    have HR := Lib.hid hR
    clear hR
    go_wp2_with fail
    go_ret
    exact ⟨rfl, HG.out.trans HR.out⟩
theorem win_nil (w : World) (v : List Int) : Calls Try.prog 22 #[.pointer none, vv v] w fun e w' => e = .returned (.slice none 0 0) ∧ Grow w w' := by
  unfold vv
  obtain ⟨cv, hcv⟩ : ∃ A, A = ints .u16 v := ⟨_, rfl⟩
  rw [← hcv]
  have HN := Lib.hid (fun w1 fv => names_nil w1 fv)
  clear hcv
  go_enter Try.func22, Try.ntmps22
  go_wp2_with fail
  refine (HN.out _ _).mono ?_
  rintro e w1 ⟨rfl, hg⟩
  have HG := Lib.hid ((Grow.alloc _ _).trans hg)
  clear hg
  go_wp2_with fail
  go_ret
  exact ⟨rfl, HG.out⟩
section
variable {w w' : World} {B g bs bn n m : Nat} {L L' : List Tag}
theorem namesT_none {v : List Int} (h : countT L v = 0) : namesT (fun a => a == v) L = [] := by
  unfold countT at h
  unfold namesT
  rw [List.eq_nil_of_length_eq_zero (by omega : (L.filter fun t => t.2 == v).length = 0)]
  rfl
set_option maxRecDepth 100000 in
set_option maxHeartbeats 2000000 in
theorem of_any (h : TagI w B g bs bn n L) (hn : n ≤ 1000000) (v : List Int) (hv : VecOk v) :
    Calls Try.prog 20 #[.pointer (some ⟨g, 0, none⟩), vv v] w fun e w' => ∃ u, e = .returned u ∧ w'.ownsRow w.heap.size TS 1 u (namesT (fun a => a == v) L).length (strs (namesT (fun a => a == v) L)) ∧ Grow w w' := by
  obtain ⟨xs, hxs⟩ : ∃ xs, xs = namesT (fun a => a == v) L := ⟨_, rfl⟩
  have hvi := ints_ok hv
  obtain ⟨cv, hcv⟩ : ∃ A, A = ints .u16 v := ⟨_, rfl⟩
  obtain ⟨W1, hW1⟩ : ∃ W, W = w.alloc (.cells cv.toArray TV) := ⟨_, rfl⟩
  have hg1 : Grow w W1 := by rw [hW1]; exact Grow.alloc _ _
  have hb1 : Blk W1 w.heap.size TV cv := by rw [hW1]; exact Blk.new _ _ _ _ rfl rfl
  have HNM : Hid (∀ w2, Grow W1 w2 → Calls Try.prog 46 #[.pointer (some ⟨g, 0, none⟩), .func (.func 47) #[] #[.pointer (some ⟨w.heap.size, 0, none⟩)]] w2 fun e w' => ∃ u, e = .returned u ∧ w'.ownsRow w2.heap.size TS 1 u xs.length (strs xs) ∧ Grow w2 w') := Lib.hid fun w2 hg => by
    rw [hxs]
    refine names_of (h.grow (hg1.trans hg)) hn w.heap.size (fun a => a == v) fun a w3 ha hg3 => of1_any w3 w.heap.size a v ha hv ?_
    rw [← hcv]
    exact (hb1.grow hg).grow hg3
  rw [← hxs]
  unfold vv
  rw [← hcv] at hvi ⊢
  obtain ⟨c, hc⟩ : ∃ c, c = countT L v := ⟨_, rfl⟩
  have hc1 : 0 ≤ c := by rw [hc]; exact Int.natCast_nonneg _
  have hc2 : c ≤ 32 := by have := count_le (L := L) v; have := h.ok.len; omega
  have HZ : Hid (c = 0 → xs = []) := Lib.hid fun e => by rw [hxs]; exact namesT_none (by rw [← hc, e])
  have HC := Lib.hid hvi.1
  have HT := Lib.hid h
  have HV := Lib.hid hv
  have HCC := Lib.hid hc
  have HCV := Lib.hid hcv
  have HG1 := Lib.hid hg1
  have HB1 := Lib.hid hb1
  have HW1 := Lib.hid hW1
  clear h hn hv hvi hc hcv hg1 hb1 hW1 hxs
  go_enter Try.func20, Try.ntmps20
  go_wp2_with fail
  rw [← HW1.out]
  by_cases hz : c = 0
  · subst hz
    clear hc1 hc2
    apply (fun (v0 v1 v2 v3 v4 v5 v6 v7 v8 v9 v10 : Value) mono obl tail => wp_region_par (R := Grow) (Φ := phi [veq v0, veq v1, veq v2, veq v3, veq v4, veq v5, veq v6, veq v7, veq v8, veq v9, veq v10]) (m := 11) (dls := [[], [(5, 0)], [(6, 1)], [(7, 2)], [(8, 3), (7, 2)], [(9, 4), (7, 2)], [(10, 5), (7, 2)], [(7, 2)], [(11, 6), (12, 7), (7, 2)], [(13, 8), (7, 2)], [(7, 2), (14, 9)]]) (ds := [5, 6, 7, 8, 9, 10, 11, 12, 13, 14, 15]) (by kernel_rfl) (by kernel_rfl) (by decide) rfl (Grow.drew _) (fun _ _ _ => Grow.trans) (mono_phi mono) obl tail)
    case obl =>
      refine obls_frame (fun a1 ha => ?_)
      have hsz := rd_size (n := 19) ha rfl
      have e0 := rd_slot 0 ha rfl
      have e3 := rd_slot 3 ha rfl
      clear ha
      refine obls_cons (fun f w' hR hH Q0 hQ0 => ?_) ?_
      · skip
        have s0 := sv_off f [] e0 rfl
        refine small_v hsz [(0, _)] ⟨some 1, (Op.move (.tmp 0)), 24, "", #[], none⟩ [_, undef] 1 rfl rfl ⟨s0, trivial⟩ rfl rfl hQ0 ?_
        clear hQ0 hH s0
        intro Q hQ
        repeat go_step
        exact hQ _ _ (Grow.refl _) rfl rfl
      refine obls_cons (fun f w' hR hH Q0 hQ0 => ?_) ?_
      · skip
        have s5 := (sv_at 5 0 hsz f [(5, 0)] rfl).trans (show f 0 = _ from hH.get 0 (5, 0) rfl)
        refine small_v hsz [(5, _)] ⟨some 1, (Op.binOp BinOp.eql 24 (.tmp 0) (Operand.const (Value.pointer none)) 24), 4, "", #[], none⟩ [_, undef] 1 rfl rfl ⟨s5, trivial⟩ rfl rfl hQ0 ?_
        clear hQ0 hH s5
        intro Q hQ
        repeat go_step
        exact hQ _ _ (Grow.refl _) rfl rfl
      refine obls_cons (fun f w' hR hH Q0 hQ0 => ?_) ?_
      · skip
        have s6 := (sv_at 6 1 hsz f [(6, 1)] rfl).trans (show f 1 = _ from hH.get 0 (6, 1) rfl)
        refine small_v hsz [(6, _)] ⟨some 1, (Op.move (.tmp 0)), 4, "", #[], none⟩ [_, undef] 1 rfl rfl ⟨s6, trivial⟩ rfl rfl hQ0 ?_
        clear hQ0 hH s6
        intro Q hQ
        repeat go_step
        exact hQ _ _ (Grow.refl _) rfl rfl
      refine obls_cons (fun f w' hR hH Q0 hQ0 => ?_) ?_
      · skip
        have s0 := sv_off f [(7, 2)] e0 rfl
        have s7 := (sv_at 7 2 hsz f [(7, 2)] rfl).trans (show f 2 = _ from hH.get 0 (7, 2) rfl)
        first
          | exact skip_v hsz rfl ((wanted_some (b := true) rfl rfl s7).trans rfl) hQ0 (Grow.refl _) rfl
          | exact skip_v hsz rfl (wanted_undef rfl rfl s7) hQ0 (Grow.refl _) rfl
          | refine small_v hsz [(0, _)] ⟨some 1, (Op.move (.tmp 0)), 24, "", #[], none⟩ [_, undef] 1 rfl ((wanted_some (b := false) rfl rfl s7).trans rfl) ⟨s0, trivial⟩ rfl rfl hQ0 ?_
            clear hQ0 hH s0 s7
            intro Q hQ
            repeat go_step
            exact hQ _ _ (Grow.refl _) rfl rfl
      refine obls_cons (fun f w' hR hH Q0 hQ0 => ?_) ?_
      · skip
        have s8 := (sv_at 8 3 hsz f [(8, 3), (7, 2)] rfl).trans (show f 3 = _ from hH.get 0 (8, 3) rfl)
        have s7 := (sv_at 7 2 hsz f [(8, 3), (7, 2)] rfl).trans (show f 2 = _ from hH.get 1 (7, 2) rfl)
        first
          | exact skip_v hsz rfl ((wanted_some (b := true) rfl rfl s7).trans rfl) hQ0 (Grow.refl _) rfl
          | exact skip_v hsz rfl (wanted_undef rfl rfl s7) hQ0 (Grow.refl _) rfl
          | refine small_v hsz [(8, _)] ⟨some 1, (Op.nilCheck (.tmp 0)), 0, "", #[], none⟩ [_, undef] 1 rfl ((wanted_some (b := false) rfl rfl s7).trans rfl) ⟨s8, trivial⟩ rfl rfl hQ0 ?_
            clear hQ0 hH s8 s7
            intro Q hQ
            repeat go_step
            exact hQ _ _ (Grow.refl _) rfl rfl
      refine obls_cons (fun f w' hR hH Q0 hQ0 => ?_) ?_
      · skip
        have s9 := (sv_at 9 4 hsz f [(9, 4), (7, 2)] rfl).trans (show f 4 = _ from hH.get 0 (9, 4) rfl)
        have s7 := (sv_at 7 2 hsz f [(9, 4), (7, 2)] rfl).trans (show f 2 = _ from hH.get 1 (7, 2) rfl)
        first
          | exact skip_v hsz rfl ((wanted_some (b := true) rfl rfl s7).trans rfl) hQ0 (Grow.refl _) rfl
          | exact skip_v hsz rfl (wanted_undef rfl rfl s7) hQ0 (Grow.refl _) rfl
          | refine small_v hsz [(9, _)] ⟨some 1, (Op.fieldAddr 79 (.tmp 0) 1), 0, "", #[], none⟩ [_, undef] 1 rfl ((wanted_some (b := false) rfl rfl s7).trans rfl) ⟨s9, trivial⟩ rfl rfl hQ0 ?_
            clear hQ0 hH s9 s7
            intro Q hQ
            repeat go_step
            exact hQ _ _ (Grow.refl _) rfl rfl
      refine obls_cons (fun f w' hR hH Q0 hQ0 => ?_) ?_
      · skip
        have s10 := (sv_at 10 5 hsz f [(10, 5), (7, 2)] rfl).trans (show f 5 = _ from hH.get 0 (10, 5) rfl)
        have s7 := (sv_at 7 2 hsz f [(10, 5), (7, 2)] rfl).trans (show f 2 = _ from hH.get 1 (7, 2) rfl)
        first
          | exact skip_v hsz rfl ((wanted_some (b := true) rfl rfl s7).trans rfl) hQ0 (Grow.refl _) rfl
          | exact skip_v hsz rfl (wanted_undef rfl rfl s7) hQ0 (Grow.refl _) rfl
          | refine small_v hsz [(10, _)] ⟨some 1, (Op.load 77 (.tmp 0)), 77, "", #[], none⟩ [_, undef] 1 rfl ((wanted_some (b := false) rfl rfl s7).trans rfl) ⟨s10, trivial⟩ rfl rfl hQ0 ?_
            clear hQ0 hH s10 s7
            intro Q hQ
            have y0 := (((HT.out.grow HG1.out).grow hR).bx).cell (i := 1) rfl
            repeat go_step
            exact hQ _ _ (Grow.refl _) rfl rfl
      refine obls_cons (fun f w' hR hH Q0 hQ0 => ?_) ?_
      · skip
        have s3 := sv_off f [(7, 2)] e3 rfl
        have s7 := (sv_at 7 2 hsz f [(7, 2)] rfl).trans (show f 2 = _ from hH.get 0 (7, 2) rfl)
        first
          | exact skip_v hsz rfl ((wanted_some (b := true) rfl rfl s7).trans rfl) hQ0 (Grow.refl _) rfl
          | exact skip_v hsz rfl (wanted_undef rfl rfl s7) hQ0 (Grow.refl _) rfl
          | refine small_v hsz [(3, _)] ⟨some 1, (Op.load 37 (.tmp 0)), 37, "", #[], none⟩ [_, undef] 1 rfl ((wanted_some (b := false) rfl rfl s7).trans rfl) ⟨s3, trivial⟩ rfl rfl hQ0 ?_
            clear hQ0 hH s3 s7
            intro Q hQ
            have hb := HB1.out.grow hR
            refine load_blk rfl _ _ rfl w.heap.size rfl _ _ _ hb undV rfl (by rw [sizeV, HC.out]) ?_
            exact hQ _ _ (Grow.refl _) rfl rfl
      refine obls_cons (fun f w' hR hH Q0 hQ0 => ?_) ?_
      · skip
        have s11 := (sv_at 11 6 hsz f [(11, 6), (12, 7), (7, 2)] rfl).trans (show f 6 = _ from hH.get 0 (11, 6) rfl)
        have s12 := (sv_at 12 7 hsz f [(11, 6), (12, 7), (7, 2)] rfl).trans (show f 7 = _ from hH.get 1 (12, 7) rfl)
        have s7 := (sv_at 7 2 hsz f [(11, 6), (12, 7), (7, 2)] rfl).trans (show f 2 = _ from hH.get 2 (7, 2) rfl)
        first
          | exact skip_v hsz rfl ((wanted_some (b := true) rfl rfl s7).trans rfl) hQ0 (Grow.refl _) rfl
          | exact skip_v hsz rfl (wanted_undef rfl rfl s7) hQ0 (Grow.refl _) rfl
          | refine small_v hsz [(11, _), (12, _)] ⟨some 2, (Op.lookup 77 (.tmp 0) (.tmp 1) false), 3, "", #[], none⟩ [_, _, undef] 2 rfl ((wanted_some (b := false) rfl rfl s7).trans rfl) ⟨s11, s12, trivial⟩ rfl rfl hQ0 ?_
            clear hQ0 hH s11 s12 s7
            intro Q hQ
            have y0 := ((HT.out.grow HG1.out).grow hR).mn.get HV.out
            unfold vv at y0
            rw [← HCV.out, ← HCC.out] at y0
            repeat go_step
            exact hQ _ _ (Grow.refl _) rfl rfl
      refine obls_cons (fun f w' hR hH Q0 hQ0 => ?_) ?_
      · skip
        have s13 := (sv_at 13 8 hsz f [(13, 8), (7, 2)] rfl).trans (show f 8 = _ from hH.get 0 (13, 8) rfl)
        have s7 := (sv_at 7 2 hsz f [(13, 8), (7, 2)] rfl).trans (show f 2 = _ from hH.get 1 (7, 2) rfl)
        first
          | exact skip_v hsz rfl ((wanted_some (b := true) rfl rfl s7).trans rfl) hQ0 (Grow.refl _) rfl
          | exact skip_v hsz rfl (wanted_undef rfl rfl s7) hQ0 (Grow.refl _) rfl
          | refine small_v hsz [(13, _)] ⟨some 1, (Op.binOp BinOp.eql 3 (.tmp 0) (Operand.const (Value.int IntKind.i64 0)) 3), 4, "", #[], none⟩ [_, undef] 1 rfl ((wanted_some (b := false) rfl rfl s7).trans rfl) ⟨s13, trivial⟩ rfl rfl hQ0 ?_
            clear hQ0 hH s13 s7
            intro Q hQ
            repeat go_step
            exact hQ _ _ (Grow.refl _) rfl rfl
      refine obls_cons (fun f w' hR hH Q0 hQ0 => ?_) ?_
      · skip
        have s7 := (sv_at 7 2 hsz f [(7, 2), (14, 9)] rfl).trans (show f 2 = _ from hH.get 0 (7, 2) rfl)
        have s14 := (sv_at 14 9 hsz f [(7, 2), (14, 9)] rfl).trans (show f 9 = _ from hH.get 1 (14, 9) rfl)
        refine small_v hsz [(7, _), (14, _)] ⟨some 2, (Op.pick (.tmp 0) (Operand.const (Value.bool true)) (.tmp 1)), 4, "", #[], none⟩ [_, _, undef] 2 rfl rfl ⟨s7, s14, trivial⟩ rfl rfl hQ0 ?_
        clear hQ0 hH s7 s14
        intro Q hQ
        repeat go_step
        exact hQ _ _ (Grow.refl _) rfl rfl
      exact obls_nil
    case mono => exact ⟨Mono.veq _, Mono.veq _, Mono.veq _, Mono.veq _, Mono.veq _, Mono.veq _, Mono.veq _, Mono.veq _, Mono.veq _, Mono.veq _, Mono.veq _, trivial⟩
    case tail =>
      intro f w' hR hH
      have q10 := hH.get 10 (15, 10) rfl
      clear hH
      refine wpList_merge (idx := [none, none, none, none, none, some 0, some 1, some 2, some 3, some 4, some 5, some 6, some 7, some 8, some 9, some 10, none, none, none]) (by kernel_rfl) ?_; show wpList _ _ _ [] ⟨#[_, _, _, _, _, f 0, f 1, f 2, f 3, f 4, f 5, f 6, f 7, f 8, f 9, f 10, _, _, _], _⟩ _
      rw [show f 10 = _ from q10]
      clear q10
      have HR := Lib.hid hR
      have hx := HZ.out rfl
      subst hx
      clear hR
      go_wp2_with fail
      go_ret
      exact ⟨_, rfl, World.ownsRow_nil _ _ _ _, HG1.out.trans HR.out⟩
  · skip
    apply (fun (v0 v1 v2 v3 v4 v5 v6 v7 v8 v9 v10 : Value) mono obl tail => wp_region_par (R := Grow) (Φ := phi [veq v0, veq v1, veq v2, veq v3, veq v4, veq v5, veq v6, veq v7, veq v8, veq v9, veq v10]) (m := 11) (dls := [[], [(5, 0)], [(6, 1)], [(7, 2)], [(8, 3), (7, 2)], [(9, 4), (7, 2)], [(10, 5), (7, 2)], [(7, 2)], [(11, 6), (12, 7), (7, 2)], [(13, 8), (7, 2)], [(7, 2), (14, 9)]]) (ds := [5, 6, 7, 8, 9, 10, 11, 12, 13, 14, 15]) (by kernel_rfl) (by kernel_rfl) (by decide) rfl (Grow.drew _) (fun _ _ _ => Grow.trans) (mono_phi mono) obl tail)
    case obl =>
      refine obls_frame (fun a1 ha => ?_)
      have hsz := rd_size (n := 19) ha rfl
      have e0 := rd_slot 0 ha rfl
      have e3 := rd_slot 3 ha rfl
      clear ha
      refine obls_cons (fun f w' hR hH Q0 hQ0 => ?_) ?_
      · skip
        have s0 := sv_off f [] e0 rfl
        refine small_v hsz [(0, _)] ⟨some 1, (Op.move (.tmp 0)), 24, "", #[], none⟩ [_, undef] 1 rfl rfl ⟨s0, trivial⟩ rfl rfl hQ0 ?_
        clear hQ0 hH s0
        intro Q hQ
        repeat go_step
        exact hQ _ _ (Grow.refl _) rfl rfl
      refine obls_cons (fun f w' hR hH Q0 hQ0 => ?_) ?_
      · skip
        have s5 := (sv_at 5 0 hsz f [(5, 0)] rfl).trans (show f 0 = _ from hH.get 0 (5, 0) rfl)
        refine small_v hsz [(5, _)] ⟨some 1, (Op.binOp BinOp.eql 24 (.tmp 0) (Operand.const (Value.pointer none)) 24), 4, "", #[], none⟩ [_, undef] 1 rfl rfl ⟨s5, trivial⟩ rfl rfl hQ0 ?_
        clear hQ0 hH s5
        intro Q hQ
        repeat go_step
        exact hQ _ _ (Grow.refl _) rfl rfl
      refine obls_cons (fun f w' hR hH Q0 hQ0 => ?_) ?_
      · skip
        have s6 := (sv_at 6 1 hsz f [(6, 1)] rfl).trans (show f 1 = _ from hH.get 0 (6, 1) rfl)
        refine small_v hsz [(6, _)] ⟨some 1, (Op.move (.tmp 0)), 4, "", #[], none⟩ [_, undef] 1 rfl rfl ⟨s6, trivial⟩ rfl rfl hQ0 ?_
        clear hQ0 hH s6
        intro Q hQ
        repeat go_step
        exact hQ _ _ (Grow.refl _) rfl rfl
      refine obls_cons (fun f w' hR hH Q0 hQ0 => ?_) ?_
      · skip
        have s0 := sv_off f [(7, 2)] e0 rfl
        have s7 := (sv_at 7 2 hsz f [(7, 2)] rfl).trans (show f 2 = _ from hH.get 0 (7, 2) rfl)
        first
          | exact skip_v hsz rfl ((wanted_some (b := true) rfl rfl s7).trans rfl) hQ0 (Grow.refl _) rfl
          | exact skip_v hsz rfl (wanted_undef rfl rfl s7) hQ0 (Grow.refl _) rfl
          | refine small_v hsz [(0, _)] ⟨some 1, (Op.move (.tmp 0)), 24, "", #[], none⟩ [_, undef] 1 rfl ((wanted_some (b := false) rfl rfl s7).trans rfl) ⟨s0, trivial⟩ rfl rfl hQ0 ?_
            clear hQ0 hH s0 s7
            intro Q hQ
            repeat go_step
            exact hQ _ _ (Grow.refl _) rfl rfl
      refine obls_cons (fun f w' hR hH Q0 hQ0 => ?_) ?_
      · skip
        have s8 := (sv_at 8 3 hsz f [(8, 3), (7, 2)] rfl).trans (show f 3 = _ from hH.get 0 (8, 3) rfl)
        have s7 := (sv_at 7 2 hsz f [(8, 3), (7, 2)] rfl).trans (show f 2 = _ from hH.get 1 (7, 2) rfl)
        first
          | exact skip_v hsz rfl ((wanted_some (b := true) rfl rfl s7).trans rfl) hQ0 (Grow.refl _) rfl
          | exact skip_v hsz rfl (wanted_undef rfl rfl s7) hQ0 (Grow.refl _) rfl
          | refine small_v hsz [(8, _)] ⟨some 1, (Op.nilCheck (.tmp 0)), 0, "", #[], none⟩ [_, undef] 1 rfl ((wanted_some (b := false) rfl rfl s7).trans rfl) ⟨s8, trivial⟩ rfl rfl hQ0 ?_
            clear hQ0 hH s8 s7
            intro Q hQ
            repeat go_step
            exact hQ _ _ (Grow.refl _) rfl rfl
      refine obls_cons (fun f w' hR hH Q0 hQ0 => ?_) ?_
      · skip
        have s9 := (sv_at 9 4 hsz f [(9, 4), (7, 2)] rfl).trans (show f 4 = _ from hH.get 0 (9, 4) rfl)
        have s7 := (sv_at 7 2 hsz f [(9, 4), (7, 2)] rfl).trans (show f 2 = _ from hH.get 1 (7, 2) rfl)
        first
          | exact skip_v hsz rfl ((wanted_some (b := true) rfl rfl s7).trans rfl) hQ0 (Grow.refl _) rfl
          | exact skip_v hsz rfl (wanted_undef rfl rfl s7) hQ0 (Grow.refl _) rfl
          | refine small_v hsz [(9, _)] ⟨some 1, (Op.fieldAddr 79 (.tmp 0) 1), 0, "", #[], none⟩ [_, undef] 1 rfl ((wanted_some (b := false) rfl rfl s7).trans rfl) ⟨s9, trivial⟩ rfl rfl hQ0 ?_
            clear hQ0 hH s9 s7
            intro Q hQ
            repeat go_step
            exact hQ _ _ (Grow.refl _) rfl rfl
      refine obls_cons (fun f w' hR hH Q0 hQ0 => ?_) ?_
      · skip
        have s10 := (sv_at 10 5 hsz f [(10, 5), (7, 2)] rfl).trans (show f 5 = _ from hH.get 0 (10, 5) rfl)
        have s7 := (sv_at 7 2 hsz f [(10, 5), (7, 2)] rfl).trans (show f 2 = _ from hH.get 1 (7, 2) rfl)
        first
          | exact skip_v hsz rfl ((wanted_some (b := true) rfl rfl s7).trans rfl) hQ0 (Grow.refl _) rfl
          | exact skip_v hsz rfl (wanted_undef rfl rfl s7) hQ0 (Grow.refl _) rfl
          | refine small_v hsz [(10, _)] ⟨some 1, (Op.load 77 (.tmp 0)), 77, "", #[], none⟩ [_, undef] 1 rfl ((wanted_some (b := false) rfl rfl s7).trans rfl) ⟨s10, trivial⟩ rfl rfl hQ0 ?_
            clear hQ0 hH s10 s7
            intro Q hQ
            have y0 := (((HT.out.grow HG1.out).grow hR).bx).cell (i := 1) rfl
            repeat go_step
            exact hQ _ _ (Grow.refl _) rfl rfl
      refine obls_cons (fun f w' hR hH Q0 hQ0 => ?_) ?_
      · skip
        have s3 := sv_off f [(7, 2)] e3 rfl
        have s7 := (sv_at 7 2 hsz f [(7, 2)] rfl).trans (show f 2 = _ from hH.get 0 (7, 2) rfl)
        first
          | exact skip_v hsz rfl ((wanted_some (b := true) rfl rfl s7).trans rfl) hQ0 (Grow.refl _) rfl
          | exact skip_v hsz rfl (wanted_undef rfl rfl s7) hQ0 (Grow.refl _) rfl
          | refine small_v hsz [(3, _)] ⟨some 1, (Op.load 37 (.tmp 0)), 37, "", #[], none⟩ [_, undef] 1 rfl ((wanted_some (b := false) rfl rfl s7).trans rfl) ⟨s3, trivial⟩ rfl rfl hQ0 ?_
            clear hQ0 hH s3 s7
            intro Q hQ
            have hb := HB1.out.grow hR
            refine load_blk rfl _ _ rfl w.heap.size rfl _ _ _ hb undV rfl (by rw [sizeV, HC.out]) ?_
            exact hQ _ _ (Grow.refl _) rfl rfl
      refine obls_cons (fun f w' hR hH Q0 hQ0 => ?_) ?_
      · skip
        have s11 := (sv_at 11 6 hsz f [(11, 6), (12, 7), (7, 2)] rfl).trans (show f 6 = _ from hH.get 0 (11, 6) rfl)
        have s12 := (sv_at 12 7 hsz f [(11, 6), (12, 7), (7, 2)] rfl).trans (show f 7 = _ from hH.get 1 (12, 7) rfl)
        have s7 := (sv_at 7 2 hsz f [(11, 6), (12, 7), (7, 2)] rfl).trans (show f 2 = _ from hH.get 2 (7, 2) rfl)
        first
          | exact skip_v hsz rfl ((wanted_some (b := true) rfl rfl s7).trans rfl) hQ0 (Grow.refl _) rfl
          | exact skip_v hsz rfl (wanted_undef rfl rfl s7) hQ0 (Grow.refl _) rfl
          | refine small_v hsz [(11, _), (12, _)] ⟨some 2, (Op.lookup 77 (.tmp 0) (.tmp 1) false), 3, "", #[], none⟩ [_, _, undef] 2 rfl ((wanted_some (b := false) rfl rfl s7).trans rfl) ⟨s11, s12, trivial⟩ rfl rfl hQ0 ?_
            clear hQ0 hH s11 s12 s7
            intro Q hQ
            have y0 := ((HT.out.grow HG1.out).grow hR).mn.get HV.out
            unfold vv at y0
            rw [← HCV.out, ← HCC.out] at y0
            repeat go_step
            exact hQ _ _ (Grow.refl _) rfl rfl
      refine obls_cons (fun f w' hR hH Q0 hQ0 => ?_) ?_
      · skip
        have s13 := (sv_at 13 8 hsz f [(13, 8), (7, 2)] rfl).trans (show f 8 = _ from hH.get 0 (13, 8) rfl)
        have s7 := (sv_at 7 2 hsz f [(13, 8), (7, 2)] rfl).trans (show f 2 = _ from hH.get 1 (7, 2) rfl)
        first
          | exact skip_v hsz rfl ((wanted_some (b := true) rfl rfl s7).trans rfl) hQ0 (Grow.refl _) rfl
          | exact skip_v hsz rfl (wanted_undef rfl rfl s7) hQ0 (Grow.refl _) rfl
          | refine small_v hsz [(13, _)] ⟨some 1, (Op.binOp BinOp.eql 3 (.tmp 0) (Operand.const (Value.int IntKind.i64 0)) 3), 4, "", #[], none⟩ [_, undef] 1 rfl ((wanted_some (b := false) rfl rfl s7).trans rfl) ⟨s13, trivial⟩ rfl rfl hQ0 ?_
            clear hQ0 hH s13 s7
            intro Q hQ
            repeat go_step
            exact hQ _ _ (Grow.refl _) rfl rfl
      refine obls_cons (fun f w' hR hH Q0 hQ0 => ?_) ?_
      · skip
        have s7 := (sv_at 7 2 hsz f [(7, 2), (14, 9)] rfl).trans (show f 2 = _ from hH.get 0 (7, 2) rfl)
        have s14 := (sv_at 14 9 hsz f [(7, 2), (14, 9)] rfl).trans (show f 9 = _ from hH.get 1 (14, 9) rfl)
        refine small_v hsz [(7, _), (14, _)] ⟨some 2, (Op.pick (.tmp 0) (Operand.const (Value.bool true)) (.tmp 1)), 4, "", #[], none⟩ [_, _, undef] 2 rfl rfl ⟨s7, s14, trivial⟩ rfl rfl hQ0 ?_
        clear hQ0 hH s7 s14
        intro Q hQ
        repeat go_step
        exact hQ _ _ (Grow.refl _) rfl rfl
      exact obls_nil
    case mono => exact ⟨Mono.veq _, Mono.veq _, Mono.veq _, Mono.veq _, Mono.veq _, Mono.veq _, Mono.veq _, Mono.veq _, Mono.veq _, Mono.veq _, Mono.veq _, trivial⟩
    case tail =>
      intro f w' hR hH
      have q10 := hH.get 10 (15, 10) rfl
      clear hH
      refine wpList_merge (idx := [none, none, none, none, none, some 0, some 1, some 2, some 3, some 4, some 5, some 6, some 7, some 8, some 9, some 10, none, none, none]) (by kernel_rfl) ?_; show wpList _ _ _ [] ⟨#[_, _, _, _, _, f 0, f 1, f 2, f 3, f 4, f 5, f 6, f 7, f 8, f 9, f 10, _, _, _], _⟩ _
      rw [show f 10 = _ from q10]
      clear q10
      have HR := Lib.hid hR
      clear hR
      go_wp2_with fail
      refine (HNM.out w' HR.out).mono ?_
      rintro e w3 ⟨u, rfl, ho, hg⟩
      obtain ⟨A5, c5, rfl, -⟩ := own_form ho
      have HEND : Hid (w3.ownsRow w.heap.size TS 1 (.slice A5 xs.length c5) xs.length (strs xs) ∧ Grow w w3) := Lib.hid ⟨own_lower ho (HG1.out.trans HR.out).size, (HG1.out.trans HR.out).trans hg⟩
      clear ho hg
      go_wp2_with fail
      go_ret
      exact ⟨_, rfl, HEND.out⟩
set_option maxRecDepth 100000 in
set_option maxHeartbeats 2000000 in
theorem win_any (h : TagI w B g bs bn n L) (hn : n ≤ 1000000) (v : List Int) (hv : VecOk v) :
    Calls Try.prog 22 #[.pointer (some ⟨g, 0, none⟩), vv v] w fun e w' => ∃ u, e = .returned u ∧ w'.ownsRow w.heap.size TS 1 u (namesT (fun a => withinV a v) L).length (strs (namesT (fun a => withinV a v) L)) ∧ Grow w w' := by
  obtain ⟨xs, hxs⟩ : ∃ xs, xs = namesT (fun a => withinV a v) L := ⟨_, rfl⟩
  obtain ⟨cv, hcv⟩ : ∃ A, A = ints .u16 v := ⟨_, rfl⟩
  obtain ⟨W1, hW1⟩ : ∃ W, W = w.alloc (.cells cv.toArray TV) := ⟨_, rfl⟩
  have hg1 : Grow w W1 := by rw [hW1]; exact Grow.alloc _ _
  have hb1 : Blk W1 w.heap.size TV cv := by rw [hW1]; exact Blk.new _ _ _ _ rfl rfl
  have HNM : Hid (Calls Try.prog 46 #[.pointer (some ⟨g, 0, none⟩), .func (.func 48) #[] #[.pointer (some ⟨w.heap.size, 0, none⟩)]] W1 fun e w' => ∃ u, e = .returned u ∧ w'.ownsRow W1.heap.size TS 1 u xs.length (strs xs) ∧ Grow W1 w') := Lib.hid (by
    rw [hxs]
    refine names_within (h.grow hg1) hn w.heap.size (fun a => withinV a v) fun a w3 ha hg3 => within1_any w3 w.heap.size a v ha hv ?_
    rw [← hcv]
    exact hb1.grow hg3)
  rw [← hxs]
  unfold vv
  rw [← hcv]
  have HG1 := Lib.hid hg1
  have HW1 := Lib.hid hW1
  clear h hn hv hcv hg1 hb1 hW1 hxs
  go_enter Try.func22, Try.ntmps22
  go_wp2_with fail
  rw [← HW1.out]
  refine HNM.out.mono ?_
  rintro e w3 ⟨u, rfl, ho, hg⟩
  obtain ⟨A5, c5, rfl, -⟩ := own_form ho
  have HEND : Hid (w3.ownsRow w.heap.size TS 1 (.slice A5 xs.length c5) xs.length (strs xs) ∧ Grow w w3) := Lib.hid ⟨own_lower ho HG1.out.size, HG1.out.trans hg⟩
  clear ho hg
  go_wp2_with fail
  go_ret
  exact ⟨_, rfl, HEND.out⟩
end
end Go.Proofs.Ythclgmpjmhacdaa.tg
