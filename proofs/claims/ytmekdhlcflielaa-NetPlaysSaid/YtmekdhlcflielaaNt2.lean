/- The walks of nets: link, Whole, At, New. -/
import Derived.Test.YtmekdhlcflielaaNt
import Derived.Test.YtmekdhlcflielaaLdC
namespace Go.Proofs.Ytmekdhlcflielaa.nt
open Go Go.RowKit Go.Par Go.Kit Go.Proofs.Ytmekdhlcflielaa.mpA Go.Proofs.Ytmekdhlcflielaa.cl

theorem run_min2u {P : Program} (ts : Array TypeId) (t : TypeId) (a b m : Nat) (hm : m = min a b) (w : World) :
    (Builtin.min_ ts t #[.int .u8 (a : Int), .int .u8 (b : Int)]).run P w = .ok (.int .u8 (m : Int)) w := by
  subst hm
  simp [Builtin.min_, Builtin.min2]
  omega
theorem run_max2u {P : Program} (ts : Array TypeId) (t : TypeId) (a b m : Nat) (hm : m = max a b) (w : World) :
    (Builtin.max_ ts t #[.int .u8 (a : Int), .int .u8 (b : Int)]).run P w = .ok (.int .u8 (m : Int)) w := by
  subst hm
  simp [Builtin.max_, Builtin.max2]
  omega
theorem sizeU2 : (Try.prog.info? TU2).map (·.size) = some 2 := by kernel_rfl
theorem link_any (w : World) (a b : Nat) :
    Calls Try.prog 39 #[.int .u8 (a : Int), .int .u8 (b : Int)] w fun e w' => e = .returned (keyv (min a b) (max a b)) ∧ Grow w w' := by
  obtain ⟨m, hm⟩ : ∃ m, m = min a b := ⟨_, rfl⟩
  obtain ⟨x, hx⟩ : ∃ m, m = max a b := ⟨_, rfl⟩
  rw [← hm, ← hx]
  have h1 := fun ts t W => run_min2u (P := Try.prog) ts t a b m hm W
  have h2 := fun ts t W => run_max2u (P := Try.prog) ts t a b x hx W
  clear hm hx
  go_enter Try.func39, Try.ntmps39
  go_wp2_with fail
  exact ret_blk rfl w.heap.size _ [.int .u8 (m : Int), .int .u8 (x : Int)] _ rfl (Blk.new w _ _ _ rfl rfl) undU2 rfl (by rw [sizeU2]; rfl) rfl ⟨rfl, Grow.alloc _ _⟩
def wholeB (n : Nat) (C : Nat → Nat → Bool) (a b : Nat) : Bool := pairB n a b && !C (min a b) (max a b)
theorem whole_nil (w : World) (a b : Nat) : Calls Try.prog 19 #[.pointer none, .int .u8 (a : Int), .int .u8 (b : Int)] w fun e w' => e = .returned (.bool false) ∧ Grow w w' := by
  have HP : Hid (∀ w', Calls Try.prog 27 #[.pointer none, .int .u8 (a : Int), .int .u8 (b : Int)] w' fun e w2 => e = .returned (.bool false) ∧ w' = w2) := Lib.hid fun w' => pair_nil w' a b
  go_enter Try.func19, Try.ntmps19
  go_wp2_with fail
  apply (fun (v0 v1 v2 v3 v4 v5 v6 v7 v8 v9 v10 v11 v12 v13 v14 v15 : Value) mono obl tail => wp_region_par (R := Grow) (Φ := phi [veq v0, veq v1, veq v2, veq v3, veq v4, veq v5, veq v6, veq v7, veq v8, veq v9, veq v10, veq v11, veq v12, veq v13, veq v14, veq v15]) (m := 16) (dls := [[], [], [], [(7, 0), (8, 1), (9, 2)], [(10, 3)], [(11, 4)], [(12, 5), (11, 4)], [(13, 6), (11, 4)], [(14, 7), (11, 4)], [(11, 4)], [(11, 4)], [(16, 9), (17, 10), (11, 4)], [(15, 8), (18, 11), (11, 4)], [(19, 12), (11, 4)], [(11, 4), (20, 13)], [(21, 14)]]) (ds := [7, 8, 9, 10, 11, 12, 13, 14, 15, 16, 17, 18, 19, 20, 21, 6]) (by kernel_rfl) (by kernel_rfl) (by decide) rfl (Grow.drew _) (fun _ _ _ => Grow.trans) (mono_phi mono) obl tail)
  case obl =>
    refine obls_frame (fun a1 ha => ?_)
    have hsz := rd_size (n := 22) ha rfl
    have e0 := rd_slot 0 ha rfl
    have e1 := rd_slot 1 ha rfl
    have e2 := rd_slot 2 ha rfl
    clear ha
    refine obls_cons (fun f w' hR hH Q0 hQ0 => ?_) ?_
    · skip
      have s0 := sv_off f [] e0 rfl
      refine small_v hsz [(0, _)] ⟨some 1, (Op.move (.tmp 0)), 22, "", #[], none⟩ [_, undef] 1 rfl rfl ⟨s0, trivial⟩ rfl rfl hQ0 ?_
      clear hQ0 hH s0
      intro Q hQ
      repeat go_step
      exact hQ _ _ (Grow.refl _) rfl rfl
    refine obls_cons (fun f w' hR hH Q0 hQ0 => ?_) ?_
    · skip
      have s1 := sv_off f [] e1 rfl
      refine small_v hsz [(1, _)] ⟨some 1, (Op.move (.tmp 0)), 5, "", #[], none⟩ [_, undef] 1 rfl rfl ⟨s1, trivial⟩ rfl rfl hQ0 ?_
      clear hQ0 hH s1
      intro Q hQ
      repeat go_step
      exact hQ _ _ (Grow.refl _) rfl rfl
    refine obls_cons (fun f w' hR hH Q0 hQ0 => ?_) ?_
    · skip
      have s2 := sv_off f [] e2 rfl
      refine small_v hsz [(2, _)] ⟨some 1, (Op.move (.tmp 0)), 5, "", #[], none⟩ [_, undef] 1 rfl rfl ⟨s2, trivial⟩ rfl rfl hQ0 ?_
      clear hQ0 hH s2
      intro Q hQ
      repeat go_step
      exact hQ _ _ (Grow.refl _) rfl rfl
    refine obls_cons (fun f w' hR hH Q0 hQ0 => ?_) ?_
    · skip
      have s7 := (sv_at 7 0 hsz f [(7, 0), (8, 1), (9, 2)] rfl).trans (show f 0 = _ from hH.get 0 (7, 0) rfl)
      have s8 := (sv_at 8 1 hsz f [(7, 0), (8, 1), (9, 2)] rfl).trans (show f 1 = _ from hH.get 1 (8, 1) rfl)
      have s9 := (sv_at 9 2 hsz f [(7, 0), (8, 1), (9, 2)] rfl).trans (show f 2 = _ from hH.get 2 (9, 2) rfl)
      refine small_v hsz [(7, _), (8, _), (9, _)] ⟨some 3, (Op.call (Call.mk (Callee.value (Operand.func 27)) #[(.tmp 0), (.tmp 1), (.tmp 2)] #[22, 5, 5])), 4, "", #[], none⟩ [_, _, _, undef] 3 rfl rfl ⟨s7, s8, s9, trivial⟩ rfl (ren_call rfl rfl) hQ0 ?_
      clear hQ0 hH s7 s8 s9
      intro Q hQ
      go_wp2_with (go_at_call 27; refine (HP.out w').mono ?_; rintro e w1 ⟨rfl, rfl⟩)
      exact hQ _ _ (Grow.refl _) rfl rfl
    refine obls_cons (fun f w' hR hH Q0 hQ0 => ?_) ?_
    · skip
      have s10 := (sv_at 10 3 hsz f [(10, 3)] rfl).trans (show f 3 = _ from hH.get 0 (10, 3) rfl)
      refine small_v hsz [(10, _)] ⟨some 1, (Op.move (.tmp 0)), 4, "", #[], none⟩ [_, undef] 1 rfl rfl ⟨s10, trivial⟩ rfl rfl hQ0 ?_
      clear hQ0 hH s10
      intro Q hQ
      repeat go_step
      exact hQ _ _ (Grow.refl _) rfl rfl
    refine obls_cons (fun f w' hR hH Q0 hQ0 => ?_) ?_
    · skip
      have s0 := sv_off f [(11, 4)] e0 rfl
      have s11 := (sv_at 11 4 hsz f [(11, 4)] rfl).trans (show f 4 = _ from hH.get 0 (11, 4) rfl)
      first
        | exact skip_v hsz rfl ((wanted_some (b := false) rfl rfl s11).trans rfl) hQ0 (Grow.refl _) rfl
        | refine small_v hsz [(0, _)] ⟨some 1, (Op.move (.tmp 0)), 22, "", #[], none⟩ [_, undef] 1 rfl ((wanted_some (b := true) rfl rfl s11).trans rfl) ⟨s0, trivial⟩ rfl rfl hQ0 ?_
          clear hQ0 hH s0 s11
          intro Q hQ
          repeat go_step
          exact hQ _ _ (Grow.refl _) rfl rfl
    refine obls_cons (fun f w' hR hH Q0 hQ0 => ?_) ?_
    · skip
      have s12 := (sv_at 12 5 hsz f [(12, 5), (11, 4)] rfl).trans (show f 5 = _ from hH.get 0 (12, 5) rfl)
      have s11 := (sv_at 11 4 hsz f [(12, 5), (11, 4)] rfl).trans (show f 4 = _ from hH.get 1 (11, 4) rfl)
      first
        | exact skip_v hsz rfl ((wanted_some (b := false) rfl rfl s11).trans rfl) hQ0 (Grow.refl _) rfl
        | refine small_v hsz [(12, _)] ⟨some 1, (Op.nilCheck (.tmp 0)), 0, "", #[], none⟩ [_, undef] 1 rfl ((wanted_some (b := true) rfl rfl s11).trans rfl) ⟨s12, trivial⟩ rfl rfl hQ0 ?_
          clear hQ0 hH s12 s11
          intro Q hQ
          repeat go_step
          exact hQ _ _ (Grow.refl _) rfl rfl
    refine obls_cons (fun f w' hR hH Q0 hQ0 => ?_) ?_
    · skip
      have s13 := (sv_at 13 6 hsz f [(13, 6), (11, 4)] rfl).trans (show f 6 = _ from hH.get 0 (13, 6) rfl)
      have s11 := (sv_at 11 4 hsz f [(13, 6), (11, 4)] rfl).trans (show f 4 = _ from hH.get 1 (11, 4) rfl)
      first
        | exact skip_v hsz rfl ((wanted_some (b := false) rfl rfl s11).trans rfl) hQ0 (Grow.refl _) rfl
        | refine small_v hsz [(13, _)] ⟨some 1, (Op.fieldAddr 65 (.tmp 0) 2), 0, "", #[], none⟩ [_, undef] 1 rfl ((wanted_some (b := true) rfl rfl s11).trans rfl) ⟨s13, trivial⟩ rfl rfl hQ0 ?_
          clear hQ0 hH s13 s11
          intro Q hQ
          repeat go_step
          exact hQ _ _ (Grow.refl _) rfl rfl
    refine obls_cons (fun f w' hR hH Q0 hQ0 => ?_) ?_
    · skip
      have s14 := (sv_at 14 7 hsz f [(14, 7), (11, 4)] rfl).trans (show f 7 = _ from hH.get 0 (14, 7) rfl)
      have s11 := (sv_at 11 4 hsz f [(14, 7), (11, 4)] rfl).trans (show f 4 = _ from hH.get 1 (11, 4) rfl)
      first
        | exact skip_v hsz rfl ((wanted_some (b := false) rfl rfl s11).trans rfl) hQ0 (Grow.refl _) rfl
        | refine small_v hsz [(14, _)] ⟨some 1, (Op.load 62 (.tmp 0)), 62, "", #[], none⟩ [_, undef] 1 rfl ((wanted_some (b := true) rfl rfl s11).trans rfl) ⟨s14, trivial⟩ rfl rfl hQ0 ?_
          clear hQ0 hH s14 s11
          intro Q hQ
          repeat go_step
          exact hQ _ _ (Grow.refl _) rfl rfl
    refine obls_cons (fun f w' hR hH Q0 hQ0 => ?_) ?_
    · skip
      have s1 := sv_off f [(11, 4)] e1 rfl
      have s11 := (sv_at 11 4 hsz f [(11, 4)] rfl).trans (show f 4 = _ from hH.get 0 (11, 4) rfl)
      first
        | exact skip_v hsz rfl ((wanted_some (b := false) rfl rfl s11).trans rfl) hQ0 (Grow.refl _) rfl
        | refine small_v hsz [(1, _)] ⟨some 1, (Op.move (.tmp 0)), 5, "", #[], none⟩ [_, undef] 1 rfl ((wanted_some (b := true) rfl rfl s11).trans rfl) ⟨s1, trivial⟩ rfl rfl hQ0 ?_
          clear hQ0 hH s1 s11
          intro Q hQ
          repeat go_step
          exact hQ _ _ (Grow.refl _) rfl rfl
    refine obls_cons (fun f w' hR hH Q0 hQ0 => ?_) ?_
    · skip
      have s2 := sv_off f [(11, 4)] e2 rfl
      have s11 := (sv_at 11 4 hsz f [(11, 4)] rfl).trans (show f 4 = _ from hH.get 0 (11, 4) rfl)
      first
        | exact skip_v hsz rfl ((wanted_some (b := false) rfl rfl s11).trans rfl) hQ0 (Grow.refl _) rfl
        | refine small_v hsz [(2, _)] ⟨some 1, (Op.move (.tmp 0)), 5, "", #[], none⟩ [_, undef] 1 rfl ((wanted_some (b := true) rfl rfl s11).trans rfl) ⟨s2, trivial⟩ rfl rfl hQ0 ?_
          clear hQ0 hH s2 s11
          intro Q hQ
          repeat go_step
          exact hQ _ _ (Grow.refl _) rfl rfl
    refine obls_cons (fun f w' hR hH Q0 hQ0 => ?_) ?_
    · skip
      have s16 := (sv_at 16 9 hsz f [(16, 9), (17, 10), (11, 4)] rfl).trans (show f 9 = _ from hH.get 0 (16, 9) rfl)
      have s17 := (sv_at 17 10 hsz f [(16, 9), (17, 10), (11, 4)] rfl).trans (show f 10 = _ from hH.get 1 (17, 10) rfl)
      have s11 := (sv_at 11 4 hsz f [(16, 9), (17, 10), (11, 4)] rfl).trans (show f 4 = _ from hH.get 2 (11, 4) rfl)
      first
        | exact skip_v hsz rfl ((wanted_some (b := false) rfl rfl s11).trans rfl) hQ0 (Grow.refl _) rfl
        | refine small_v hsz [(16, _), (17, _)] ⟨some 2, (Op.call (Call.mk (Callee.value (Operand.func 39)) #[(.tmp 0), (.tmp 1)] #[5, 5])), 77, "", #[], none⟩ [_, _, undef] 2 rfl ((wanted_some (b := true) rfl rfl s11).trans rfl) ⟨s16, s17, trivial⟩ rfl (ren_call rfl rfl) hQ0 ?_
          clear hQ0 hH s16 s17 s11
          intro Q hQ
          repeat go_step
          exact hQ _ _ (Grow.refl _) rfl rfl
    refine obls_cons (fun f w' hR hH Q0 hQ0 => ?_) ?_
    · skip
      have s15 := (sv_at 15 8 hsz f [(15, 8), (18, 11), (11, 4)] rfl).trans (show f 8 = _ from hH.get 0 (15, 8) rfl)
      have s18 := (sv_at 18 11 hsz f [(15, 8), (18, 11), (11, 4)] rfl).trans (show f 11 = _ from hH.get 1 (18, 11) rfl)
      have s11 := (sv_at 11 4 hsz f [(15, 8), (18, 11), (11, 4)] rfl).trans (show f 4 = _ from hH.get 2 (11, 4) rfl)
      first
        | exact skip_v hsz rfl ((wanted_some (b := false) rfl rfl s11).trans rfl) hQ0 (Grow.refl _) rfl
        | refine small_v hsz [(15, _), (18, _)] ⟨some 2, (Op.lookup 62 (.tmp 0) (.tmp 1) false), 3, "", #[], none⟩ [_, _, undef] 2 rfl ((wanted_some (b := true) rfl rfl s11).trans rfl) ⟨s15, s18, trivial⟩ rfl rfl hQ0 ?_
          clear hQ0 hH s15 s18 s11
          intro Q hQ
          repeat go_step
          exact hQ _ _ (Grow.refl _) rfl rfl
    refine obls_cons (fun f w' hR hH Q0 hQ0 => ?_) ?_
    · skip
      have s19 := (sv_at 19 12 hsz f [(19, 12), (11, 4)] rfl).trans (show f 12 = _ from hH.get 0 (19, 12) rfl)
      have s11 := (sv_at 11 4 hsz f [(19, 12), (11, 4)] rfl).trans (show f 4 = _ from hH.get 1 (11, 4) rfl)
      first
        | exact skip_v hsz rfl ((wanted_some (b := false) rfl rfl s11).trans rfl) hQ0 (Grow.refl _) rfl
        | refine small_v hsz [(19, _)] ⟨some 1, (Op.binOp BinOp.eql 3 (.tmp 0) (Operand.const (Value.int IntKind.i64 0)) 3), 4, "", #[], none⟩ [_, undef] 1 rfl ((wanted_some (b := true) rfl rfl s11).trans rfl) ⟨s19, trivial⟩ rfl rfl hQ0 ?_
          clear hQ0 hH s19 s11
          intro Q hQ
          repeat go_step
          exact hQ _ _ (Grow.refl _) rfl rfl
    refine obls_cons (fun f w' hR hH Q0 hQ0 => ?_) ?_
    · skip
      have s11 := (sv_at 11 4 hsz f [(11, 4), (20, 13)] rfl).trans (show f 4 = _ from hH.get 0 (11, 4) rfl)
      have s20 := (sv_at 20 13 hsz f [(11, 4), (20, 13)] rfl).trans (show f 13 = _ from hH.get 1 (20, 13) rfl)
      refine small_v hsz [(11, _), (20, _)] ⟨some 2, (Op.pick (.tmp 0) (.tmp 1) (Operand.const (Value.bool false))), 4, "", #[], none⟩ [_, _, undef] 2 rfl rfl ⟨s11, s20, trivial⟩ rfl rfl hQ0 ?_
      clear hQ0 hH s11 s20
      intro Q hQ
      repeat go_step
      exact hQ _ _ (Grow.refl _) rfl rfl
    refine obls_cons (fun f w' hR hH Q0 hQ0 => ?_) ?_
    · skip
      have s21 := (sv_at 21 14 hsz f [(21, 14)] rfl).trans (show f 14 = _ from hH.get 0 (21, 14) rfl)
      refine small_v hsz [(21, _)] ⟨some 1, (Op.assign (.tmp 0)), 4, "", #[], none⟩ [_, undef] 1 rfl rfl ⟨s21, trivial⟩ rfl rfl hQ0 ?_
      clear hQ0 hH s21
      intro Q hQ
      repeat go_step
      exact hQ _ _ (Grow.refl _) rfl rfl
    exact obls_nil
  case mono => exact ⟨Mono.veq _, Mono.veq _, Mono.veq _, Mono.veq _, Mono.veq _, Mono.veq _, Mono.veq _, Mono.veq _, Mono.veq _, Mono.veq _, Mono.veq _, Mono.veq _, Mono.veq _, Mono.veq _, Mono.veq _, Mono.veq _, trivial⟩
  case tail =>
    intro f w' hR hH
    have q15 := hH.get 15 (6, 15) rfl
    clear hH
    refine wpList_merge (idx := [none, none, none, none, none, none, some 15, some 0, some 1, some 2, some 3, some 4, some 5, some 6, some 7, some 8, some 9, some 10, some 11, some 12, some 13, some 14]) (by kernel_rfl) ?_; show wpList _ _ _ [] ⟨#[_, _, _, _, _, _, f 15, f 0, f 1, f 2, f 3, f 4, f 5, f 6, f 7, f 8, f 9, f 10, f 11, f 12, f 13, f 14], _⟩ _
    rw [show f 15 = _ from q15]
    clear q15
    have HGr := Lib.hid hR
    clear hR
    go_wp2_with fail
    go_ret
    exact ⟨rfl, HGr.out⟩
set_option linter.unusedSimpArgs false in
set_option maxRecDepth 100000 in
set_option maxHeartbeats 4000000 in
theorem whole_any (w : World) (B g bm n cnt : Nat) (lv : Value) (ps : List PkR) (C : Nat → Nat → Bool) (h : NetI w B g bm n cnt lv ps C) (a b : Nat) (ha : a ≤ 255) (hb : b ≤ 255) :
    Calls Try.prog 19 #[.pointer (some ⟨g, 0, none⟩), .int .u8 (a : Int), .int .u8 (b : Int)] w fun e w' => e = .returned (.bool (wholeB n C a b)) ∧ Grow w w' := by
  have HN := Lib.hid h
  obtain ⟨q, hq⟩ : ∃ q, q = pairB n a b := ⟨_, rfl⟩
  obtain ⟨z, hz⟩ : ∃ z, z = C (min a b) (max a b) := ⟨_, rfl⟩
  obtain ⟨m, hm⟩ : ∃ m, m = min a b := ⟨_, rfl⟩
  obtain ⟨x, hx⟩ : ∃ m, m = max a b := ⟨_, rfl⟩
  unfold wholeB
  rw [← hq, ← hz]
  have HP : Hid (∀ w', Grow w w' → Calls Try.prog 27 #[.pointer (some ⟨g, 0, none⟩), .int .u8 (a : Int), .int .u8 (b : Int)] w' fun e w2 => e = .returned (.bool q) ∧ w' = w2) := Lib.hid fun w' hg => by rw [hq]; exact pair_any w' B g bm n cnt lv ps C (HN.out.grow hg) a b ha hb
  have HL : Hid (∀ w', Calls Try.prog 39 #[.int .u8 (a : Int), .int .u8 (b : Int)] w' fun e w2 => e = .returned (.agg #[.int .u8 (m : Int), .int .u8 (x : Int)]) ∧ Grow w' w2) := Lib.hid fun w' => by rw [hm, hx]; exact link_any w' a b
  have HM : Hid (∀ w', Grow w w' → (Instr.lookup 62 (.map (some bm)) (.agg #[.int .u8 (m : Int), .int .u8 (x : Int)]) false).run Try.prog w' = .ok (.int .i64 (bz z)) w') := Lib.hid fun w' hg => by
    rw [hm, hx, hz]
    exact (HN.out.mp.grow hg).lookup (by omega) (by omega)
  clear h hq hz hm hx
  cases q
  · go_enter Try.func19, Try.ntmps19
    go_wp2_with fail
    apply (fun (v0 v1 v2 v3 v4 v5 v6 v7 v8 v9 v10 v11 v12 v13 v14 v15 : Value) mono obl tail => wp_region_par (R := Grow) (Φ := phi [veq v0, veq v1, veq v2, veq v3, veq v4, veq v5, veq v6, veq v7, veq v8, veq v9, veq v10, veq v11, veq v12, veq v13, veq v14, veq v15]) (m := 16) (dls := [[], [], [], [(7, 0), (8, 1), (9, 2)], [(10, 3)], [(11, 4)], [(12, 5), (11, 4)], [(13, 6), (11, 4)], [(14, 7), (11, 4)], [(11, 4)], [(11, 4)], [(16, 9), (17, 10), (11, 4)], [(15, 8), (18, 11), (11, 4)], [(19, 12), (11, 4)], [(11, 4), (20, 13)], [(21, 14)]]) (ds := [7, 8, 9, 10, 11, 12, 13, 14, 15, 16, 17, 18, 19, 20, 21, 6]) (by kernel_rfl) (by kernel_rfl) (by decide) rfl (Grow.drew _) (fun _ _ _ => Grow.trans) (mono_phi mono) obl tail)
    case obl =>
      refine obls_frame (fun a1 ha => ?_)
      have hsz := rd_size (n := 22) ha rfl
      have e0 := rd_slot 0 ha rfl
      have e1 := rd_slot 1 ha rfl
      have e2 := rd_slot 2 ha rfl
      clear ha
      refine obls_cons (fun f w' hR hH Q0 hQ0 => ?_) ?_
      · skip
        have s0 := sv_off f [] e0 rfl
        refine small_v hsz [(0, _)] ⟨some 1, (Op.move (.tmp 0)), 22, "", #[], none⟩ [_, undef] 1 rfl rfl ⟨s0, trivial⟩ rfl rfl hQ0 ?_
        clear hQ0 hH s0
        intro Q hQ
        repeat go_step
        exact hQ _ _ (Grow.refl _) rfl rfl
      refine obls_cons (fun f w' hR hH Q0 hQ0 => ?_) ?_
      · skip
        have s1 := sv_off f [] e1 rfl
        refine small_v hsz [(1, _)] ⟨some 1, (Op.move (.tmp 0)), 5, "", #[], none⟩ [_, undef] 1 rfl rfl ⟨s1, trivial⟩ rfl rfl hQ0 ?_
        clear hQ0 hH s1
        intro Q hQ
        repeat go_step
        exact hQ _ _ (Grow.refl _) rfl rfl
      refine obls_cons (fun f w' hR hH Q0 hQ0 => ?_) ?_
      · skip
        have s2 := sv_off f [] e2 rfl
        refine small_v hsz [(2, _)] ⟨some 1, (Op.move (.tmp 0)), 5, "", #[], none⟩ [_, undef] 1 rfl rfl ⟨s2, trivial⟩ rfl rfl hQ0 ?_
        clear hQ0 hH s2
        intro Q hQ
        repeat go_step
        exact hQ _ _ (Grow.refl _) rfl rfl
      refine obls_cons (fun f w' hR hH Q0 hQ0 => ?_) ?_
      · skip
        have s7 := (sv_at 7 0 hsz f [(7, 0), (8, 1), (9, 2)] rfl).trans (show f 0 = _ from hH.get 0 (7, 0) rfl)
        have s8 := (sv_at 8 1 hsz f [(7, 0), (8, 1), (9, 2)] rfl).trans (show f 1 = _ from hH.get 1 (8, 1) rfl)
        have s9 := (sv_at 9 2 hsz f [(7, 0), (8, 1), (9, 2)] rfl).trans (show f 2 = _ from hH.get 2 (9, 2) rfl)
        refine small_v hsz [(7, _), (8, _), (9, _)] ⟨some 3, (Op.call (Call.mk (Callee.value (Operand.func 27)) #[(.tmp 0), (.tmp 1), (.tmp 2)] #[22, 5, 5])), 4, "", #[], none⟩ [_, _, _, undef] 3 rfl rfl ⟨s7, s8, s9, trivial⟩ rfl (ren_call rfl rfl) hQ0 ?_
        clear hQ0 hH s7 s8 s9
        intro Q hQ
        go_wp2_with (go_at_call 27; refine (HP.out w' hR).mono ?_; rintro e w1 ⟨rfl, rfl⟩)
        exact hQ _ _ (Grow.refl _) rfl rfl
      refine obls_cons (fun f w' hR hH Q0 hQ0 => ?_) ?_
      · skip
        have s10 := (sv_at 10 3 hsz f [(10, 3)] rfl).trans (show f 3 = _ from hH.get 0 (10, 3) rfl)
        refine small_v hsz [(10, _)] ⟨some 1, (Op.move (.tmp 0)), 4, "", #[], none⟩ [_, undef] 1 rfl rfl ⟨s10, trivial⟩ rfl rfl hQ0 ?_
        clear hQ0 hH s10
        intro Q hQ
        repeat go_step
        exact hQ _ _ (Grow.refl _) rfl rfl
      refine obls_cons (fun f w' hR hH Q0 hQ0 => ?_) ?_
      · skip
        have s0 := sv_off f [(11, 4)] e0 rfl
        have s11 := (sv_at 11 4 hsz f [(11, 4)] rfl).trans (show f 4 = _ from hH.get 0 (11, 4) rfl)
        first
          | exact skip_v hsz rfl ((wanted_some (b := false) rfl rfl s11).trans rfl) hQ0 (Grow.refl _) rfl
          | refine small_v hsz [(0, _)] ⟨some 1, (Op.move (.tmp 0)), 22, "", #[], none⟩ [_, undef] 1 rfl ((wanted_some (b := true) rfl rfl s11).trans rfl) ⟨s0, trivial⟩ rfl rfl hQ0 ?_
            clear hQ0 hH s0 s11
            intro Q hQ
            repeat go_step
            exact hQ _ _ (Grow.refl _) rfl rfl
      refine obls_cons (fun f w' hR hH Q0 hQ0 => ?_) ?_
      · skip
        have s12 := (sv_at 12 5 hsz f [(12, 5), (11, 4)] rfl).trans (show f 5 = _ from hH.get 0 (12, 5) rfl)
        have s11 := (sv_at 11 4 hsz f [(12, 5), (11, 4)] rfl).trans (show f 4 = _ from hH.get 1 (11, 4) rfl)
        first
          | exact skip_v hsz rfl ((wanted_some (b := false) rfl rfl s11).trans rfl) hQ0 (Grow.refl _) rfl
          | refine small_v hsz [(12, _)] ⟨some 1, (Op.nilCheck (.tmp 0)), 0, "", #[], none⟩ [_, undef] 1 rfl ((wanted_some (b := true) rfl rfl s11).trans rfl) ⟨s12, trivial⟩ rfl rfl hQ0 ?_
            clear hQ0 hH s12 s11
            intro Q hQ
            repeat go_step
            exact hQ _ _ (Grow.refl _) rfl rfl
      refine obls_cons (fun f w' hR hH Q0 hQ0 => ?_) ?_
      · skip
        have s13 := (sv_at 13 6 hsz f [(13, 6), (11, 4)] rfl).trans (show f 6 = _ from hH.get 0 (13, 6) rfl)
        have s11 := (sv_at 11 4 hsz f [(13, 6), (11, 4)] rfl).trans (show f 4 = _ from hH.get 1 (11, 4) rfl)
        first
          | exact skip_v hsz rfl ((wanted_some (b := false) rfl rfl s11).trans rfl) hQ0 (Grow.refl _) rfl
          | refine small_v hsz [(13, _)] ⟨some 1, (Op.fieldAddr 65 (.tmp 0) 2), 0, "", #[], none⟩ [_, undef] 1 rfl ((wanted_some (b := true) rfl rfl s11).trans rfl) ⟨s13, trivial⟩ rfl rfl hQ0 ?_
            clear hQ0 hH s13 s11
            intro Q hQ
            repeat go_step
            exact hQ _ _ (Grow.refl _) rfl rfl
      refine obls_cons (fun f w' hR hH Q0 hQ0 => ?_) ?_
      · skip
        have s14 := (sv_at 14 7 hsz f [(14, 7), (11, 4)] rfl).trans (show f 7 = _ from hH.get 0 (14, 7) rfl)
        have s11 := (sv_at 11 4 hsz f [(14, 7), (11, 4)] rfl).trans (show f 4 = _ from hH.get 1 (11, 4) rfl)
        first
          | exact skip_v hsz rfl ((wanted_some (b := false) rfl rfl s11).trans rfl) hQ0 (Grow.refl _) rfl
          | refine small_v hsz [(14, _)] ⟨some 1, (Op.load 62 (.tmp 0)), 62, "", #[], none⟩ [_, undef] 1 rfl ((wanted_some (b := true) rfl rfl s11).trans rfl) ⟨s14, trivial⟩ rfl rfl hQ0 ?_
            clear hQ0 hH s14 s11
            intro Q hQ
            repeat go_step
            exact hQ _ _ (Grow.refl _) rfl rfl
      refine obls_cons (fun f w' hR hH Q0 hQ0 => ?_) ?_
      · skip
        have s1 := sv_off f [(11, 4)] e1 rfl
        have s11 := (sv_at 11 4 hsz f [(11, 4)] rfl).trans (show f 4 = _ from hH.get 0 (11, 4) rfl)
        first
          | exact skip_v hsz rfl ((wanted_some (b := false) rfl rfl s11).trans rfl) hQ0 (Grow.refl _) rfl
          | refine small_v hsz [(1, _)] ⟨some 1, (Op.move (.tmp 0)), 5, "", #[], none⟩ [_, undef] 1 rfl ((wanted_some (b := true) rfl rfl s11).trans rfl) ⟨s1, trivial⟩ rfl rfl hQ0 ?_
            clear hQ0 hH s1 s11
            intro Q hQ
            repeat go_step
            exact hQ _ _ (Grow.refl _) rfl rfl
      refine obls_cons (fun f w' hR hH Q0 hQ0 => ?_) ?_
      · skip
        have s2 := sv_off f [(11, 4)] e2 rfl
        have s11 := (sv_at 11 4 hsz f [(11, 4)] rfl).trans (show f 4 = _ from hH.get 0 (11, 4) rfl)
        first
          | exact skip_v hsz rfl ((wanted_some (b := false) rfl rfl s11).trans rfl) hQ0 (Grow.refl _) rfl
          | refine small_v hsz [(2, _)] ⟨some 1, (Op.move (.tmp 0)), 5, "", #[], none⟩ [_, undef] 1 rfl ((wanted_some (b := true) rfl rfl s11).trans rfl) ⟨s2, trivial⟩ rfl rfl hQ0 ?_
            clear hQ0 hH s2 s11
            intro Q hQ
            repeat go_step
            exact hQ _ _ (Grow.refl _) rfl rfl
      refine obls_cons (fun f w' hR hH Q0 hQ0 => ?_) ?_
      · skip
        have s16 := (sv_at 16 9 hsz f [(16, 9), (17, 10), (11, 4)] rfl).trans (show f 9 = _ from hH.get 0 (16, 9) rfl)
        have s17 := (sv_at 17 10 hsz f [(16, 9), (17, 10), (11, 4)] rfl).trans (show f 10 = _ from hH.get 1 (17, 10) rfl)
        have s11 := (sv_at 11 4 hsz f [(16, 9), (17, 10), (11, 4)] rfl).trans (show f 4 = _ from hH.get 2 (11, 4) rfl)
        first
          | exact skip_v hsz rfl ((wanted_some (b := false) rfl rfl s11).trans rfl) hQ0 (Grow.refl _) rfl
          | refine small_v hsz [(16, _), (17, _)] ⟨some 2, (Op.call (Call.mk (Callee.value (Operand.func 39)) #[(.tmp 0), (.tmp 1)] #[5, 5])), 77, "", #[], none⟩ [_, _, undef] 2 rfl ((wanted_some (b := true) rfl rfl s11).trans rfl) ⟨s16, s17, trivial⟩ rfl (ren_call rfl rfl) hQ0 ?_
            clear hQ0 hH s16 s17 s11
            intro Q hQ
            repeat go_step
            exact hQ _ _ (Grow.refl _) rfl rfl
      refine obls_cons (fun f w' hR hH Q0 hQ0 => ?_) ?_
      · skip
        have s15 := (sv_at 15 8 hsz f [(15, 8), (18, 11), (11, 4)] rfl).trans (show f 8 = _ from hH.get 0 (15, 8) rfl)
        have s18 := (sv_at 18 11 hsz f [(15, 8), (18, 11), (11, 4)] rfl).trans (show f 11 = _ from hH.get 1 (18, 11) rfl)
        have s11 := (sv_at 11 4 hsz f [(15, 8), (18, 11), (11, 4)] rfl).trans (show f 4 = _ from hH.get 2 (11, 4) rfl)
        first
          | exact skip_v hsz rfl ((wanted_some (b := false) rfl rfl s11).trans rfl) hQ0 (Grow.refl _) rfl
          | refine small_v hsz [(15, _), (18, _)] ⟨some 2, (Op.lookup 62 (.tmp 0) (.tmp 1) false), 3, "", #[], none⟩ [_, _, undef] 2 rfl ((wanted_some (b := true) rfl rfl s11).trans rfl) ⟨s15, s18, trivial⟩ rfl rfl hQ0 ?_
            clear hQ0 hH s15 s18 s11
            intro Q hQ
            repeat go_step
            exact hQ _ _ (Grow.refl _) rfl rfl
      refine obls_cons (fun f w' hR hH Q0 hQ0 => ?_) ?_
      · skip
        have s19 := (sv_at 19 12 hsz f [(19, 12), (11, 4)] rfl).trans (show f 12 = _ from hH.get 0 (19, 12) rfl)
        have s11 := (sv_at 11 4 hsz f [(19, 12), (11, 4)] rfl).trans (show f 4 = _ from hH.get 1 (11, 4) rfl)
        first
          | exact skip_v hsz rfl ((wanted_some (b := false) rfl rfl s11).trans rfl) hQ0 (Grow.refl _) rfl
          | refine small_v hsz [(19, _)] ⟨some 1, (Op.binOp BinOp.eql 3 (.tmp 0) (Operand.const (Value.int IntKind.i64 0)) 3), 4, "", #[], none⟩ [_, undef] 1 rfl ((wanted_some (b := true) rfl rfl s11).trans rfl) ⟨s19, trivial⟩ rfl rfl hQ0 ?_
            clear hQ0 hH s19 s11
            intro Q hQ
            repeat go_step
            exact hQ _ _ (Grow.refl _) rfl rfl
      refine obls_cons (fun f w' hR hH Q0 hQ0 => ?_) ?_
      · skip
        have s11 := (sv_at 11 4 hsz f [(11, 4), (20, 13)] rfl).trans (show f 4 = _ from hH.get 0 (11, 4) rfl)
        have s20 := (sv_at 20 13 hsz f [(11, 4), (20, 13)] rfl).trans (show f 13 = _ from hH.get 1 (20, 13) rfl)
        refine small_v hsz [(11, _), (20, _)] ⟨some 2, (Op.pick (.tmp 0) (.tmp 1) (Operand.const (Value.bool false))), 4, "", #[], none⟩ [_, _, undef] 2 rfl rfl ⟨s11, s20, trivial⟩ rfl rfl hQ0 ?_
        clear hQ0 hH s11 s20
        intro Q hQ
        repeat go_step
        exact hQ _ _ (Grow.refl _) rfl rfl
      refine obls_cons (fun f w' hR hH Q0 hQ0 => ?_) ?_
      · skip
        have s21 := (sv_at 21 14 hsz f [(21, 14)] rfl).trans (show f 14 = _ from hH.get 0 (21, 14) rfl)
        refine small_v hsz [(21, _)] ⟨some 1, (Op.assign (.tmp 0)), 4, "", #[], none⟩ [_, undef] 1 rfl rfl ⟨s21, trivial⟩ rfl rfl hQ0 ?_
        clear hQ0 hH s21
        intro Q hQ
        repeat go_step
        exact hQ _ _ (Grow.refl _) rfl rfl
      exact obls_nil
    case mono => exact ⟨Mono.veq _, Mono.veq _, Mono.veq _, Mono.veq _, Mono.veq _, Mono.veq _, Mono.veq _, Mono.veq _, Mono.veq _, Mono.veq _, Mono.veq _, Mono.veq _, Mono.veq _, Mono.veq _, Mono.veq _, Mono.veq _, trivial⟩
    case tail =>
      intro f w' hR hH
      have q15 := hH.get 15 (6, 15) rfl
      clear hH
      refine wpList_merge (idx := [none, none, none, none, none, none, some 15, some 0, some 1, some 2, some 3, some 4, some 5, some 6, some 7, some 8, some 9, some 10, some 11, some 12, some 13, some 14]) (by kernel_rfl) ?_; show wpList _ _ _ [] ⟨#[_, _, _, _, _, _, f 15, f 0, f 1, f 2, f 3, f 4, f 5, f 6, f 7, f 8, f 9, f 10, f 11, f 12, f 13, f 14], _⟩ _
      rw [show f 15 = _ from q15]
      clear q15
      have HGr := Lib.hid hR
      clear hR
      go_wp2_with fail
      go_ret
      exact ⟨rfl, HGr.out⟩
  · cases z
    · go_enter Try.func19, Try.ntmps19
      go_wp2_with fail
      apply (fun (v0 v1 v2 v3 v4 v5 v6 v7 v8 v9 v10 v11 v12 v13 v14 v15 : Value) mono obl tail => wp_region_par (R := Grow) (Φ := phi [veq v0, veq v1, veq v2, veq v3, veq v4, veq v5, veq v6, veq v7, veq v8, veq v9, veq v10, veq v11, veq v12, veq v13, veq v14, veq v15]) (m := 16) (dls := [[], [], [], [(7, 0), (8, 1), (9, 2)], [(10, 3)], [(11, 4)], [(12, 5), (11, 4)], [(13, 6), (11, 4)], [(14, 7), (11, 4)], [(11, 4)], [(11, 4)], [(16, 9), (17, 10), (11, 4)], [(15, 8), (18, 11), (11, 4)], [(19, 12), (11, 4)], [(11, 4), (20, 13)], [(21, 14)]]) (ds := [7, 8, 9, 10, 11, 12, 13, 14, 15, 16, 17, 18, 19, 20, 21, 6]) (by kernel_rfl) (by kernel_rfl) (by decide) rfl (Grow.drew _) (fun _ _ _ => Grow.trans) (mono_phi mono) obl tail)
      case obl =>
        refine obls_frame (fun a1 ha => ?_)
        have hsz := rd_size (n := 22) ha rfl
        have e0 := rd_slot 0 ha rfl
        have e1 := rd_slot 1 ha rfl
        have e2 := rd_slot 2 ha rfl
        clear ha
        refine obls_cons (fun f w' hR hH Q0 hQ0 => ?_) ?_
        · skip
          have s0 := sv_off f [] e0 rfl
          refine small_v hsz [(0, _)] ⟨some 1, (Op.move (.tmp 0)), 22, "", #[], none⟩ [_, undef] 1 rfl rfl ⟨s0, trivial⟩ rfl rfl hQ0 ?_
          clear hQ0 hH s0
          intro Q hQ
          repeat go_step
          exact hQ _ _ (Grow.refl _) rfl rfl
        refine obls_cons (fun f w' hR hH Q0 hQ0 => ?_) ?_
        · skip
          have s1 := sv_off f [] e1 rfl
          refine small_v hsz [(1, _)] ⟨some 1, (Op.move (.tmp 0)), 5, "", #[], none⟩ [_, undef] 1 rfl rfl ⟨s1, trivial⟩ rfl rfl hQ0 ?_
          clear hQ0 hH s1
          intro Q hQ
          repeat go_step
          exact hQ _ _ (Grow.refl _) rfl rfl
        refine obls_cons (fun f w' hR hH Q0 hQ0 => ?_) ?_
        · skip
          have s2 := sv_off f [] e2 rfl
          refine small_v hsz [(2, _)] ⟨some 1, (Op.move (.tmp 0)), 5, "", #[], none⟩ [_, undef] 1 rfl rfl ⟨s2, trivial⟩ rfl rfl hQ0 ?_
          clear hQ0 hH s2
          intro Q hQ
          repeat go_step
          exact hQ _ _ (Grow.refl _) rfl rfl
        refine obls_cons (fun f w' hR hH Q0 hQ0 => ?_) ?_
        · skip
          have s7 := (sv_at 7 0 hsz f [(7, 0), (8, 1), (9, 2)] rfl).trans (show f 0 = _ from hH.get 0 (7, 0) rfl)
          have s8 := (sv_at 8 1 hsz f [(7, 0), (8, 1), (9, 2)] rfl).trans (show f 1 = _ from hH.get 1 (8, 1) rfl)
          have s9 := (sv_at 9 2 hsz f [(7, 0), (8, 1), (9, 2)] rfl).trans (show f 2 = _ from hH.get 2 (9, 2) rfl)
          refine small_v hsz [(7, _), (8, _), (9, _)] ⟨some 3, (Op.call (Call.mk (Callee.value (Operand.func 27)) #[(.tmp 0), (.tmp 1), (.tmp 2)] #[22, 5, 5])), 4, "", #[], none⟩ [_, _, _, undef] 3 rfl rfl ⟨s7, s8, s9, trivial⟩ rfl (ren_call rfl rfl) hQ0 ?_
          clear hQ0 hH s7 s8 s9
          intro Q hQ
          go_wp2_with (go_at_call 27; refine (HP.out w' hR).mono ?_; rintro e w1 ⟨rfl, rfl⟩)
          exact hQ _ _ (Grow.refl _) rfl rfl
        refine obls_cons (fun f w' hR hH Q0 hQ0 => ?_) ?_
        · skip
          have s10 := (sv_at 10 3 hsz f [(10, 3)] rfl).trans (show f 3 = _ from hH.get 0 (10, 3) rfl)
          refine small_v hsz [(10, _)] ⟨some 1, (Op.move (.tmp 0)), 4, "", #[], none⟩ [_, undef] 1 rfl rfl ⟨s10, trivial⟩ rfl rfl hQ0 ?_
          clear hQ0 hH s10
          intro Q hQ
          repeat go_step
          exact hQ _ _ (Grow.refl _) rfl rfl
        refine obls_cons (fun f w' hR hH Q0 hQ0 => ?_) ?_
        · skip
          have s0 := sv_off f [(11, 4)] e0 rfl
          have s11 := (sv_at 11 4 hsz f [(11, 4)] rfl).trans (show f 4 = _ from hH.get 0 (11, 4) rfl)
          first
            | exact skip_v hsz rfl ((wanted_some (b := false) rfl rfl s11).trans rfl) hQ0 (Grow.refl _) rfl
            | refine small_v hsz [(0, _)] ⟨some 1, (Op.move (.tmp 0)), 22, "", #[], none⟩ [_, undef] 1 rfl ((wanted_some (b := true) rfl rfl s11).trans rfl) ⟨s0, trivial⟩ rfl rfl hQ0 ?_
              clear hQ0 hH s0 s11
              intro Q hQ
              repeat go_step
              exact hQ _ _ (Grow.refl _) rfl rfl
        refine obls_cons (fun f w' hR hH Q0 hQ0 => ?_) ?_
        · skip
          have s12 := (sv_at 12 5 hsz f [(12, 5), (11, 4)] rfl).trans (show f 5 = _ from hH.get 0 (12, 5) rfl)
          have s11 := (sv_at 11 4 hsz f [(12, 5), (11, 4)] rfl).trans (show f 4 = _ from hH.get 1 (11, 4) rfl)
          first
            | exact skip_v hsz rfl ((wanted_some (b := false) rfl rfl s11).trans rfl) hQ0 (Grow.refl _) rfl
            | refine small_v hsz [(12, _)] ⟨some 1, (Op.nilCheck (.tmp 0)), 0, "", #[], none⟩ [_, undef] 1 rfl ((wanted_some (b := true) rfl rfl s11).trans rfl) ⟨s12, trivial⟩ rfl rfl hQ0 ?_
              clear hQ0 hH s12 s11
              intro Q hQ
              repeat go_step
              exact hQ _ _ (Grow.refl _) rfl rfl
        refine obls_cons (fun f w' hR hH Q0 hQ0 => ?_) ?_
        · skip
          have s13 := (sv_at 13 6 hsz f [(13, 6), (11, 4)] rfl).trans (show f 6 = _ from hH.get 0 (13, 6) rfl)
          have s11 := (sv_at 11 4 hsz f [(13, 6), (11, 4)] rfl).trans (show f 4 = _ from hH.get 1 (11, 4) rfl)
          first
            | exact skip_v hsz rfl ((wanted_some (b := false) rfl rfl s11).trans rfl) hQ0 (Grow.refl _) rfl
            | refine small_v hsz [(13, _)] ⟨some 1, (Op.fieldAddr 65 (.tmp 0) 2), 0, "", #[], none⟩ [_, undef] 1 rfl ((wanted_some (b := true) rfl rfl s11).trans rfl) ⟨s13, trivial⟩ rfl rfl hQ0 ?_
              clear hQ0 hH s13 s11
              intro Q hQ
              repeat go_step
              exact hQ _ _ (Grow.refl _) rfl rfl
        refine obls_cons (fun f w' hR hH Q0 hQ0 => ?_) ?_
        · skip
          have s14 := (sv_at 14 7 hsz f [(14, 7), (11, 4)] rfl).trans (show f 7 = _ from hH.get 0 (14, 7) rfl)
          have s11 := (sv_at 11 4 hsz f [(14, 7), (11, 4)] rfl).trans (show f 4 = _ from hH.get 1 (11, 4) rfl)
          first
            | exact skip_v hsz rfl ((wanted_some (b := false) rfl rfl s11).trans rfl) hQ0 (Grow.refl _) rfl
            | refine small_v hsz [(14, _)] ⟨some 1, (Op.load 62 (.tmp 0)), 62, "", #[], none⟩ [_, undef] 1 rfl ((wanted_some (b := true) rfl rfl s11).trans rfl) ⟨s14, trivial⟩ rfl rfl hQ0 ?_
              clear hQ0 hH s14 s11
              intro Q hQ
              have y0 := (HN.out.bx.grow hR).cell (i := 2) rfl
              repeat go_step
              exact hQ _ _ (Grow.refl _) rfl rfl
        refine obls_cons (fun f w' hR hH Q0 hQ0 => ?_) ?_
        · skip
          have s1 := sv_off f [(11, 4)] e1 rfl
          have s11 := (sv_at 11 4 hsz f [(11, 4)] rfl).trans (show f 4 = _ from hH.get 0 (11, 4) rfl)
          first
            | exact skip_v hsz rfl ((wanted_some (b := false) rfl rfl s11).trans rfl) hQ0 (Grow.refl _) rfl
            | refine small_v hsz [(1, _)] ⟨some 1, (Op.move (.tmp 0)), 5, "", #[], none⟩ [_, undef] 1 rfl ((wanted_some (b := true) rfl rfl s11).trans rfl) ⟨s1, trivial⟩ rfl rfl hQ0 ?_
              clear hQ0 hH s1 s11
              intro Q hQ
              repeat go_step
              exact hQ _ _ (Grow.refl _) rfl rfl
        refine obls_cons (fun f w' hR hH Q0 hQ0 => ?_) ?_
        · skip
          have s2 := sv_off f [(11, 4)] e2 rfl
          have s11 := (sv_at 11 4 hsz f [(11, 4)] rfl).trans (show f 4 = _ from hH.get 0 (11, 4) rfl)
          first
            | exact skip_v hsz rfl ((wanted_some (b := false) rfl rfl s11).trans rfl) hQ0 (Grow.refl _) rfl
            | refine small_v hsz [(2, _)] ⟨some 1, (Op.move (.tmp 0)), 5, "", #[], none⟩ [_, undef] 1 rfl ((wanted_some (b := true) rfl rfl s11).trans rfl) ⟨s2, trivial⟩ rfl rfl hQ0 ?_
              clear hQ0 hH s2 s11
              intro Q hQ
              repeat go_step
              exact hQ _ _ (Grow.refl _) rfl rfl
        refine obls_cons (fun f w' hR hH Q0 hQ0 => ?_) ?_
        · skip
          have s16 := (sv_at 16 9 hsz f [(16, 9), (17, 10), (11, 4)] rfl).trans (show f 9 = _ from hH.get 0 (16, 9) rfl)
          have s17 := (sv_at 17 10 hsz f [(16, 9), (17, 10), (11, 4)] rfl).trans (show f 10 = _ from hH.get 1 (17, 10) rfl)
          have s11 := (sv_at 11 4 hsz f [(16, 9), (17, 10), (11, 4)] rfl).trans (show f 4 = _ from hH.get 2 (11, 4) rfl)
          first
            | exact skip_v hsz rfl ((wanted_some (b := false) rfl rfl s11).trans rfl) hQ0 (Grow.refl _) rfl
            | refine small_v hsz [(16, _), (17, _)] ⟨some 2, (Op.call (Call.mk (Callee.value (Operand.func 39)) #[(.tmp 0), (.tmp 1)] #[5, 5])), 77, "", #[], none⟩ [_, _, undef] 2 rfl ((wanted_some (b := true) rfl rfl s11).trans rfl) ⟨s16, s17, trivial⟩ rfl (ren_call rfl rfl) hQ0 ?_
              clear hQ0 hH s16 s17 s11
              intro Q hQ
              go_wp2_with (go_at_call 39; refine (HL.out w').mono ?_; rintro e w1 ⟨rfl, hg1⟩)
              exact hQ _ _ hg1 rfl rfl
        refine obls_cons (fun f w' hR hH Q0 hQ0 => ?_) ?_
        · skip
          have s15 := (sv_at 15 8 hsz f [(15, 8), (18, 11), (11, 4)] rfl).trans (show f 8 = _ from hH.get 0 (15, 8) rfl)
          have s18 := (sv_at 18 11 hsz f [(15, 8), (18, 11), (11, 4)] rfl).trans (show f 11 = _ from hH.get 1 (18, 11) rfl)
          have s11 := (sv_at 11 4 hsz f [(15, 8), (18, 11), (11, 4)] rfl).trans (show f 4 = _ from hH.get 2 (11, 4) rfl)
          first
            | exact skip_v hsz rfl ((wanted_some (b := false) rfl rfl s11).trans rfl) hQ0 (Grow.refl _) rfl
            | refine small_v hsz [(15, _), (18, _)] ⟨some 2, (Op.lookup 62 (.tmp 0) (.tmp 1) false), 3, "", #[], none⟩ [_, _, undef] 2 rfl ((wanted_some (b := true) rfl rfl s11).trans rfl) ⟨s15, s18, trivial⟩ rfl rfl hQ0 ?_
              clear hQ0 hH s15 s18 s11
              intro Q hQ
              have y0 := HM.out w' hR
              simp only [bz, if_true, if_false, Bool.false_eq_true] at y0
              go_wp2_with fail
              exact hQ _ _ (Grow.refl _) rfl rfl
        refine obls_cons (fun f w' hR hH Q0 hQ0 => ?_) ?_
        · skip
          have s19 := (sv_at 19 12 hsz f [(19, 12), (11, 4)] rfl).trans (show f 12 = _ from hH.get 0 (19, 12) rfl)
          have s11 := (sv_at 11 4 hsz f [(19, 12), (11, 4)] rfl).trans (show f 4 = _ from hH.get 1 (11, 4) rfl)
          first
            | exact skip_v hsz rfl ((wanted_some (b := false) rfl rfl s11).trans rfl) hQ0 (Grow.refl _) rfl
            | refine small_v hsz [(19, _)] ⟨some 1, (Op.binOp BinOp.eql 3 (.tmp 0) (Operand.const (Value.int IntKind.i64 0)) 3), 4, "", #[], none⟩ [_, undef] 1 rfl ((wanted_some (b := true) rfl rfl s11).trans rfl) ⟨s19, trivial⟩ rfl rfl hQ0 ?_
              clear hQ0 hH s19 s11
              intro Q hQ
              repeat go_step
              exact hQ _ _ (Grow.refl _) rfl rfl
        refine obls_cons (fun f w' hR hH Q0 hQ0 => ?_) ?_
        · skip
          have s11 := (sv_at 11 4 hsz f [(11, 4), (20, 13)] rfl).trans (show f 4 = _ from hH.get 0 (11, 4) rfl)
          have s20 := (sv_at 20 13 hsz f [(11, 4), (20, 13)] rfl).trans (show f 13 = _ from hH.get 1 (20, 13) rfl)
          refine small_v hsz [(11, _), (20, _)] ⟨some 2, (Op.pick (.tmp 0) (.tmp 1) (Operand.const (Value.bool false))), 4, "", #[], none⟩ [_, _, undef] 2 rfl rfl ⟨s11, s20, trivial⟩ rfl rfl hQ0 ?_
          clear hQ0 hH s11 s20
          intro Q hQ
          repeat go_step
          exact hQ _ _ (Grow.refl _) rfl rfl
        refine obls_cons (fun f w' hR hH Q0 hQ0 => ?_) ?_
        · skip
          have s21 := (sv_at 21 14 hsz f [(21, 14)] rfl).trans (show f 14 = _ from hH.get 0 (21, 14) rfl)
          refine small_v hsz [(21, _)] ⟨some 1, (Op.assign (.tmp 0)), 4, "", #[], none⟩ [_, undef] 1 rfl rfl ⟨s21, trivial⟩ rfl rfl hQ0 ?_
          clear hQ0 hH s21
          intro Q hQ
          repeat go_step
          exact hQ _ _ (Grow.refl _) rfl rfl
        exact obls_nil
      case mono => exact ⟨Mono.veq _, Mono.veq _, Mono.veq _, Mono.veq _, Mono.veq _, Mono.veq _, Mono.veq _, Mono.veq _, Mono.veq _, Mono.veq _, Mono.veq _, Mono.veq _, Mono.veq _, Mono.veq _, Mono.veq _, Mono.veq _, trivial⟩
      case tail =>
        intro f w' hR hH
        have q15 := hH.get 15 (6, 15) rfl
        clear hH
        refine wpList_merge (idx := [none, none, none, none, none, none, some 15, some 0, some 1, some 2, some 3, some 4, some 5, some 6, some 7, some 8, some 9, some 10, some 11, some 12, some 13, some 14]) (by kernel_rfl) ?_; show wpList _ _ _ [] ⟨#[_, _, _, _, _, _, f 15, f 0, f 1, f 2, f 3, f 4, f 5, f 6, f 7, f 8, f 9, f 10, f 11, f 12, f 13, f 14], _⟩ _
        rw [show f 15 = _ from q15]
        clear q15
        have HGr := Lib.hid hR
        clear hR
        go_wp2_with fail
        go_ret
        exact ⟨rfl, HGr.out⟩
    · go_enter Try.func19, Try.ntmps19
      go_wp2_with fail
      apply (fun (v0 v1 v2 v3 v4 v5 v6 v7 v8 v9 v10 v11 v12 v13 v14 v15 : Value) mono obl tail => wp_region_par (R := Grow) (Φ := phi [veq v0, veq v1, veq v2, veq v3, veq v4, veq v5, veq v6, veq v7, veq v8, veq v9, veq v10, veq v11, veq v12, veq v13, veq v14, veq v15]) (m := 16) (dls := [[], [], [], [(7, 0), (8, 1), (9, 2)], [(10, 3)], [(11, 4)], [(12, 5), (11, 4)], [(13, 6), (11, 4)], [(14, 7), (11, 4)], [(11, 4)], [(11, 4)], [(16, 9), (17, 10), (11, 4)], [(15, 8), (18, 11), (11, 4)], [(19, 12), (11, 4)], [(11, 4), (20, 13)], [(21, 14)]]) (ds := [7, 8, 9, 10, 11, 12, 13, 14, 15, 16, 17, 18, 19, 20, 21, 6]) (by kernel_rfl) (by kernel_rfl) (by decide) rfl (Grow.drew _) (fun _ _ _ => Grow.trans) (mono_phi mono) obl tail)
      case obl =>
        refine obls_frame (fun a1 ha => ?_)
        have hsz := rd_size (n := 22) ha rfl
        have e0 := rd_slot 0 ha rfl
        have e1 := rd_slot 1 ha rfl
        have e2 := rd_slot 2 ha rfl
        clear ha
        refine obls_cons (fun f w' hR hH Q0 hQ0 => ?_) ?_
        · skip
          have s0 := sv_off f [] e0 rfl
          refine small_v hsz [(0, _)] ⟨some 1, (Op.move (.tmp 0)), 22, "", #[], none⟩ [_, undef] 1 rfl rfl ⟨s0, trivial⟩ rfl rfl hQ0 ?_
          clear hQ0 hH s0
          intro Q hQ
          repeat go_step
          exact hQ _ _ (Grow.refl _) rfl rfl
        refine obls_cons (fun f w' hR hH Q0 hQ0 => ?_) ?_
        · skip
          have s1 := sv_off f [] e1 rfl
          refine small_v hsz [(1, _)] ⟨some 1, (Op.move (.tmp 0)), 5, "", #[], none⟩ [_, undef] 1 rfl rfl ⟨s1, trivial⟩ rfl rfl hQ0 ?_
          clear hQ0 hH s1
          intro Q hQ
          repeat go_step
          exact hQ _ _ (Grow.refl _) rfl rfl
        refine obls_cons (fun f w' hR hH Q0 hQ0 => ?_) ?_
        · skip
          have s2 := sv_off f [] e2 rfl
          refine small_v hsz [(2, _)] ⟨some 1, (Op.move (.tmp 0)), 5, "", #[], none⟩ [_, undef] 1 rfl rfl ⟨s2, trivial⟩ rfl rfl hQ0 ?_
          clear hQ0 hH s2
          intro Q hQ
          repeat go_step
          exact hQ _ _ (Grow.refl _) rfl rfl
        refine obls_cons (fun f w' hR hH Q0 hQ0 => ?_) ?_
        · skip
          have s7 := (sv_at 7 0 hsz f [(7, 0), (8, 1), (9, 2)] rfl).trans (show f 0 = _ from hH.get 0 (7, 0) rfl)
          have s8 := (sv_at 8 1 hsz f [(7, 0), (8, 1), (9, 2)] rfl).trans (show f 1 = _ from hH.get 1 (8, 1) rfl)
          have s9 := (sv_at 9 2 hsz f [(7, 0), (8, 1), (9, 2)] rfl).trans (show f 2 = _ from hH.get 2 (9, 2) rfl)
          refine small_v hsz [(7, _), (8, _), (9, _)] ⟨some 3, (Op.call (Call.mk (Callee.value (Operand.func 27)) #[(.tmp 0), (.tmp 1), (.tmp 2)] #[22, 5, 5])), 4, "", #[], none⟩ [_, _, _, undef] 3 rfl rfl ⟨s7, s8, s9, trivial⟩ rfl (ren_call rfl rfl) hQ0 ?_
          clear hQ0 hH s7 s8 s9
          intro Q hQ
          go_wp2_with (go_at_call 27; refine (HP.out w' hR).mono ?_; rintro e w1 ⟨rfl, rfl⟩)
          exact hQ _ _ (Grow.refl _) rfl rfl
        refine obls_cons (fun f w' hR hH Q0 hQ0 => ?_) ?_
        · skip
          have s10 := (sv_at 10 3 hsz f [(10, 3)] rfl).trans (show f 3 = _ from hH.get 0 (10, 3) rfl)
          refine small_v hsz [(10, _)] ⟨some 1, (Op.move (.tmp 0)), 4, "", #[], none⟩ [_, undef] 1 rfl rfl ⟨s10, trivial⟩ rfl rfl hQ0 ?_
          clear hQ0 hH s10
          intro Q hQ
          repeat go_step
          exact hQ _ _ (Grow.refl _) rfl rfl
        refine obls_cons (fun f w' hR hH Q0 hQ0 => ?_) ?_
        · skip
          have s0 := sv_off f [(11, 4)] e0 rfl
          have s11 := (sv_at 11 4 hsz f [(11, 4)] rfl).trans (show f 4 = _ from hH.get 0 (11, 4) rfl)
          first
            | exact skip_v hsz rfl ((wanted_some (b := false) rfl rfl s11).trans rfl) hQ0 (Grow.refl _) rfl
            | refine small_v hsz [(0, _)] ⟨some 1, (Op.move (.tmp 0)), 22, "", #[], none⟩ [_, undef] 1 rfl ((wanted_some (b := true) rfl rfl s11).trans rfl) ⟨s0, trivial⟩ rfl rfl hQ0 ?_
              clear hQ0 hH s0 s11
              intro Q hQ
              repeat go_step
              exact hQ _ _ (Grow.refl _) rfl rfl
        refine obls_cons (fun f w' hR hH Q0 hQ0 => ?_) ?_
        · skip
          have s12 := (sv_at 12 5 hsz f [(12, 5), (11, 4)] rfl).trans (show f 5 = _ from hH.get 0 (12, 5) rfl)
          have s11 := (sv_at 11 4 hsz f [(12, 5), (11, 4)] rfl).trans (show f 4 = _ from hH.get 1 (11, 4) rfl)
          first
            | exact skip_v hsz rfl ((wanted_some (b := false) rfl rfl s11).trans rfl) hQ0 (Grow.refl _) rfl
            | refine small_v hsz [(12, _)] ⟨some 1, (Op.nilCheck (.tmp 0)), 0, "", #[], none⟩ [_, undef] 1 rfl ((wanted_some (b := true) rfl rfl s11).trans rfl) ⟨s12, trivial⟩ rfl rfl hQ0 ?_
              clear hQ0 hH s12 s11
              intro Q hQ
              repeat go_step
              exact hQ _ _ (Grow.refl _) rfl rfl
        refine obls_cons (fun f w' hR hH Q0 hQ0 => ?_) ?_
        · skip
          have s13 := (sv_at 13 6 hsz f [(13, 6), (11, 4)] rfl).trans (show f 6 = _ from hH.get 0 (13, 6) rfl)
          have s11 := (sv_at 11 4 hsz f [(13, 6), (11, 4)] rfl).trans (show f 4 = _ from hH.get 1 (11, 4) rfl)
          first
            | exact skip_v hsz rfl ((wanted_some (b := false) rfl rfl s11).trans rfl) hQ0 (Grow.refl _) rfl
            | refine small_v hsz [(13, _)] ⟨some 1, (Op.fieldAddr 65 (.tmp 0) 2), 0, "", #[], none⟩ [_, undef] 1 rfl ((wanted_some (b := true) rfl rfl s11).trans rfl) ⟨s13, trivial⟩ rfl rfl hQ0 ?_
              clear hQ0 hH s13 s11
              intro Q hQ
              repeat go_step
              exact hQ _ _ (Grow.refl _) rfl rfl
        refine obls_cons (fun f w' hR hH Q0 hQ0 => ?_) ?_
        · skip
          have s14 := (sv_at 14 7 hsz f [(14, 7), (11, 4)] rfl).trans (show f 7 = _ from hH.get 0 (14, 7) rfl)
          have s11 := (sv_at 11 4 hsz f [(14, 7), (11, 4)] rfl).trans (show f 4 = _ from hH.get 1 (11, 4) rfl)
          first
            | exact skip_v hsz rfl ((wanted_some (b := false) rfl rfl s11).trans rfl) hQ0 (Grow.refl _) rfl
            | refine small_v hsz [(14, _)] ⟨some 1, (Op.load 62 (.tmp 0)), 62, "", #[], none⟩ [_, undef] 1 rfl ((wanted_some (b := true) rfl rfl s11).trans rfl) ⟨s14, trivial⟩ rfl rfl hQ0 ?_
              clear hQ0 hH s14 s11
              intro Q hQ
              have y0 := (HN.out.bx.grow hR).cell (i := 2) rfl
              repeat go_step
              exact hQ _ _ (Grow.refl _) rfl rfl
        refine obls_cons (fun f w' hR hH Q0 hQ0 => ?_) ?_
        · skip
          have s1 := sv_off f [(11, 4)] e1 rfl
          have s11 := (sv_at 11 4 hsz f [(11, 4)] rfl).trans (show f 4 = _ from hH.get 0 (11, 4) rfl)
          first
            | exact skip_v hsz rfl ((wanted_some (b := false) rfl rfl s11).trans rfl) hQ0 (Grow.refl _) rfl
            | refine small_v hsz [(1, _)] ⟨some 1, (Op.move (.tmp 0)), 5, "", #[], none⟩ [_, undef] 1 rfl ((wanted_some (b := true) rfl rfl s11).trans rfl) ⟨s1, trivial⟩ rfl rfl hQ0 ?_
              clear hQ0 hH s1 s11
              intro Q hQ
              repeat go_step
              exact hQ _ _ (Grow.refl _) rfl rfl
        refine obls_cons (fun f w' hR hH Q0 hQ0 => ?_) ?_
        · skip
          have s2 := sv_off f [(11, 4)] e2 rfl
          have s11 := (sv_at 11 4 hsz f [(11, 4)] rfl).trans (show f 4 = _ from hH.get 0 (11, 4) rfl)
          first
            | exact skip_v hsz rfl ((wanted_some (b := false) rfl rfl s11).trans rfl) hQ0 (Grow.refl _) rfl
            | refine small_v hsz [(2, _)] ⟨some 1, (Op.move (.tmp 0)), 5, "", #[], none⟩ [_, undef] 1 rfl ((wanted_some (b := true) rfl rfl s11).trans rfl) ⟨s2, trivial⟩ rfl rfl hQ0 ?_
              clear hQ0 hH s2 s11
              intro Q hQ
              repeat go_step
              exact hQ _ _ (Grow.refl _) rfl rfl
        refine obls_cons (fun f w' hR hH Q0 hQ0 => ?_) ?_
        · skip
          have s16 := (sv_at 16 9 hsz f [(16, 9), (17, 10), (11, 4)] rfl).trans (show f 9 = _ from hH.get 0 (16, 9) rfl)
          have s17 := (sv_at 17 10 hsz f [(16, 9), (17, 10), (11, 4)] rfl).trans (show f 10 = _ from hH.get 1 (17, 10) rfl)
          have s11 := (sv_at 11 4 hsz f [(16, 9), (17, 10), (11, 4)] rfl).trans (show f 4 = _ from hH.get 2 (11, 4) rfl)
          first
            | exact skip_v hsz rfl ((wanted_some (b := false) rfl rfl s11).trans rfl) hQ0 (Grow.refl _) rfl
            | refine small_v hsz [(16, _), (17, _)] ⟨some 2, (Op.call (Call.mk (Callee.value (Operand.func 39)) #[(.tmp 0), (.tmp 1)] #[5, 5])), 77, "", #[], none⟩ [_, _, undef] 2 rfl ((wanted_some (b := true) rfl rfl s11).trans rfl) ⟨s16, s17, trivial⟩ rfl (ren_call rfl rfl) hQ0 ?_
              clear hQ0 hH s16 s17 s11
              intro Q hQ
              go_wp2_with (go_at_call 39; refine (HL.out w').mono ?_; rintro e w1 ⟨rfl, hg1⟩)
              exact hQ _ _ hg1 rfl rfl
        refine obls_cons (fun f w' hR hH Q0 hQ0 => ?_) ?_
        · skip
          have s15 := (sv_at 15 8 hsz f [(15, 8), (18, 11), (11, 4)] rfl).trans (show f 8 = _ from hH.get 0 (15, 8) rfl)
          have s18 := (sv_at 18 11 hsz f [(15, 8), (18, 11), (11, 4)] rfl).trans (show f 11 = _ from hH.get 1 (18, 11) rfl)
          have s11 := (sv_at 11 4 hsz f [(15, 8), (18, 11), (11, 4)] rfl).trans (show f 4 = _ from hH.get 2 (11, 4) rfl)
          first
            | exact skip_v hsz rfl ((wanted_some (b := false) rfl rfl s11).trans rfl) hQ0 (Grow.refl _) rfl
            | refine small_v hsz [(15, _), (18, _)] ⟨some 2, (Op.lookup 62 (.tmp 0) (.tmp 1) false), 3, "", #[], none⟩ [_, _, undef] 2 rfl ((wanted_some (b := true) rfl rfl s11).trans rfl) ⟨s15, s18, trivial⟩ rfl rfl hQ0 ?_
              clear hQ0 hH s15 s18 s11
              intro Q hQ
              have y0 := HM.out w' hR
              simp only [bz, if_true, if_false, Bool.false_eq_true] at y0
              go_wp2_with fail
              exact hQ _ _ (Grow.refl _) rfl rfl
        refine obls_cons (fun f w' hR hH Q0 hQ0 => ?_) ?_
        · skip
          have s19 := (sv_at 19 12 hsz f [(19, 12), (11, 4)] rfl).trans (show f 12 = _ from hH.get 0 (19, 12) rfl)
          have s11 := (sv_at 11 4 hsz f [(19, 12), (11, 4)] rfl).trans (show f 4 = _ from hH.get 1 (11, 4) rfl)
          first
            | exact skip_v hsz rfl ((wanted_some (b := false) rfl rfl s11).trans rfl) hQ0 (Grow.refl _) rfl
            | refine small_v hsz [(19, _)] ⟨some 1, (Op.binOp BinOp.eql 3 (.tmp 0) (Operand.const (Value.int IntKind.i64 0)) 3), 4, "", #[], none⟩ [_, undef] 1 rfl ((wanted_some (b := true) rfl rfl s11).trans rfl) ⟨s19, trivial⟩ rfl rfl hQ0 ?_
              clear hQ0 hH s19 s11
              intro Q hQ
              repeat go_step
              exact hQ _ _ (Grow.refl _) rfl rfl
        refine obls_cons (fun f w' hR hH Q0 hQ0 => ?_) ?_
        · skip
          have s11 := (sv_at 11 4 hsz f [(11, 4), (20, 13)] rfl).trans (show f 4 = _ from hH.get 0 (11, 4) rfl)
          have s20 := (sv_at 20 13 hsz f [(11, 4), (20, 13)] rfl).trans (show f 13 = _ from hH.get 1 (20, 13) rfl)
          refine small_v hsz [(11, _), (20, _)] ⟨some 2, (Op.pick (.tmp 0) (.tmp 1) (Operand.const (Value.bool false))), 4, "", #[], none⟩ [_, _, undef] 2 rfl rfl ⟨s11, s20, trivial⟩ rfl rfl hQ0 ?_
          clear hQ0 hH s11 s20
          intro Q hQ
          repeat go_step
          exact hQ _ _ (Grow.refl _) rfl rfl
        refine obls_cons (fun f w' hR hH Q0 hQ0 => ?_) ?_
        · skip
          have s21 := (sv_at 21 14 hsz f [(21, 14)] rfl).trans (show f 14 = _ from hH.get 0 (21, 14) rfl)
          refine small_v hsz [(21, _)] ⟨some 1, (Op.assign (.tmp 0)), 4, "", #[], none⟩ [_, undef] 1 rfl rfl ⟨s21, trivial⟩ rfl rfl hQ0 ?_
          clear hQ0 hH s21
          intro Q hQ
          repeat go_step
          exact hQ _ _ (Grow.refl _) rfl rfl
        exact obls_nil
      case mono => exact ⟨Mono.veq _, Mono.veq _, Mono.veq _, Mono.veq _, Mono.veq _, Mono.veq _, Mono.veq _, Mono.veq _, Mono.veq _, Mono.veq _, Mono.veq _, Mono.veq _, Mono.veq _, Mono.veq _, Mono.veq _, Mono.veq _, trivial⟩
      case tail =>
        intro f w' hR hH
        have q15 := hH.get 15 (6, 15) rfl
        clear hH
        refine wpList_merge (idx := [none, none, none, none, none, none, some 15, some 0, some 1, some 2, some 3, some 4, some 5, some 6, some 7, some 8, some 9, some 10, some 11, some 12, some 13, some 14]) (by kernel_rfl) ?_; show wpList _ _ _ [] ⟨#[_, _, _, _, _, _, f 15, f 0, f 1, f 2, f 3, f 4, f 5, f 6, f 7, f 8, f 9, f 10, f 11, f 12, f 13, f 14], _⟩ _
        rw [show f 15 = _ from q15]
        clear q15
        have HGr := Lib.hid hR
        clear hR
        go_wp2_with fail
        go_ret
        exact ⟨rfl, HGr.out⟩
/-- what At tells -/
def atP (ps : List PkR) (k : Int) : Option PkR := if 0 ≤ k then ps[k.toNat]? else none
def zval : Value := .agg zk.toArray
set_option maxRecDepth 100000 in
set_option maxHeartbeats 4000000 in
theorem at_no (w : World) (B g bm n cnt : Nat) (lv : Value) (ps : List PkR) (C : Nat → Nat → Bool) (h : NetI w B g bm n cnt lv ps C) (k : Int) (hk : ¬ (0 ≤ k ∧ k < (ps.length : Int))) :
    Calls Try.prog 11 #[.pointer (some ⟨g, 0, none⟩), .int .i64 k] w fun e w' => e = .returned (.tuple #[zval, .bool false]) ∧ Grow w w' := by
  obtain ⟨l, hl⟩ : ∃ l, l = ps.length := ⟨_, rfl⟩
  rw [← hl] at hk
  obtain ⟨W0, hW0⟩ : ∃ W, W = w.alloc (.cells zk.toArray TK) := ⟨_, rfl⟩
  have hg0 : Grow w W0 := by rw [hW0]; exact Grow.alloc _ _
  have hb0 : Blk W0 w.heap.size TK zk := by rw [hW0]; exact Blk.new _ _ _ _ rfl rfl
  have hln := len_any W0 B g bm n cnt lv ps C (h.grow hg0)
  rw [← hl] at hln
  have HL := Lib.hid hln
  have HW0 := Lib.hid hW0
  have HG0 := Lib.hid hg0
  have HB0 := Lib.hid hb0
  clear h hl hln hW0 hg0 hb0
  by_cases h1 : k < 0
  · have t1 : decide (k < 0) = true := decide_eq_true h1
    clear h1 hk
    go_enter Try.func11, Try.ntmps11
    go_wp2_with fail
    rw [show w.alloc (.cells #[.int .u8 0, .int .u8 0, .slice none 0 0, .bool false] TK) = W0 from HW0.out.symm]
    exact ret_blk_tmp rfl w.heap.size _ zk _ (.bool false) rfl HB0.out undK rfl (by rw [sizeK]; rfl) rfl rfl ⟨rfl, HG0.out⟩
  · have t1 : decide (k < 0) = false := decide_eq_false h1
    obtain ⟨k, rfl⟩ := Int.eq_ofNat_of_zero_le (show 0 ≤ k by omega)
    have t2 : decide (l ≤ k) = true := decide_eq_true (by omega)
    have t2' : decide ((l : Int) ≤ (k : Int)) = true := decide_eq_true (by omega)
    clear h1 hk
    go_enter Try.func11, Try.ntmps11
    go_wp2_with fail
    rw [show w.alloc (.cells #[.int .u8 0, .int .u8 0, .slice none 0 0, .bool false] TK) = W0 from HW0.out.symm]
    refine HL.out.mono ?_
    rintro e w' ⟨rfl, rfl⟩
    have hb0 := HB0.out
    go_wp2_with (refine store_blk rfl _ _ _ rfl w.heap.size zk rfl rfl _ _ hb0 (by rw [sizeK]; rfl) rfl rfl ?_)
    exact ret_blk_tmp rfl w.heap.size _ zk _ (.bool false) rfl (hb0.setRow _) undK rfl (by rw [sizeK]; rfl) rfl rfl ⟨rfl, Grow.setRow HG0.out (Nat.le_refl _) _⟩
theorem own_farRow {w : World} {base e size n g : Nat} {v : Value} {xs : List Value} (h : w.ownsRow base e size v n xs) (hb : ∀ k, v.ownBlock = some k → k ≠ g) (l : Array Value) : (w.setRow g l).ownsRow base e size v n xs := by
  obtain ⟨h1, h2⟩ := h
  refine ⟨h1, ?_⟩
  rcases h2 with h2 | ⟨g', cap, cur, rfl, h3, h4, h5⟩
  · exact .inl h2
  · exact .inr ⟨g', cap, cur, rfl, h3, (setRow_other w g g' l (hb g' rfl)).trans h4, h5⟩
set_option maxRecDepth 100000 in
set_option maxHeartbeats 4000000 in
theorem at_yes (w : World) (B g bm n cnt : Nat) (lv : Value) (ps : List PkR) (C : Nat → Nat → Bool) (h : NetI w B g bm n cnt lv ps C) (k : Nat) (p : PkR) (hp : ps[k]? = some p) :
    Calls Try.prog 11 #[.pointer (some ⟨g, 0, none⟩), .int .i64 (k : Int)] w fun e w' => ∃ v, e = .returned (.tuple #[.agg #[.int .u8 (p.fr : Int), .int .u8 (p.to : Int), v, .bool p.sp], .bool true]) ∧ w'.ownsRow w.heap.size 5 1 v p.b.length (u8s p.b) ∧ Grow w w' := by
  obtain ⟨l, hl⟩ : ∃ l, l = ps.length := ⟨_, rfl⟩
  have hkl : k < l := by rw [hl]; exact (List.getElem?_eq_some_iff.1 hp).1
  have hl4 : l ≤ 4096 := by rw [hl]; exact h.len
  obtain ⟨W0, hW0⟩ : ∃ W, W = w.alloc (.cells zk.toArray TK) := ⟨_, rfl⟩
  have hg0 : Grow w W0 := by rw [hW0]; exact Grow.alloc _ _
  have hb0 : Blk W0 w.heap.size TK zk := by rw [hW0]; exact Blk.new _ _ _ _ rfl rfl
  have hs0 : W0.heap.size = w.heap.size + 1 := by rw [hW0]; simp
  have hln := len_any W0 B g bm n cnt lv ps C (h.grow hg0)
  rw [← hl] at hln
  have HL := Lib.hid hln
  obtain ⟨A, c, e1, b, rfl, hcell⟩ := (h.grow hg0).at_ hp
  rw [← hl] at e1
  subst e1
  have x1 := (h.grow hg0).bx.cell (i := 1) rfl
  have hok := h.ok p (List.mem_of_getElem? hp)
  obtain ⟨A2, c2, e2, hlc2, hcm2, hby⟩ := hok.b.bytes
  obtain ⟨l2, hl2⟩ : ∃ l, l = p.b.length := ⟨_, rfl⟩
  rw [← hl2] at e2 hlc2 hby ⊢
  have hkr : krow p = [.int .u8 (p.fr : Int), .int .u8 (p.to : Int), .slice A2 l2 c2, .bool p.sp] := by unfold krow; rw [e2]
  rw [hkr] at hcell
  have hc := fun j u hu => hcell j u hu
  obtain ⟨W1, hW1⟩ : ∃ W, W = W0.alloc (.cells #[.int .u8 (p.fr : Int), .int .u8 (p.to : Int), .slice A2 l2 c2, .bool p.sp] TK) := ⟨_, rfl⟩
  have hg1 : Grow W0 W1 := by rw [hW1]; exact Grow.alloc _ _
  have hb1 : Blk W1 (w.heap.size + 1) TK [.int .u8 (p.fr : Int), .int .u8 (p.to : Int), .slice A2 l2 c2, .bool p.sp] := by rw [hW1]; exact Blk.new _ _ _ _ rfl hs0.symm
  have HCL := Lib.hid (clone_any A2 l2 c2 p.b W1 (hby.grow (hg0.trans hg1)) (by rw [hl2]; have := hok.len; omega))
  have HC := Lib.hid hc
  have HW0 := Lib.hid hW0
  have HG0 := Lib.hid hg0
  have HB0 := Lib.hid (hb0.grow hg1)
  have HB1 := Lib.hid hb1
  have HG1 := Lib.hid (hg0.trans hg1)
  have HW1 := Lib.hid hW1
  have HS0 := Lib.hid hs0
  have HS1 : Hid (W1.heap.size = w.heap.size + 1 + 1) := Lib.hid (by rw [hW1]; simp [hs0])
  have HL2 := Lib.hid hl2
  have t1 : decide ((k : Int) < 0) = false := decide_eq_false (by omega)
  have t2 : decide (l ≤ k) = false := decide_eq_false (by omega)
  have t2' : decide ((l : Int) ≤ (k : Int)) = false := decide_eq_false (by omega)
  clear h hl hln hW0 hg0 hb0 hcell hc hok hby hW1 hg1 hb1 hs0 hl2 e2 hp hkr
  go_enter Try.func11, Try.ntmps11
  go_wp2_with fail
  rw [show w.alloc (.cells #[.int .u8 0, .int .u8 0, .slice none 0 0, .bool false] TK) = W0 from HW0.out.symm]
  refine HL.out.mono ?_
  rintro e w' ⟨rfl, rfl⟩
  go_wp2_with (refine load_cells rfl _ _ rfl b (k * 4) rfl [.int .u8 (p.fr : Int), .int .u8 (p.to : Int), .slice A2 l2 c2, .bool p.sp] _ HC.out undK rfl (by rw [sizeK]; rfl) ?_)
  rw [← HW1.out, HS0.out]
  refine HCL.out.mono ?_
  rintro e w3 ⟨v, rfl, ho, hg3⟩
  have hb6 := HB1.out.grow hg3
  have hb4 := HB0.out.grow hg3
  have f6 := hb6.free 2
  have c6 := hb6.cell (i := 2) rfl
  obtain ⟨A7, c7, e7, -⟩ := own_form ho
  rw [← HL2.out] at e7 ho
  subst e7
  have hb6' : Blk (w3.setCell ⟨w.heap.size + 1, 2, none⟩ (.slice A7 l2 c7)) (w.heap.size + 1) TK [.int .u8 (p.fr : Int), .int .u8 (p.to : Int), .slice A7 l2 c7, .bool p.sp] := hb6.set_ 2 _
  have hb4' : Blk (w3.setCell ⟨w.heap.size + 1, 2, none⟩ (.slice A7 l2 c7)) w.heap.size TK zk := hb4.far (p := ⟨w.heap.size + 1, 2, none⟩) (by show w.heap.size ≠ w.heap.size + 1; omega) _
  have HOWN : Hid ((w3.setCell ⟨w.heap.size + 1, 2, none⟩ (.slice A7 l2 c7)).ownsRow w.heap.size 5 1 (.slice A7 l2 c7) l2 (u8s p.b) ∧ (∀ k, (Value.slice A7 l2 c7).ownBlock = some k → k ≠ w.heap.size) ∧ Grow w (w3.setCell ⟨w.heap.size + 1, 2, none⟩ (.slice A7 l2 c7))) := Lib.hid
    ⟨own_far (own_lower ho (by rw [HS1.out]; omega)) _ _ fun k hk => by
      have := (ho.lt k hk).1
      rw [HS1.out] at this
      show k ≠ w.heap.size + 1
      omega, fun k hk => by
      have := (ho.lt k hk).1
      rw [HS1.out] at this
      omega, Grow.set_ (HG1.out.trans hg3) (p := ⟨w.heap.size + 1, 2, none⟩) (by show w.heap.size ≤ w.heap.size + 1; omega) _⟩
  have HB6 := Lib.hid hb6'
  have HB4 := Lib.hid hb4'
  clear ho hb6 hb4 hg3 hb6' hb4'
  go_wp2_with (first | (refine load_blk rfl _ _ rfl (w.heap.size + 1) rfl _ _ _ HB6.out undK rfl (by rw [sizeK]; rfl) ?_) | (refine store_blk rfl _ _ _ rfl w.heap.size [.int .u8 (p.fr : Int), .int .u8 (p.to : Int), .slice A7 l2 c7, .bool p.sp] rfl rfl _ _ HB4.out (by rw [sizeK]; rfl) rfl rfl ?_))
  exact ret_blk_tmp rfl w.heap.size _ [.int .u8 (p.fr : Int), .int .u8 (p.to : Int), .slice A7 l2 c7, .bool p.sp] _ (.bool true) rfl (HB4.out.setRow _) undK rfl (by rw [sizeK]; rfl) rfl rfl ⟨_, rfl, own_farRow HOWN.out.1 HOWN.out.2.1 _, Grow.setRow HOWN.out.2.2 (Nat.le_refl _) _⟩
end Go.Proofs.Ytmekdhlcflielaa.nt
