/- The document's net: Twice, Take. -/
import Derived.Test.YtmekdhlcflielaaNtR5
import Derived.Test.YtmekdhlcflielaaFast
namespace Go.Proofs.Ytmekdhlcflielaa.ntL
open Go Go.RowKit Go.Par Go.Kit Go.Proofs.Ytmekdhlcflielaa.mpA Go.Proofs.Ytmekdhlcflielaa.cl Go.Proofs.Ytmekdhlcflielaa.nt

/-- a net and an error, as one value -/
def RNv (w0 : World) (vl vc : Value) (n : Nat) (ps : List Pk) (cs : List (Nat × Nat)) (err : Nat) : Value → World → Prop := fun u w => RN w0 vl vc n ps cs err (.returned u) w
theorem RNv.mono {w0 : World} {vl vc : Value} {n : Nat} {ps : List Pk} {cs : List (Nat × Nat)} {err : Nat} : Mono Grow (RNv w0 vl vc n ps cs err) := fun _ _ _ ⟨A1, l1, c1, A2, l2, c2, e, h, ho⟩ hg => ⟨A1, l1, c1, A2, l2, c2, e, h.grow hg, ho⟩
/-- a net -/
def NV (w0 : World) (vl vc : Value) (n : Nat) (ps : List Pk) (cs : List (Nat × Nat)) : Value → World → Prop := fun u w => ∃ A1 l1 c1 A2 l2 c2, u = .agg #[.int .i64 (n : Int), .slice A1 l1 c1, .slice A2 l2 c2] ∧ RefN w (.slice A1 l1 c1) (.slice A2 l2 c2) ps cs ∧
    ∀ g, g < w0.heap.size → OffN vl vc g → OffN (.slice A1 l1 c1) (.slice A2 l2 c2) g
theorem NV.mono {w0 : World} {vl vc : Value} {n : Nat} {ps : List Pk} {cs : List (Nat × Nat)} : Mono Grow (NV w0 vl vc n ps cs) := fun _ _ _ ⟨A1, l1, c1, A2, l2, c2, e, h, ho⟩ hg => ⟨A1, l1, c1, A2, l2, c2, e, h.grow hg, ho⟩
theorem RN.val {f : FuncId} {args : Array Value} {w w0 : World} {vl vc : Value} {n : Nat} {ps : List Pk} {cs : List (Nat × Nat)} {err : Nat} (h : Calls Try.prog f args w fun e w' => RN w0 vl vc n ps cs err e w' ∧ Grow w w') : Calls Try.prog f args w fun e w' => ∃ v, e = .returned v ∧ RNv w0 vl vc n ps cs err v w' ∧ Grow w w' :=
  h.mono fun _ _ ⟨⟨A1, l1, c1, A2, l2, c2, e1, hr, ho⟩, hg⟩ => ⟨_, e1, ⟨A1, l1, c1, A2, l2, c2, rfl, hr, ho⟩, hg⟩
set_option maxRecDepth 100000 in
set_option maxHeartbeats 4000000 in
theorem rtwice_any (w : World) (n : Nat) (vl vc : Value) (ps : List Pk) (cs : List (Nat × Nat)) (h : RefN w vl vc ps cs) (hl4 : ps.length ≤ 4096) (K : Int) :
    Calls Try.prog 35 #[.agg #[.int .i64 (n : Int), vl, vc], .int .i64 K] w fun e w' => RN w vl vc n (twiceS ps K).1 cs (twiceS ps K).2 e w' ∧ Grow w w' := by
  obtain ⟨A1, c1, rfl, l1, l2, l3, -⟩ := h.l
  obtain ⟨A2, c2, rfl, -⟩ := h.c
  have HN := Lib.hid h
  obtain ⟨l, hl⟩ : ∃ l, l = ps.length := ⟨_, rfl⟩
  obtain ⟨m, hm⟩ : ∃ l, l = cs.length := ⟨_, rfl⟩
  rw [← hl] at HN l1 l3 hl4 ⊢
  rw [← hm] at HN ⊢
  obtain ⟨W1, hW1, hg1, b0, b1⟩ := boxes2 w [.int .i64 (n : Int), .slice A1 l c1, .slice A2 m c2] zR TR TR
  have hs1 : W1.heap.size = w.heap.size + 1 + 1 := by rw [hW1]; simp
  have x0 := b0.cell (i := 0) rfl
  have x1 := b0.cell (i := 1) rfl
  have x2 := b0.cell (i := 2) rfl
  have HG := Lib.hid hg1
  have HW1 := Lib.hid hW1
  have HB0 := Lib.hid b0
  have HB1 := Lib.hid b1
  have HL := Lib.hid hl
  have HS := Lib.hid hs1
  have HR := Lib.hid l3
  clear h l3 hm hl hg1 hW1 b0 b1 hs1
  by_cases h0 : K < 0
  · have t0 : decide (K < 0) = true := decide_eq_true h0
    have HF : Hid (twiceS ps K = (ps, 6)) := Lib.hid (by unfold twiceS; rw [getK_none (.inl h0)])
    clear h0 l1 l2
    go_enter Try.func35, Try.ntmps35
    try dsimp only
    repeat (first | with_reducible (refine wp_region_cut (k := 1) ?_) | go_values | go_guarded | go_step | go_upon | go_back)
    rw [← HW1.out]
    unfold Cut
    go_wp2_with (refine store_blk rfl _ _ _ rfl (w.heap.size + 1) [.int .i64 (n : Int), .slice A1 l c1, .slice A2 m c2] rfl rfl _ _ HB1.out (by rw [sizeR]; rfl) rfl rfl ?_)
    refine ret_blk_tmp rfl (w.heap.size + 1) _ [.int .i64 (n : Int), .slice A1 l c1, .slice A2 m c2] _ (.int .i64 6) rfl (HB1.out.setRow _) undR rfl (by rw [sizeR]; rfl) rfl rfl ?_
    have hg := Grow.setRow HG.out (g := w.heap.size + 1) (by omega) [.int .i64 (n : Int), .slice A1 l c1, .slice A2 m c2].toArray
    rw [HF.out]
    exact ⟨RN.same (HN.out.grow hg), hg⟩
  · have t0 : decide (K < 0) = false := decide_eq_false h0
    by_cases h1 : (l : Int) ≤ K
    · have t1 : decide ((l : Int) ≤ K) = true := decide_eq_true h1
      have HF : Hid (twiceS ps K = (ps, 6)) := Lib.hid (by unfold twiceS; rw [getK_none (.inr (by have := HL.out; omega))])
      clear h0 h1 l1 l2
      go_enter Try.func35, Try.ntmps35
      try dsimp only
      repeat (first | with_reducible (refine wp_region_cut (k := 1) ?_) | go_values | go_guarded | go_step | go_upon | go_back)
      rw [← HW1.out]
      unfold Cut
      go_wp2_with (refine store_blk rfl _ _ _ rfl (w.heap.size + 1) [.int .i64 (n : Int), .slice A1 l c1, .slice A2 m c2] rfl rfl _ _ HB1.out (by rw [sizeR]; rfl) rfl rfl ?_)
      refine ret_blk_tmp rfl (w.heap.size + 1) _ [.int .i64 (n : Int), .slice A1 l c1, .slice A2 m c2] _ (.int .i64 6) rfl (HB1.out.setRow _) undR rfl (by rw [sizeR]; rfl) rfl rfl ?_
      have hg := Grow.setRow HG.out (g := w.heap.size + 1) (by omega) [.int .i64 (n : Int), .slice A1 l c1, .slice A2 m c2].toArray
      rw [HF.out]
      exact ⟨RN.same (HN.out.grow hg), hg⟩
    · obtain ⟨k, rfl⟩ := Int.eq_ofNat_of_zero_le (show 0 ≤ K by omega)
      have t0' : decide (k < 0) = false := decide_eq_false (by omega)
      have t1 : decide ((l : Int) ≤ (k : Int)) = false := decide_eq_false h1
      have t1' : decide (l ≤ k) = false := decide_eq_false (by omega)
      have hkl : k < l := by omega
      obtain ⟨p, hp⟩ : ∃ p, ps[k]? = some p := ⟨_, List.getElem?_eq_getElem (by have := HL.out; omega)⟩
      have HF : Hid (twiceS ps (k : Int) = raddS ps p) := Lib.hid (by unfold twiceS; rw [getK_some hp]; rfl)
      obtain ⟨b, off, rfl, hcc⟩ := HR.out.2 (by omega)
      have HC : Hid (∀ j u, (rrow p)[j]? = some u → W1.cell? ⟨b, off + k * 4 + j, none⟩ = some u) := Lib.hid (fun j u hu => HG.out.cell (by rw [Nat.add_assoc]; exact hcc (k * 4 + j) u (rrows_get hp hu)))
      clear h0 h1 hp hcc l1 l2
      go_enter Try.func35, Try.ntmps35
      try dsimp only
      repeat (first | with_reducible (refine wp_region_cut (k := 1) ?_) | go_values | go_guarded | go_step | go_upon | go_back)
      rw [← HW1.out]
      unfold Cut
      go_wp2_with fail
      apply (fun (v0 v1 v2 v3 v4 v5 : Value) mono obl tail => wp_region_par (R := Grow) (Φ := phi [veq v0, veq v1, veq v2, veq v3, veq v4, veq v5, (RNv W1 (.slice (some ⟨b, off, none⟩) l c1) (.slice A2 m c2) n (raddS ps p).1 cs (raddS ps p).2), (NV W1 (.slice (some ⟨b, off, none⟩) l c1) (.slice A2 m c2) n (raddS ps p).1 cs), (veq (.int .i64 ((raddS ps p).2 : Int)))]) (m := 9) (dls := [[], [], [(17, 1)], [], [(18, 2), (19, 3)], [(20, 4)], [(16, 0), (21, 5)], [(22, 6)], [(22, 6)]]) (ds := [16, 17, 18, 19, 20, 21, 22, 23, 24]) (by kernel_rfl) (by kernel_rfl) (by decide) rfl (Grow.drew _) (fun _ _ _ => Grow.trans) (mono_phi mono) obl tail)
      case obl =>
        refine obls_frame (fun a1 ha => ?_)
        have hsz := rd_size (n := 25) ha rfl
        have e2 := rd_slot 2 ha rfl
        have e1 := rd_slot 1 ha rfl
        clear ha
        refine obls_cons (fun f w' hR hH Q0 hQ0 => ?_) ?_
        · skip
          have s2 := sv_off f [] e2 rfl
          refine small_v hsz [(2, _)] ⟨some 1, (Op.load 40 (.tmp 0)), 40, "", #[], none⟩ [_, undef] 1 rfl rfl ⟨s2, trivial⟩ rfl rfl hQ0 ?_
          clear hQ0 hH s2
          intro Q hQ
          have y0 := (HB0.out.grow hR).cell (i := 0) rfl
          have y1 := (HB0.out.grow hR).cell (i := 1) rfl
          have y2 := (HB0.out.grow hR).cell (i := 2) rfl
          repeat go_step
          exact hQ _ _ (Grow.refl _) rfl rfl
        refine obls_cons (fun f w' hR hH Q0 hQ0 => ?_) ?_
        · skip
          have s2 := sv_off f [] e2 rfl
          refine small_v hsz [(2, _)] ⟨some 1, (Op.fieldAddr 40 (.tmp 0) 1), 0, "", #[], none⟩ [_, undef] 1 rfl rfl ⟨s2, trivial⟩ rfl rfl hQ0 ?_
          clear hQ0 hH s2
          intro Q hQ
          repeat go_step
          exact hQ _ _ (Grow.refl _) rfl rfl
        refine obls_cons (fun f w' hR hH Q0 hQ0 => ?_) ?_
        · skip
          have s17 := (sv_at 17 1 hsz f [(17, 1)] rfl).trans (show f 1 = _ from hH.get 0 (17, 1) rfl)
          refine small_v hsz [(17, _)] ⟨some 1, (Op.load 37 (.tmp 0)), 37, "", #[], none⟩ [_, undef] 1 rfl rfl ⟨s17, trivial⟩ rfl rfl hQ0 ?_
          clear hQ0 hH s17
          intro Q hQ
          have y1 := (HB0.out.grow hR).cell (i := 1) rfl
          repeat go_step
          exact hQ _ _ (Grow.refl _) rfl rfl
        refine obls_cons (fun f w' hR hH Q0 hQ0 => ?_) ?_
        · skip
          have s1 := sv_off f [] e1 rfl
          refine small_v hsz [(1, _)] ⟨some 1, (Op.move (.tmp 0)), 3, "", #[], none⟩ [_, undef] 1 rfl rfl ⟨s1, trivial⟩ rfl rfl hQ0 ?_
          clear hQ0 hH s1
          intro Q hQ
          repeat go_step
          exact hQ _ _ (Grow.refl _) rfl rfl
        refine obls_cons (fun f w' hR hH Q0 hQ0 => ?_) ?_
        · skip
          have s18 := (sv_at 18 2 hsz f [(18, 2), (19, 3)] rfl).trans (show f 2 = _ from hH.get 0 (18, 2) rfl)
          have s19 := (sv_at 19 3 hsz f [(18, 2), (19, 3)] rfl).trans (show f 3 = _ from hH.get 1 (19, 3) rfl)
          refine small_v hsz [(18, _), (19, _)] ⟨some 2, (Op.indexAddr 37 (.tmp 0) (.tmp 1)), 0, "", #[], none⟩ [_, _, undef] 2 rfl rfl ⟨s18, s19, trivial⟩ rfl rfl hQ0 ?_
          clear hQ0 hH s18 s19
          intro Q hQ
          repeat go_step
          exact hQ _ _ (Grow.refl _) rfl rfl
        refine obls_cons (fun f w' hR hH Q0 hQ0 => ?_) ?_
        · skip
          have s20 := (sv_at 20 4 hsz f [(20, 4)] rfl).trans (show f 4 = _ from hH.get 0 (20, 4) rfl)
          refine small_v hsz [(20, _)] ⟨some 1, (Op.load 48 (.tmp 0)), 48, "", #[], none⟩ [_, undef] 1 rfl rfl ⟨s20, trivial⟩ rfl rfl hQ0 ?_
          clear hQ0 hH s20
          intro Q hQ
          have y0 := hR.cell (HC.out 0 _ rfl)
          have y1 := hR.cell (HC.out 1 _ rfl)
          have y2 := hR.cell (HC.out 2 _ rfl)
          have y3 := hR.cell (HC.out 3 _ rfl)
          rw [Nat.add_zero] at y0
          repeat go_step
          exact hQ _ _ (Grow.refl _) rfl rfl
        refine obls_cons (fun f w' hR hH Q0 hQ0 => ?_) ?_
        · skip
          have s16 := (sv_at 16 0 hsz f [(16, 0), (21, 5)] rfl).trans (show f 0 = _ from hH.get 0 (16, 0) rfl)
          have s21 := (sv_at 21 5 hsz f [(16, 0), (21, 5)] rfl).trans (show f 5 = _ from hH.get 1 (21, 5) rfl)
          refine small_v hsz [(16, _), (21, _)] ⟨some 2, (Op.call (Call.mk (Callee.value (Operand.func 44)) #[(.tmp 0), (.tmp 1)] #[40, 48])), 69, "", #[], none⟩ [_, _, undef] 2 rfl rfl ⟨s16, s21, trivial⟩ rfl (ren_call rfl rfl) hQ0 ?_
          clear hQ0 hH s16 s21
          intro Q hQ
          have HT := Lib.hid (RN.val (radd_any w' n _ _ ps cs (HN.out.grow (HG.out.trans hR)) p))
          go_wp2_with (go_at_call 44; refine HT.out.mono ?_; rintro e w1 ⟨v1, rfl, ho1, hg1⟩)
          have ho2 : RNv W1 (.slice (some ⟨b, off, none⟩) l c1) (.slice A2 m c2) n (raddS ps p).1 cs (raddS ps p).2 v1 w1 := (by obtain ⟨A1, l1, c1, A2, l2, c2, e, h, ho⟩ := ho1; exact ⟨A1, l1, c1, A2, l2, c2, e, h, fun g hg => ho g (Nat.lt_of_lt_of_le hg hR.size)⟩)
          exact hQ _ _ hg1 ho2 rfl
        refine obls_cons (fun f w' hR hH Q0 hQ0 => ?_) ?_
        · skip
          have h6 : (RNv W1 (.slice (some ⟨b, off, none⟩) l c1) (.slice A2 m c2) n (raddS ps p).1 cs (raddS ps p).2) (f 6) w' := hH.get 0 (22, 6) rfl
          have s22 := sv_at 22 6 hsz f [(22, 6)] rfl
          obtain ⟨u6, hu6⟩ : ∃ u, f 6 = u := ⟨_, rfl⟩
          rw [hu6] at s22 h6
          clear hu6
          refine small_v hsz [(22, _)] ⟨some 1, (Op.extract (.tmp 0) 0), 40, "", #[], none⟩ [_, undef] 1 rfl rfl ⟨s22, trivial⟩ rfl rfl hQ0 ?_
          clear hQ0 hH s22
          intro Q hQ
          obtain ⟨B1, l1, d1, B2, l2, d2, e6, h, ho⟩ := h6
          injection e6 with e6
          subst e6
          have hv : NV W1 (.slice (some ⟨b, off, none⟩) l c1) (.slice A2 m c2) n (raddS ps p).1 cs (.agg #[.int .i64 (n : Int), .slice B1 l1 d1, .slice B2 l2 d2]) w' := ⟨_, _, _, _, _, _, rfl, h, ho⟩
          clear h ho
          repeat go_step
          exact hQ _ _ (Grow.refl _) hv rfl
        refine obls_cons (fun f w' hR hH Q0 hQ0 => ?_) ?_
        · skip
          have h6 : (RNv W1 (.slice (some ⟨b, off, none⟩) l c1) (.slice A2 m c2) n (raddS ps p).1 cs (raddS ps p).2) (f 6) w' := hH.get 0 (22, 6) rfl
          have s22 := sv_at 22 6 hsz f [(22, 6)] rfl
          obtain ⟨u6, hu6⟩ : ∃ u, f 6 = u := ⟨_, rfl⟩
          rw [hu6] at s22 h6
          clear hu6
          refine small_v hsz [(22, _)] ⟨some 1, (Op.extract (.tmp 0) 1), 3, "", #[], none⟩ [_, undef] 1 rfl rfl ⟨s22, trivial⟩ rfl rfl hQ0 ?_
          clear hQ0 hH s22
          intro Q hQ
          obtain ⟨B1, l1, d1, B2, l2, d2, e6, -, -⟩ := h6
          injection e6 with e6
          subst e6
          repeat go_step
          exact hQ _ _ (Grow.refl _) rfl rfl
        exact obls_nil
      case mono => exact ⟨Mono.veq _, Mono.veq _, Mono.veq _, Mono.veq _, Mono.veq _, Mono.veq _, RNv.mono, NV.mono, Mono.veq _, trivial⟩
      case tail =>
        intro f w' hR hH
        have q7 : (NV W1 (.slice (some ⟨b, off, none⟩) l c1) (.slice A2 m c2) n (raddS ps p).1 cs) (f 7) w' := hH.get 7 (23, 7) rfl
        have q8 : (veq (.int .i64 ((raddS ps p).2 : Int))) (f 8) w' := hH.get 8 (24, 8) rfl
        clear hH
        refine wpList_merge (idx := [none, none, none, none, none, none, none, none, none, none, none, none, none, none, none, none, some 0, some 1, some 2, some 3, some 4, some 5, some 6, some 7, some 8]) (by kernel_rfl) ?_; show wpList _ _ _ [_, _] ⟨#[_, _, _, _, _, _, _, _, _, _, _, _, _, _, _, _, f 0, f 1, f 2, f 3, f 4, f 5, f 6, f 7, f 8], _⟩ _
        obtain ⟨x7, hx7⟩ : ∃ x, f 7 = x := ⟨_, rfl⟩
        rw [hx7] at q7 ⊢
        clear hx7
        obtain ⟨x8, hx8⟩ : ∃ x, f 8 = x := ⟨_, rfl⟩
        rw [hx8] at q8 ⊢
        clear hx8
        obtain rfl := q8
        obtain ⟨B1, l1, d1, B2, l2, d2, rfl, hr, ho⟩ := q7
        have HR9 := Lib.hid hr
        have HO := Lib.hid ho
        have hb := HB1.out.grow hR
        have HB9 := Lib.hid hb
        have HG9 := Lib.hid (HG.out.trans hR)
        clear hr ho hb hR
        go_wp2_with (refine store_blk rfl _ _ _ rfl (w.heap.size + 1) [.int .i64 (n : Int), .slice B1 l1 d1, .slice B2 l2 d2] rfl rfl _ _ HB9.out (by rw [sizeR]; rfl) rfl rfl ?_)
        refine ret_blk_tmp rfl (w.heap.size + 1) _ [.int .i64 (n : Int), .slice B1 l1 d1, .slice B2 l2 d2] _ (.int .i64 ((raddS ps p).2 : Int)) rfl (HB9.out.setRow _) undR rfl (by rw [sizeR]; rfl) rfl rfl ?_
        have hg := Grow.setRow HG9.out (g := w.heap.size + 1) (by omega) [.int .i64 (n : Int), .slice B1 l1 d1, .slice B2 l2 d2].toArray
        rw [HF.out]
        exact ⟨RN.mk' (HR9.out.away HB9.out _) fun g h1 h2 => HO.out g (Nat.lt_of_lt_of_le h1 HG.out.size) h2, hg⟩
end Go.Proofs.Ytmekdhlcflielaa.ntL
