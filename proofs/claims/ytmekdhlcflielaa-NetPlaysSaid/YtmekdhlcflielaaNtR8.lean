/- The document's net: Spoil. -/
import Derived.Test.YtmekdhlcflielaaNtR7
import Derived.Test.YtmekdhlcflielaaStA
import Derived.Test.YtmekdhlcflielaaNspR
namespace Go.Proofs.Ytmekdhlcflielaa.ntL
open Go Go.RowKit Go.Par Go.Kit Go.Proofs.Ytmekdhlcflielaa.mpA Go.Proofs.Ytmekdhlcflielaa.cl Go.Proofs.Ytmekdhlcflielaa.nt

theorem patch_get {cs l : List Value} {o : Nat} (h : o + l.length ≤ cs.length) (i : Nat) : (patch cs o l)[i]? = if i < o then cs[i]? else if i < o + l.length then l[i - o]? else cs[i]? := by
  unfold patch
  by_cases h1 : i < o
  · rw [if_pos h1, List.append_assoc, List.getElem?_append_left (by rw [List.length_take]; omega), List.getElem?_take_of_lt h1]
  · rw [if_neg h1]
    by_cases h2 : i < o + l.length
    · rw [if_pos h2, List.getElem?_append_left (by rw [List.length_append, List.length_take]; omega), List.getElem?_append_right (by rw [List.length_take]; omega), List.length_take, Nat.min_eq_left (by omega)]
    · rw [if_neg h2, List.getElem?_append_right (by rw [List.length_append, List.length_take]; omega), List.getElem?_drop, List.length_append, List.length_take, Nat.min_eq_left (by omega)]
      congr 1
      omega
theorem patch_take {cs l : List Value} {o N : Nat} (h : o + l.length ≤ N) (hN : N ≤ cs.length) : (patch cs o l).take N = patch (cs.take N) o l := by
  apply List.ext_getElem?
  intro i
  rw [List.getElem?_take, patch_get (by omega), patch_get (by rw [List.length_take]; omega), List.getElem?_take]
  by_cases hi : i < N
  · rw [if_pos hi, if_pos hi]
  · rw [if_neg hi, if_neg hi, if_neg (by omega), if_neg (by omega)]
theorem rrows_set {ps : List Pk} {k : Nat} (hk : k < ps.length) (p' : Pk) : rrows (ps.set k p') = patch (rrows ps) (k * 4) (rrow p') := by
  rw [List.set_eq_take_append_cons_drop, if_pos hk, rrows_app, rrows_cons, ← rrows_take, ← rrows_drop, ← List.append_assoc, show (k + 1) * 4 = k * 4 + (rrow p').length by simp [rrow]; omega]
  rfl
theorem rrows_len (ps : List Pk) : (rrows ps).length = ps.length * 4 := by
  induction ps with
  | nil => rfl
  | cons p ps ih => rw [rrows_cons, List.length_append, ih]; simp [rrow]; omega
theorem cur_cells {w : World} {g : Nat} {t : TypeId} {cur : List Value} {ps : List Pk} {l k : Nat} {p : Pk} (hct : cur.take (l * 4) = rrows ps) (hp : ps[k]? = some p) (hb : Blk w g t cur) (hk : k < l) :
    (∀ (w' : World), Grow w w' → ∀ j u, (rrow p)[j]? = some u → w'.cell? ⟨g, k * 4 + j, none⟩ = some u) ∧ w.cell? ⟨g, k * 4 + 2, none⟩ = some (.string (str p.b)) := by
  have h : ∀ (w' : World), Grow w w' → ∀ j u, (rrow p)[j]? = some u → w'.cell? ⟨g, k * 4 + j, none⟩ = some u := fun w' hg j u hu => by
    have hj : j < 4 := by have := (List.getElem?_eq_some_iff.1 hu).1; simpa [rrow] using this
    refine (hb.grow hg).cell ?_
    have h1 := rrows_get hp hu
    rw [← hct, List.getElem?_take_of_lt (by omega)] at h1
    exact h1
  exact ⟨h, h w (Grow.refl _) 2 _ rfl⟩
set_option maxRecDepth 100000 in
set_option maxHeartbeats 4000000 in
theorem rspoil_any (w : World) (n : Nat) (vl vc : Value) (ps : List Pk) (cs : List (Nat × Nat)) (h : RefN w vl vc ps cs) (hl4 : ps.length ≤ 4096) (hok : ∀ p ∈ ps, p.b.length ≤ 1000) (K a : Int) (mk : BitVec 32) (ha0 : -9223372036854775808 ≤ a) (ha1 : a ≤ 9223372036854775807) :
    Calls Try.prog 36 #[.agg #[.int .i64 (n : Int), vl, vc], .int .i64 K, .int .i64 a, .int .u32 (mk.toNat : Int)] w fun e w' => RN w vl vc n (spoilS ps K a mk).1 cs (spoilS ps K a mk).2 e w' ∧ Grow w w' := by
  obtain ⟨A1, c1, rfl, l1, l2, l3, -⟩ := h.l
  obtain ⟨A2, c2, rfl, -⟩ := h.c
  have HN := Lib.hid h
  obtain ⟨l, hl⟩ : ∃ l, l = ps.length := ⟨_, rfl⟩
  obtain ⟨m, hm⟩ : ∃ l, l = cs.length := ⟨_, rfl⟩
  rw [← hl] at HN l1 l3 hl4 ⊢
  rw [← hm] at HN ⊢
  obtain ⟨W1, hW1, hg1, b0, b1⟩ := boxes2 w [.int .i64 (n : Int), .slice A1 l c1, .slice A2 m c2] zR TR TR
  have hs1 : W1.heap.size = w.heap.size + 1 + 1 := by rw [hW1]; simp
  have x0 := b0.cell (i := 0) rfl
  have x1 := b0.cell (i := 1) rfl
  have x2 := b0.cell (i := 2) rfl
  obtain ⟨mn, hmn⟩ : ∃ z, z = (mk.toNat : Int) := ⟨_, rfl⟩
  rw [← hmn]
  have HMN := Lib.hid hmn
  have HA := Lib.hid (And.intro ha0 ha1)
  have HG := Lib.hid hg1
  have HW1 := Lib.hid hW1
  have HB0 := Lib.hid b0
  have HB1 := Lib.hid b1
  have HL := Lib.hid hl
  have HS := Lib.hid hs1
  have HR := Lib.hid l3
  have HOK := Lib.hid hok
  clear h l3 hm hl hg1 hW1 b0 b1 hs1 hmn ha0 ha1 hok
  by_cases h0 : K < 0
  · have t0 : decide (K < 0) = true := decide_eq_true h0
    have HF : Hid (spoilS ps K a mk = (ps, 6)) := Lib.hid (by unfold spoilS; rw [getK_none (.inl h0)])
    clear h0 l1 l2
    go_enter Try.func36, Try.ntmps36
    try dsimp only
    repeat (first | with_reducible (refine wp_region_cut (k := 1) ?_) | go_values | go_guarded | go_step | go_upon | go_back)
    rw [← HW1.out]
    unfold Cut
    go_wp2_with (refine store_blk rfl _ _ _ rfl (w.heap.size + 1) [.int .i64 (n : Int), .slice A1 l c1, .slice A2 m c2] rfl rfl _ _ HB1.out (by rw [sizeR]; rfl) rfl rfl ?_)
    refine ret_blk_tmp rfl (w.heap.size + 1) _ [.int .i64 (n : Int), .slice A1 l c1, .slice A2 m c2] _ (.int .i64 6) rfl (HB1.out.setRow _) undR rfl (by rw [sizeR]; rfl) rfl rfl ?_
    have hg := Grow.setRow HG.out (g := w.heap.size + 1) (by omega) [.int .i64 (n : Int), .slice A1 l c1, .slice A2 m c2].toArray
    rw [HF.out]
    exact ⟨RN.same (HN.out.grow hg), hg⟩
  · have t0 : decide (K < 0) = false := decide_eq_false h0
    by_cases h1 : (l : Int) ≤ K
    · have t1 : decide ((l : Int) ≤ K) = true := decide_eq_true h1
      have HF : Hid (spoilS ps K a mk = (ps, 6)) := Lib.hid (by unfold spoilS; rw [getK_none (.inr (by have := HL.out; omega))])
      clear h0 h1 l1 l2
      go_enter Try.func36, Try.ntmps36
      try dsimp only
      repeat (first | with_reducible (refine wp_region_cut (k := 1) ?_) | go_values | go_guarded | go_step | go_upon | go_back)
      rw [← HW1.out]
      unfold Cut
      go_wp2_with (refine store_blk rfl _ _ _ rfl (w.heap.size + 1) [.int .i64 (n : Int), .slice A1 l c1, .slice A2 m c2] rfl rfl _ _ HB1.out (by rw [sizeR]; rfl) rfl rfl ?_)
      refine ret_blk_tmp rfl (w.heap.size + 1) _ [.int .i64 (n : Int), .slice A1 l c1, .slice A2 m c2] _ (.int .i64 6) rfl (HB1.out.setRow _) undR rfl (by rw [sizeR]; rfl) rfl rfl ?_
      have hg := Grow.setRow HG.out (g := w.heap.size + 1) (by omega) [.int .i64 (n : Int), .slice A1 l c1, .slice A2 m c2].toArray
      rw [HF.out]
      exact ⟨RN.same (HN.out.grow hg), hg⟩
    · obtain ⟨k, rfl⟩ := Int.eq_ofNat_of_zero_le (show 0 ≤ K by omega)
      have t0' : decide (k < 0) = false := decide_eq_false (by omega)
      have t1 : decide ((l : Int) ≤ (k : Int)) = false := decide_eq_false h1
      have t1' : decide (l ≤ k) = false := decide_eq_false (by omega)
      have hkl : k < l := by omega
      obtain ⟨p, hp⟩ : ∃ p, ps[k]? = some p := ⟨_, List.getElem?_eq_getElem (by have := HL.out; omega)⟩
      obtain ⟨bb, off, rfl, hcc⟩ := HR.out.2 (by omega)
      have x3 : W1.cell? ⟨bb, off + k * 4 + 3, none⟩ = some (.bool p.sp) := HG.out.cell (by rw [Nat.add_assoc]; exact hcc (k * 4 + 3) _ (rrows_get hp rfl))
      obtain ⟨sp, hsp⟩ : ∃ q, q = p.sp := ⟨_, rfl⟩
      rw [← hsp] at x3
      have HP := Lib.hid hp
      have HSP := Lib.hid hsp
      clear h0 h1 hp hcc hsp
      cases sp
      · obtain ⟨L, hL⟩ : ∃ L, L = slW.spo p.b a mk 32 := ⟨_, rfl⟩
        obtain ⟨q, hq⟩ : ∃ q, q = decide (L = p.b) := ⟨_, rfl⟩
        have te := str_inj (a := L) (b := p.b)
        rw [← hq] at te
        have HF : Hid (spoilS ps (k : Int) a mk = (ps.set k ⟨p.fr, p.to, L, !q⟩, 0)) := Lib.hid (by
          unfold spoilS; rw [getK_some HP.out]; dsimp only
          rw [if_neg (by rw [← HSP.out]; decide), hq, hL]; rfl)
        have HLL := Lib.hid hL
        have hz := own_nil W1 W1.heap.size TP 4
        have hr1 := HR.out.grow HG.out
        clear hL hq
        go_enter Try.func36, Try.ntmps36
        try dsimp only
        repeat (first | with_reducible (refine wp_region_cut (k := 1) ?_) | go_values | go_guarded | go_step | go_upon | go_back)
        rw [← HW1.out]
        unfold Cut
        go_wp2_with (at_builtin; refine wpList_append_row rfl _ _ _ rfl W1.heap.size TP _ _ 4 32 Try.underlying37 iP iPz iPs iPb rfl (by decide) (.slice none 0 0) 0 [] rfl hz (some ⟨bb, off, none⟩) l c1 (rrows ps) rfl hr1 rrows_one (by unfold maxLen; omega) (by omega) (Nat.le_refl _) ?_; intro v1 w1 hown1 hgb1 _; rw [Nat.zero_add] at hown1; have hga : Grow W1 w1 := grow_by (Grow.refl _) hgb1 (own_base hz); obtain ⟨gl, cap, cur, rfl, hBl, hblk, hnc, hcm, hcl, hct⟩ := own_open hown1 (by omega); obtain ⟨hcells, y2⟩ := cur_cells hct HP.out hblk (by have := HL.out; omega); obtain ⟨cb, Wb, hrunb, hgb, -, hbyb, -⟩ := conv_bytes (P := Try.prog) Try.underlying9 Try.underlying26 Try.underlying5 w1 p.b; have HGA := Lib.hid hga; have HBLK := Lib.hid (And.intro hBl (And.intro hblk (And.intro hnc (And.intro hcm (And.intro hcl hct))))); have HBY := Lib.hid hbyb; have HGB := Lib.hid hgb; have HCC := Lib.hid hcells; clear hga hown1 hgb1 hBl hblk hnc hcm hcl hct hbyb hgb hcells)
        have HSPL := slW.ref_spoil_any _ p.b.length cb p.b a mk Wb HBY.out (by have := HOK.out p (List.mem_of_getElem? HP.out); omega) HA.out.1 HA.out.2
        rw [← HMN.out, ← HLL.out] at HSPL
        refine HSPL.mono ?_
        clear HSPL
        rintro e w3 ⟨v3, rfl, ho3, hg3⟩
        have HG3 := Lib.hid (HGB.out.trans hg3)
        obtain ⟨A3, c3, rfl, -, -, hr3⟩ := own_form ho3
        rw [Nat.mul_one] at hr3
        have cs3 := conv_str (P := Try.prog) Try.underlying26 Try.underlying5 Try.underlying9 (show Bytes w3 A3 p.b.length L from hr3) c3
        clear ho3 hg3 hr3 HBY HGB y2 hrunb hz hr1 x1 x3
        go_wp2_with fail
        clear cs3
        apply (fun (v0 v1 v2 v3 v4 v5 v6 v7 v8 v9 v10 v11 v12 v13 v14 v15 v16 v17 v18 v19 v20 v21 : Value) mono obl tail => wp_region_par (R := Grow) (Φ := phi [veq v0, veq v1, veq v2, veq v3, veq v4, veq v5, veq v6, veq v7, veq v8, veq v9, veq v10, veq v11, veq v12, veq v13, veq v14, veq v15, veq v16, veq v17, veq v18, veq v19, veq v20, veq v21]) (m := 22) (dls := [[], [], [], [], [(45, 2), (46, 3)], [(47, 4)], [(48, 5)], [], [], [(50, 7), (51, 8)], [(52, 9)], [(53, 10)], [], [], [], [], [(57, 14), (58, 15)], [(59, 16)], [(60, 17)], [(56, 13), (61, 18)], [(49, 6), (54, 11), (55, 12), (62, 19)], [(43, 0), (44, 1)]]) (ds := [43, 44, 45, 46, 47, 48, 49, 50, 51, 52, 53, 54, 55, 56, 57, 58, 59, 60, 61, 62, 63, 64]) (by kernel_rfl) (by kernel_rfl) (by decide) rfl (Grow.drew _) (fun _ _ _ => Grow.trans) (mono_phi mono) obl tail)
        case obl =>
          refine obls_frame (fun a1 ha => ?_)
          have hsz := rd_size (n := 71) ha rfl
          have e10 := rd_slot 10 ha rfl
          have e1 := rd_slot 1 ha rfl
          have e11 := rd_slot 11 ha rfl
          clear ha
          refine obls_cons (fun f w' hR hH Q0 hQ0 => ?_) ?_
          · skip
            have s10 := sv_off f [] e10 rfl
            refine small_v hsz [(10, _)] ⟨some 1, (Op.move (.tmp 0)), 37, "", #[], none⟩ [_, undef] 1 rfl rfl ⟨s10, trivial⟩ rfl rfl hQ0 ?_
            clear hQ0 hH s10
            intro Q hQ
            repeat go_step
            exact hQ _ _ (Grow.refl _) rfl rfl
          refine obls_cons (fun f w' hR hH Q0 hQ0 => ?_) ?_
          · skip
            have s1 := sv_off f [] e1 rfl
            refine small_v hsz [(1, _)] ⟨some 1, (Op.move (.tmp 0)), 3, "", #[], none⟩ [_, undef] 1 rfl rfl ⟨s1, trivial⟩ rfl rfl hQ0 ?_
            clear hQ0 hH s1
            intro Q hQ
            repeat go_step
            exact hQ _ _ (Grow.refl _) rfl rfl
          refine obls_cons (fun f w' hR hH Q0 hQ0 => ?_) ?_
          · skip
            have s10 := sv_off f [] e10 rfl
            refine small_v hsz [(10, _)] ⟨some 1, (Op.move (.tmp 0)), 37, "", #[], none⟩ [_, undef] 1 rfl rfl ⟨s10, trivial⟩ rfl rfl hQ0 ?_
            clear hQ0 hH s10
            intro Q hQ
            repeat go_step
            exact hQ _ _ (Grow.refl _) rfl rfl
          refine obls_cons (fun f w' hR hH Q0 hQ0 => ?_) ?_
          · skip
            have s1 := sv_off f [] e1 rfl
            refine small_v hsz [(1, _)] ⟨some 1, (Op.move (.tmp 0)), 3, "", #[], none⟩ [_, undef] 1 rfl rfl ⟨s1, trivial⟩ rfl rfl hQ0 ?_
            clear hQ0 hH s1
            intro Q hQ
            repeat go_step
            exact hQ _ _ (Grow.refl _) rfl rfl
          refine obls_cons (fun f w' hR hH Q0 hQ0 => ?_) ?_
          · skip
            have s45 := (sv_at 45 2 hsz f [(45, 2), (46, 3)] rfl).trans (show f 2 = _ from hH.get 0 (45, 2) rfl)
            have s46 := (sv_at 46 3 hsz f [(45, 2), (46, 3)] rfl).trans (show f 3 = _ from hH.get 1 (46, 3) rfl)
            refine small_v hsz [(45, _), (46, _)] ⟨some 2, (Op.indexAddr 37 (.tmp 0) (.tmp 1)), 0, "", #[], none⟩ [_, _, undef] 2 rfl rfl ⟨s45, s46, trivial⟩ rfl rfl hQ0 ?_
            clear hQ0 hH s45 s46
            intro Q hQ
            repeat go_step
            exact hQ _ _ (Grow.refl _) rfl rfl
          refine obls_cons (fun f w' hR hH Q0 hQ0 => ?_) ?_
          · skip
            have s47 := (sv_at 47 4 hsz f [(47, 4)] rfl).trans (show f 4 = _ from hH.get 0 (47, 4) rfl)
            refine small_v hsz [(47, _)] ⟨some 1, (Op.fieldAddr 48 (.tmp 0) 0), 0, "", #[], none⟩ [_, undef] 1 rfl rfl ⟨s47, trivial⟩ rfl rfl hQ0 ?_
            clear hQ0 hH s47
            intro Q hQ
            repeat go_step
            exact hQ _ _ (Grow.refl _) rfl rfl
          refine obls_cons (fun f w' hR hH Q0 hQ0 => ?_) ?_
          · skip
            have s48 := (sv_at 48 5 hsz f [(48, 5)] rfl).trans (show f 5 = _ from hH.get 0 (48, 5) rfl)
            refine small_v hsz [(48, _)] ⟨some 1, (Op.load 5 (.tmp 0)), 5, "", #[], none⟩ [_, undef] 1 rfl rfl ⟨s48, trivial⟩ rfl rfl hQ0 ?_
            clear hQ0 hH s48
            intro Q hQ
            have y0 := HCC.out w' (HG3.out.trans hR) 0 _ rfl
            rw [Nat.add_zero] at y0
            repeat go_step
            exact hQ _ _ (Grow.refl _) rfl rfl
          refine obls_cons (fun f w' hR hH Q0 hQ0 => ?_) ?_
          · skip
            have s10 := sv_off f [] e10 rfl
            refine small_v hsz [(10, _)] ⟨some 1, (Op.move (.tmp 0)), 37, "", #[], none⟩ [_, undef] 1 rfl rfl ⟨s10, trivial⟩ rfl rfl hQ0 ?_
            clear hQ0 hH s10
            intro Q hQ
            repeat go_step
            exact hQ _ _ (Grow.refl _) rfl rfl
          refine obls_cons (fun f w' hR hH Q0 hQ0 => ?_) ?_
          · skip
            have s1 := sv_off f [] e1 rfl
            refine small_v hsz [(1, _)] ⟨some 1, (Op.move (.tmp 0)), 3, "", #[], none⟩ [_, undef] 1 rfl rfl ⟨s1, trivial⟩ rfl rfl hQ0 ?_
            clear hQ0 hH s1
            intro Q hQ
            repeat go_step
            exact hQ _ _ (Grow.refl _) rfl rfl
          refine obls_cons (fun f w' hR hH Q0 hQ0 => ?_) ?_
          · skip
            have s50 := (sv_at 50 7 hsz f [(50, 7), (51, 8)] rfl).trans (show f 7 = _ from hH.get 0 (50, 7) rfl)
            have s51 := (sv_at 51 8 hsz f [(50, 7), (51, 8)] rfl).trans (show f 8 = _ from hH.get 1 (51, 8) rfl)
            refine small_v hsz [(50, _), (51, _)] ⟨some 2, (Op.indexAddr 37 (.tmp 0) (.tmp 1)), 0, "", #[], none⟩ [_, _, undef] 2 rfl rfl ⟨s50, s51, trivial⟩ rfl rfl hQ0 ?_
            clear hQ0 hH s50 s51
            intro Q hQ
            repeat go_step
            exact hQ _ _ (Grow.refl _) rfl rfl
          refine obls_cons (fun f w' hR hH Q0 hQ0 => ?_) ?_
          · skip
            have s52 := (sv_at 52 9 hsz f [(52, 9)] rfl).trans (show f 9 = _ from hH.get 0 (52, 9) rfl)
            refine small_v hsz [(52, _)] ⟨some 1, (Op.fieldAddr 48 (.tmp 0) 1), 0, "", #[], none⟩ [_, undef] 1 rfl rfl ⟨s52, trivial⟩ rfl rfl hQ0 ?_
            clear hQ0 hH s52
            intro Q hQ
            repeat go_step
            exact hQ _ _ (Grow.refl _) rfl rfl
          refine obls_cons (fun f w' hR hH Q0 hQ0 => ?_) ?_
          · skip
            have s53 := (sv_at 53 10 hsz f [(53, 10)] rfl).trans (show f 10 = _ from hH.get 0 (53, 10) rfl)
            refine small_v hsz [(53, _)] ⟨some 1, (Op.load 5 (.tmp 0)), 5, "", #[], none⟩ [_, undef] 1 rfl rfl ⟨s53, trivial⟩ rfl rfl hQ0 ?_
            clear hQ0 hH s53
            intro Q hQ
            have y1 := HCC.out w' (HG3.out.trans hR) 1 _ rfl
            repeat go_step
            exact hQ _ _ (Grow.refl _) rfl rfl
          refine obls_cons (fun f w' hR hH Q0 hQ0 => ?_) ?_
          · skip
            have s11 := sv_off f [] e11 rfl
            refine small_v hsz [(11, _)] ⟨some 1, (Op.move (.tmp 0)), 9, "", #[], none⟩ [_, undef] 1 rfl rfl ⟨s11, trivial⟩ rfl rfl hQ0 ?_
            clear hQ0 hH s11
            intro Q hQ
            repeat go_step
            exact hQ _ _ (Grow.refl _) rfl rfl
          refine obls_cons (fun f w' hR hH Q0 hQ0 => ?_) ?_
          · skip
            have s11 := sv_off f [] e11 rfl
            refine small_v hsz [(11, _)] ⟨some 1, (Op.move (.tmp 0)), 9, "", #[], none⟩ [_, undef] 1 rfl rfl ⟨s11, trivial⟩ rfl rfl hQ0 ?_
            clear hQ0 hH s11
            intro Q hQ
            repeat go_step
            exact hQ _ _ (Grow.refl _) rfl rfl
          refine obls_cons (fun f w' hR hH Q0 hQ0 => ?_) ?_
          · skip
            have s10 := sv_off f [] e10 rfl
            refine small_v hsz [(10, _)] ⟨some 1, (Op.move (.tmp 0)), 37, "", #[], none⟩ [_, undef] 1 rfl rfl ⟨s10, trivial⟩ rfl rfl hQ0 ?_
            clear hQ0 hH s10
            intro Q hQ
            repeat go_step
            exact hQ _ _ (Grow.refl _) rfl rfl
          refine obls_cons (fun f w' hR hH Q0 hQ0 => ?_) ?_
          · skip
            have s1 := sv_off f [] e1 rfl
            refine small_v hsz [(1, _)] ⟨some 1, (Op.move (.tmp 0)), 3, "", #[], none⟩ [_, undef] 1 rfl rfl ⟨s1, trivial⟩ rfl rfl hQ0 ?_
            clear hQ0 hH s1
            intro Q hQ
            repeat go_step
            exact hQ _ _ (Grow.refl _) rfl rfl
          refine obls_cons (fun f w' hR hH Q0 hQ0 => ?_) ?_
          · skip
            have s57 := (sv_at 57 14 hsz f [(57, 14), (58, 15)] rfl).trans (show f 14 = _ from hH.get 0 (57, 14) rfl)
            have s58 := (sv_at 58 15 hsz f [(57, 14), (58, 15)] rfl).trans (show f 15 = _ from hH.get 1 (58, 15) rfl)
            refine small_v hsz [(57, _), (58, _)] ⟨some 2, (Op.indexAddr 37 (.tmp 0) (.tmp 1)), 0, "", #[], none⟩ [_, _, undef] 2 rfl rfl ⟨s57, s58, trivial⟩ rfl rfl hQ0 ?_
            clear hQ0 hH s57 s58
            intro Q hQ
            repeat go_step
            exact hQ _ _ (Grow.refl _) rfl rfl
          refine obls_cons (fun f w' hR hH Q0 hQ0 => ?_) ?_
          · skip
            have s59 := (sv_at 59 16 hsz f [(59, 16)] rfl).trans (show f 16 = _ from hH.get 0 (59, 16) rfl)
            refine small_v hsz [(59, _)] ⟨some 1, (Op.fieldAddr 48 (.tmp 0) 2), 0, "", #[], none⟩ [_, undef] 1 rfl rfl ⟨s59, trivial⟩ rfl rfl hQ0 ?_
            clear hQ0 hH s59
            intro Q hQ
            repeat go_step
            exact hQ _ _ (Grow.refl _) rfl rfl
          refine obls_cons (fun f w' hR hH Q0 hQ0 => ?_) ?_
          · skip
            have s60 := (sv_at 60 17 hsz f [(60, 17)] rfl).trans (show f 17 = _ from hH.get 0 (60, 17) rfl)
            refine small_v hsz [(60, _)] ⟨some 1, (Op.load 9 (.tmp 0)), 9, "", #[], none⟩ [_, undef] 1 rfl rfl ⟨s60, trivial⟩ rfl rfl hQ0 ?_
            clear hQ0 hH s60
            intro Q hQ
            have y2 := HCC.out w' (HG3.out.trans hR) 2 _ rfl
            repeat go_step
            exact hQ _ _ (Grow.refl _) rfl rfl
          refine obls_cons (fun f w' hR hH Q0 hQ0 => ?_) ?_
          · skip
            have s56 := (sv_at 56 13 hsz f [(56, 13), (61, 18)] rfl).trans (show f 13 = _ from hH.get 0 (56, 13) rfl)
            have s61 := (sv_at 61 18 hsz f [(56, 13), (61, 18)] rfl).trans (show f 18 = _ from hH.get 1 (61, 18) rfl)
            refine small_v hsz [(56, _), (61, _)] ⟨some 2, (Op.binOp BinOp.neq 9 (.tmp 0) (.tmp 1) 9), 4, "", #[], none⟩ [_, _, undef] 2 rfl rfl ⟨s56, s61, trivial⟩ rfl rfl hQ0 ?_
            clear hQ0 hH s56 s61
            intro Q hQ
            repeat go_step
            exact hQ _ _ (Grow.refl _) rfl rfl
          refine obls_cons (fun f w' hR hH Q0 hQ0 => ?_) ?_
          · skip
            have s49 := (sv_at 49 6 hsz f [(49, 6), (54, 11), (55, 12), (62, 19)] rfl).trans (show f 6 = _ from hH.get 0 (49, 6) rfl)
            have s54 := (sv_at 54 11 hsz f [(49, 6), (54, 11), (55, 12), (62, 19)] rfl).trans (show f 11 = _ from hH.get 1 (54, 11) rfl)
            have s55 := (sv_at 55 12 hsz f [(49, 6), (54, 11), (55, 12), (62, 19)] rfl).trans (show f 12 = _ from hH.get 2 (55, 12) rfl)
            have s62 := (sv_at 62 19 hsz f [(49, 6), (54, 11), (55, 12), (62, 19)] rfl).trans (show f 19 = _ from hH.get 3 (62, 19) rfl)
            refine small_v hsz [(49, _), (54, _), (55, _), (62, _)] ⟨some 4, (Op.build 48 #[(0, (.tmp 0)), (1, (.tmp 1)), (2, (.tmp 2)), (3, (.tmp 3))]), 48, "", #[], none⟩ [_, _, _, _, undef] 4 rfl rfl ⟨s49, s54, s55, s62, trivial⟩ rfl (ren_build rfl) hQ0 ?_
            clear hQ0 hH s49 s54 s55 s62
            intro Q hQ
            repeat go_step
            exact hQ _ _ (Grow.refl _) rfl rfl
          refine obls_cons (fun f w' hR hH Q0 hQ0 => ?_) ?_
          · skip
            have s43 := (sv_at 43 0 hsz f [(43, 0), (44, 1)] rfl).trans (show f 0 = _ from hH.get 0 (43, 0) rfl)
            have s44 := (sv_at 44 1 hsz f [(43, 0), (44, 1)] rfl).trans (show f 1 = _ from hH.get 1 (44, 1) rfl)
            refine small_v hsz [(43, _), (44, _)] ⟨some 2, (Op.indexAddr 37 (.tmp 0) (.tmp 1)), 0, "", #[], none⟩ [_, _, undef] 2 rfl rfl ⟨s43, s44, trivial⟩ rfl rfl hQ0 ?_
            clear hQ0 hH s43 s44
            intro Q hQ
            repeat go_step
            exact hQ _ _ (Grow.refl _) rfl rfl
          exact obls_nil
        case mono => exact ⟨Mono.veq _, Mono.veq _, Mono.veq _, Mono.veq _, Mono.veq _, Mono.veq _, Mono.veq _, Mono.veq _, Mono.veq _, Mono.veq _, Mono.veq _, Mono.veq _, Mono.veq _, Mono.veq _, Mono.veq _, Mono.veq _, Mono.veq _, Mono.veq _, Mono.veq _, Mono.veq _, Mono.veq _, Mono.veq _, trivial⟩
        case tail =>
          intro f w' hR hH
          have q20 := hH.get 20 (63, 20) rfl
          have q21 := hH.get 21 (64, 21) rfl
          clear hH
          refine wpList_merge (idx := [none, none, none, none, none, none, none, none, none, none, none, none, none, none, none, none, none, none, none, none, none, none, none, none, none, none, none, none, none, none, none, none, none, none, none, none, none, none, none, none, none, none, none, some 0, some 1, some 2, some 3, some 4, some 5, some 6, some 7, some 8, some 9, some 10, some 11, some 12, some 13, some 14, some 15, some 16, some 17, some 18, some 19, some 20, some 21, none, none, none, none, none, none]) (by kernel_rfl) ?_; show wpList _ _ _ [_] ⟨#[_, _, _, _, _, _, _, _, _, _, _, _, _, _, _, _, _, _, _, _, _, _, _, _, _, _, _, _, _, _, _, _, _, _, _, _, _, _, _, _, _, _, _, f 0, f 1, f 2, f 3, f 4, f 5, f 6, f 7, f 8, f 9, f 10, f 11, f 12, f 13, f 14, f 15, f 16, f 17, f 18, f 19, f 20, f 21, _, _, _, _, _, _], _⟩ _
          rw [show f 20 = _ from q20]
          rw [show f 21 = _ from q21]
          clear q20 q21
          have hblk := HBLK.out.2.1.grow (HG3.out.trans hR)
          have hcl := HBLK.out.2.2.2.2.1
          have hk4 : k * 4 + 4 ≤ cur.length := by have := HBLK.out.2.2.1; omega
          have HB0' := Lib.hid (HB0.out.grow (HGA.out.trans (HG3.out.trans hR)))
          have HB1' := Lib.hid (HB1.out.grow (HGA.out.trans (HG3.out.trans hR)))
          have HG9 := Lib.hid (HG.out.trans (HGA.out.trans (HG3.out.trans hR)))
          obtain ⟨row, hrow⟩ : ∃ r, r = rrow ⟨p.fr, p.to, L, !q⟩ := ⟨_, rfl⟩
          obtain ⟨W5, hW5⟩ : ∃ W, W = w'.setRow gl (patch cur (k * 4) [.int .u8 (p.fr : Int), .int .u8 (p.to : Int), .string (str L), .bool !q]).toArray := ⟨_, rfl⟩
          have hgl : W1.heap.size ≤ gl := HBLK.out.1
          have b05 : Blk W5 w.heap.size TR [.int .i64 (n : Int), .slice (some ⟨bb, off, none⟩) l c1, .slice A2 m c2] := by rw [hW5]; exact HB0'.out.farRow (by have := HS.out; omega) _
          have b15 : Blk W5 (w.heap.size + 1) TR zR := by rw [hW5]; exact HB1'.out.farRow (by have := HS.out; omega) _
          have b25 : Blk W5 gl TP (patch cur (k * 4) [.int .u8 (p.fr : Int), .int .u8 (p.to : Int), .string (str L), .bool !q]) := by rw [hW5]; exact hblk.setRow _
          have HG5 : Hid (Grow w W5) := Lib.hid (by rw [hW5]; exact Grow.setRow HG9.out (by have := HS.out; omega) _)
          have z0 := b05.cell (i := 0) rfl
          have z2 := b05.cell (i := 2) rfl
          have HW5 := Lib.hid hW5
          have HB05 := Lib.hid b05
          have HB15 := Lib.hid b15
          have HB25 := Lib.hid b25
          have HK4 := Lib.hid hk4
          have HCL := Lib.hid hcl
          have HHB := Lib.hid hblk
          clear hW5 b05 b15 b25 hk4 hcl hblk hgl hR x0 x2 hrow
          go_wp2_with (first | (refine store_at rfl _ _ _ rfl gl (k * 4) [.int .u8 (p.fr : Int), .int .u8 (p.to : Int), .string (str L), .bool !q] rfl rfl _ _ HHB.out (by rw [sizeP]; rfl) HK4.out rfl ?_; rw [← HW5.out]) | (refine store_blk rfl _ _ _ rfl (w.heap.size + 1) [.int .i64 (n : Int), .slice (some ⟨gl, 0, none⟩) l cap, .slice A2 m c2] rfl rfl _ _ HB15.out (by rw [sizeR]; rfl) rfl rfl ?_))
          refine ret_blk_tmp rfl (w.heap.size + 1) _ [.int .i64 (n : Int), .slice (some ⟨gl, 0, none⟩) l cap, .slice A2 m c2] _ (.int .i64 0) rfl (HB15.out.setRow _) undR rfl (by rw [sizeR]; rfl) rfl rfl ?_
          have hg := Grow.setRow HG5.out (g := w.heap.size + 1) (by omega) [.int .i64 (n : Int), .slice (some ⟨gl, 0, none⟩) l cap, .slice A2 m c2].toArray
          rw [HF.out]
          have hpl : (rrow ⟨p.fr, p.to, L, !q⟩).length = 4 := rfl
          have hb9 := HB25.out.farRow (show gl ≠ w.heap.size + 1 by have := HBLK.out.1; have := HS.out; omega) [.int .i64 (n : Int), .slice (some ⟨gl, 0, none⟩) l cap, .slice A2 m c2].toArray
          have ho9 := own_shut (size := 4) (n := l) (xs := rrows (ps.set k ⟨p.fr, p.to, L, !q⟩)) HBLK.out.1 hb9 HBLK.out.2.2.1 HBLK.out.2.2.2.1 (by rw [patch_len HK4.out]; exact HCL.out) (by
            rw [rrows_set (by have := HL.out; omega)]
            show (patch cur (k * 4) (rrow ⟨p.fr, p.to, L, !q⟩)).take (l * 4) = _
            rw [patch_take (by rw [hpl]; omega) (by have := HCL.out; have := HBLK.out.2.2.1; omega)]
            have := HBLK.out.2.2.2.2.2
            rw [List.nil_append] at this
            rw [this])
          refine ⟨RN.mk' ⟨?_, HN.out.c.grow hg⟩ fun g hlt h9 => ⟨Off.own ho9 (by have := HS.out; omega), h9.2⟩, hg⟩
          show LV _ _ (ps.set k _).length 4 TP _
          rw [List.length_set, ← HL.out]
          exact LV.own ho9
      · have HF : Hid (spoilS ps (k : Int) a mk = (ps, 12)) := Lib.hid (by unfold spoilS; rw [getK_some HP.out]; dsimp only; rw [if_pos HSP.out.symm])
        clear l1 l2
        go_enter Try.func36, Try.ntmps36
        try dsimp only
        repeat (first | with_reducible (refine wp_region_cut (k := 1) ?_) | go_values | go_guarded | go_step | go_upon | go_back)
        rw [← HW1.out]
        unfold Cut
        go_wp2_with (refine store_blk rfl _ _ _ rfl (w.heap.size + 1) [.int .i64 (n : Int), .slice (some ⟨bb, off, none⟩) l c1, .slice A2 m c2] rfl rfl _ _ HB1.out (by rw [sizeR]; rfl) rfl rfl ?_)
        refine ret_blk_tmp rfl (w.heap.size + 1) _ [.int .i64 (n : Int), .slice (some ⟨bb, off, none⟩) l c1, .slice A2 m c2] _ (.int .i64 12) rfl (HB1.out.setRow _) undR rfl (by rw [sizeR]; rfl) rfl rfl ?_
        have hg := Grow.setRow HG.out (g := w.heap.size + 1) (by omega) [.int .i64 (n : Int), .slice (some ⟨bb, off, none⟩) l c1, .slice A2 m c2].toArray
        rw [HF.out]
        exact ⟨RN.same (HN.out.grow hg), hg⟩
end Go.Proofs.Ytmekdhlcflielaa.ntL
