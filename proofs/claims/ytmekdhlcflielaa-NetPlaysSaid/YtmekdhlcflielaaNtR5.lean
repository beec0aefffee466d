/- The document's net: Drop, Cut. -/
import Derived.Test.YtmekdhlcflielaaNtR4
namespace Go.Proofs.Ytmekdhlcflielaa.ntL
open Go Go.RowKit Go.Par Go.Kit Go.Proofs.Ytmekdhlcflielaa.mpA Go.Proofs.Ytmekdhlcflielaa.cl Go.Proofs.Ytmekdhlcflielaa.nt

theorem rrows_cons (p : Pk) (ps : List Pk) : rrows (p :: ps) = rrow p ++ rrows ps := by simp [rrows]
theorem rrows_take : ∀ (ps : List Pk) (k : Nat), (rrows ps).take (k * 4) = rrows (ps.take k)
  | [], k => by simp [rrows]
  | p :: ps, 0 => by simp [rrows]
  | p :: ps, k + 1 => by
    rw [List.take_succ_cons, rrows_cons, rrows_cons, show (k + 1) * 4 = (rrow p).length + k * 4 by simp [rrow]; omega, List.take_length_add_append, rrows_take ps k]
theorem rrows_drop : ∀ (ps : List Pk) (k : Nat), (rrows ps).drop (k * 4) = rrows (ps.drop k)
  | [], k => by simp [rrows]
  | p :: ps, 0 => by simp [rrows]
  | p :: ps, k + 1 => by
    rw [List.drop_succ_cons, rrows_cons, show (k + 1) * 4 = (rrow p).length + k * 4 by simp [rrow]; omega, List.drop_length_add_append, rrows_drop ps k]
theorem rrows_app (a b : List Pk) : rrows (a ++ b) = rrows a ++ rrows b := by simp [rrows]
theorem getK_none {ps : List Pk} {K : Int} (h : K < 0 ∨ (ps.length : Int) ≤ K) : getK ps K = none := by
  unfold getK
  rcases h with h | h
  · rw [if_neg (by omega)]
  · by_cases h0 : 0 ≤ K
    · rw [if_pos h0, List.getElem?_eq_none_iff]; omega
    · rw [if_neg h0]
theorem getK_some {ps : List Pk} {k : Nat} {p : Pk} (h : ps[k]? = some p) : getK ps (k : Int) = some p := by
  unfold getK
  rw [if_pos (by omega), Int.toNat_natCast, h]
set_option maxRecDepth 100000 in
set_option maxHeartbeats 4000000 in
theorem rdrop_any (w : World) (n : Nat) (vl vc : Value) (ps : List Pk) (cs : List (Nat × Nat)) (h : RefN w vl vc ps cs) (hl4 : ps.length ≤ 4096) (K : Int) :
    Calls Try.prog 34 #[.agg #[.int .i64 (n : Int), vl, vc], .int .i64 K] w fun e w' => RN w vl vc n (dropS ps K).1 cs (dropS ps K).2 e w' ∧ Grow w w' := by
  obtain ⟨A1, c1, rfl, l1, l2, l3, -⟩ := h.l
  obtain ⟨A2, c2, rfl, -⟩ := h.c
  have HN := Lib.hid h
  obtain ⟨l, hl⟩ : ∃ l, l = ps.length := ⟨_, rfl⟩
  obtain ⟨m, hm⟩ : ∃ l, l = cs.length := ⟨_, rfl⟩
  rw [← hl] at HN l1 l3 hl4 ⊢
  rw [← hm] at HN ⊢
  obtain ⟨W1, hW1, hg1, b0, b1⟩ := boxes2 w [.int .i64 (n : Int), .slice A1 l c1, .slice A2 m c2] zR TR TR
  have hs1 : W1.heap.size = w.heap.size + 1 + 1 := by rw [hW1]; simp
  have x0 := b0.cell (i := 0) rfl
  have x1 := b0.cell (i := 1) rfl
  have x2 := b0.cell (i := 2) rfl
  have HG := Lib.hid hg1
  have HW1 := Lib.hid hW1
  have HB0 := Lib.hid b0
  have HB1 := Lib.hid b1
  have HL := Lib.hid hl
  have HS := Lib.hid hs1
  have HR := Lib.hid l3
  clear h l3 hm hl hg1 hW1 b0 b1 hs1
  by_cases h0 : K < 0
  · have t0 : decide (K < 0) = true := decide_eq_true h0
    have HF : Hid (dropS ps K = (ps, 6)) := Lib.hid (by unfold dropS; rw [getK_none (.inl h0)])
    clear h0 l1 l2
    go_enter Try.func34, Try.ntmps34
    try dsimp only
    repeat (first | with_reducible (refine wp_region_cut (k := 1) ?_) | go_values | go_guarded | go_step | go_upon | go_back)
    rw [← HW1.out]
    unfold Cut
    go_wp2_with (refine store_blk rfl _ _ _ rfl (w.heap.size + 1) [.int .i64 (n : Int), .slice A1 l c1, .slice A2 m c2] rfl rfl _ _ HB1.out (by rw [sizeR]; rfl) rfl rfl ?_)
    refine ret_blk_tmp rfl (w.heap.size + 1) _ [.int .i64 (n : Int), .slice A1 l c1, .slice A2 m c2] _ (.int .i64 6) rfl (HB1.out.setRow _) undR rfl (by rw [sizeR]; rfl) rfl rfl ?_
    have hg := Grow.setRow HG.out (g := w.heap.size + 1) (by omega) [.int .i64 (n : Int), .slice A1 l c1, .slice A2 m c2].toArray
    rw [HF.out]
    exact ⟨RN.same (HN.out.grow hg), hg⟩
  · have t0 : decide (K < 0) = false := decide_eq_false h0
    by_cases h1 : (l : Int) ≤ K
    · have t1 : decide ((l : Int) ≤ K) = true := decide_eq_true h1
      have HF : Hid (dropS ps K = (ps, 6)) := Lib.hid (by unfold dropS; rw [getK_none (.inr (by have := HL.out; omega))])
      clear h0 h1 l1 l2
      go_enter Try.func34, Try.ntmps34
      try dsimp only
      repeat (first | with_reducible (refine wp_region_cut (k := 1) ?_) | go_values | go_guarded | go_step | go_upon | go_back)
      rw [← HW1.out]
      unfold Cut
      go_wp2_with (refine store_blk rfl _ _ _ rfl (w.heap.size + 1) [.int .i64 (n : Int), .slice A1 l c1, .slice A2 m c2] rfl rfl _ _ HB1.out (by rw [sizeR]; rfl) rfl rfl ?_)
      refine ret_blk_tmp rfl (w.heap.size + 1) _ [.int .i64 (n : Int), .slice A1 l c1, .slice A2 m c2] _ (.int .i64 6) rfl (HB1.out.setRow _) undR rfl (by rw [sizeR]; rfl) rfl rfl ?_
      have hg := Grow.setRow HG.out (g := w.heap.size + 1) (by omega) [.int .i64 (n : Int), .slice A1 l c1, .slice A2 m c2].toArray
      rw [HF.out]
      exact ⟨RN.same (HN.out.grow hg), hg⟩
    · obtain ⟨k, rfl⟩ := Int.eq_ofNat_of_zero_le (show 0 ≤ K by omega)
      have t0' : decide (k < 0) = false := decide_eq_false (by omega)
      have t1 : decide ((l : Int) ≤ (k : Int)) = false := decide_eq_false h1
      have t1' : decide (l ≤ k) = false := decide_eq_false (by omega)
      have hkl : k < l := by omega
      have HF : Hid (dropS ps (k : Int) = (del ps k, 0)) := Lib.hid (by unfold dropS; rw [getK_some (List.getElem?_eq_getElem (show k < ps.length by have := HL.out; omega))]; rfl)
      clear h0 h1
      have hz := own_nil W1 W1.heap.size TP 4
      have hr1 : Row W1 A1 (k * 4) (rrows (ps.take k)) := by
        have := (HR.out.grow HG.out).take (k := k * 4) (by omega)
        rwa [rrows_take] at this
      have hr2 : Row W1 (Kit.cutS A1 c1 (k + 1) 4) ((l - (k + 1)) * 4) (rrows (ps.drop (k + 1))) := by
        have := (HR.out.grow HG.out).cutS (k := k + 1) (c := c1) (S := 4) (by omega) l1
        rwa [rrows_drop] at this
      have s1 := fun w => slice_hi (P := Try.prog) Try.underlying37 iP A1 l c1 k (by omega) w
      have s2 := fun w => slice_loS (P := Try.prog) Try.underlying37 iP iPs A1 l c1 (k + 1) (by omega) w
      simp only [show ((k + 1 : Nat) : Int) = (k : Int) + 1 from by omega] at s2
      go_enter Try.func34, Try.ntmps34
      try dsimp only
      repeat (first | with_reducible (refine wp_region_cut (k := 1) ?_) | go_values | go_guarded | go_step | go_upon | go_back)
      rw [← HW1.out]
      unfold Cut
      go_wp2_with (first | (at_builtin; refine wpList_append_row rfl _ _ _ rfl W1.heap.size TP _ _ 4 32 Try.underlying37 iP iPz iPs iPb rfl (by decide) (.slice none 0 0) 0 [] rfl hz A1 k c1 (rrows (ps.take k)) rfl hr1 rrows_one (by unfold maxLen; omega) (by omega) (Nat.le_refl _) ?_; intro v1 w1 hown1 hgb1 _; rw [Nat.zero_add] at hown1; have hga : Grow W1 w1 := grow_by (Grow.refl _) hgb1 (own_base hz); have y0 := (HB0.out.grow hga).cell (i := 0) rfl; have y1 := (HB0.out.grow hga).cell (i := 1) rfl; have y2 := (HB0.out.grow hga).cell (i := 2) rfl; have HGA := Lib.hid hga; have HO1 := Lib.hid hown1; clear hga hown1 hgb1) | (at_builtin; refine wpList_append_row rfl _ _ _ rfl W1.heap.size TP _ _ 4 32 Try.underlying37 iP iPz iPs iPb rfl (by decide) v1 k _ rfl HO1.out (Kit.cutS A1 c1 (k + 1) 4) (l - (k + 1)) _ (rrows (ps.drop (k + 1))) rfl (hr2.grow HGA.out) rrows_one (by unfold maxLen; omega) (by omega) HGA.out.size ?_; intro v2 w2 hown2 hgb2 _; have hgb : Grow W1 w2 := grow_by HGA.out hgb2 (own_base HO1.out); have z0 := (HB0.out.grow hgb).cell (i := 0) rfl; have z2 := (HB0.out.grow hgb).cell (i := 2) rfl; have HGB := Lib.hid hgb; have HO2 := Lib.hid hown2; obtain ⟨A9, c9, rfl, -⟩ := own_form hown2; clear hgb hown2 hgb2) | (refine store_blk rfl _ _ _ rfl (w.heap.size + 1) [.int .i64 (n : Int), .slice A9 (k + (l - (k + 1))) c9, .slice A2 m c2] rfl rfl _ _ (HB1.out.grow HGB.out) (by rw [sizeR]; rfl) rfl rfl ?_))
      refine ret_blk_tmp rfl (w.heap.size + 1) _ [.int .i64 (n : Int), .slice A9 (k + (l - (k + 1))) c9, .slice A2 m c2] _ (.int .i64 0) rfl ((HB1.out.grow HGB.out).setRow _) undR rfl (by rw [sizeR]; rfl) rfl rfl ?_
      have hg := Grow.setRow (HG.out.trans HGB.out) (g := w.heap.size + 1) (by omega) [.int .i64 (n : Int), .slice A9 (k + (l - (k + 1))) c9, .slice A2 m c2].toArray
      have ho := own_farRow HO2.out (g := w.heap.size + 1) (fun k hk => by have := own_base HO2.out k hk; have := HS.out; omega) [.int .i64 (n : Int), .slice A9 (k + (l - (k + 1))) c9, .slice A2 m c2].toArray
      rw [HF.out]
      refine ⟨RN.mk' ⟨?_, HN.out.c.grow hg⟩ fun g hlt h9 => ⟨Off.own HO2.out (by have := HS.out; omega), h9.2⟩, hg⟩
      have h9 := LV.own ho
      rw [List.nil_append, ← rrows_app] at h9
      have e : (del ps k).length = k + (l - (k + 1)) := by unfold Go.Proofs.Ytmekdhlcflielaa.nt.del; rw [List.length_append, List.length_take, List.length_drop, ← HL.out]; omega
      show LV _ _ (del ps k).length 4 TP (rrows (del ps k))
      rw [e]
      exact h9
set_option maxRecDepth 100000 in
set_option maxHeartbeats 4000000 in
theorem rcut_any (w : World) (n : Nat) (vl vc : Value) (ps : List Pk) (cs : List (Nat × Nat)) (h : RefN w vl vc ps cs) (hm4 : cs.length ≤ 4096) (a b : Nat) (ha : a ≤ 255) (hb : b ≤ 255) :
    Calls Try.prog 37 #[.agg #[.int .i64 (n : Int), vl, vc], .int .u8 (a : Int), .int .u8 (b : Int)] w fun e w' => RN w vl vc n ps (if pairB n a b = true then cs ++ [(a, b)] else cs) (if pairB n a b = true then 0 else 1) e w' ∧ Grow w w' := by
  obtain ⟨A1, c1, rfl, -⟩ := h.l
  obtain ⟨A2, c2, rfl, l1, l2, l3, -⟩ := h.c
  have HN := Lib.hid h
  obtain ⟨l, hl⟩ : ∃ l, l = ps.length := ⟨_, rfl⟩
  obtain ⟨m, hm⟩ : ∃ l, l = cs.length := ⟨_, rfl⟩
  rw [← hl] at HN ⊢
  rw [← hm] at HN l1 l3 hm4 ⊢
  obtain ⟨W1, hW1, hg1, b0, b1⟩ := boxes2 w [.int .i64 (n : Int), .slice A1 l c1, .slice A2 m c2] zR TR TR
  have hs1 : W1.heap.size = w.heap.size + 1 + 1 := by rw [hW1]; simp
  have x0 := b0.cell (i := 0) rfl
  have x1 := b0.cell (i := 1) rfl
  have x2 := b0.cell (i := 2) rfl
  obtain ⟨q, hq⟩ : ∃ q, q = pairB n a b := ⟨_, rfl⟩
  have hp := rpair_any W1 n a b (.slice A1 l c1) (.slice A2 m c2) ha hb
  rw [← hq] at hp ⊢
  have HP := Lib.hid hp
  have HG := Lib.hid hg1
  have HW1 := Lib.hid hW1
  have HB0 := Lib.hid b0
  have HB1 := Lib.hid b1
  have HS := Lib.hid hs1
  have HM := Lib.hid hm
  have HR := Lib.hid l3
  clear h hm hl hg1 hW1 b0 b1 hp hq hs1 l3 l1 l2
  go_enter Try.func37, Try.ntmps37
  try dsimp only
  repeat (first | with_reducible (refine wp_region_cut (k := 1) ?_) | go_values | go_guarded | go_step | go_upon | go_back)
  rw [← HW1.out]
  unfold Cut
  go_wp2_with fail
  refine HP.out.mono ?_
  rintro e w2 ⟨rfl, hg2⟩
  have y0 := (HB0.out.grow hg2).cell (i := 0) rfl
  have y1 := (HB0.out.grow hg2).cell (i := 1) rfl
  have y2 := (HB0.out.grow hg2).cell (i := 2) rfl
  have HB1' := Lib.hid (HB1.out.grow hg2)
  have HB0' := Lib.hid (HB0.out.grow hg2)
  have HS2 : Hid (w.heap.size + 1 + 1 ≤ w2.heap.size) := Lib.hid (by have := hg2.size; have := HS.out; omega)
  have HG2 := Lib.hid (HG.out.trans hg2)
  clear hg2 HP HB0 HB1 x0 x1 x2
  cases q
  · go_wp2_with (refine store_blk rfl _ _ _ rfl (w.heap.size + 1) [.int .i64 (n : Int), .slice A1 l c1, .slice A2 m c2] rfl rfl _ _ HB1'.out (by rw [sizeR]; rfl) rfl rfl ?_)
    refine ret_blk_tmp rfl (w.heap.size + 1) _ [.int .i64 (n : Int), .slice A1 l c1, .slice A2 m c2] _ (.int .i64 1) rfl (HB1'.out.setRow _) undR rfl (by rw [sizeR]; rfl) rfl rfl ?_
    have hg := Grow.setRow HG2.out (g := w.heap.size + 1) (by omega) [.int .i64 (n : Int), .slice A1 l c1, .slice A2 m c2].toArray
    exact ⟨RN.same (HN.out.grow hg), hg⟩
  · have hz := own_nil w2 w2.heap.size T2 2
    have hr1 := HR.out.grow HG2.out
    go_wp2_with (first | (at_builtin; refine wpList_append_row rfl _ _ _ rfl w2.heap.size T2 _ _ 2 2 Try.underlying38 i2 i2z i2s i2b rfl (by decide) (.slice none 0 0) 0 [] rfl hz A2 m c2 (crows cs) rfl hr1 crows_one (by unfold maxLen; omega) (by omega) (Nat.le_refl _) ?_; intro v1 w1 hown1 hgb1 _; rw [Nat.zero_add] at hown1; have hga : Grow w2 w1 := grow_by (Grow.refl _) hgb1 (own_base hz); have HGA := Lib.hid hga; have HO1 := Lib.hid hown1; clear hga hown1 hgb1) | (at_builtin; refine wpList_append_row rfl _ _ _ rfl w2.heap.size T2 _ _ 2 2 Try.underlying38 i2 i2z i2s i2b rfl (by decide) v1 m _ rfl (own_grow HO1.out (Grow.alloc _ _)) (some ⟨w1.heap.size, 0, none⟩) 1 1 (crow (a, b)) rfl (Row.new w1 (crow (a, b)) T2 (0, 0)) (by intro u hu; simp only [crow, List.mem_cons, List.not_mem_nil, or_false] at hu; rcases hu with rfl | rfl <;> rfl) (by unfold maxLen; omega) (by omega) (Nat.le_trans HGA.out.size (by simp)) ?_; intro v2 w3 hown2 hgb2 _; have hgb : Grow w2 w3 := grow_by (HGA.out.trans (Grow.alloc _ _)) hgb2 (own_base HO1.out); have z0 := (HB0'.out.grow hgb).cell (i := 0) rfl; have z1 := (HB0'.out.grow hgb).cell (i := 1) rfl; have HGB := Lib.hid hgb; have HO2 := Lib.hid hown2; obtain ⟨A9, c9, rfl, -⟩ := own_form hown2; clear hgb hown2 hgb2) | (refine store_blk rfl _ _ _ rfl (w.heap.size + 1) [.int .i64 (n : Int), .slice A1 l c1, .slice A9 (m + 1) c9] rfl rfl _ _ (HB1'.out.grow HGB.out) (by rw [sizeR]; rfl) rfl rfl ?_))
    refine ret_blk_tmp rfl (w.heap.size + 1) _ [.int .i64 (n : Int), .slice A1 l c1, .slice A9 (m + 1) c9] _ (.int .i64 0) rfl ((HB1'.out.grow HGB.out).setRow _) undR rfl (by rw [sizeR]; rfl) rfl rfl ?_
    have hg := Grow.setRow (HG2.out.trans HGB.out) (g := w.heap.size + 1) (by omega) [.int .i64 (n : Int), .slice A1 l c1, .slice A9 (m + 1) c9].toArray
    have ho := own_farRow HO2.out (g := w.heap.size + 1) (fun k hk => by have := own_base HO2.out k hk; have := HS2.out; omega) [.int .i64 (n : Int), .slice A1 l c1, .slice A9 (m + 1) c9].toArray
    refine ⟨RN.mk' ⟨HN.out.l.grow hg, ?_⟩ fun g hlt h9 => ⟨h9.1, Off.own HO2.out (by have := HS2.out; omega)⟩, hg⟩
    show LV _ _ (cs ++ [(a, b)]).length 2 T2 (crows (cs ++ [(a, b)]))
    rw [List.length_append, List.length_singleton, crows_snoc, ← HM.out]
    have := LV.own ho
    rw [List.nil_append] at this
    exact this
end Go.Proofs.Ytmekdhlcflielaa.ntL
