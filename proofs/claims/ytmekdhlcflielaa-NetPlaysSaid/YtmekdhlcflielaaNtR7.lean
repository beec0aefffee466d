/- The document's net: Take. -/
import Derived.Test.YtmekdhlcflielaaNtR6
namespace Go.Proofs.Ytmekdhlcflielaa.ntL
open Go Go.RowKit Go.Par Go.Kit Go.Proofs.Ytmekdhlcflielaa.mpA Go.Proofs.Ytmekdhlcflielaa.cl Go.Proofs.Ytmekdhlcflielaa.nt

theorem ret_bbt {P : Program} {a : Go.Act} {w : World} {fn : Func} {R : Ending → World → Prop} {p p2 q : Tmp} {ty ty2 : TypeId} (hf : fn.results = #[.cell p ty, .cell p2 ty2, .tmp q]) (g g2 : Nat) (t t2 : TypeId) (cs cs2 : List Value) (d d2 : TypeDesc) (u : Value)
    (hp : a.tmps.getD p undef = .pointer (some ⟨g, 0, none⟩)) (hg : Blk w g t cs) (hu : P.underlying ty = some d) (hd : (match d with | .struct _ | .array _ _ => true | _ => false) = true) (hi : (P.info? ty).map (·.size) = some cs.length)
    (hp2 : a.tmps.getD p2 undef = .pointer (some ⟨g2, 0, none⟩)) (hg2 : Blk w g2 t2 cs2) (hu2 : P.underlying ty2 = some d2) (hd2 : (match d2 with | .struct _ | .array _ _ => true | _ => false) = true) (hi2 : (P.info? ty2).map (·.size) = some cs2.length)
    (hq : a.tmps.getD q undef = u) (hde : a.defers = []) (hR : R (.returned (.tuple #[.agg cs.toArray, .agg cs2.toArray, u])) w) : bodyPost P fn R .ret a w := by
  subst hq
  refine bodyPost_ret ?_ hde hR
  have hp' : a.tmps[p]?.getD undef = .pointer (some ⟨g, 0, none⟩) := by simpa using hp
  have hp2' : a.tmps[p2]?.getD undef = .pointer (some ⟨g2, 0, none⟩) := by simpa using hp2
  simp [results, hf, hp', hp2', asAddr, run_loadVar_row w g t ty cs.toArray (0, 0) d hg hu hd (by simpa using hi), run_loadVar_row w g2 t2 ty2 cs2.toArray (0, 0) d2 hg2 hu2 hd2 (by simpa using hi2)]
theorem ret_btb {P : Program} {a : Go.Act} {w : World} {fn : Func} {R : Ending → World → Prop} {p p2 q : Tmp} {ty ty2 : TypeId} (hf : fn.results = #[.cell p ty, .tmp q, .cell p2 ty2]) (g g2 : Nat) (t t2 : TypeId) (cs cs2 : List Value) (d d2 : TypeDesc) (u : Value)
    (hp : a.tmps.getD p undef = .pointer (some ⟨g, 0, none⟩)) (hg : Blk w g t cs) (hu : P.underlying ty = some d) (hd : (match d with | .struct _ | .array _ _ => true | _ => false) = true) (hi : (P.info? ty).map (·.size) = some cs.length)
    (hp2 : a.tmps.getD p2 undef = .pointer (some ⟨g2, 0, none⟩)) (hg2 : Blk w g2 t2 cs2) (hu2 : P.underlying ty2 = some d2) (hd2 : (match d2 with | .struct _ | .array _ _ => true | _ => false) = true) (hi2 : (P.info? ty2).map (·.size) = some cs2.length)
    (hq : a.tmps.getD q undef = u) (hde : a.defers = []) (hR : R (.returned (.tuple #[.agg cs.toArray, u, .agg cs2.toArray])) w) : bodyPost P fn R .ret a w := by
  subst hq
  refine bodyPost_ret ?_ hde hR
  have hp' : a.tmps[p]?.getD undef = .pointer (some ⟨g, 0, none⟩) := by simpa using hp
  have hp2' : a.tmps[p2]?.getD undef = .pointer (some ⟨g2, 0, none⟩) := by simpa using hp2
  simp [results, hf, hp', hp2', asAddr, run_loadVar_row w g t ty cs.toArray (0, 0) d hg hu hd (by simpa using hi), run_loadVar_row w g2 t2 ty2 cs2.toArray (0, 0) d2 hg2 hu2 hd2 (by simpa using hi2)]
theorem cell_lt {w : World} {b o : Nat} {u : Value} (h : w.cell? ⟨b, o, none⟩ = some u) : b < w.heap.size := by
  rcases Nat.lt_or_ge b w.heap.size with h1 | h1
  · exact h1
  · unfold World.cell? at h
    rw [Array.getElem?_eq_none h1] at h
    cases h
/-- while a packet is read, a net's box is stored -/
def PhT (w0 : World) (g g1 bb o : Nat) (cs : List Value) (p : Pk) (x : List Value) (b : Nat) (w' : World) : Prop :=
  Blk w' g TR cs ∧ (∀ j u, (rrow p)[j]? = some u → w'.cell? ⟨bb, o + j, none⟩ = some u) ∧ (b = 0 → Grow w0 w') ∧ (b = 1 → ∃ w9, Grow w0 w9 ∧ Grow (w9.setRow g1 x.toArray) w')
theorem PhT.start {w0 w' : World} {g g1 bb o : Nat} {cs : List Value} {p : Pk} {x : List Value} (h1 : Blk w' g TR cs) (h2 : ∀ j u, (rrow p)[j]? = some u → w'.cell? ⟨bb, o + j, none⟩ = some u) (h3 : Grow w0 w') : PhT w0 g g1 bb o cs p x 0 w' := ⟨h1, h2, fun _ => h3, fun h => absurd h (by decide)⟩
theorem PhT.next {w0 w' : World} {g g1 bb o : Nat} {cs : List Value} {p : Pk} {x : List Value} (h : PhT w0 g g1 bb o cs p x 0 w') (h1 : g ≠ g1) (h2 : bb ≠ g1) : PhT w0 g g1 bb o cs p x 1 (w'.setRow g1 x.toArray) :=
  ⟨h.1.farRow h1 _, fun j u hu => by rw [cell_setRow_other _ _ _ ⟨bb, o + j, none⟩ h2]; exact h.2.1 j u hu, fun e => absurd e (by decide), fun _ => ⟨w', h.2.2.1 rfl, Grow.refl _⟩⟩
def rtakeS (n : Nat) (cs : List (Nat × Nat)) (ps : List Pk) (K : Int) : List Pk × Nat × Pk := match getK ps K with | none => (ps, 6, zpk) | some p => if wholeR n cs p.fr p.to = true then (del ps K.toNat, 0, p) else (del ps K.toNat, 13, zpk)
/-- what Take hands back -/
def RT (w0 : World) (vl vc : Value) (n : Nat) (ps : List Pk) (cs : List (Nat × Nat)) (p : Pk) (err : Nat) (e : Ending) (w' : World) : Prop :=
  ∃ A1 l1 c1 A2 l2 c2, e = .returned (.tuple #[.agg #[.int .i64 (n : Int), .slice A1 l1 c1, .slice A2 l2 c2], .agg #[.int .u8 (p.fr : Int), .int .u8 (p.to : Int), .string (str p.b), .bool p.sp], .int .i64 (err : Int)]) ∧ RefN w' (.slice A1 l1 c1) (.slice A2 l2 c2) ps cs ∧
    ∀ g, g < w0.heap.size → OffN vl vc g → OffN (.slice A1 l1 c1) (.slice A2 l2 c2) g
set_option maxRecDepth 100000 in
set_option maxHeartbeats 4000000 in
theorem rtake_any (w : World) (n : Nat) (vl vc : Value) (ps : List Pk) (cs : List (Nat × Nat)) (h : RefN w vl vc ps cs) (hl4 : ps.length ≤ 4096) (hok : ∀ p ∈ ps, p.fr ≤ 255 ∧ p.to ≤ 255) (K : Int) :
    Calls Try.prog 33 #[.agg #[.int .i64 (n : Int), vl, vc], .int .i64 K] w fun e w' => RT w vl vc n (rtakeS n cs ps K).1 cs (rtakeS n cs ps K).2.2 (rtakeS n cs ps K).2.1 e w' ∧ Grow w w' := by
  obtain ⟨A1, c1, rfl, l1, l2, l3, -⟩ := h.l
  obtain ⟨A2, c2, rfl, -⟩ := h.c
  have HN := Lib.hid h
  have HL4 := Lib.hid hl4
  obtain ⟨l, hl⟩ : ∃ l, l = ps.length := ⟨_, rfl⟩
  obtain ⟨m, hm⟩ : ∃ l, l = cs.length := ⟨_, rfl⟩
  rw [← hl] at HN l1 l3 hl4 ⊢
  rw [← hm] at HN ⊢
  obtain ⟨W1, hW1, hg1, b0, b1, b2⟩ := boxes3 w [.int .i64 (n : Int), .slice A1 l c1, .slice A2 m c2] zR zP TR TR TP
  have hs1 : W1.heap.size = w.heap.size + 1 + 1 + 1 := by rw [hW1]; simp
  have x0 := b0.cell (i := 0) rfl
  have x1 := b0.cell (i := 1) rfl
  have x2 := b0.cell (i := 2) rfl
  have HD := Lib.hid (rdrop_any W1 n _ _ ps cs (HN.out.grow hg1) HL4.out K)
  have HG := Lib.hid hg1
  have HW1 := Lib.hid hW1
  have HB0 := Lib.hid b0
  have HB1 := Lib.hid b1
  have HB2 := Lib.hid b2
  have HL := Lib.hid hl
  have HS := Lib.hid hs1
  have HR := Lib.hid l3
  have HOK := Lib.hid hok
  clear h l3 hm hl hg1 hW1 b0 b1 b2 hs1 hok
  go_enter Try.func33, Try.ntmps33
  try dsimp only
  repeat (first | with_reducible (refine wp_region_cut (k := 1) ?_) | go_values | go_guarded | go_step | go_upon | go_back)
  rw [← HW1.out]
  unfold Cut
  go_wp2_with fail
  refine HD.out.mono ?_
  rintro e w2 ⟨⟨B1, m1, d1, B2, m2, d2, rfl, hr, ho⟩, hg2⟩
  obtain ⟨W4, hW4⟩ : ∃ W, W = (w2.alloc (.cells #[.int .i64 0, .slice none 0 0, .slice none 0 0] TR)).setRow w2.heap.size #[.int .i64 (n : Int), .slice B1 m1 d1, .slice B2 m2 d2] := ⟨_, rfl⟩
  have hb7 : Blk (w2.alloc (.cells #[.int .i64 0, .slice none 0 0, .slice none 0 0] TR)) w2.heap.size TR zR := Blk.new _ _ _ _ rfl rfl
  have hg24 : Grow w2 W4 := by rw [hW4]; exact Grow.setRow (Grow.alloc _ _) (Nat.le_refl _) _
  have hb74 : Blk W4 w2.heap.size TR [.int .i64 (n : Int), .slice B1 m1 d1, .slice B2 m2 d2] := by rw [hW4]; exact hb7.setRow [.int .i64 (n : Int), .slice B1 m1 d1, .slice B2 m2 d2]
  have hb04 := HB0.out.grow (hg2.trans hg24)
  have hb14 := HB1.out.grow (hg2.trans hg24)
  have hb24 := HB2.out.grow (hg2.trans hg24)
  have HR4 := Lib.hid (hr.grow hg24)
  have HOF := Lib.hid ho
  have HG4 := Lib.hid (HG.out.trans (hg2.trans hg24))
  have HW4 := Lib.hid hW4
  have HB7 := Lib.hid hb7
  have HB74 := Lib.hid hb74
  have HB04 := Lib.hid hb04
  have HB14 := Lib.hid hb14
  have HB24 := Lib.hid hb24
  have y0 := hb04.cell (i := 0) rfl
  have y1 := hb04.cell (i := 1) rfl
  have y2 := hb04.cell (i := 2) rfl
  have v0 := hb74.cell (i := 0) rfl
  have v1 := hb74.cell (i := 1) rfl
  have v2 := hb74.cell (i := 2) rfl
  obtain ⟨er, her⟩ : ∃ q, q = (dropS ps K).2 := ⟨_, rfl⟩
  dsimp only
  rw [← her]
  have HER := Lib.hid her
  have HS2 : Hid (W1.heap.size ≤ w2.heap.size) := Lib.hid hg2.size
  clear hr ho hg2 hW4 hb7 hg24 hb74 hb04 hb14 hb24 her HD HB0 HB1 HB2 x0 x1 x2 l1 l2
  by_cases hk : K < 0 ∨ (l : Int) ≤ K
  · have hgk : getK ps K = none := getK_none (by rw [← HL.out]; exact hk)
    have HF : Hid (rtakeS n cs ps K = (ps, 6, zpk)) := Lib.hid (by unfold rtakeS; rw [hgk])
    obtain rfl : er = 6 := by rw [HER.out]; unfold dropS; rw [hgk]
    clear hk hgk
    go_wp2_with (first | (refine store_blk rfl _ _ _ rfl w2.heap.size [.int .i64 (n : Int), .slice B1 m1 d1, .slice B2 m2 d2] rfl rfl _ _ HB7.out (by rw [sizeR]; rfl) rfl rfl ?_; rw [← HW4.out]) | (refine store_blk rfl _ _ _ rfl (w.heap.size + 1) [.int .i64 (n : Int), .slice A1 l c1, .slice A2 m c2] rfl rfl _ _ HB14.out (by rw [sizeR]; rfl) rfl rfl ?_) | (refine store_blk rfl _ _ _ rfl (w.heap.size + 1 + 1) zP rfl rfl _ _ (HB24.out.farRow (by omega) _) (by rw [sizeP]; rfl) rfl rfl ?_))
    refine ret_bbt rfl (w.heap.size + 1) (w.heap.size + 1 + 1) _ _ [.int .i64 (n : Int), .slice A1 l c1, .slice A2 m c2] zP _ _ (.int .i64 6) rfl ((HB14.out.setRow _).farRow (by omega) _) undR rfl (by rw [sizeR]; rfl) rfl ((HB24.out.farRow (by omega) _).setRow _) undP rfl (by rw [sizeP]; rfl) rfl rfl ?_
    have hg := Grow.setRow (Grow.setRow HG4.out (g := w.heap.size + 1) (by omega) [.int .i64 (n : Int), .slice A1 l c1, .slice A2 m c2].toArray) (g := w.heap.size + 1 + 1) (by omega) zP.toArray
    rw [HF.out]
    exact ⟨⟨_, _, _, _, _, _, rfl, HN.out.grow hg, fun g _ h => h⟩, hg⟩
  · obtain ⟨k, rfl⟩ := Int.eq_ofNat_of_zero_le (show 0 ≤ K by omega)
    have hkl : k < l := by omega
    obtain ⟨p, hp⟩ : ∃ p, ps[k]? = some p := ⟨_, List.getElem?_eq_getElem (by have := HL.out; omega)⟩
    have hd : dropS ps (k : Int) = (del ps k, 0) := by unfold dropS; rw [getK_some hp]; rfl
    obtain rfl : er = 0 := by rw [HER.out, hd]
    have HR5 : Hid (RefN W4 (.slice B1 m1 d1) (.slice B2 m2 d2) (del ps k) cs) := Lib.hid (by have := HR4.out; rw [hd] at this; exact this)
    obtain ⟨q, hq⟩ : ∃ q, q = wholeR n cs p.fr p.to := ⟨_, rfl⟩
    have HF : Hid (rtakeS n cs ps (k : Int) = if q = true then (del ps k, 0, p) else (del ps k, 13, zpk)) := Lib.hid (by unfold rtakeS; rw [getK_some hp, hq]; rfl)
    obtain ⟨bb, off, rfl, hcc⟩ := HR.out.2 (by omega)
    have HC : Hid (∀ j u, (rrow p)[j]? = some u → W4.cell? ⟨bb, off + k * 4 + j, none⟩ = some u) := Lib.hid (fun j u hu => HG4.out.cell (by rw [Nat.add_assoc]; exact hcc (k * 4 + j) u (rrows_get hp hu)))
    have HLT : Hid (bb < w.heap.size) := Lib.hid (cell_lt (hcc (k * 4 + 0) _ (rrows_get hp rfl)))
    have HWH : Hid (∀ w', Grow W4 w' → Calls Try.prog 20 #[.agg #[.int .i64 (n : Int), .slice (some ⟨bb, off, none⟩) l c1, .slice A2 m c2], .int .u8 (p.fr : Int), .int .u8 (p.to : Int)] w' fun e w9 => e = .returned (.bool q) ∧ Grow w' w9) := Lib.hid fun w' hg => by
      rw [hq]
      exact rwhole_any w' n p.fr p.to _ _ cs (HN.out.c.grow (HG4.out.trans hg)) (HOK.out p (List.mem_of_getElem? hp)).1 (HOK.out p (List.mem_of_getElem? hp)).2
    have HOF2 : Hid (OffN (.slice B1 m1 d1) (.slice B2 m2 d2) (w.heap.size + 1 + 1)) := Lib.hid (HOF.out _ (by have := HS.out; omega) (HN.out.off (by omega)))
    clear hk hd hq hcc hp HER HL4 HOK HR4 HN HL
    go_wp2_with (first | (refine store_blk rfl _ _ _ rfl w2.heap.size [.int .i64 (n : Int), .slice B1 m1 d1, .slice B2 m2 d2] rfl rfl _ _ HB7.out (by rw [sizeR]; rfl) rfl rfl ?_; rw [← HW4.out]))
    apply (fun (v0 v1 v2 v3 v4 v5 v6 v7 v8 v9 v10 v11 v12 v13 v14 : Value) mono obl tail => wp_region_par (R := Grow) (Φ := phi [veq v0, veq v1, veq v2, veq v3, veq v4, veq v5, veq v6, veq v7, veq v8, veq v9, veq v10, veq v11, veq v12, veq v13, veq v14]) (m := 15) (dls := [[], [], [(21, 1)], [], [(22, 2), (23, 3)], [(24, 4)], [(25, 5)], [], [(27, 7)], [], [(28, 8), (29, 9)], [(30, 10)], [(31, 11)], [(20, 0), (26, 6), (32, 12)], [(33, 13)]]) (ds := [20, 21, 22, 23, 24, 25, 26, 27, 28, 29, 30, 31, 32, 33, 34]) (by kernel_rfl) (by kernel_rfl) (by decide) rfl (Grow.drew _) (fun _ _ _ => Grow.trans) (mono_phi mono) obl tail)
    case obl =>
      refine obls_frame (fun a1 ha => ?_)
      have hsz := rd_size (n := 43) ha rfl
      have e2 := rd_slot 2 ha rfl
      have e1 := rd_slot 1 ha rfl
      clear ha
      refine obls_cons (fun f w' hR hH Q0 hQ0 => ?_) ?_
      · skip
        have s2 := sv_off f [] e2 rfl
        refine small_v hsz [(2, _)] ⟨some 1, (Op.load 40 (.tmp 0)), 40, "", #[], none⟩ [_, undef] 1 rfl rfl ⟨s2, trivial⟩ rfl rfl hQ0 ?_
        clear hQ0 hH s2
        intro Q hQ
        have y0 := (HB04.out.grow hR).cell (i := 0) rfl
        have y1 := (HB04.out.grow hR).cell (i := 1) rfl
        have y2 := (HB04.out.grow hR).cell (i := 2) rfl
        repeat go_step
        exact hQ _ _ (Grow.refl _) rfl rfl
      refine obls_cons (fun f w' hR hH Q0 hQ0 => ?_) ?_
      · skip
        have s2 := sv_off f [] e2 rfl
        refine small_v hsz [(2, _)] ⟨some 1, (Op.fieldAddr 40 (.tmp 0) 1), 0, "", #[], none⟩ [_, undef] 1 rfl rfl ⟨s2, trivial⟩ rfl rfl hQ0 ?_
        clear hQ0 hH s2
        intro Q hQ
        repeat go_step
        exact hQ _ _ (Grow.refl _) rfl rfl
      refine obls_cons (fun f w' hR hH Q0 hQ0 => ?_) ?_
      · skip
        have s21 := (sv_at 21 1 hsz f [(21, 1)] rfl).trans (show f 1 = _ from hH.get 0 (21, 1) rfl)
        refine small_v hsz [(21, _)] ⟨some 1, (Op.load 37 (.tmp 0)), 37, "", #[], none⟩ [_, undef] 1 rfl rfl ⟨s21, trivial⟩ rfl rfl hQ0 ?_
        clear hQ0 hH s21
        intro Q hQ
        have y1 := (HB04.out.grow hR).cell (i := 1) rfl
        repeat go_step
        exact hQ _ _ (Grow.refl _) rfl rfl
      refine obls_cons (fun f w' hR hH Q0 hQ0 => ?_) ?_
      · skip
        have s1 := sv_off f [] e1 rfl
        refine small_v hsz [(1, _)] ⟨some 1, (Op.move (.tmp 0)), 3, "", #[], none⟩ [_, undef] 1 rfl rfl ⟨s1, trivial⟩ rfl rfl hQ0 ?_
        clear hQ0 hH s1
        intro Q hQ
        repeat go_step
        exact hQ _ _ (Grow.refl _) rfl rfl
      refine obls_cons (fun f w' hR hH Q0 hQ0 => ?_) ?_
      · skip
        have s22 := (sv_at 22 2 hsz f [(22, 2), (23, 3)] rfl).trans (show f 2 = _ from hH.get 0 (22, 2) rfl)
        have s23 := (sv_at 23 3 hsz f [(22, 2), (23, 3)] rfl).trans (show f 3 = _ from hH.get 1 (23, 3) rfl)
        refine small_v hsz [(22, _), (23, _)] ⟨some 2, (Op.indexAddr 37 (.tmp 0) (.tmp 1)), 0, "", #[], none⟩ [_, _, undef] 2 rfl rfl ⟨s22, s23, trivial⟩ rfl rfl hQ0 ?_
        clear hQ0 hH s22 s23
        intro Q hQ
        repeat go_step
        exact hQ _ _ (Grow.refl _) rfl rfl
      refine obls_cons (fun f w' hR hH Q0 hQ0 => ?_) ?_
      · skip
        have s24 := (sv_at 24 4 hsz f [(24, 4)] rfl).trans (show f 4 = _ from hH.get 0 (24, 4) rfl)
        refine small_v hsz [(24, _)] ⟨some 1, (Op.fieldAddr 48 (.tmp 0) 0), 0, "", #[], none⟩ [_, undef] 1 rfl rfl ⟨s24, trivial⟩ rfl rfl hQ0 ?_
        clear hQ0 hH s24
        intro Q hQ
        repeat go_step
        exact hQ _ _ (Grow.refl _) rfl rfl
      refine obls_cons (fun f w' hR hH Q0 hQ0 => ?_) ?_
      · skip
        have s25 := (sv_at 25 5 hsz f [(25, 5)] rfl).trans (show f 5 = _ from hH.get 0 (25, 5) rfl)
        refine small_v hsz [(25, _)] ⟨some 1, (Op.load 5 (.tmp 0)), 5, "", #[], none⟩ [_, undef] 1 rfl rfl ⟨s25, trivial⟩ rfl rfl hQ0 ?_
        clear hQ0 hH s25
        intro Q hQ
        have y0 := hR.cell (HC.out 0 _ rfl)
        rw [Nat.add_zero] at y0
        repeat go_step
        exact hQ _ _ (Grow.refl _) rfl rfl
      refine obls_cons (fun f w' hR hH Q0 hQ0 => ?_) ?_
      · skip
        have s2 := sv_off f [] e2 rfl
        refine small_v hsz [(2, _)] ⟨some 1, (Op.fieldAddr 40 (.tmp 0) 1), 0, "", #[], none⟩ [_, undef] 1 rfl rfl ⟨s2, trivial⟩ rfl rfl hQ0 ?_
        clear hQ0 hH s2
        intro Q hQ
        repeat go_step
        exact hQ _ _ (Grow.refl _) rfl rfl
      refine obls_cons (fun f w' hR hH Q0 hQ0 => ?_) ?_
      · skip
        have s27 := (sv_at 27 7 hsz f [(27, 7)] rfl).trans (show f 7 = _ from hH.get 0 (27, 7) rfl)
        refine small_v hsz [(27, _)] ⟨some 1, (Op.load 37 (.tmp 0)), 37, "", #[], none⟩ [_, undef] 1 rfl rfl ⟨s27, trivial⟩ rfl rfl hQ0 ?_
        clear hQ0 hH s27
        intro Q hQ
        have y1 := (HB04.out.grow hR).cell (i := 1) rfl
        repeat go_step
        exact hQ _ _ (Grow.refl _) rfl rfl
      refine obls_cons (fun f w' hR hH Q0 hQ0 => ?_) ?_
      · skip
        have s1 := sv_off f [] e1 rfl
        refine small_v hsz [(1, _)] ⟨some 1, (Op.move (.tmp 0)), 3, "", #[], none⟩ [_, undef] 1 rfl rfl ⟨s1, trivial⟩ rfl rfl hQ0 ?_
        clear hQ0 hH s1
        intro Q hQ
        repeat go_step
        exact hQ _ _ (Grow.refl _) rfl rfl
      refine obls_cons (fun f w' hR hH Q0 hQ0 => ?_) ?_
      · skip
        have s28 := (sv_at 28 8 hsz f [(28, 8), (29, 9)] rfl).trans (show f 8 = _ from hH.get 0 (28, 8) rfl)
        have s29 := (sv_at 29 9 hsz f [(28, 8), (29, 9)] rfl).trans (show f 9 = _ from hH.get 1 (29, 9) rfl)
        refine small_v hsz [(28, _), (29, _)] ⟨some 2, (Op.indexAddr 37 (.tmp 0) (.tmp 1)), 0, "", #[], none⟩ [_, _, undef] 2 rfl rfl ⟨s28, s29, trivial⟩ rfl rfl hQ0 ?_
        clear hQ0 hH s28 s29
        intro Q hQ
        repeat go_step
        exact hQ _ _ (Grow.refl _) rfl rfl
      refine obls_cons (fun f w' hR hH Q0 hQ0 => ?_) ?_
      · skip
        have s30 := (sv_at 30 10 hsz f [(30, 10)] rfl).trans (show f 10 = _ from hH.get 0 (30, 10) rfl)
        refine small_v hsz [(30, _)] ⟨some 1, (Op.fieldAddr 48 (.tmp 0) 1), 0, "", #[], none⟩ [_, undef] 1 rfl rfl ⟨s30, trivial⟩ rfl rfl hQ0 ?_
        clear hQ0 hH s30
        intro Q hQ
        repeat go_step
        exact hQ _ _ (Grow.refl _) rfl rfl
      refine obls_cons (fun f w' hR hH Q0 hQ0 => ?_) ?_
      · skip
        have s31 := (sv_at 31 11 hsz f [(31, 11)] rfl).trans (show f 11 = _ from hH.get 0 (31, 11) rfl)
        refine small_v hsz [(31, _)] ⟨some 1, (Op.load 5 (.tmp 0)), 5, "", #[], none⟩ [_, undef] 1 rfl rfl ⟨s31, trivial⟩ rfl rfl hQ0 ?_
        clear hQ0 hH s31
        intro Q hQ
        have y0 := hR.cell (HC.out 1 _ rfl)
        repeat go_step
        exact hQ _ _ (Grow.refl _) rfl rfl
      refine obls_cons (fun f w' hR hH Q0 hQ0 => ?_) ?_
      · skip
        have s20 := (sv_at 20 0 hsz f [(20, 0), (26, 6), (32, 12)] rfl).trans (show f 0 = _ from hH.get 0 (20, 0) rfl)
        have s26 := (sv_at 26 6 hsz f [(20, 0), (26, 6), (32, 12)] rfl).trans (show f 6 = _ from hH.get 1 (26, 6) rfl)
        have s32 := (sv_at 32 12 hsz f [(20, 0), (26, 6), (32, 12)] rfl).trans (show f 12 = _ from hH.get 2 (32, 12) rfl)
        refine small_v hsz [(20, _), (26, _), (32, _)] ⟨some 3, (Op.call (Call.mk (Callee.value (Operand.func 20)) #[(.tmp 0), (.tmp 1), (.tmp 2)] #[40, 5, 5])), 4, "", #[], none⟩ [_, _, _, undef] 3 rfl rfl ⟨s20, s26, s32, trivial⟩ rfl (ren_call rfl rfl) hQ0 ?_
        clear hQ0 hH s20 s26 s32
        intro Q hQ
        go_wp2_with (go_at_call 20; refine ((HWH.out w' hR)).mono ?_; rintro e w1 ⟨rfl, hg1⟩)
        exact hQ _ _ hg1 rfl rfl
      refine obls_cons (fun f w' hR hH Q0 hQ0 => ?_) ?_
      · skip
        have s33 := (sv_at 33 13 hsz f [(33, 13)] rfl).trans (show f 13 = _ from hH.get 0 (33, 13) rfl)
        refine small_v hsz [(33, _)] ⟨some 1, (Op.unOp UnOp.not 4 (.tmp 0)), 4, "", #[], none⟩ [_, undef] 1 rfl rfl ⟨s33, trivial⟩ rfl rfl hQ0 ?_
        clear hQ0 hH s33
        intro Q hQ
        repeat go_step
        exact hQ _ _ (Grow.refl _) rfl rfl
      exact obls_nil
    case mono => exact ⟨Mono.veq _, Mono.veq _, Mono.veq _, Mono.veq _, Mono.veq _, Mono.veq _, Mono.veq _, Mono.veq _, Mono.veq _, Mono.veq _, Mono.veq _, Mono.veq _, Mono.veq _, Mono.veq _, Mono.veq _, trivial⟩
    case tail =>
      intro f w' hR hH
      have q14 := hH.get 14 (34, 14) rfl
      clear hH
      refine wpList_merge (idx := [none, none, none, none, none, none, none, none, none, none, none, none, none, none, none, none, none, none, none, none, some 0, some 1, some 2, some 3, some 4, some 5, some 6, some 7, some 8, some 9, some 10, some 11, some 12, some 13, some 14, none, none, none, none, none, none, none, none]) (by kernel_rfl) ?_; show wpList _ _ _ [] ⟨#[_, _, _, _, _, _, _, _, _, _, _, _, _, _, _, _, _, _, _, _, f 0, f 1, f 2, f 3, f 4, f 5, f 6, f 7, f 8, f 9, f 10, f 11, f 12, f 13, f 14, _, _, _, _, _, _, _, _], _⟩ _
      rw [show f 14 = _ from q14]
      clear q14
      obtain ⟨W6, hW6⟩ : ∃ W, W = w' := ⟨_, rfl⟩
      rw [← hW6] at hR ⊢
      clear hW6
      have hb14 := HB14.out.grow hR
      have hb24 := HB24.out.grow hR
      have hb74 := HB74.out.grow hR
      have hb04 := HB04.out.grow hR
      have v0 := hb74.cell (i := 0) rfl
      have v1 := hb74.cell (i := 1) rfl
      have v2 := hb74.cell (i := 2) rfl
      have HR6 := Lib.hid (HR5.out.grow hR)
      have HG6 := Lib.hid (HG4.out.trans hR)
      have HC6 := Lib.hid (fun j u hu => hR.cell (HC.out j u hu))
      have HB14 := Lib.hid hb14
      have HB24 := Lib.hid hb24
      have HB74 := Lib.hid hb74
      have HB04 := Lib.hid hb04
      clear hb14 hb24 hb74 hb04 y0 y1 y2 hR HR5 HC HWH
      cases q
      · go_wp2_with (first | (refine store_blk rfl _ _ _ rfl (w.heap.size + 1) [.int .i64 (n : Int), .slice B1 m1 d1, .slice B2 m2 d2] rfl rfl _ _ HB14.out (by rw [sizeR]; rfl) rfl rfl ?_) | (refine store_blk rfl _ _ _ rfl (w.heap.size + 1 + 1) zP rfl rfl _ _ (HB24.out.farRow (by omega) _) (by rw [sizeP]; rfl) rfl rfl ?_))
        refine ret_bbt rfl (w.heap.size + 1) (w.heap.size + 1 + 1) _ _ [.int .i64 (n : Int), .slice B1 m1 d1, .slice B2 m2 d2] zP _ _ (.int .i64 13) rfl ((HB14.out.setRow _).farRow (by omega) _) undR rfl (by rw [sizeR]; rfl) rfl ((HB24.out.farRow (by omega) _).setRow _) undP rfl (by rw [sizeP]; rfl) rfl rfl ?_
        have hg := Grow.setRow (Grow.setRow HG6.out (g := w.heap.size + 1) (by omega) [.int .i64 (n : Int), .slice B1 m1 d1, .slice B2 m2 d2].toArray) (g := w.heap.size + 1 + 1) (by omega) zP.toArray
        rw [HF.out]
        exact ⟨⟨_, _, _, _, _, _, rfl, (HR6.out.away HB14.out _).awayOff HOF2.out _, fun g hg1 hg2 => HOF.out g (by have := HS.out; omega) hg2⟩, hg⟩
      · go_wp2_with fail
        have hdr : PhT W6 w.heap.size (w.heap.size + 1) bb (off + k * 4) [.int .i64 (n : Int), .slice (some ⟨bb, off, none⟩) l c1, .slice A2 m c2] p [.int .i64 (n : Int), .slice B1 m1 d1, .slice B2 m2 d2] 0 W6.drew := PhT.start ((HB04.out.grow (Grow.drew _))) (fun j u hu => (Grow.drew _).cell (HC6.out j u hu)) (Grow.drew _)
        apply (fun (v0 v1 v2 v3 v4 v5 : Value) mono draw obl tail => wp_region_piv (I := PhT W6 w.heap.size (w.heap.size + 1) bb (off + k * 4) [.int .i64 (n : Int), .slice (some ⟨bb, off, none⟩) l c1, .slice A2 m c2] p [.int .i64 (n : Int), .slice B1 m1 d1, .slice B2 m2 d2]) (G := Grow) (Rp := (fun _ _ _ => True)) (Φ := phi2 [veq2 v0, veq2 v1, veq2 v2, veq2 v3, veq2 v4, veq2 v5, (veq2 undef)]) (m := 7) (ps := [6]) (qs := [(0, 0, false), (0, 1, false), (0, 1, false), (0, 1, false), (0, 1, false), (0, 1, false), (0, 0, true)]) (dls := [[], [], [(38, 1)], [], [(39, 2), (40, 3)], [(41, 4)], [(37, 0)]]) (ds := [37, 38, 39, 40, 41, 42, 50]) (by kernel_rfl) (by kernel_rfl) (by kernel_rfl) (by decide) rfl rfl draw (mono2_phi mono) (piv2_phi mono) obl tail)
        case obl =>
          refine obls2_cons (fun b hb1 hb2 f w' hI hH Q hQ => ?_) ?_
          · skip
            obtain rfl : b = 0 := by omega
            clear hb1 hb2
            clear hH
            refine wpList_view ?_; show wpList _ _ _ [_] ⟨#[_, _, _, _, _, _, _, _, _, _, _, _, _, _, _, _, _, _, _, _, _, _, _, _, _, _, _, _, _, _, _, _, _, _, _, _, _, _, _, _, _, _, _], _⟩ _
            have y0 := (HB74.out.grow (hI.2.2.1 rfl)).cell (i := 0) rfl
            have y1 := (HB74.out.grow (hI.2.2.1 rfl)).cell (i := 1) rfl
            have y2 := (HB74.out.grow (hI.2.2.1 rfl)).cell (i := 2) rfl
            repeat (first | go_guarded | go_step)
            exact hQ _ _ hI (Grow.refl _) rfl rfl
          refine obls2_cons (fun b hb1 hb2 f w' hI hH Q hQ => ?_) ?_
          · skip
            clear hH
            refine wpList_view ?_; show wpList _ _ _ [_] ⟨#[_, _, _, _, _, _, _, _, _, _, _, _, _, _, _, _, _, _, _, _, _, _, _, _, _, _, _, _, _, _, _, _, _, _, _, _, _, _, _, _, _, _, _], _⟩ _
            repeat (first | go_guarded | go_step)
            exact hQ _ _ hI (Grow.refl _) rfl rfl
          refine obls2_cons (fun b hb1 hb2 f w' hI hH Q hQ => ?_) ?_
          · skip
            have h1 := hH.get 0 (38, 1) rfl
            clear hH
            refine wpList_view ?_; show wpList _ _ _ [_] ⟨#[_, _, _, _, _, _, _, _, _, _, _, _, _, _, _, _, _, _, _, _, _, _, _, _, _, _, _, _, _, _, _, _, _, _, _, _, _, _, f 1, _, _, _, _], _⟩ _
            rw [show f 1 = _ from h1]
            clear h1
            have y1 := hI.1.cell (i := 1) rfl
            repeat (first | go_guarded | go_step)
            exact hQ _ _ hI (Grow.refl _) rfl rfl
          refine obls2_cons (fun b hb1 hb2 f w' hI hH Q hQ => ?_) ?_
          · skip
            clear hH
            refine wpList_view ?_; show wpList _ _ _ [_] ⟨#[_, _, _, _, _, _, _, _, _, _, _, _, _, _, _, _, _, _, _, _, _, _, _, _, _, _, _, _, _, _, _, _, _, _, _, _, _, _, _, _, _, _, _], _⟩ _
            repeat (first | go_guarded | go_step)
            exact hQ _ _ hI (Grow.refl _) rfl rfl
          refine obls2_cons (fun b hb1 hb2 f w' hI hH Q hQ => ?_) ?_
          · skip
            have h2 := hH.get 0 (39, 2) rfl
            have h3 := hH.get 1 (40, 3) rfl
            clear hH
            refine wpList_view ?_; show wpList _ _ _ [_] ⟨#[_, _, _, _, _, _, _, _, _, _, _, _, _, _, _, _, _, _, _, _, _, _, _, _, _, _, _, _, _, _, _, _, _, _, _, _, _, _, _, f 2, f 3, _, _], _⟩ _
            rw [show f 2 = _ from h2]
            rw [show f 3 = _ from h3]
            clear h2 h3
            repeat (first | go_guarded | go_step)
            exact hQ _ _ hI (Grow.refl _) rfl rfl
          refine obls2_cons (fun b hb1 hb2 f w' hI hH Q hQ => ?_) ?_
          · skip
            have h4 := hH.get 0 (41, 4) rfl
            clear hH
            refine wpList_view ?_; show wpList _ _ _ [_] ⟨#[_, _, _, _, _, _, _, _, _, _, _, _, _, _, _, _, _, _, _, _, _, _, _, _, _, _, _, _, _, _, _, _, _, _, _, _, _, _, _, _, _, f 4, _], _⟩ _
            rw [show f 4 = _ from h4]
            clear h4
            have y0 := hI.2.1 0 _ rfl
            have y1 := hI.2.1 1 _ rfl
            have y2 := hI.2.1 2 _ rfl
            have y3 := hI.2.1 3 _ rfl
            rw [Nat.add_zero] at y0
            repeat (first | go_guarded | go_step)
            exact hQ _ _ hI (Grow.refl _) rfl rfl
          refine oblsP_cons (fun f w' hI hH Q hQ => ?_) ?_
          · skip
            have h0 := hH.get 0 (37, 0) rfl
            clear hH
            refine wpList_view ?_; show wpList _ _ _ [_] ⟨#[_, _, _, _, _, _, _, _, _, _, _, _, _, _, _, _, _, _, _, _, _, _, _, _, _, _, _, _, _, _, _, _, _, _, _, _, _, f 0, _, _, _, _, _], _⟩ _
            rw [show f 0 = _ from h0]
            clear h0
            have hb := HB14.out.grow (hI.2.2.1 rfl)
            have HI := Lib.hid hI
            clear hI
            go_wp2_with (refine store_blk rfl _ _ _ rfl (w.heap.size + 1) [.int .i64 (n : Int), .slice B1 m1 d1, .slice B2 m2 d2] rfl rfl _ _ hb (by rw [sizeR]; rfl) rfl rfl ?_)
            exact hQ _ _ (HI.out.next (by omega) (by have := HLT.out; omega)) trivial rfl rfl
          exact obls2_nil
        case draw =>
          exact hdr
        case mono => exact ⟨Mono2.veq _, Mono2.veq _, Mono2.veq _, Mono2.veq _, Mono2.veq _, Mono2.veq _, Mono2.veq _, trivial⟩
        case tail =>
          intro f w' hI hH
          have q5 := hH.get 5 (42, 5) rfl
          clear hH
          refine wpList_merge (idx := [none, none, none, none, none, none, none, none, none, none, none, none, none, none, none, none, none, none, none, none, none, none, none, none, none, none, none, none, none, none, none, none, none, none, none, none, none, some 0, some 1, some 2, some 3, some 4, some 5]) (by kernel_rfl) ?_; show wpList _ _ _ [_, _] ⟨#[_, _, _, _, _, _, _, _, _, _, _, _, _, _, _, _, _, _, _, _, _, _, _, _, _, _, _, _, _, _, _, _, _, _, _, _, _, f 0, f 1, f 2, f 3, f 4, f 5], _⟩ _
          rw [show f 5 = _ from q5]
          clear q5
          obtain ⟨w9, hg9, hg10⟩ := hI.2.2.2 rfl
          have hg69 := Grow.setRow (HG6.out.trans hg9) (g := w.heap.size + 1) (by omega) [.int .i64 (n : Int), .slice B1 m1 d1, .slice B2 m2 d2].toArray
          have HR7 := Lib.hid (((HR6.out.grow hg9).away (HB14.out.grow hg9) [.int .i64 (n : Int), .slice B1 m1 d1, .slice B2 m2 d2].toArray).grow hg10)
          have HG7 := Lib.hid (hg69.trans hg10)
          have HB14' := Lib.hid (((HB14.out.grow hg9).setRow [.int .i64 (n : Int), .slice B1 m1 d1, .slice B2 m2 d2]).grow hg10)
          have HB24' := Lib.hid (((HB24.out.grow hg9).farRow (by omega) [.int .i64 (n : Int), .slice B1 m1 d1, .slice B2 m2 d2].toArray).grow hg10)
          clear hI hg9 hg10 hg69 v0 v1 v2
          go_wp2_with (first | (refine store_blk rfl _ _ _ rfl (w.heap.size + 1 + 1) (rrow p) rfl rfl _ _ HB24'.out (by rw [sizeP]; rfl) rfl rfl ?_))
          refine ret_bbt rfl (w.heap.size + 1) (w.heap.size + 1 + 1) _ _ [.int .i64 (n : Int), .slice B1 m1 d1, .slice B2 m2 d2] (rrow p) _ _ (.int .i64 0) rfl (HB14'.out.farRow (by omega) _) undR rfl (by rw [sizeR]; rfl) rfl (HB24'.out.setRow _) undP rfl (by rw [sizeP]; rfl) rfl rfl ?_
          have hg := Grow.setRow HG7.out (g := w.heap.size + 1 + 1) (by omega) (rrow p).toArray
          rw [HF.out]
          exact ⟨⟨_, _, _, _, _, _, rfl, HR7.out.awayOff HOF2.out _, fun g hg1 hg2 => HOF.out g (by have := HS.out; omega) hg2⟩, hg⟩
end Go.Proofs.Ytmekdhlcflielaa.ntL
