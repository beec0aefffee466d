/- Tags: are tags the document's? -/
import Derived.Test.YthclgmpjmhacdaaTgZ
import Derived.Test.YthclgmpjmhacdaaTgR2
namespace Go.Proofs.Ythclgmpjmhacdaa.tg
open Go Go.RowKit Go.Par Go.Kit

/-- all tags, as rows -/
theorem allR {w : World} {B g bs bn n : Nat} {L : List Tag} (h : TagI w B g bs bn n L) (hn : n ≤ 1000000) : Calls Try.prog 25 #[.pointer (some ⟨g, 0, none⟩)] w fun e w' => ∃ A c, e = .returned (.slice A L.length c) ∧ Row w' A (L.length * 65) (trows L) ∧ Grow w w' := by
  refine (all_any h hn).mono ?_
  rintro e w1 ⟨v, rfl, ho, hg⟩
  obtain ⟨A, c, rfl, -, -, hr⟩ := own_form ho
  exact ⟨A, c, rfl, hr, hg⟩
theorem same_nil (w : World) (v : Value) (hr : RT w v []) : Calls Try.prog 9 #[.pointer none, v] w fun e w' => e = .returned (.bool true) ∧ Grow w w' := by
  obtain ⟨A, c, rfl, -, -, -⟩ := hr
  rw [show (List.length ([] : List Tag)) = 0 from rfl]
  have HAN := Lib.hid (all_nil w)
  go_enter Try.func9, Try.ntmps9
  go_wp2_with fail
  refine HAN.out.mono ?_
  rintro e w1 ⟨rfl, hg⟩
  have HG := Lib.hid hg
  clear hg HAN
  go_wp2_with fail
  go_loopw [6] (fun i' wr => i' = .int .i64 0 ∧ w1 = wr) (fun _ _ => 0)
  case atStart => exact ⟨rfl, rfl⟩
  case round =>
    obtain ⟨rfl, rfl⟩ := hrel
    go_wp2_with fail
    go_ret
    exact ⟨rfl, HG.out⟩
set_option maxRecDepth 100000 in
set_option maxHeartbeats 2000000 in
theorem same_any {w : World} {B g bs bn n : Nat} {L : List Tag} (h : TagI w B g bs bn n L) (hn : n ≤ 1000000) (v : Value) (hr : RT w v L) :
    Calls Try.prog 9 #[.pointer (some ⟨g, 0, none⟩), v] w fun e w' => e = .returned (.bool true) ∧ Grow w w' := by
  obtain ⟨A2, c2, rfl, -, -, hrow2⟩ := hr
  have HAL := Lib.hid (allR h hn)
  have HV : Hid (∀ t ∈ L, VecOk t.2) := Lib.hid fun t ht => (h.ok.ok t ht).2.1
  have hl32 := h.ok.len
  have HROW2 := Lib.hid hrow2
  obtain ⟨l, hl⟩ : ∃ l, l = L.length := ⟨_, rfl⟩
  rw [← hl] at HAL hl32 ⊢
  have HL := Lib.hid hl
  clear h hn hrow2 hl
  go_enter Try.func9, Try.ntmps9
  go_wp2_with fail
  refine HAL.out.mono ?_
  rintro e w1 ⟨A1, c1, rfl, hrow1, hg⟩
  have HROW1 := Lib.hid hrow1
  have HG := Lib.hid hg
  have te3 : ((l : Int) == (l : Int)) = true := beq_self_eq_true _
  clear hg HAL hrow1
  go_wp2_with fail
  clear te3
  go_loopw [6] (fun i' wr => ∃ k : Nat, k ≤ l ∧ i' = .int .i64 (k : Int) ∧ Hid (Grow w1 wr)) (fun i' _ => l - (intOf i').toNat)
  case atStart => exact ⟨0, by omega, rfl, Lib.hid (Grow.refl _)⟩
  case round =>
    obtain ⟨k, hk, rfl, HGR⟩ := hrel
    obtain ⟨wa, rfl⟩ : ∃ wa, wa = wr := ⟨_, rfl⟩
    by_cases hlt : k < l
    · have t1 : decide (k < l) = true := decide_eq_true hlt
      have t1' : decide ((k : Int) < (l : Int)) = true := decide_eq_true (by omega)
      obtain ⟨t, ht⟩ : ∃ t, L[k]? = some t := ⟨_, List.getElem?_eq_getElem (by rw [← HL.out]; exact hlt)⟩
      have hvt := HV.out t (List.mem_of_getElem? ht)
      have r1 := HROW1.out
      rw [HL.out] at r1
      obtain ⟨b1, off1, rfl, hc1⟩ := rt_at (r1.grow HGR.out) HV.out ht
      obtain ⟨b2, off2, rfl, hc2⟩ := rt_at ((HROW2.out.grow HG.out).grow HGR.out) HV.out ht
      have hio := ints_ok hvt
      have heq : ∀ w1, (Op.equalIn 10000 TV (.agg (ints .u16 t.2).toArray) (.agg (ints .u16 t.2).toArray)).run Try.prog w1 = .ok true w1 := fun w1 => by rw [eqV w1 _ _ hvt hvt]; simp
      have y1 : wa.cell? ⟨b1, off1 + k * 65, none⟩ = some (.string (str t.1)) := hc1 0 _ rfl
      have y2 : wa.cell? ⟨b2, off2 + k * 65, none⟩ = some (.string (str t.1)) := hc2 0 _ rfl
      have hcv1 : ∀ j u, (ints .u16 t.2)[j]? = some u → wa.cell? ⟨b1, off1 + k * 65 + 1 + j, none⟩ = some u := fun j u hu => by
        rw [Nat.add_assoc (off1 + k * 65), Nat.add_comm 1 j]
        exact hc1 (j + 1) u (trow_vec j u hu)
      have hcv2 : ∀ j u, (ints .u16 t.2)[j]? = some u → wa.cell? ⟨b2, off2 + k * 65 + 1 + j, none⟩ = some u := fun j u hu => by
        rw [Nat.add_assoc (off2 + k * 65), Nat.add_comm 1 j]
        exact hc2 (j + 1) u (trow_vec j u hu)
      obtain ⟨cs, hcs⟩ : ∃ cs, cs = ints .u16 t.2 := ⟨_, rfl⟩
      obtain ⟨q, hq⟩ : ∃ q, q = str t.1 := ⟨_, rfl⟩
      rw [← hcs] at hio heq hcv1 hcv2
      rw [← hq] at y1 y2
      have te : (q.toList == q.toList) = true := beq_self_eq_true _
      have te2 : (q.toList != q.toList) = false := by unfold bne; rw [te]; rfl
      have HIO := Lib.hid hio
      have HY1 := Lib.hid y1
      have HY2 := Lib.hid y2
      have HC1 := Lib.hid hcv1
      have HC2 := Lib.hid hcv2
      have HEQ := Lib.hid heq
      have HK : Hid (k < l ∧ l ≤ 32) := Lib.hid ⟨hlt, hl32⟩
      clear hvt ht r1 hc1 hc2 hio heq y1 y2 hcv1 hcv2 hcs hq hk
      go_wp2_with fail
      apply (fun (v0 v1 v2 v3 v4 v5 v6 v7 v8 v9 v10 v11 v12 v13 v14 v15 v16 v17 v18 v19 v20 v21 v22 v23 : Value) mono obl tail => wp_region_par (R := Grow) (Φ := phi [veq v0, veq v1, veq v2, veq v3, veq v4, veq v5, veq v6, veq v7, veq v8, veq v9, veq v10, veq v11, veq v12, veq v13, veq v14, veq v15, veq v16, veq v17, veq v18, veq v19, veq v20, veq v21, veq v22, veq v23]) (m := 24) (dls := [[], [], [(20, 0), (21, 1)], [(22, 2)], [(23, 3)], [], [], [(25, 5), (26, 6)], [(27, 7)], [(28, 8)], [(24, 4), (29, 9)], [(30, 10)], [(31, 11)], [(31, 11)], [(32, 12), (33, 13), (31, 11)], [(34, 14), (31, 11)], [(35, 15), (31, 11)], [(31, 11)], [(31, 11)], [(37, 17), (38, 18), (31, 11)], [(39, 19), (31, 11)], [(40, 20), (31, 11)], [(36, 16), (41, 21), (31, 11)], [(31, 11), (42, 22)]]) (ds := [20, 21, 22, 23, 24, 25, 26, 27, 28, 29, 30, 31, 32, 33, 34, 35, 36, 37, 38, 39, 40, 41, 42, 43]) (by kernel_rfl) (by kernel_rfl) (by decide) rfl (Grow.drew _) (fun _ _ _ => Grow.trans) (mono_phi mono) obl tail)
      case obl =>
        refine obls_frame (fun a1 ha => ?_)
        have hsz := rd_size (n := 44) ha rfl
        have e5 := rd_slot 5 ha rfl
        have e6 := rd_slot 6 ha rfl
        have e1 := rd_slot 1 ha rfl
        clear ha
        refine obls_cons (fun f w' hR hH Q0 hQ0 => ?_) ?_
        · skip
          have s5 := sv_off f [] e5 rfl
          refine small_v hsz [(5, _)] ⟨some 1, (Op.move (.tmp 0)), 55, "", #[], none⟩ [_, undef] 1 rfl rfl ⟨s5, trivial⟩ rfl rfl hQ0 ?_
          clear hQ0 hH s5
          intro Q hQ
          repeat go_step
          exact hQ _ _ (Grow.refl _) rfl rfl
        refine obls_cons (fun f w' hR hH Q0 hQ0 => ?_) ?_
        · skip
          have s6 := sv_off f [] e6 rfl
          refine small_v hsz [(6, _)] ⟨some 1, (Op.move (.tmp 0)), 3, "", #[], none⟩ [_, undef] 1 rfl rfl ⟨s6, trivial⟩ rfl rfl hQ0 ?_
          clear hQ0 hH s6
          intro Q hQ
          repeat go_step
          exact hQ _ _ (Grow.refl _) rfl rfl
        refine obls_cons (fun f w' hR hH Q0 hQ0 => ?_) ?_
        · skip
          have s20 := (sv_at 20 0 hsz f [(20, 0), (21, 1)] rfl).trans (show f 0 = _ from hH.get 0 (20, 0) rfl)
          have s21 := (sv_at 21 1 hsz f [(20, 0), (21, 1)] rfl).trans (show f 1 = _ from hH.get 1 (21, 1) rfl)
          refine small_v hsz [(20, _), (21, _)] ⟨some 2, (Op.indexAddr 55 (.tmp 0) (.tmp 1)), 0, "", #[], none⟩ [_, _, undef] 2 rfl rfl ⟨s20, s21, trivial⟩ rfl rfl hQ0 ?_
          clear hQ0 hH s20 s21
          intro Q hQ
          repeat go_step
          exact hQ _ _ (Grow.refl _) rfl rfl
        refine obls_cons (fun f w' hR hH Q0 hQ0 => ?_) ?_
        · skip
          have s22 := (sv_at 22 2 hsz f [(22, 2)] rfl).trans (show f 2 = _ from hH.get 0 (22, 2) rfl)
          refine small_v hsz [(22, _)] ⟨some 1, (Op.fieldAddr 72 (.tmp 0) 0), 0, "", #[], none⟩ [_, undef] 1 rfl rfl ⟨s22, trivial⟩ rfl rfl hQ0 ?_
          clear hQ0 hH s22
          intro Q hQ
          repeat go_step
          exact hQ _ _ (Grow.refl _) rfl rfl
        refine obls_cons (fun f w' hR hH Q0 hQ0 => ?_) ?_
        · skip
          have s23 := (sv_at 23 3 hsz f [(23, 3)] rfl).trans (show f 3 = _ from hH.get 0 (23, 3) rfl)
          refine small_v hsz [(23, _)] ⟨some 1, (Op.load 9 (.tmp 0)), 9, "", #[], none⟩ [_, undef] 1 rfl rfl ⟨s23, trivial⟩ rfl rfl hQ0 ?_
          clear hQ0 hH s23
          intro Q hQ
          have z1 := hR.cell HY1.out
          repeat go_step
          exact hQ _ _ (Grow.refl _) rfl rfl
        refine obls_cons (fun f w' hR hH Q0 hQ0 => ?_) ?_
        · skip
          have s1 := sv_off f [] e1 rfl
          refine small_v hsz [(1, _)] ⟨some 1, (Op.move (.tmp 0)), 28, "", #[], none⟩ [_, undef] 1 rfl rfl ⟨s1, trivial⟩ rfl rfl hQ0 ?_
          clear hQ0 hH s1
          intro Q hQ
          repeat go_step
          exact hQ _ _ (Grow.refl _) rfl rfl
        refine obls_cons (fun f w' hR hH Q0 hQ0 => ?_) ?_
        · skip
          have s6 := sv_off f [] e6 rfl
          refine small_v hsz [(6, _)] ⟨some 1, (Op.move (.tmp 0)), 3, "", #[], none⟩ [_, undef] 1 rfl rfl ⟨s6, trivial⟩ rfl rfl hQ0 ?_
          clear hQ0 hH s6
          intro Q hQ
          repeat go_step
          exact hQ _ _ (Grow.refl _) rfl rfl
        refine obls_cons (fun f w' hR hH Q0 hQ0 => ?_) ?_
        · skip
          have s25 := (sv_at 25 5 hsz f [(25, 5), (26, 6)] rfl).trans (show f 5 = _ from hH.get 0 (25, 5) rfl)
          have s26 := (sv_at 26 6 hsz f [(25, 5), (26, 6)] rfl).trans (show f 6 = _ from hH.get 1 (26, 6) rfl)
          refine small_v hsz [(25, _), (26, _)] ⟨some 2, (Op.indexAddr 28 (.tmp 0) (.tmp 1)), 0, "", #[], none⟩ [_, _, undef] 2 rfl rfl ⟨s25, s26, trivial⟩ rfl rfl hQ0 ?_
          clear hQ0 hH s25 s26
          intro Q hQ
          repeat go_step
          exact hQ _ _ (Grow.refl _) rfl rfl
        refine obls_cons (fun f w' hR hH Q0 hQ0 => ?_) ?_
        · skip
          have s27 := (sv_at 27 7 hsz f [(27, 7)] rfl).trans (show f 7 = _ from hH.get 0 (27, 7) rfl)
          refine small_v hsz [(27, _)] ⟨some 1, (Op.fieldAddr 68 (.tmp 0) 0), 0, "", #[], none⟩ [_, undef] 1 rfl rfl ⟨s27, trivial⟩ rfl rfl hQ0 ?_
          clear hQ0 hH s27
          intro Q hQ
          repeat go_step
          exact hQ _ _ (Grow.refl _) rfl rfl
        refine obls_cons (fun f w' hR hH Q0 hQ0 => ?_) ?_
        · skip
          have s28 := (sv_at 28 8 hsz f [(28, 8)] rfl).trans (show f 8 = _ from hH.get 0 (28, 8) rfl)
          refine small_v hsz [(28, _)] ⟨some 1, (Op.load 9 (.tmp 0)), 9, "", #[], none⟩ [_, undef] 1 rfl rfl ⟨s28, trivial⟩ rfl rfl hQ0 ?_
          clear hQ0 hH s28
          intro Q hQ
          have z2 := hR.cell HY2.out
          repeat go_step
          exact hQ _ _ (Grow.refl _) rfl rfl
        refine obls_cons (fun f w' hR hH Q0 hQ0 => ?_) ?_
        · skip
          have s24 := (sv_at 24 4 hsz f [(24, 4), (29, 9)] rfl).trans (show f 4 = _ from hH.get 0 (24, 4) rfl)
          have s29 := (sv_at 29 9 hsz f [(24, 4), (29, 9)] rfl).trans (show f 9 = _ from hH.get 1 (29, 9) rfl)
          refine small_v hsz [(24, _), (29, _)] ⟨some 2, (Op.binOp BinOp.neq 9 (.tmp 0) (.tmp 1) 9), 4, "", #[], none⟩ [_, _, undef] 2 rfl rfl ⟨s24, s29, trivial⟩ rfl rfl hQ0 ?_
          clear hQ0 hH s24 s29
          intro Q hQ
          repeat go_step
          exact hQ _ _ (Grow.refl _) rfl rfl
        refine obls_cons (fun f w' hR hH Q0 hQ0 => ?_) ?_
        · skip
          have s30 := (sv_at 30 10 hsz f [(30, 10)] rfl).trans (show f 10 = _ from hH.get 0 (30, 10) rfl)
          refine small_v hsz [(30, _)] ⟨some 1, (Op.move (.tmp 0)), 4, "", #[], none⟩ [_, undef] 1 rfl rfl ⟨s30, trivial⟩ rfl rfl hQ0 ?_
          clear hQ0 hH s30
          intro Q hQ
          repeat go_step
          exact hQ _ _ (Grow.refl _) rfl rfl
        refine obls_cons (fun f w' hR hH Q0 hQ0 => ?_) ?_
        · skip
          have s5 := sv_off f [(31, 11)] e5 rfl
          have s31 := (sv_at 31 11 hsz f [(31, 11)] rfl).trans (show f 11 = _ from hH.get 0 (31, 11) rfl)
          first
            | exact skip_v hsz rfl ((wanted_some (b := true) rfl rfl s31).trans rfl) hQ0 (Grow.refl _) rfl
            | exact skip_v hsz rfl (wanted_undef rfl rfl s31) hQ0 (Grow.refl _) rfl
            | refine small_v hsz [(5, _)] ⟨some 1, (Op.move (.tmp 0)), 55, "", #[], none⟩ [_, undef] 1 rfl ((wanted_some (b := false) rfl rfl s31).trans rfl) ⟨s5, trivial⟩ rfl rfl hQ0 ?_
              clear hQ0 hH s5 s31
              intro Q hQ
              repeat go_step
              exact hQ _ _ (Grow.refl _) rfl rfl
        refine obls_cons (fun f w' hR hH Q0 hQ0 => ?_) ?_
        · skip
          have s6 := sv_off f [(31, 11)] e6 rfl
          have s31 := (sv_at 31 11 hsz f [(31, 11)] rfl).trans (show f 11 = _ from hH.get 0 (31, 11) rfl)
          first
            | exact skip_v hsz rfl ((wanted_some (b := true) rfl rfl s31).trans rfl) hQ0 (Grow.refl _) rfl
            | exact skip_v hsz rfl (wanted_undef rfl rfl s31) hQ0 (Grow.refl _) rfl
            | refine small_v hsz [(6, _)] ⟨some 1, (Op.move (.tmp 0)), 3, "", #[], none⟩ [_, undef] 1 rfl ((wanted_some (b := false) rfl rfl s31).trans rfl) ⟨s6, trivial⟩ rfl rfl hQ0 ?_
              clear hQ0 hH s6 s31
              intro Q hQ
              repeat go_step
              exact hQ _ _ (Grow.refl _) rfl rfl
        refine obls_cons (fun f w' hR hH Q0 hQ0 => ?_) ?_
        · skip
          have s32 := (sv_at 32 12 hsz f [(32, 12), (33, 13), (31, 11)] rfl).trans (show f 12 = _ from hH.get 0 (32, 12) rfl)
          have s33 := (sv_at 33 13 hsz f [(32, 12), (33, 13), (31, 11)] rfl).trans (show f 13 = _ from hH.get 1 (33, 13) rfl)
          have s31 := (sv_at 31 11 hsz f [(32, 12), (33, 13), (31, 11)] rfl).trans (show f 11 = _ from hH.get 2 (31, 11) rfl)
          first
            | exact skip_v hsz rfl ((wanted_some (b := true) rfl rfl s31).trans rfl) hQ0 (Grow.refl _) rfl
            | exact skip_v hsz rfl (wanted_undef rfl rfl s31) hQ0 (Grow.refl _) rfl
            | refine small_v hsz [(32, _), (33, _)] ⟨some 2, (Op.indexAddr 55 (.tmp 0) (.tmp 1)), 0, "", #[], none⟩ [_, _, undef] 2 rfl ((wanted_some (b := false) rfl rfl s31).trans rfl) ⟨s32, s33, trivial⟩ rfl rfl hQ0 ?_
              clear hQ0 hH s32 s33 s31
              intro Q hQ
              repeat go_step
              exact hQ _ _ (Grow.refl _) rfl rfl
        refine obls_cons (fun f w' hR hH Q0 hQ0 => ?_) ?_
        · skip
          have s34 := (sv_at 34 14 hsz f [(34, 14), (31, 11)] rfl).trans (show f 14 = _ from hH.get 0 (34, 14) rfl)
          have s31 := (sv_at 31 11 hsz f [(34, 14), (31, 11)] rfl).trans (show f 11 = _ from hH.get 1 (31, 11) rfl)
          first
            | exact skip_v hsz rfl ((wanted_some (b := true) rfl rfl s31).trans rfl) hQ0 (Grow.refl _) rfl
            | exact skip_v hsz rfl (wanted_undef rfl rfl s31) hQ0 (Grow.refl _) rfl
            | refine small_v hsz [(34, _)] ⟨some 1, (Op.fieldAddr 72 (.tmp 0) 1), 0, "", #[], none⟩ [_, undef] 1 rfl ((wanted_some (b := false) rfl rfl s31).trans rfl) ⟨s34, trivial⟩ rfl rfl hQ0 ?_
              clear hQ0 hH s34 s31
              intro Q hQ
              repeat go_step
              exact hQ _ _ (Grow.refl _) rfl rfl
        refine obls_cons (fun f w' hR hH Q0 hQ0 => ?_) ?_
        · skip
          have s35 := (sv_at 35 15 hsz f [(35, 15), (31, 11)] rfl).trans (show f 15 = _ from hH.get 0 (35, 15) rfl)
          have s31 := (sv_at 31 11 hsz f [(35, 15), (31, 11)] rfl).trans (show f 11 = _ from hH.get 1 (31, 11) rfl)
          first
            | exact skip_v hsz rfl ((wanted_some (b := true) rfl rfl s31).trans rfl) hQ0 (Grow.refl _) rfl
            | exact skip_v hsz rfl (wanted_undef rfl rfl s31) hQ0 (Grow.refl _) rfl
            | refine small_v hsz [(35, _)] ⟨some 1, (Op.load 37 (.tmp 0)), 37, "", #[], none⟩ [_, undef] 1 rfl ((wanted_some (b := false) rfl rfl s31).trans rfl) ⟨s35, trivial⟩ rfl rfl hQ0 ?_
              clear hQ0 hH s35 s31
              intro Q hQ
              have hcc : Hid (∀ j u, cs[j]? = some u → w'.cell? ⟨b1, off1 + k * 65 + 1 + j, none⟩ = some u) := Lib.hid fun j u hu => hR.cell (HC1.out j u hu)
              refine load_cells rfl _ _ rfl b1 (off1 + k * 65 + 1) rfl cs _ hcc.out undV rfl (by rw [sizeV, HIO.out.1]) ?_
              exact hQ _ _ (Grow.refl _) rfl rfl
        refine obls_cons (fun f w' hR hH Q0 hQ0 => ?_) ?_
        · skip
          have s1 := sv_off f [(31, 11)] e1 rfl
          have s31 := (sv_at 31 11 hsz f [(31, 11)] rfl).trans (show f 11 = _ from hH.get 0 (31, 11) rfl)
          first
            | exact skip_v hsz rfl ((wanted_some (b := true) rfl rfl s31).trans rfl) hQ0 (Grow.refl _) rfl
            | exact skip_v hsz rfl (wanted_undef rfl rfl s31) hQ0 (Grow.refl _) rfl
            | refine small_v hsz [(1, _)] ⟨some 1, (Op.move (.tmp 0)), 28, "", #[], none⟩ [_, undef] 1 rfl ((wanted_some (b := false) rfl rfl s31).trans rfl) ⟨s1, trivial⟩ rfl rfl hQ0 ?_
              clear hQ0 hH s1 s31
              intro Q hQ
              repeat go_step
              exact hQ _ _ (Grow.refl _) rfl rfl
        refine obls_cons (fun f w' hR hH Q0 hQ0 => ?_) ?_
        · skip
          have s6 := sv_off f [(31, 11)] e6 rfl
          have s31 := (sv_at 31 11 hsz f [(31, 11)] rfl).trans (show f 11 = _ from hH.get 0 (31, 11) rfl)
          first
            | exact skip_v hsz rfl ((wanted_some (b := true) rfl rfl s31).trans rfl) hQ0 (Grow.refl _) rfl
            | exact skip_v hsz rfl (wanted_undef rfl rfl s31) hQ0 (Grow.refl _) rfl
            | refine small_v hsz [(6, _)] ⟨some 1, (Op.move (.tmp 0)), 3, "", #[], none⟩ [_, undef] 1 rfl ((wanted_some (b := false) rfl rfl s31).trans rfl) ⟨s6, trivial⟩ rfl rfl hQ0 ?_
              clear hQ0 hH s6 s31
              intro Q hQ
              repeat go_step
              exact hQ _ _ (Grow.refl _) rfl rfl
        refine obls_cons (fun f w' hR hH Q0 hQ0 => ?_) ?_
        · skip
          have s37 := (sv_at 37 17 hsz f [(37, 17), (38, 18), (31, 11)] rfl).trans (show f 17 = _ from hH.get 0 (37, 17) rfl)
          have s38 := (sv_at 38 18 hsz f [(37, 17), (38, 18), (31, 11)] rfl).trans (show f 18 = _ from hH.get 1 (38, 18) rfl)
          have s31 := (sv_at 31 11 hsz f [(37, 17), (38, 18), (31, 11)] rfl).trans (show f 11 = _ from hH.get 2 (31, 11) rfl)
          first
            | exact skip_v hsz rfl ((wanted_some (b := true) rfl rfl s31).trans rfl) hQ0 (Grow.refl _) rfl
            | exact skip_v hsz rfl (wanted_undef rfl rfl s31) hQ0 (Grow.refl _) rfl
            | refine small_v hsz [(37, _), (38, _)] ⟨some 2, (Op.indexAddr 28 (.tmp 0) (.tmp 1)), 0, "", #[], none⟩ [_, _, undef] 2 rfl ((wanted_some (b := false) rfl rfl s31).trans rfl) ⟨s37, s38, trivial⟩ rfl rfl hQ0 ?_
              clear hQ0 hH s37 s38 s31
              intro Q hQ
              repeat go_step
              exact hQ _ _ (Grow.refl _) rfl rfl
        refine obls_cons (fun f w' hR hH Q0 hQ0 => ?_) ?_
        · skip
          have s39 := (sv_at 39 19 hsz f [(39, 19), (31, 11)] rfl).trans (show f 19 = _ from hH.get 0 (39, 19) rfl)
          have s31 := (sv_at 31 11 hsz f [(39, 19), (31, 11)] rfl).trans (show f 11 = _ from hH.get 1 (31, 11) rfl)
          first
            | exact skip_v hsz rfl ((wanted_some (b := true) rfl rfl s31).trans rfl) hQ0 (Grow.refl _) rfl
            | exact skip_v hsz rfl (wanted_undef rfl rfl s31) hQ0 (Grow.refl _) rfl
            | refine small_v hsz [(39, _)] ⟨some 1, (Op.fieldAddr 68 (.tmp 0) 1), 0, "", #[], none⟩ [_, undef] 1 rfl ((wanted_some (b := false) rfl rfl s31).trans rfl) ⟨s39, trivial⟩ rfl rfl hQ0 ?_
              clear hQ0 hH s39 s31
              intro Q hQ
              repeat go_step
              exact hQ _ _ (Grow.refl _) rfl rfl
        refine obls_cons (fun f w' hR hH Q0 hQ0 => ?_) ?_
        · skip
          have s40 := (sv_at 40 20 hsz f [(40, 20), (31, 11)] rfl).trans (show f 20 = _ from hH.get 0 (40, 20) rfl)
          have s31 := (sv_at 31 11 hsz f [(40, 20), (31, 11)] rfl).trans (show f 11 = _ from hH.get 1 (31, 11) rfl)
          first
            | exact skip_v hsz rfl ((wanted_some (b := true) rfl rfl s31).trans rfl) hQ0 (Grow.refl _) rfl
            | exact skip_v hsz rfl (wanted_undef rfl rfl s31) hQ0 (Grow.refl _) rfl
            | refine small_v hsz [(40, _)] ⟨some 1, (Op.load 37 (.tmp 0)), 37, "", #[], none⟩ [_, undef] 1 rfl ((wanted_some (b := false) rfl rfl s31).trans rfl) ⟨s40, trivial⟩ rfl rfl hQ0 ?_
              clear hQ0 hH s40 s31
              intro Q hQ
              have hcc : Hid (∀ j u, cs[j]? = some u → w'.cell? ⟨b2, off2 + k * 65 + 1 + j, none⟩ = some u) := Lib.hid fun j u hu => hR.cell (HC2.out j u hu)
              refine load_cells rfl _ _ rfl b2 (off2 + k * 65 + 1) rfl cs _ hcc.out undV rfl (by rw [sizeV, HIO.out.1]) ?_
              exact hQ _ _ (Grow.refl _) rfl rfl
        refine obls_cons (fun f w' hR hH Q0 hQ0 => ?_) ?_
        · skip
          have s36 := (sv_at 36 16 hsz f [(36, 16), (41, 21), (31, 11)] rfl).trans (show f 16 = _ from hH.get 0 (36, 16) rfl)
          have s41 := (sv_at 41 21 hsz f [(36, 16), (41, 21), (31, 11)] rfl).trans (show f 21 = _ from hH.get 1 (41, 21) rfl)
          have s31 := (sv_at 31 11 hsz f [(36, 16), (41, 21), (31, 11)] rfl).trans (show f 11 = _ from hH.get 2 (31, 11) rfl)
          first
            | exact skip_v hsz rfl ((wanted_some (b := true) rfl rfl s31).trans rfl) hQ0 (Grow.refl _) rfl
            | exact skip_v hsz rfl (wanted_undef rfl rfl s31) hQ0 (Grow.refl _) rfl
            | refine small_v hsz [(36, _), (41, _)] ⟨some 2, (Op.binOp BinOp.neq 37 (.tmp 0) (.tmp 1) 37), 4, "", #[], none⟩ [_, _, undef] 2 rfl ((wanted_some (b := false) rfl rfl s31).trans rfl) ⟨s36, s41, trivial⟩ rfl rfl hQ0 ?_
              clear hQ0 hH s36 s41 s31
              intro Q hQ
              have heq := HEQ.out
              repeat go_step
              exact hQ _ _ (Grow.refl _) rfl rfl
        refine obls_cons (fun f w' hR hH Q0 hQ0 => ?_) ?_
        · skip
          have s31 := (sv_at 31 11 hsz f [(31, 11), (42, 22)] rfl).trans (show f 11 = _ from hH.get 0 (31, 11) rfl)
          have s42 := (sv_at 42 22 hsz f [(31, 11), (42, 22)] rfl).trans (show f 22 = _ from hH.get 1 (42, 22) rfl)
          refine small_v hsz [(31, _), (42, _)] ⟨some 2, (Op.pick (.tmp 0) (Operand.const (Value.bool true)) (.tmp 1)), 4, "", #[], none⟩ [_, _, undef] 2 rfl rfl ⟨s31, s42, trivial⟩ rfl rfl hQ0 ?_
          clear hQ0 hH s31 s42
          intro Q hQ
          repeat go_step
          exact hQ _ _ (Grow.refl _) rfl rfl
        exact obls_nil
      case mono => exact ⟨Mono.veq _, Mono.veq _, Mono.veq _, Mono.veq _, Mono.veq _, Mono.veq _, Mono.veq _, Mono.veq _, Mono.veq _, Mono.veq _, Mono.veq _, Mono.veq _, Mono.veq _, Mono.veq _, Mono.veq _, Mono.veq _, Mono.veq _, Mono.veq _, Mono.veq _, Mono.veq _, Mono.veq _, Mono.veq _, Mono.veq _, Mono.veq _, trivial⟩
      case tail =>
        intro f w' hR hH
        have q23 := hH.get 23 (43, 23) rfl
        clear hH
        refine wpList_merge (idx := [none, none, none, none, none, none, none, none, none, none, none, none, none, none, none, none, none, none, none, none, some 0, some 1, some 2, some 3, some 4, some 5, some 6, some 7, some 8, some 9, some 10, some 11, some 12, some 13, some 14, some 15, some 16, some 17, some 18, some 19, some 20, some 21, some 22, some 23]) (by kernel_rfl) ?_; show wpList _ _ _ [] ⟨#[_, _, _, _, _, _, _, _, _, _, _, _, _, _, _, _, _, _, _, _, f 0, f 1, f 2, f 3, f 4, f 5, f 6, f 7, f 8, f 9, f 10, f 11, f 12, f 13, f 14, f 15, f 16, f 17, f 18, f 19, f 20, f 21, f 22, f 23], _⟩ _
        rw [show f 23 = _ from q23]
        clear q23
        have HR := Lib.hid hR
        clear hR te te2
        go_wp2_with fail
        go_roundw
        case rel => exact ⟨k + 1, by omega, by go_num, Lib.hid (HGR.out.trans HR.out)⟩
        case measure => simp [intOf] <;> omega
    · obtain rfl : k = l := by omega
      have t1 : decide (k < k) = false := decide_eq_false hlt
      have HE := Lib.hid (HG.out.trans HGR.out)
      clear hk hlt
      go_wp2_with fail
      go_ret
      exact ⟨rfl, HE.out⟩
end Go.Proofs.Ythclgmpjmhacdaa.tg
