/- BlockWhole (printed by gen_bkw.py). -/
import Derived.Test.YtbcifodifadoiaaBkK
import Derived.Test.YtbcifodifadoiaaBkA
import Derived.Test.YtbcifodifadoiaaToF
namespace Go.Proofs.Ytbcifodifadoiaa.bk
open Go Go.RowKit Go.Par Go.Kit Go.Proofs.Ytbcifodifadoiaa.Bk Go.Proofs.Ytbcifodifadoiaa.reW Go.Proofs.Ytbcifodifadoiaa.mkW Go.Proofs.Ytbcifodifadoiaa.Re

/-! what stands ahead of another one stands ahead of it -/
theorem runs_sub (N : Int → Int → Bool) (l : List Int) (i : Nat) : (runs N l i).Sublist l := by
  have h := (List.filter_sublist (l := List.range l.length) (p := conn N l i)).map fun k => l.getD k 0
  rw [range_getD] at h
  exact h
theorem mem_runs {N : Int → Int → Bool} {l : List Int} {i : Nat} {z : Int} (h : z ∈ runs N l i) : ∃ k, k < l.length ∧ Cn N l i k ∧ l[k]? = some z := by
  unfold runs at h
  obtain ⟨k, hk, e⟩ := List.mem_map.1 h
  obtain ⟨h1, h2⟩ := mem_sideL.1 hk
  refine ⟨k, h1, h2, ?_⟩
  rw [List.getD_eq_getElem?_getD, List.getElem?_eq_getElem h1] at e
  rw [List.getElem?_eq_getElem h1]
  exact congrArg some e
theorem piece_pw {N : Int → Int → Bool} (hN : ∀ a b, N a b = N b a) {P : Int → Int → Prop} (hP : ∀ x y, N x y = false → P x y) {rec_ : List Int → List T} {l : List Int} (h0 : 0 < l.length) (hl : l.Pairwise P)
    (ih : ∀ s : List Int, s.length < l.length → s.Pairwise P → (thingsL (rec_ s)).Pairwise P) (ihp : ∀ s : List Int, s.length < l.length → (thingsL (rec_ s)).Perm s) : (pieceT N rec_ l).things.Pairwise P := by
  by_cases h1 : l.length = 1
  · unfold pieceT
    rw [if_pos h1, line_things]
    exact List.pairwise_singleton _ _
  · by_cases h2 : (firsts N l).length = 1
    · rw [pieceT_knot h1 h2, T.things, if_neg (by decide), lines_things]
      exact hl
    · rw [pieceT_fork h1 h2, T.things, if_neg (by decide), thingsL_map, List.pairwise_flatMap]
      have ht : ∀ i, (runT rec_ N l i).things = thingsL (rec_ (runs N l i)) := fun i => by unfold runT; rw [T.things, if_neg (by decide)]
      have hlen : ∀ i, (runs N l i).length < l.length := fun i => by rw [runs_len]; exact side_lt hN h0 h2 i
      refine ⟨fun i _ => by rw [ht]; exact ih _ (hlen i) (hl.sublist (runs_sub N l i)), List.Pairwise.imp_of_mem ?_ (firsts_nodup N l)⟩
      intro i j hi hj hij x hx y hy
      rw [ht] at hx hy
      obtain ⟨k, k1, k2, k3⟩ := mem_runs ((ihp _ (hlen i)).mem_iff.1 hx)
      obtain ⟨m, m1, m2, m3⟩ := mem_runs ((ihp _ (hlen j)).mem_iff.1 hy)
      refine hP x y ?_
      cases hc : N x y with
      | false => rfl
      | true =>
        have h5 : Cn N l i m := .step k2 k1 m1 (by rw [nr_at k3 m3]; exact hc)
        exact absurd (first_eq hN hi hj (h5.trans (m2.symm hN))) hij
theorem blocks_pw {B N : Int → Int → Bool} (hN : ∀ a b, N a b = N b a) {P : Int → Int → Prop} (hP : ∀ x y, N x y = false → P x y) : ∀ (f : Nat) (l : List Int), l.length ≤ f → l.Pairwise P → (thingsL (blocksF B N f l)).Pairwise P
  | 0, _, _, _ => List.Pairwise.nil
  | f + 1, l, h, hl => by
    rw [blocksF, thingsL_map, List.pairwise_flatMap]
    have hfl := hl
    rw [← pieces_flat B l, List.pairwise_flatten] at hfl
    refine ⟨fun s hs => ?_, List.Pairwise.imp_of_mem ?_ hfl.2⟩
    · obtain ⟨h1, h2⟩ := pieces_mem hs
      exact piece_pw hN hP h1 (hfl.1 s hs) (fun s' hs' hp => blocks_pw hN hP f s' (by omega) hp) fun s' hs' => blocks_perm hN f s' (by omega)
    · intro s1 s2 hs1 hs2 hx x hxm y hym
      obtain ⟨h1, h2⟩ := pieces_mem hs1
      obtain ⟨h3, h4⟩ := pieces_mem hs2
      exact hx x ((piece_perm hN h1 fun s' hs' => blocks_perm hN f s' (by omega)).mem_iff.1 hxm) y ((piece_perm hN h3 fun s' hs' => blocks_perm hN f s' (by omega)).mem_iff.1 hym)
/-- a list of things fits, when none of them stands twice, or behind one that it is ahead of -/
theorem fits_list {n : Nat} {R : Nat → Nat → Bool} {g : List Int} (h1 : ∀ z ∈ g, fitB n z = true) (h2 : g.Nodup) (h3 : g.Pairwise fun a b => aheadI R b a = false) : toW.fitsB n R g = true := by
  refine toW.fits_yes fun k hk => ?_
  refine toW.okK_yes (z := g[k]) (List.getElem?_eq_getElem hk) (h1 _ (List.getElem_mem hk)) fun j x hj hx => ?_
  rw [List.getElem?_eq_getElem (by omega)] at hx
  obtain rfl := Option.some.inj hx
  exact ⟨(List.pairwise_iff_getElem.1 (List.nodup_iff_pairwise_ne.1 h2)) j k (by omega) hk hj, (List.pairwise_iff_getElem.1 h3) j k (by omega) hk hj⟩
/-- the part that stays -/
def keepP (o : List Nat) (bs : List Bool) (k : Nat) : List Nat := (List.range k).filterMap fun i => if bs.length ≤ i ∨ bs[i]? = some false then o[i]? else none
theorem keepP_sub (o : List Nat) (bs : List Bool) : ∀ k, k ≤ o.length → (keepP o bs k).Sublist (o.take k)
  | 0, _ => by simp [keepP]
  | k + 1, h => by
    have ih := keepP_sub o bs k (by omega)
    unfold keepP at ih ⊢
    rw [List.range_succ, List.filterMap_append, List.take_add_one]
    refine List.Sublist.append ih ?_
    have hlt : k < o.length := by omega
    rw [List.getElem?_eq_getElem hlt]
    by_cases hc : bs.length ≤ k ∨ bs[k]? = some false
    · simp [hc, List.getElem?_eq_getElem hlt]
    · simp [hc]
theorem keepP_yes {o : List Nat} {bs : List Bool} {k x : Nat} (hx : o[k]? = some x) (h : bs.length ≤ k ∨ bs[k]? = some false) : keepP o bs (k + 1) = keepP o bs k ++ [x] := by
  unfold keepP
  rw [List.range_succ, List.filterMap_append]
  simp [h, hx]
theorem keepP_no {o : List Nat} {bs : List Bool} {k : Nat} (h : bs[k]? = some true) : keepP o bs (k + 1) = keepP o bs k := by
  unfold keepP
  rw [List.range_succ, List.filterMap_append]
  have h2 : ¬ (bs.length ≤ k ∨ bs[k]? = some false) := by
    rintro (h2 | h2)
    · rw [List.getElem?_eq_none h2] at h; cases h
    · rw [h2] at h; cases h
  simp [h2]
theorem iv_nv (L : List Nat) : (L.map fun (n : Nat) => (n : Int)).map iv = L.map nv := by rw [List.map_map]; rfl
set_option maxRecDepth 100000 in
set_option maxHeartbeats 1000000 in
theorem within_any (w : World) (A1 A2 : Option Addr) (n1 n2 c1 c2 : Nat) (g l : List Int) (h1 : Row w A1 n1 (g.map iv)) (h2 : Row w A2 n2 (l.map iv)) (hn1 : n1 ≤ maxLen) (hn2 : n2 ≤ maxLen) (hm : ∀ z ∈ g, z ∈ l) :
    Calls Try.prog 21 #[.slice A1 n1 c1, .slice A2 n2 c2] w fun e w' => e = .returned (.bool true) ∧ Grow w w' := by
  unfold maxLen at hn1 hn2
  have H1 := Lib.hid h1
  have H2 := Lib.hid h2
  have HM := Lib.hid hm
  clear h1 h2 hm
  go_enter Try.func21, Try.ntmps21
  go_wp2_with fail
  go_loopw [5] (fun i' wr => ∃ i : Nat, i ≤ n1 ∧ i' = .int .i64 (i : Int) ∧ Grow w wr) (fun i' _ => n1 - (intOf i').toNat)
  case atStart => exact ⟨0, by omega, rfl, Grow.refl _⟩
  case round =>
    obtain ⟨wa, rfl⟩ : ∃ wa, wa = wr := ⟨_, rfl⟩
    obtain ⟨i, hi, rfl, hg⟩ := hrel
    have HG := Lib.hid hg
    clear hg
    by_cases hlt : i < n1
    · have t1 : decide (i < n1) = true := decide_eq_true hlt
      have t1' : decide ((i : Int) < (n1 : Int)) = true := decide_eq_true (by omega)
      obtain ⟨b, off, x, rfl, hx, hcx⟩ := Row.iv_at H1.out hlt
      have hxl := HM.out x (List.mem_of_getElem? hx)
      have HXL := Lib.hid hxl
      have HCX := Lib.hid hcx
      have HI := Lib.hid hlt
      have hi9 : i < n1 := hlt
      clear hi hlt hx hcx hxl
      go_wp2_with fail
      go_loopw [6, 7] (fun t' k' wr => ∃ (k : Nat) (t : Bool), k ≤ n2 ∧ k' = .int .i64 (k : Int) ∧ t' = .bool t ∧ Hid (t = false → ∀ (j : Nat) (y : Int), j < k → l[j]? = some y → x ≠ y) ∧ Grow w wr) (fun _ k' _ => n2 - (intOf k').toNat)
      case atStart => exact ⟨0, false, by omega, rfl, rfl, Lib.hid fun _ j y h => absurd h (by omega), HG.out⟩
      case round =>
        obtain ⟨k, t, hk, rfl, rfl, HT, hg⟩ := hrel
        have HGk := Lib.hid hg
        clear hg
        by_cases hlk : k < n2
        · have t2 : decide (k < n2) = true := decide_eq_true hlk
          have t2' : decide ((k : Int) < (n2 : Int)) = true := decide_eq_true (by omega)
          have HK := Lib.hid hlk
          have hk9 : k < n2 := hlk
          cases t
          · obtain ⟨b2, off2, y, rfl, hy, hcy⟩ := Row.iv_at H2.out hlk
            have HY := Lib.hid hy
            have HC1 := Lib.hid (HGk.out.cell HCX.out)
            have HC2 := Lib.hid (HGk.out.cell hcy)
            clear hk hlk hy hcy
            by_cases hxy : x = y
            · have e1 : (x == y) = true := beq_iff_eq.2 hxy
              clear hxy
              go_wp2_with fail
              apply (fun (v0 v1 v2 v3 v4 v5 v6 v7 v8 v9 v10 v11 v12 : Value) mono obl tail => wp_region_par (R := Grow) (Φ := phi [veq v0, veq v1, veq v2, veq v3, veq v4, veq v5, veq v6, veq v7, veq v8, veq v9, veq v10, veq v11, veq v12]) (m := 13) (dls := [[], [(20, 0)], [(21, 1)], [(21, 1)], [(22, 2), (23, 3), (21, 1)], [(24, 4), (21, 1)], [(21, 1)], [(21, 1)], [(26, 6), (27, 7), (21, 1)], [(28, 8), (21, 1)], [(25, 5), (29, 9), (21, 1)], [(21, 1), (30, 10)], [(31, 11)]]) (ds := [20, 21, 22, 23, 24, 25, 26, 27, 28, 29, 30, 31, 6]) (by kernel_rfl) (by kernel_rfl) (by decide) rfl (Grow.drew _) (fun _ _ _ => Grow.trans) (mono_phi mono) obl tail)
              case obl =>
                refine obls_frame (fun a1 ha => ?_)
                have hsz := rd_size (n := 34) ha rfl
                have e6 := rd_slot 6 ha rfl
                have e0 := rd_slot 0 ha rfl
                have e5 := rd_slot 5 ha rfl
                have e1 := rd_slot 1 ha rfl
                have e7 := rd_slot 7 ha rfl
                clear ha
                refine obls_cons (fun f w' hR hH Q0 hQ0 => ?_) ?_
                · skip
                  have s6 := sv_off f [] e6 rfl
                  refine small_v hsz [(6, _)] ⟨some 1, (Op.move (.tmp 0)), 4, "", #[], none⟩ [_, undef] 1 rfl rfl ⟨s6, trivial⟩ rfl rfl hQ0 ?_
                  clear hQ0 hH s6
                  intro Q hQ
                  repeat go_step
                  exact hQ _ _ (Grow.refl _) rfl rfl
                refine obls_cons (fun f w' hR hH Q0 hQ0 => ?_) ?_
                · skip
                  have s20 := (sv_at 20 0 hsz f [(20, 0)] rfl).trans (show f 0 = _ from hH.get 0 (20, 0) rfl)
                  refine small_v hsz [(20, _)] ⟨some 1, (Op.move (.tmp 0)), 4, "", #[], none⟩ [_, undef] 1 rfl rfl ⟨s20, trivial⟩ rfl rfl hQ0 ?_
                  clear hQ0 hH s20
                  intro Q hQ
                  repeat go_step
                  exact hQ _ _ (Grow.refl _) rfl rfl
                refine obls_cons (fun f w' hR hH Q0 hQ0 => ?_) ?_
                · skip
                  have s0 := sv_off f [(21, 1)] e0 rfl
                  have s21 := (sv_at 21 1 hsz f [(21, 1)] rfl).trans (show f 1 = _ from hH.get 0 (21, 1) rfl)
                  first
                    | exact skip_v hsz rfl ((wanted_some (b := true) rfl rfl s21).trans rfl) hQ0 (Grow.refl _) rfl
                    | exact skip_v hsz rfl (wanted_undef rfl rfl s21) hQ0 (Grow.refl _) rfl
                    | refine small_v hsz [(0, _)] ⟨some 1, (Op.move (.tmp 0)), 23, "", #[], none⟩ [_, undef] 1 rfl ((wanted_some (b := false) rfl rfl s21).trans rfl) ⟨s0, trivial⟩ rfl rfl hQ0 ?_
                      clear hQ0 hH s0 s21
                      intro Q hQ
                      repeat go_step
                      exact hQ _ _ (Grow.refl _) rfl rfl
                refine obls_cons (fun f w' hR hH Q0 hQ0 => ?_) ?_
                · skip
                  have s5 := sv_off f [(21, 1)] e5 rfl
                  have s21 := (sv_at 21 1 hsz f [(21, 1)] rfl).trans (show f 1 = _ from hH.get 0 (21, 1) rfl)
                  first
                    | exact skip_v hsz rfl ((wanted_some (b := true) rfl rfl s21).trans rfl) hQ0 (Grow.refl _) rfl
                    | exact skip_v hsz rfl (wanted_undef rfl rfl s21) hQ0 (Grow.refl _) rfl
                    | refine small_v hsz [(5, _)] ⟨some 1, (Op.move (.tmp 0)), 3, "", #[], none⟩ [_, undef] 1 rfl ((wanted_some (b := false) rfl rfl s21).trans rfl) ⟨s5, trivial⟩ rfl rfl hQ0 ?_
                      clear hQ0 hH s5 s21
                      intro Q hQ
                      repeat go_step
                      exact hQ _ _ (Grow.refl _) rfl rfl
                refine obls_cons (fun f w' hR hH Q0 hQ0 => ?_) ?_
                · skip
                  have s22 := (sv_at 22 2 hsz f [(22, 2), (23, 3), (21, 1)] rfl).trans (show f 2 = _ from hH.get 0 (22, 2) rfl)
                  have s23 := (sv_at 23 3 hsz f [(22, 2), (23, 3), (21, 1)] rfl).trans (show f 3 = _ from hH.get 1 (23, 3) rfl)
                  have s21 := (sv_at 21 1 hsz f [(22, 2), (23, 3), (21, 1)] rfl).trans (show f 1 = _ from hH.get 2 (21, 1) rfl)
                  first
                    | exact skip_v hsz rfl ((wanted_some (b := true) rfl rfl s21).trans rfl) hQ0 (Grow.refl _) rfl
                    | exact skip_v hsz rfl (wanted_undef rfl rfl s21) hQ0 (Grow.refl _) rfl
                    | refine small_v hsz [(22, _), (23, _)] ⟨some 2, (Op.indexAddr 23 (.tmp 0) (.tmp 1)), 0, "", #[], none⟩ [_, _, undef] 2 rfl ((wanted_some (b := false) rfl rfl s21).trans rfl) ⟨s22, s23, trivial⟩ rfl rfl hQ0 ?_
                      clear hQ0 hH s22 s23 s21
                      intro Q hQ
                      have hin := HI.out
                      repeat go_step
                      exact hQ _ _ (Grow.refl _) rfl rfl
                refine obls_cons (fun f w' hR hH Q0 hQ0 => ?_) ?_
                · skip
                  have s24 := (sv_at 24 4 hsz f [(24, 4), (21, 1)] rfl).trans (show f 4 = _ from hH.get 0 (24, 4) rfl)
                  have s21 := (sv_at 21 1 hsz f [(24, 4), (21, 1)] rfl).trans (show f 1 = _ from hH.get 1 (21, 1) rfl)
                  first
                    | exact skip_v hsz rfl ((wanted_some (b := true) rfl rfl s21).trans rfl) hQ0 (Grow.refl _) rfl
                    | exact skip_v hsz rfl (wanted_undef rfl rfl s21) hQ0 (Grow.refl _) rfl
                    | refine small_v hsz [(24, _)] ⟨some 1, (Op.load 3 (.tmp 0)), 3, "", #[], none⟩ [_, undef] 1 rfl ((wanted_some (b := false) rfl rfl s21).trans rfl) ⟨s24, trivial⟩ rfl rfl hQ0 ?_
                      clear hQ0 hH s24 s21
                      intro Q hQ
                      have y0 := hR.cell HC1.out
                      repeat go_step
                      exact hQ _ _ (Grow.refl _) rfl rfl
                refine obls_cons (fun f w' hR hH Q0 hQ0 => ?_) ?_
                · skip
                  have s1 := sv_off f [(21, 1)] e1 rfl
                  have s21 := (sv_at 21 1 hsz f [(21, 1)] rfl).trans (show f 1 = _ from hH.get 0 (21, 1) rfl)
                  first
                    | exact skip_v hsz rfl ((wanted_some (b := true) rfl rfl s21).trans rfl) hQ0 (Grow.refl _) rfl
                    | exact skip_v hsz rfl (wanted_undef rfl rfl s21) hQ0 (Grow.refl _) rfl
                    | refine small_v hsz [(1, _)] ⟨some 1, (Op.move (.tmp 0)), 23, "", #[], none⟩ [_, undef] 1 rfl ((wanted_some (b := false) rfl rfl s21).trans rfl) ⟨s1, trivial⟩ rfl rfl hQ0 ?_
                      clear hQ0 hH s1 s21
                      intro Q hQ
                      repeat go_step
                      exact hQ _ _ (Grow.refl _) rfl rfl
                refine obls_cons (fun f w' hR hH Q0 hQ0 => ?_) ?_
                · skip
                  have s7 := sv_off f [(21, 1)] e7 rfl
                  have s21 := (sv_at 21 1 hsz f [(21, 1)] rfl).trans (show f 1 = _ from hH.get 0 (21, 1) rfl)
                  first
                    | exact skip_v hsz rfl ((wanted_some (b := true) rfl rfl s21).trans rfl) hQ0 (Grow.refl _) rfl
                    | exact skip_v hsz rfl (wanted_undef rfl rfl s21) hQ0 (Grow.refl _) rfl
                    | refine small_v hsz [(7, _)] ⟨some 1, (Op.move (.tmp 0)), 3, "", #[], none⟩ [_, undef] 1 rfl ((wanted_some (b := false) rfl rfl s21).trans rfl) ⟨s7, trivial⟩ rfl rfl hQ0 ?_
                      clear hQ0 hH s7 s21
                      intro Q hQ
                      repeat go_step
                      exact hQ _ _ (Grow.refl _) rfl rfl
                refine obls_cons (fun f w' hR hH Q0 hQ0 => ?_) ?_
                · skip
                  have s26 := (sv_at 26 6 hsz f [(26, 6), (27, 7), (21, 1)] rfl).trans (show f 6 = _ from hH.get 0 (26, 6) rfl)
                  have s27 := (sv_at 27 7 hsz f [(26, 6), (27, 7), (21, 1)] rfl).trans (show f 7 = _ from hH.get 1 (27, 7) rfl)
                  have s21 := (sv_at 21 1 hsz f [(26, 6), (27, 7), (21, 1)] rfl).trans (show f 1 = _ from hH.get 2 (21, 1) rfl)
                  first
                    | exact skip_v hsz rfl ((wanted_some (b := true) rfl rfl s21).trans rfl) hQ0 (Grow.refl _) rfl
                    | exact skip_v hsz rfl (wanted_undef rfl rfl s21) hQ0 (Grow.refl _) rfl
                    | refine small_v hsz [(26, _), (27, _)] ⟨some 2, (Op.indexAddr 23 (.tmp 0) (.tmp 1)), 0, "", #[], none⟩ [_, _, undef] 2 rfl ((wanted_some (b := false) rfl rfl s21).trans rfl) ⟨s26, s27, trivial⟩ rfl rfl hQ0 ?_
                      clear hQ0 hH s26 s27 s21
                      intro Q hQ
                      have hkn := HK.out
                      repeat go_step
                      exact hQ _ _ (Grow.refl _) rfl rfl
                refine obls_cons (fun f w' hR hH Q0 hQ0 => ?_) ?_
                · skip
                  have s28 := (sv_at 28 8 hsz f [(28, 8), (21, 1)] rfl).trans (show f 8 = _ from hH.get 0 (28, 8) rfl)
                  have s21 := (sv_at 21 1 hsz f [(28, 8), (21, 1)] rfl).trans (show f 1 = _ from hH.get 1 (21, 1) rfl)
                  first
                    | exact skip_v hsz rfl ((wanted_some (b := true) rfl rfl s21).trans rfl) hQ0 (Grow.refl _) rfl
                    | exact skip_v hsz rfl (wanted_undef rfl rfl s21) hQ0 (Grow.refl _) rfl
                    | refine small_v hsz [(28, _)] ⟨some 1, (Op.load 3 (.tmp 0)), 3, "", #[], none⟩ [_, undef] 1 rfl ((wanted_some (b := false) rfl rfl s21).trans rfl) ⟨s28, trivial⟩ rfl rfl hQ0 ?_
                      clear hQ0 hH s28 s21
                      intro Q hQ
                      have y0 := hR.cell HC2.out
                      repeat go_step
                      exact hQ _ _ (Grow.refl _) rfl rfl
                refine obls_cons (fun f w' hR hH Q0 hQ0 => ?_) ?_
                · skip
                  have s25 := (sv_at 25 5 hsz f [(25, 5), (29, 9), (21, 1)] rfl).trans (show f 5 = _ from hH.get 0 (25, 5) rfl)
                  have s29 := (sv_at 29 9 hsz f [(25, 5), (29, 9), (21, 1)] rfl).trans (show f 9 = _ from hH.get 1 (29, 9) rfl)
                  have s21 := (sv_at 21 1 hsz f [(25, 5), (29, 9), (21, 1)] rfl).trans (show f 1 = _ from hH.get 2 (21, 1) rfl)
                  first
                    | exact skip_v hsz rfl ((wanted_some (b := true) rfl rfl s21).trans rfl) hQ0 (Grow.refl _) rfl
                    | exact skip_v hsz rfl (wanted_undef rfl rfl s21) hQ0 (Grow.refl _) rfl
                    | refine small_v hsz [(25, _), (29, _)] ⟨some 2, (Op.binOp BinOp.eql 3 (.tmp 0) (.tmp 1) 3), 4, "", #[], none⟩ [_, _, undef] 2 rfl ((wanted_some (b := false) rfl rfl s21).trans rfl) ⟨s25, s29, trivial⟩ rfl rfl hQ0 ?_
                      clear hQ0 hH s25 s29 s21
                      intro Q hQ
                      repeat go_step
                      exact hQ _ _ (Grow.refl _) rfl rfl
                refine obls_cons (fun f w' hR hH Q0 hQ0 => ?_) ?_
                · skip
                  have s21 := (sv_at 21 1 hsz f [(21, 1), (30, 10)] rfl).trans (show f 1 = _ from hH.get 0 (21, 1) rfl)
                  have s30 := (sv_at 30 10 hsz f [(21, 1), (30, 10)] rfl).trans (show f 10 = _ from hH.get 1 (30, 10) rfl)
                  refine small_v hsz [(21, _), (30, _)] ⟨some 2, (Op.pick (.tmp 0) (Operand.const (Value.bool true)) (.tmp 1)), 4, "", #[], none⟩ [_, _, undef] 2 rfl rfl ⟨s21, s30, trivial⟩ rfl rfl hQ0 ?_
                  clear hQ0 hH s21 s30
                  intro Q hQ
                  repeat go_step
                  exact hQ _ _ (Grow.refl _) rfl rfl
                refine obls_cons (fun f w' hR hH Q0 hQ0 => ?_) ?_
                · skip
                  have s31 := (sv_at 31 11 hsz f [(31, 11)] rfl).trans (show f 11 = _ from hH.get 0 (31, 11) rfl)
                  refine small_v hsz [(31, _)] ⟨some 1, (Op.assign (.tmp 0)), 4, "", #[], none⟩ [_, undef] 1 rfl rfl ⟨s31, trivial⟩ rfl rfl hQ0 ?_
                  clear hQ0 hH s31
                  intro Q hQ
                  repeat go_step
                  exact hQ _ _ (Grow.refl _) rfl rfl
                exact obls_nil
              case mono => exact ⟨Mono.veq _, Mono.veq _, Mono.veq _, Mono.veq _, Mono.veq _, Mono.veq _, Mono.veq _, Mono.veq _, Mono.veq _, Mono.veq _, Mono.veq _, Mono.veq _, Mono.veq _, trivial⟩
              case tail =>
                intro f w' hR hH
                have q12 := hH.get 12 (6, 12) rfl
                clear hH
                refine wpList_merge (idx := [none, none, none, none, none, none, some 12, none, none, none, none, none, none, none, none, none, none, none, none, none, some 0, some 1, some 2, some 3, some 4, some 5, some 6, some 7, some 8, some 9, some 10, some 11, none, none]) (by kernel_rfl) ?_; show wpList _ _ _ [] ⟨#[_, _, _, _, _, _, f 12, _, _, _, _, _, _, _, _, _, _, _, _, _, f 0, f 1, f 2, f 3, f 4, f 5, f 6, f 7, f 8, f 9, f 10, f 11, _, _], _⟩ _
                rw [show f 12 = _ from q12]
                clear q12
                have HG9 := Lib.hid (HGk.out.trans hR)
                clear hR
                go_wp2_with fail
                go_roundw
                case rel => exact ⟨k + 1, true, by have := HK.out; omega, by go_num, rfl, Lib.hid fun h => (by cases h), HG9.out⟩
                case measure => have := HK.out; simp [intOf] <;> omega
            · have e1 : (x == y) = false := beq_false_of_ne hxy
              have HXY := Lib.hid hxy
              clear hxy
              go_wp2_with fail
              apply (fun (v0 v1 v2 v3 v4 v5 v6 v7 v8 v9 v10 v11 v12 : Value) mono obl tail => wp_region_par (R := Grow) (Φ := phi [veq v0, veq v1, veq v2, veq v3, veq v4, veq v5, veq v6, veq v7, veq v8, veq v9, veq v10, veq v11, veq v12]) (m := 13) (dls := [[], [(20, 0)], [(21, 1)], [(21, 1)], [(22, 2), (23, 3), (21, 1)], [(24, 4), (21, 1)], [(21, 1)], [(21, 1)], [(26, 6), (27, 7), (21, 1)], [(28, 8), (21, 1)], [(25, 5), (29, 9), (21, 1)], [(21, 1), (30, 10)], [(31, 11)]]) (ds := [20, 21, 22, 23, 24, 25, 26, 27, 28, 29, 30, 31, 6]) (by kernel_rfl) (by kernel_rfl) (by decide) rfl (Grow.drew _) (fun _ _ _ => Grow.trans) (mono_phi mono) obl tail)
              case obl =>
                refine obls_frame (fun a1 ha => ?_)
                have hsz := rd_size (n := 34) ha rfl
                have e6 := rd_slot 6 ha rfl
                have e0 := rd_slot 0 ha rfl
                have e5 := rd_slot 5 ha rfl
                have e1 := rd_slot 1 ha rfl
                have e7 := rd_slot 7 ha rfl
                clear ha
                refine obls_cons (fun f w' hR hH Q0 hQ0 => ?_) ?_
                · skip
                  have s6 := sv_off f [] e6 rfl
                  refine small_v hsz [(6, _)] ⟨some 1, (Op.move (.tmp 0)), 4, "", #[], none⟩ [_, undef] 1 rfl rfl ⟨s6, trivial⟩ rfl rfl hQ0 ?_
                  clear hQ0 hH s6
                  intro Q hQ
                  repeat go_step
                  exact hQ _ _ (Grow.refl _) rfl rfl
                refine obls_cons (fun f w' hR hH Q0 hQ0 => ?_) ?_
                · skip
                  have s20 := (sv_at 20 0 hsz f [(20, 0)] rfl).trans (show f 0 = _ from hH.get 0 (20, 0) rfl)
                  refine small_v hsz [(20, _)] ⟨some 1, (Op.move (.tmp 0)), 4, "", #[], none⟩ [_, undef] 1 rfl rfl ⟨s20, trivial⟩ rfl rfl hQ0 ?_
                  clear hQ0 hH s20
                  intro Q hQ
                  repeat go_step
                  exact hQ _ _ (Grow.refl _) rfl rfl
                refine obls_cons (fun f w' hR hH Q0 hQ0 => ?_) ?_
                · skip
                  have s0 := sv_off f [(21, 1)] e0 rfl
                  have s21 := (sv_at 21 1 hsz f [(21, 1)] rfl).trans (show f 1 = _ from hH.get 0 (21, 1) rfl)
                  first
                    | exact skip_v hsz rfl ((wanted_some (b := true) rfl rfl s21).trans rfl) hQ0 (Grow.refl _) rfl
                    | exact skip_v hsz rfl (wanted_undef rfl rfl s21) hQ0 (Grow.refl _) rfl
                    | refine small_v hsz [(0, _)] ⟨some 1, (Op.move (.tmp 0)), 23, "", #[], none⟩ [_, undef] 1 rfl ((wanted_some (b := false) rfl rfl s21).trans rfl) ⟨s0, trivial⟩ rfl rfl hQ0 ?_
                      clear hQ0 hH s0 s21
                      intro Q hQ
                      repeat go_step
                      exact hQ _ _ (Grow.refl _) rfl rfl
                refine obls_cons (fun f w' hR hH Q0 hQ0 => ?_) ?_
                · skip
                  have s5 := sv_off f [(21, 1)] e5 rfl
                  have s21 := (sv_at 21 1 hsz f [(21, 1)] rfl).trans (show f 1 = _ from hH.get 0 (21, 1) rfl)
                  first
                    | exact skip_v hsz rfl ((wanted_some (b := true) rfl rfl s21).trans rfl) hQ0 (Grow.refl _) rfl
                    | exact skip_v hsz rfl (wanted_undef rfl rfl s21) hQ0 (Grow.refl _) rfl
                    | refine small_v hsz [(5, _)] ⟨some 1, (Op.move (.tmp 0)), 3, "", #[], none⟩ [_, undef] 1 rfl ((wanted_some (b := false) rfl rfl s21).trans rfl) ⟨s5, trivial⟩ rfl rfl hQ0 ?_
                      clear hQ0 hH s5 s21
                      intro Q hQ
                      repeat go_step
                      exact hQ _ _ (Grow.refl _) rfl rfl
                refine obls_cons (fun f w' hR hH Q0 hQ0 => ?_) ?_
                · skip
                  have s22 := (sv_at 22 2 hsz f [(22, 2), (23, 3), (21, 1)] rfl).trans (show f 2 = _ from hH.get 0 (22, 2) rfl)
                  have s23 := (sv_at 23 3 hsz f [(22, 2), (23, 3), (21, 1)] rfl).trans (show f 3 = _ from hH.get 1 (23, 3) rfl)
                  have s21 := (sv_at 21 1 hsz f [(22, 2), (23, 3), (21, 1)] rfl).trans (show f 1 = _ from hH.get 2 (21, 1) rfl)
                  first
                    | exact skip_v hsz rfl ((wanted_some (b := true) rfl rfl s21).trans rfl) hQ0 (Grow.refl _) rfl
                    | exact skip_v hsz rfl (wanted_undef rfl rfl s21) hQ0 (Grow.refl _) rfl
                    | refine small_v hsz [(22, _), (23, _)] ⟨some 2, (Op.indexAddr 23 (.tmp 0) (.tmp 1)), 0, "", #[], none⟩ [_, _, undef] 2 rfl ((wanted_some (b := false) rfl rfl s21).trans rfl) ⟨s22, s23, trivial⟩ rfl rfl hQ0 ?_
                      clear hQ0 hH s22 s23 s21
                      intro Q hQ
                      have hin := HI.out
                      repeat go_step
                      exact hQ _ _ (Grow.refl _) rfl rfl
                refine obls_cons (fun f w' hR hH Q0 hQ0 => ?_) ?_
                · skip
                  have s24 := (sv_at 24 4 hsz f [(24, 4), (21, 1)] rfl).trans (show f 4 = _ from hH.get 0 (24, 4) rfl)
                  have s21 := (sv_at 21 1 hsz f [(24, 4), (21, 1)] rfl).trans (show f 1 = _ from hH.get 1 (21, 1) rfl)
                  first
                    | exact skip_v hsz rfl ((wanted_some (b := true) rfl rfl s21).trans rfl) hQ0 (Grow.refl _) rfl
                    | exact skip_v hsz rfl (wanted_undef rfl rfl s21) hQ0 (Grow.refl _) rfl
                    | refine small_v hsz [(24, _)] ⟨some 1, (Op.load 3 (.tmp 0)), 3, "", #[], none⟩ [_, undef] 1 rfl ((wanted_some (b := false) rfl rfl s21).trans rfl) ⟨s24, trivial⟩ rfl rfl hQ0 ?_
                      clear hQ0 hH s24 s21
                      intro Q hQ
                      have y0 := hR.cell HC1.out
                      repeat go_step
                      exact hQ _ _ (Grow.refl _) rfl rfl
                refine obls_cons (fun f w' hR hH Q0 hQ0 => ?_) ?_
                · skip
                  have s1 := sv_off f [(21, 1)] e1 rfl
                  have s21 := (sv_at 21 1 hsz f [(21, 1)] rfl).trans (show f 1 = _ from hH.get 0 (21, 1) rfl)
                  first
                    | exact skip_v hsz rfl ((wanted_some (b := true) rfl rfl s21).trans rfl) hQ0 (Grow.refl _) rfl
                    | exact skip_v hsz rfl (wanted_undef rfl rfl s21) hQ0 (Grow.refl _) rfl
                    | refine small_v hsz [(1, _)] ⟨some 1, (Op.move (.tmp 0)), 23, "", #[], none⟩ [_, undef] 1 rfl ((wanted_some (b := false) rfl rfl s21).trans rfl) ⟨s1, trivial⟩ rfl rfl hQ0 ?_
                      clear hQ0 hH s1 s21
                      intro Q hQ
                      repeat go_step
                      exact hQ _ _ (Grow.refl _) rfl rfl
                refine obls_cons (fun f w' hR hH Q0 hQ0 => ?_) ?_
                · skip
                  have s7 := sv_off f [(21, 1)] e7 rfl
                  have s21 := (sv_at 21 1 hsz f [(21, 1)] rfl).trans (show f 1 = _ from hH.get 0 (21, 1) rfl)
                  first
                    | exact skip_v hsz rfl ((wanted_some (b := true) rfl rfl s21).trans rfl) hQ0 (Grow.refl _) rfl
                    | exact skip_v hsz rfl (wanted_undef rfl rfl s21) hQ0 (Grow.refl _) rfl
                    | refine small_v hsz [(7, _)] ⟨some 1, (Op.move (.tmp 0)), 3, "", #[], none⟩ [_, undef] 1 rfl ((wanted_some (b := false) rfl rfl s21).trans rfl) ⟨s7, trivial⟩ rfl rfl hQ0 ?_
                      clear hQ0 hH s7 s21
                      intro Q hQ
                      repeat go_step
                      exact hQ _ _ (Grow.refl _) rfl rfl
                refine obls_cons (fun f w' hR hH Q0 hQ0 => ?_) ?_
                · skip
                  have s26 := (sv_at 26 6 hsz f [(26, 6), (27, 7), (21, 1)] rfl).trans (show f 6 = _ from hH.get 0 (26, 6) rfl)
                  have s27 := (sv_at 27 7 hsz f [(26, 6), (27, 7), (21, 1)] rfl).trans (show f 7 = _ from hH.get 1 (27, 7) rfl)
                  have s21 := (sv_at 21 1 hsz f [(26, 6), (27, 7), (21, 1)] rfl).trans (show f 1 = _ from hH.get 2 (21, 1) rfl)
                  first
                    | exact skip_v hsz rfl ((wanted_some (b := true) rfl rfl s21).trans rfl) hQ0 (Grow.refl _) rfl
                    | exact skip_v hsz rfl (wanted_undef rfl rfl s21) hQ0 (Grow.refl _) rfl
                    | refine small_v hsz [(26, _), (27, _)] ⟨some 2, (Op.indexAddr 23 (.tmp 0) (.tmp 1)), 0, "", #[], none⟩ [_, _, undef] 2 rfl ((wanted_some (b := false) rfl rfl s21).trans rfl) ⟨s26, s27, trivial⟩ rfl rfl hQ0 ?_
                      clear hQ0 hH s26 s27 s21
                      intro Q hQ
                      have hkn := HK.out
                      repeat go_step
                      exact hQ _ _ (Grow.refl _) rfl rfl
                refine obls_cons (fun f w' hR hH Q0 hQ0 => ?_) ?_
                · skip
                  have s28 := (sv_at 28 8 hsz f [(28, 8), (21, 1)] rfl).trans (show f 8 = _ from hH.get 0 (28, 8) rfl)
                  have s21 := (sv_at 21 1 hsz f [(28, 8), (21, 1)] rfl).trans (show f 1 = _ from hH.get 1 (21, 1) rfl)
                  first
                    | exact skip_v hsz rfl ((wanted_some (b := true) rfl rfl s21).trans rfl) hQ0 (Grow.refl _) rfl
                    | exact skip_v hsz rfl (wanted_undef rfl rfl s21) hQ0 (Grow.refl _) rfl
                    | refine small_v hsz [(28, _)] ⟨some 1, (Op.load 3 (.tmp 0)), 3, "", #[], none⟩ [_, undef] 1 rfl ((wanted_some (b := false) rfl rfl s21).trans rfl) ⟨s28, trivial⟩ rfl rfl hQ0 ?_
                      clear hQ0 hH s28 s21
                      intro Q hQ
                      have y0 := hR.cell HC2.out
                      repeat go_step
                      exact hQ _ _ (Grow.refl _) rfl rfl
                refine obls_cons (fun f w' hR hH Q0 hQ0 => ?_) ?_
                · skip
                  have s25 := (sv_at 25 5 hsz f [(25, 5), (29, 9), (21, 1)] rfl).trans (show f 5 = _ from hH.get 0 (25, 5) rfl)
                  have s29 := (sv_at 29 9 hsz f [(25, 5), (29, 9), (21, 1)] rfl).trans (show f 9 = _ from hH.get 1 (29, 9) rfl)
                  have s21 := (sv_at 21 1 hsz f [(25, 5), (29, 9), (21, 1)] rfl).trans (show f 1 = _ from hH.get 2 (21, 1) rfl)
                  first
                    | exact skip_v hsz rfl ((wanted_some (b := true) rfl rfl s21).trans rfl) hQ0 (Grow.refl _) rfl
                    | exact skip_v hsz rfl (wanted_undef rfl rfl s21) hQ0 (Grow.refl _) rfl
                    | refine small_v hsz [(25, _), (29, _)] ⟨some 2, (Op.binOp BinOp.eql 3 (.tmp 0) (.tmp 1) 3), 4, "", #[], none⟩ [_, _, undef] 2 rfl ((wanted_some (b := false) rfl rfl s21).trans rfl) ⟨s25, s29, trivial⟩ rfl rfl hQ0 ?_
                      clear hQ0 hH s25 s29 s21
                      intro Q hQ
                      repeat go_step
                      exact hQ _ _ (Grow.refl _) rfl rfl
                refine obls_cons (fun f w' hR hH Q0 hQ0 => ?_) ?_
                · skip
                  have s21 := (sv_at 21 1 hsz f [(21, 1), (30, 10)] rfl).trans (show f 1 = _ from hH.get 0 (21, 1) rfl)
                  have s30 := (sv_at 30 10 hsz f [(21, 1), (30, 10)] rfl).trans (show f 10 = _ from hH.get 1 (30, 10) rfl)
                  refine small_v hsz [(21, _), (30, _)] ⟨some 2, (Op.pick (.tmp 0) (Operand.const (Value.bool true)) (.tmp 1)), 4, "", #[], none⟩ [_, _, undef] 2 rfl rfl ⟨s21, s30, trivial⟩ rfl rfl hQ0 ?_
                  clear hQ0 hH s21 s30
                  intro Q hQ
                  repeat go_step
                  exact hQ _ _ (Grow.refl _) rfl rfl
                refine obls_cons (fun f w' hR hH Q0 hQ0 => ?_) ?_
                · skip
                  have s31 := (sv_at 31 11 hsz f [(31, 11)] rfl).trans (show f 11 = _ from hH.get 0 (31, 11) rfl)
                  refine small_v hsz [(31, _)] ⟨some 1, (Op.assign (.tmp 0)), 4, "", #[], none⟩ [_, undef] 1 rfl rfl ⟨s31, trivial⟩ rfl rfl hQ0 ?_
                  clear hQ0 hH s31
                  intro Q hQ
                  repeat go_step
                  exact hQ _ _ (Grow.refl _) rfl rfl
                exact obls_nil
              case mono => exact ⟨Mono.veq _, Mono.veq _, Mono.veq _, Mono.veq _, Mono.veq _, Mono.veq _, Mono.veq _, Mono.veq _, Mono.veq _, Mono.veq _, Mono.veq _, Mono.veq _, Mono.veq _, trivial⟩
              case tail =>
                intro f w' hR hH
                have q12 := hH.get 12 (6, 12) rfl
                clear hH
                refine wpList_merge (idx := [none, none, none, none, none, none, some 12, none, none, none, none, none, none, none, none, none, none, none, none, none, some 0, some 1, some 2, some 3, some 4, some 5, some 6, some 7, some 8, some 9, some 10, some 11, none, none]) (by kernel_rfl) ?_; show wpList _ _ _ [] ⟨#[_, _, _, _, _, _, f 12, _, _, _, _, _, _, _, _, _, _, _, _, _, f 0, f 1, f 2, f 3, f 4, f 5, f 6, f 7, f 8, f 9, f 10, f 11, _, _], _⟩ _
                rw [show f 12 = _ from q12]
                clear q12
                have HG9 := Lib.hid (HGk.out.trans hR)
                clear hR
                go_wp2_with fail
                go_roundw
                case rel =>
                  refine ⟨k + 1, false, by have := HK.out; omega, by go_num, rfl, Lib.hid fun _ j y' hj hy' => ?_, HG9.out⟩
                  rcases Nat.lt_or_ge j k with h3 | h3
                  · exact HT.out (by trivial) j y' h3 hy'
                  · obtain rfl : j = k := by omega
                    rw [HY.out] at hy'
                    injection hy' with hy'
                    rw [← hy']; exact HXY.out
                case measure => have := HK.out; simp [intOf] <;> omega
          · clear hk hlk
            go_wp2_with fail
            apply (fun (v0 v1 v2 v3 v4 v5 v6 v7 v8 v9 v10 v11 v12 : Value) mono obl tail => wp_region_par (R := Grow) (Φ := phi [veq v0, veq v1, veq v2, veq v3, veq v4, veq v5, veq v6, veq v7, veq v8, veq v9, veq v10, veq v11, veq v12]) (m := 13) (dls := [[], [(20, 0)], [(21, 1)], [(21, 1)], [(22, 2), (23, 3), (21, 1)], [(24, 4), (21, 1)], [(21, 1)], [(21, 1)], [(26, 6), (27, 7), (21, 1)], [(28, 8), (21, 1)], [(25, 5), (29, 9), (21, 1)], [(21, 1), (30, 10)], [(31, 11)]]) (ds := [20, 21, 22, 23, 24, 25, 26, 27, 28, 29, 30, 31, 6]) (by kernel_rfl) (by kernel_rfl) (by decide) rfl (Grow.drew _) (fun _ _ _ => Grow.trans) (mono_phi mono) obl tail)
            case obl =>
              refine obls_frame (fun a1 ha => ?_)
              have hsz := rd_size (n := 34) ha rfl
              have e6 := rd_slot 6 ha rfl
              have e0 := rd_slot 0 ha rfl
              have e5 := rd_slot 5 ha rfl
              have e1 := rd_slot 1 ha rfl
              have e7 := rd_slot 7 ha rfl
              clear ha
              refine obls_cons (fun f w' hR hH Q0 hQ0 => ?_) ?_
              · skip
                have s6 := sv_off f [] e6 rfl
                refine small_v hsz [(6, _)] ⟨some 1, (Op.move (.tmp 0)), 4, "", #[], none⟩ [_, undef] 1 rfl rfl ⟨s6, trivial⟩ rfl rfl hQ0 ?_
                clear hQ0 hH s6
                intro Q hQ
                repeat go_step
                exact hQ _ _ (Grow.refl _) rfl rfl
              refine obls_cons (fun f w' hR hH Q0 hQ0 => ?_) ?_
              · skip
                have s20 := (sv_at 20 0 hsz f [(20, 0)] rfl).trans (show f 0 = _ from hH.get 0 (20, 0) rfl)
                refine small_v hsz [(20, _)] ⟨some 1, (Op.move (.tmp 0)), 4, "", #[], none⟩ [_, undef] 1 rfl rfl ⟨s20, trivial⟩ rfl rfl hQ0 ?_
                clear hQ0 hH s20
                intro Q hQ
                repeat go_step
                exact hQ _ _ (Grow.refl _) rfl rfl
              refine obls_cons (fun f w' hR hH Q0 hQ0 => ?_) ?_
              · skip
                have s0 := sv_off f [(21, 1)] e0 rfl
                have s21 := (sv_at 21 1 hsz f [(21, 1)] rfl).trans (show f 1 = _ from hH.get 0 (21, 1) rfl)
                first
                  | exact skip_v hsz rfl ((wanted_some (b := true) rfl rfl s21).trans rfl) hQ0 (Grow.refl _) rfl
                  | exact skip_v hsz rfl (wanted_undef rfl rfl s21) hQ0 (Grow.refl _) rfl
                  | refine small_v hsz [(0, _)] ⟨some 1, (Op.move (.tmp 0)), 23, "", #[], none⟩ [_, undef] 1 rfl ((wanted_some (b := false) rfl rfl s21).trans rfl) ⟨s0, trivial⟩ rfl rfl hQ0 ?_
                    clear hQ0 hH s0 s21
                    intro Q hQ
                    repeat go_step
                    exact hQ _ _ (Grow.refl _) rfl rfl
              refine obls_cons (fun f w' hR hH Q0 hQ0 => ?_) ?_
              · skip
                have s5 := sv_off f [(21, 1)] e5 rfl
                have s21 := (sv_at 21 1 hsz f [(21, 1)] rfl).trans (show f 1 = _ from hH.get 0 (21, 1) rfl)
                first
                  | exact skip_v hsz rfl ((wanted_some (b := true) rfl rfl s21).trans rfl) hQ0 (Grow.refl _) rfl
                  | exact skip_v hsz rfl (wanted_undef rfl rfl s21) hQ0 (Grow.refl _) rfl
                  | refine small_v hsz [(5, _)] ⟨some 1, (Op.move (.tmp 0)), 3, "", #[], none⟩ [_, undef] 1 rfl ((wanted_some (b := false) rfl rfl s21).trans rfl) ⟨s5, trivial⟩ rfl rfl hQ0 ?_
                    clear hQ0 hH s5 s21
                    intro Q hQ
                    repeat go_step
                    exact hQ _ _ (Grow.refl _) rfl rfl
              refine obls_cons (fun f w' hR hH Q0 hQ0 => ?_) ?_
              · skip
                have s22 := (sv_at 22 2 hsz f [(22, 2), (23, 3), (21, 1)] rfl).trans (show f 2 = _ from hH.get 0 (22, 2) rfl)
                have s23 := (sv_at 23 3 hsz f [(22, 2), (23, 3), (21, 1)] rfl).trans (show f 3 = _ from hH.get 1 (23, 3) rfl)
                have s21 := (sv_at 21 1 hsz f [(22, 2), (23, 3), (21, 1)] rfl).trans (show f 1 = _ from hH.get 2 (21, 1) rfl)
                first
                  | exact skip_v hsz rfl ((wanted_some (b := true) rfl rfl s21).trans rfl) hQ0 (Grow.refl _) rfl
                  | exact skip_v hsz rfl (wanted_undef rfl rfl s21) hQ0 (Grow.refl _) rfl
                  | refine small_v hsz [(22, _), (23, _)] ⟨some 2, (Op.indexAddr 23 (.tmp 0) (.tmp 1)), 0, "", #[], none⟩ [_, _, undef] 2 rfl ((wanted_some (b := false) rfl rfl s21).trans rfl) ⟨s22, s23, trivial⟩ rfl rfl hQ0 ?_
                    clear hQ0 hH s22 s23 s21
                    intro Q hQ
                    repeat go_step
                    exact hQ _ _ (Grow.refl _) rfl rfl
              refine obls_cons (fun f w' hR hH Q0 hQ0 => ?_) ?_
              · skip
                have s24 := (sv_at 24 4 hsz f [(24, 4), (21, 1)] rfl).trans (show f 4 = _ from hH.get 0 (24, 4) rfl)
                have s21 := (sv_at 21 1 hsz f [(24, 4), (21, 1)] rfl).trans (show f 1 = _ from hH.get 1 (21, 1) rfl)
                first
                  | exact skip_v hsz rfl ((wanted_some (b := true) rfl rfl s21).trans rfl) hQ0 (Grow.refl _) rfl
                  | exact skip_v hsz rfl (wanted_undef rfl rfl s21) hQ0 (Grow.refl _) rfl
                  | refine small_v hsz [(24, _)] ⟨some 1, (Op.load 3 (.tmp 0)), 3, "", #[], none⟩ [_, undef] 1 rfl ((wanted_some (b := false) rfl rfl s21).trans rfl) ⟨s24, trivial⟩ rfl rfl hQ0 ?_
                    clear hQ0 hH s24 s21
                    intro Q hQ
                    repeat go_step
                    exact hQ _ _ (Grow.refl _) rfl rfl
              refine obls_cons (fun f w' hR hH Q0 hQ0 => ?_) ?_
              · skip
                have s1 := sv_off f [(21, 1)] e1 rfl
                have s21 := (sv_at 21 1 hsz f [(21, 1)] rfl).trans (show f 1 = _ from hH.get 0 (21, 1) rfl)
                first
                  | exact skip_v hsz rfl ((wanted_some (b := true) rfl rfl s21).trans rfl) hQ0 (Grow.refl _) rfl
                  | exact skip_v hsz rfl (wanted_undef rfl rfl s21) hQ0 (Grow.refl _) rfl
                  | refine small_v hsz [(1, _)] ⟨some 1, (Op.move (.tmp 0)), 23, "", #[], none⟩ [_, undef] 1 rfl ((wanted_some (b := false) rfl rfl s21).trans rfl) ⟨s1, trivial⟩ rfl rfl hQ0 ?_
                    clear hQ0 hH s1 s21
                    intro Q hQ
                    repeat go_step
                    exact hQ _ _ (Grow.refl _) rfl rfl
              refine obls_cons (fun f w' hR hH Q0 hQ0 => ?_) ?_
              · skip
                have s7 := sv_off f [(21, 1)] e7 rfl
                have s21 := (sv_at 21 1 hsz f [(21, 1)] rfl).trans (show f 1 = _ from hH.get 0 (21, 1) rfl)
                first
                  | exact skip_v hsz rfl ((wanted_some (b := true) rfl rfl s21).trans rfl) hQ0 (Grow.refl _) rfl
                  | exact skip_v hsz rfl (wanted_undef rfl rfl s21) hQ0 (Grow.refl _) rfl
                  | refine small_v hsz [(7, _)] ⟨some 1, (Op.move (.tmp 0)), 3, "", #[], none⟩ [_, undef] 1 rfl ((wanted_some (b := false) rfl rfl s21).trans rfl) ⟨s7, trivial⟩ rfl rfl hQ0 ?_
                    clear hQ0 hH s7 s21
                    intro Q hQ
                    repeat go_step
                    exact hQ _ _ (Grow.refl _) rfl rfl
              refine obls_cons (fun f w' hR hH Q0 hQ0 => ?_) ?_
              · skip
                have s26 := (sv_at 26 6 hsz f [(26, 6), (27, 7), (21, 1)] rfl).trans (show f 6 = _ from hH.get 0 (26, 6) rfl)
                have s27 := (sv_at 27 7 hsz f [(26, 6), (27, 7), (21, 1)] rfl).trans (show f 7 = _ from hH.get 1 (27, 7) rfl)
                have s21 := (sv_at 21 1 hsz f [(26, 6), (27, 7), (21, 1)] rfl).trans (show f 1 = _ from hH.get 2 (21, 1) rfl)
                first
                  | exact skip_v hsz rfl ((wanted_some (b := true) rfl rfl s21).trans rfl) hQ0 (Grow.refl _) rfl
                  | exact skip_v hsz rfl (wanted_undef rfl rfl s21) hQ0 (Grow.refl _) rfl
                  | refine small_v hsz [(26, _), (27, _)] ⟨some 2, (Op.indexAddr 23 (.tmp 0) (.tmp 1)), 0, "", #[], none⟩ [_, _, undef] 2 rfl ((wanted_some (b := false) rfl rfl s21).trans rfl) ⟨s26, s27, trivial⟩ rfl rfl hQ0 ?_
                    clear hQ0 hH s26 s27 s21
                    intro Q hQ
                    repeat go_step
                    exact hQ _ _ (Grow.refl _) rfl rfl
              refine obls_cons (fun f w' hR hH Q0 hQ0 => ?_) ?_
              · skip
                have s28 := (sv_at 28 8 hsz f [(28, 8), (21, 1)] rfl).trans (show f 8 = _ from hH.get 0 (28, 8) rfl)
                have s21 := (sv_at 21 1 hsz f [(28, 8), (21, 1)] rfl).trans (show f 1 = _ from hH.get 1 (21, 1) rfl)
                first
                  | exact skip_v hsz rfl ((wanted_some (b := true) rfl rfl s21).trans rfl) hQ0 (Grow.refl _) rfl
                  | exact skip_v hsz rfl (wanted_undef rfl rfl s21) hQ0 (Grow.refl _) rfl
                  | refine small_v hsz [(28, _)] ⟨some 1, (Op.load 3 (.tmp 0)), 3, "", #[], none⟩ [_, undef] 1 rfl ((wanted_some (b := false) rfl rfl s21).trans rfl) ⟨s28, trivial⟩ rfl rfl hQ0 ?_
                    clear hQ0 hH s28 s21
                    intro Q hQ
                    repeat go_step
                    exact hQ _ _ (Grow.refl _) rfl rfl
              refine obls_cons (fun f w' hR hH Q0 hQ0 => ?_) ?_
              · skip
                have s25 := (sv_at 25 5 hsz f [(25, 5), (29, 9), (21, 1)] rfl).trans (show f 5 = _ from hH.get 0 (25, 5) rfl)
                have s29 := (sv_at 29 9 hsz f [(25, 5), (29, 9), (21, 1)] rfl).trans (show f 9 = _ from hH.get 1 (29, 9) rfl)
                have s21 := (sv_at 21 1 hsz f [(25, 5), (29, 9), (21, 1)] rfl).trans (show f 1 = _ from hH.get 2 (21, 1) rfl)
                first
                  | exact skip_v hsz rfl ((wanted_some (b := true) rfl rfl s21).trans rfl) hQ0 (Grow.refl _) rfl
                  | exact skip_v hsz rfl (wanted_undef rfl rfl s21) hQ0 (Grow.refl _) rfl
                  | refine small_v hsz [(25, _), (29, _)] ⟨some 2, (Op.binOp BinOp.eql 3 (.tmp 0) (.tmp 1) 3), 4, "", #[], none⟩ [_, _, undef] 2 rfl ((wanted_some (b := false) rfl rfl s21).trans rfl) ⟨s25, s29, trivial⟩ rfl rfl hQ0 ?_
                    clear hQ0 hH s25 s29 s21
                    intro Q hQ
                    repeat go_step
                    exact hQ _ _ (Grow.refl _) rfl rfl
              refine obls_cons (fun f w' hR hH Q0 hQ0 => ?_) ?_
              · skip
                have s21 := (sv_at 21 1 hsz f [(21, 1), (30, 10)] rfl).trans (show f 1 = _ from hH.get 0 (21, 1) rfl)
                have s30 := (sv_at 30 10 hsz f [(21, 1), (30, 10)] rfl).trans (show f 10 = _ from hH.get 1 (30, 10) rfl)
                refine small_v hsz [(21, _), (30, _)] ⟨some 2, (Op.pick (.tmp 0) (Operand.const (Value.bool true)) (.tmp 1)), 4, "", #[], none⟩ [_, _, undef] 2 rfl rfl ⟨s21, s30, trivial⟩ rfl rfl hQ0 ?_
                clear hQ0 hH s21 s30
                intro Q hQ
                repeat go_step
                exact hQ _ _ (Grow.refl _) rfl rfl
              refine obls_cons (fun f w' hR hH Q0 hQ0 => ?_) ?_
              · skip
                have s31 := (sv_at 31 11 hsz f [(31, 11)] rfl).trans (show f 11 = _ from hH.get 0 (31, 11) rfl)
                refine small_v hsz [(31, _)] ⟨some 1, (Op.assign (.tmp 0)), 4, "", #[], none⟩ [_, undef] 1 rfl rfl ⟨s31, trivial⟩ rfl rfl hQ0 ?_
                clear hQ0 hH s31
                intro Q hQ
                repeat go_step
                exact hQ _ _ (Grow.refl _) rfl rfl
              exact obls_nil
            case mono => exact ⟨Mono.veq _, Mono.veq _, Mono.veq _, Mono.veq _, Mono.veq _, Mono.veq _, Mono.veq _, Mono.veq _, Mono.veq _, Mono.veq _, Mono.veq _, Mono.veq _, Mono.veq _, trivial⟩
            case tail =>
              intro f w' hR hH
              have q12 := hH.get 12 (6, 12) rfl
              clear hH
              refine wpList_merge (idx := [none, none, none, none, none, none, some 12, none, none, none, none, none, none, none, none, none, none, none, none, none, some 0, some 1, some 2, some 3, some 4, some 5, some 6, some 7, some 8, some 9, some 10, some 11, none, none]) (by kernel_rfl) ?_; show wpList _ _ _ [] ⟨#[_, _, _, _, _, _, f 12, _, _, _, _, _, _, _, _, _, _, _, _, _, f 0, f 1, f 2, f 3, f 4, f 5, f 6, f 7, f 8, f 9, f 10, f 11, _, _], _⟩ _
              rw [show f 12 = _ from q12]
              clear q12
              have HG9 := Lib.hid (HGk.out.trans hR)
              clear hR
              go_wp2_with fail
              go_roundw
              case rel => exact ⟨k + 1, true, by have := HK.out; omega, by go_num, rfl, Lib.hid fun h => (by cases h), HG9.out⟩
              case measure => have := HK.out; simp [intOf] <;> omega
        · obtain rfl : k = n2 := by omega
          have t2 : decide (k < k) = false := decide_eq_false hlk
          have htt : t = true := by
            cases t
            · obtain ⟨j, hj, e⟩ := List.getElem_of_mem HXL.out
              have hl := H2.out.1
              rw [List.length_map] at hl
              exact absurd e.symm (HT.out rfl j _ (by omega) (List.getElem?_eq_getElem hj))
            · rfl
          subst htt
          clear hk hlk
          go_wp2_with fail
          go_roundw
          case rel => exact ⟨i + 1, by have := HI.out; omega, by go_num, HGk.out⟩
          case measure => have := HI.out; simp [intOf] <;> omega
    · obtain rfl : i = n1 := by omega
      have t1 : decide (i < i) = false := decide_eq_false hlt
      clear hi hlt
      go_wp2_with fail
      go_ret
      exact ⟨rfl, HG.out⟩
def brow1 (b : Bool) : List Value := [.bool b]
set_option maxRecDepth 100000 in
set_option maxHeartbeats 2000000 in
theorem whole_walk (x : Int) (A1 : Option Addr) (n1 c1 : Nat) (xs : List (Int × Int)) (w : World) (hr : Go.Kit.Recs 2 prow w A1 n1 xs) (hxs : ∀ p ∈ xs, PairOk p) (hn1 : n1 ≤ maxLen) (A2 : Option Addr) (n2 c2 : Nat) (bs : List Bool) (hbs : Bools w A2 n2 bs) (hn2 : n2 ≤ maxLen) :
    Calls Try.prog 6 #[.int .i64 x, .slice A1 n1 c1, .slice A2 n2 c2] w fun e w' => e = .returned (.bool true) ∧ Grow w w' := by
  unfold maxLen at hn1 hn2
  by_cases h0 : x < 0
  · have t0 : decide (x < 0) = true := decide_eq_true h0
    clear hr hxs hbs h0
    go_enter Try.func6, Try.ntmps6
    go_wp2_with fail
    refine (works_any w).mono ?_
    rintro e w1 ⟨rfl, hg⟩
    have HG := Lib.hid hg
    clear hg
    go_wp2_with fail
    go_ret
    exact ⟨rfl, HG.out⟩
  · have t0 : decide (x < 0) = false := decide_eq_false h0
    by_cases h1 : 16 < x
    · have t1 : decide (16 < x) = true := decide_eq_true h1
      clear hr hxs hbs h1 h0
      go_enter Try.func6, Try.ntmps6
      go_wp2_with fail
      refine (works_any w).mono ?_
      rintro e w1 ⟨rfl, hg⟩
      have HG := Lib.hid hg
      clear hg
      go_wp2_with fail
      go_ret
      exact ⟨rfl, HG.out⟩
    · have t1 : decide (16 < x) = false := decide_eq_false h1
      by_cases h2 : 60 < n1
      · have t2 : decide (60 < n1) = true := decide_eq_true h2
        have t2' : decide ((60 : Int) < (n1 : Int)) = true := decide_eq_true (by omega)
        clear hr hxs hbs h1 h2 h0
        go_enter Try.func6, Try.ntmps6
        go_wp2_with fail
        refine (works_any w).mono ?_
        rintro e w1 ⟨rfl, hg⟩
        have HG := Lib.hid hg
        clear hg
        go_wp2_with fail
        go_ret
        exact ⟨rfl, HG.out⟩
      · have t2 : decide (60 < n1) = false := decide_eq_false h2
        have t2' : decide ((60 : Int) < (n1 : Int)) = false := decide_eq_false (by omega)
        obtain ⟨n, rfl⟩ := Int.eq_ofNat_of_zero_le (show 0 ≤ x by omega)
        have hof := reW.of_any w (n : Int) A1 n1 c1 xs hr (by omega) hxs
        have hcl : clampN (n : Int) = n := by unfold clampN; omega
        rw [hcl] at hof
        have hn16 : n ≤ 16 := by omega
        obtain ⟨R, hR⟩ : ∃ R, R = leadB (vp n xs) := ⟨_, rfl⟩
        have HBD : Hid (toW.Bd n R) := Lib.hid (by rw [hR]; exact fun i j h => ⟨reL.lead_lt1 i j h, reL.lead_lt i j h⟩)
        have HTR : Hid (Tr R) := Lib.hid (by rw [hR]; exact leadB_tr _)
        rw [← hR] at hof
        have HOF := Lib.hid hof
        have HBS := Lib.hid hbs
        clear hof hbs hr hxs hR hcl h1 h2 h0
        go_enter Try.func6, Try.ntmps6
        go_wp2_with fail
        refine HOF.out.mono ?_
        rintro e w2 ⟨gr, rfl, hrel, hg2⟩
        have HREL := Lib.hid hrel
        have HG2 := Lib.hid hg2
        have HOR := Lib.hid (toW.order_any w2 gr n R hrel HBD.out HTR.out)
        have hinv := To.order_inv (n := n) HTR.out
        obtain ⟨o, ho⟩ : ∃ o, o = To.orderN n R := ⟨_, rfl⟩
        rw [← ho] at HOR hinv
        have HINV := Lib.hid hinv.1
        have HOL := Lib.hid hinv.2
        clear hrel hg2 t0 t1 t2 t2' hinv ho
        go_wp2_with fail
        refine HOR.out.mono ?_
        rintro e w3 ⟨v3, rfl, hv3, hg3⟩
        obtain ⟨A3, c3, rfl, -, -, hr3, -⟩ := hv3
        rw [HOL.out] at hr3 ⊢
        have HR3 := Lib.hid hr3
        have HG3 := Lib.hid (HG2.out.trans hg3)
        have HREL3 := Lib.hid (HREL.out.grow hg3)
        clear hr3 hg3
        go_wp2_with fail
        go_loopw [9, 10] (fun o' k' wr => ∃ (k : Nat) (v : Value), k ≤ n ∧ k' = .int .i64 (k : Int) ∧ v = o' ∧ wr.ownsRow w3.heap.size 3 1 v (keepP o bs k).length ((keepP o bs k).map nv) ∧ Grow w3 wr) (fun _ k' _ => n - (intOf k').toNat)
        case atStart => exact ⟨0, _, by omega, rfl, rfl, World.ownsRow_nil _ _ _ _, Grow.refl _⟩
        case round =>
          obtain ⟨k, v, hk, rfl, rfl, ho, hg⟩ := hrel
          by_cases hlt : k < n
          · have t1 : decide (k < n) = true := decide_eq_true hlt
            have t1' : decide ((k : Int) < (n : Int)) = true := decide_eq_true (by omega)
            obtain ⟨b, off, y, rfl, hy, hcy⟩ := Go.Proofs.Ytbcifodifadoiaa.mkR.Row.nat_at (L := o) (by rw [HOL.out]; exact HR3.out) (k := k) (by rw [HOL.out]; exact hlt)
            have y0 := hg.cell hcy
            have hql : (keepP o bs k).length ≤ k := by
              have := (keepP_sub o bs k (by rw [HOL.out]; omega)).length_le
              rw [List.length_take] at this
              omega
            obtain ⟨Q, hQ⟩ : ∃ Q, Q = keepP o bs k := ⟨_, rfl⟩
            obtain ⟨lq, hlq⟩ : ∃ lq, lq = Q.length := ⟨_, rfl⟩
            rw [← hQ, ← hlq] at ho hql
            obtain ⟨Av, cv, rfl, -, -, -⟩ := own_form ho
            have HO := Lib.hid ho
            have HG := Lib.hid hg
            have HY := Lib.hid hy
            have HQ := Lib.hid hQ
            have HLQ := Lib.hid hlq
            have HK := Lib.hid hlt
            have hk9 : k < n := hlt
            clear ho hg hy hcy hQ hlq hk hlt
            by_cases hlb : n2 ≤ k
            · have t3 : decide (n2 ≤ k) = true := decide_eq_true hlb
              have t3' : decide ((n2 : Int) ≤ (k : Int)) = true := decide_eq_true (by omega)
              have hkp : keepP o bs (k + 1) = Q ++ [y] := by rw [HQ.out]; exact keepP_yes HY.out (.inl (by rw [HBS.out.len]; exact hlb))
              have HKP := Lib.hid hkp
              clear hlb hkp
              go_wp2_with (at_builtin; refine wpList_append_row rfl _ _ _ rfl w3.heap.size 3 _ _ 1 8 Try.underlying23 iI iIz iIs iIb rfl (by decide) (.slice Av lq cv) lq (Q.map nv) rfl (own_grow HO.out (Grow.alloc wr (.cells #[.int .i64 (y : Int)] 3))) (some ⟨wr.heap.size, 0, none⟩) 1 1 [.int .i64 (y : Int)] rfl (Row.new wr [.int .i64 (y : Int)] 3 (0, 0)) one1 (by unfold maxLen; omega) (by omega) (Nat.le_trans HG.out.size (Grow.alloc wr (.cells #[.int .i64 (y : Int)] 3)).size) ?_; intro v1 w1 hown1 hgb1 hnb1; obtain ⟨Aw, cw, rfl, -, -, -⟩ := own_form hown1)
              have hgr := grow_by (HG.out.trans (Grow.alloc wr (.cells #[.int .i64 (y : Int)] 3))) hgb1 (own_base HO.out)
              have hof : w1.ownsRow w3.heap.size 3 1 (.slice Aw (lq + 1) cw) (keepP o bs (k + 1)).length ((keepP o bs (k + 1)).map nv) := by
                rw [HKP.out, List.length_append, List.map_append, ← HLQ.out]
                exact hown1
              have HOF := Lib.hid hof
              have HGR := Lib.hid hgr
              clear hown1 hgb1 hnb1 hgr hof
              go_roundw
              case rel => exact ⟨k + 1, _, by have := HK.out; omega, by go_num, rfl, HOF.out, HGR.out⟩
              case measure => have := HK.out; simp [intOf] <;> omega
            · have t3 : decide (n2 ≤ k) = false := decide_eq_false hlb
              have t3' : decide ((n2 : Int) ≤ (k : Int)) = false := decide_eq_false (by omega)
              obtain ⟨bb, offb, q, rfl, hq, hcq⟩ := HBS.out.at_ (k := k) (by omega)
              have y1 := (HG3.out.trans HG.out).cell hcq
              have hkn2 : k < n2 := by omega
              cases q
              · have hkp : keepP o bs (k + 1) = Q ++ [y] := by rw [HQ.out]; exact keepP_yes HY.out (.inr hq)
                have HKP := Lib.hid hkp
                clear hlb hkp hq hcq
                go_wp2_with (at_builtin; refine wpList_append_row rfl _ _ _ rfl w3.heap.size 3 _ _ 1 8 Try.underlying23 iI iIz iIs iIb rfl (by decide) (.slice Av lq cv) lq (Q.map nv) rfl (own_grow HO.out (Grow.alloc wr (.cells #[.int .i64 (y : Int)] 3))) (some ⟨wr.heap.size, 0, none⟩) 1 1 [.int .i64 (y : Int)] rfl (Row.new wr [.int .i64 (y : Int)] 3 (0, 0)) one1 (by unfold maxLen; omega) (by omega) (Nat.le_trans HG.out.size (Grow.alloc wr (.cells #[.int .i64 (y : Int)] 3)).size) ?_; intro v1 w1 hown1 hgb1 hnb1; obtain ⟨Aw, cw, rfl, -, -, -⟩ := own_form hown1)
                have hgr := grow_by (HG.out.trans (Grow.alloc wr (.cells #[.int .i64 (y : Int)] 3))) hgb1 (own_base HO.out)
                have hof : w1.ownsRow w3.heap.size 3 1 (.slice Aw (lq + 1) cw) (keepP o bs (k + 1)).length ((keepP o bs (k + 1)).map nv) := by
                  rw [HKP.out, List.length_append, List.map_append, ← HLQ.out]
                  exact hown1
                have HOF := Lib.hid hof
                have HGR := Lib.hid hgr
                clear hown1 hgb1 hnb1 hgr hof
                go_roundw
                case rel => exact ⟨k + 1, _, by have := HK.out; omega, by go_num, rfl, HOF.out, HGR.out⟩
                case measure => have := HK.out; simp [intOf] <;> omega
              · have hkp : keepP o bs (k + 1) = Q := by rw [HQ.out]; exact keepP_no hq
                have HKP := Lib.hid hkp
                clear hlb hkp hq hcq
                go_wp2_with fail
                clear y0 y1 t3 t3' hkn2
                go_roundw
                case rel => exact ⟨k + 1, _, by have := HK.out; omega, by go_num, rfl, by rw [HKP.out, ← HLQ.out]; exact HO.out, HG.out⟩
                case measure => have := HK.out; simp [intOf] <;> omega
          · obtain rfl : k = n := by omega
            have t1 : decide (k < k) = false := decide_eq_false hlt
            obtain ⟨L, hL⟩ : ∃ L, L = keepP o bs k := ⟨_, rfl⟩
            have hsub : L.Sublist o := by rw [hL]; exact (keepP_sub o bs k (by rw [HOL.out]; exact Nat.le_refl _)).trans (List.take_sublist _ _)
            rw [← hL] at ho
            have hLl : L.length ≤ 16 := by have := hsub.length_le; have := HOL.out; omega
            obtain ⟨l, hl⟩ : ∃ l : List Int, l = L.map fun (n : Nat) => (n : Int) := ⟨_, rfl⟩
            have hll : l.length = L.length := by rw [hl, List.length_map]
            have hoi : OwnI wr w3.heap.size v l := by
              unfold OwnI
              rw [hl, iv_nv, List.length_map]
              exact ho
            have hok : ∀ z ∈ l, i64ok z := fun z hz => by
              rw [hl] at hz
              obtain ⟨m, hm, rfl⟩ := List.mem_map.1 hz
              have := HINV.out.lt m (hsub.subset hm)
              exact ⟨by omega, by omega⟩
            have hfit : ∀ z ∈ l, fitB k z = true := fun z hz => by
              rw [hl] at hz
              obtain ⟨m, hm, rfl⟩ := List.mem_map.1 hz
              have := HINV.out.lt m (hsub.subset hm)
              exact fitB_of ⟨by omega, by omega⟩
            have hnd : l.Nodup := by
              rw [hl]
              refine List.nodup_iff_pairwise_ne.2 ?_
              rw [List.pairwise_map]
              exact (List.nodup_iff_pairwise_ne.1 (HINV.out.nodup.sublist hsub)).imp fun h e => h (by omega)
            have hpw : l.Pairwise fun a b => aheadI R b a = false := by
              rw [hl, List.pairwise_map]
              exact (HINV.out.ord.sublist hsub).imp fun h => by rw [toW.aheadI_nat]; exact h
            obtain ⟨Av, cv, rfl, hnm⟩ := hoi.nums hok
            have hbo := bk.of_any gr k R l.length wr (HREL3.out.grow hg) Av l.length cv l hnm (Nat.le_refl _) (by omega)
            have hbp := blocks_perm (B := aheadI R) (nearI_symm R) l.length l (Nat.le_refl _)
            have hbw := blocks_pw (B := aheadI R) (nearI_symm R) (P := fun a b => aheadI R b a = false) (fun a b h => by unfold nearI at h; rw [Bool.or_eq_false_iff] at h; unfold aheadI; rw [h.2]; rfl) l.length l (Nat.le_refl _) hpw
            obtain ⟨ts, hts⟩ : ∃ ts, ts = blocksF (aheadI R) (nearI R) l.length l := ⟨_, rfl⟩
            rw [← hts] at hbo hbp hbw
            have hfl := fits_list (n := k) (R := R) (g := thingsL ts) (fun z hz => hfit z (hbp.mem_iff.1 hz)) (hbp.nodup_iff.2 hnd) hbw
            have htl : (thingsL ts).length = l.length := hbp.length_eq
            obtain ⟨m, hm⟩ : ∃ m, m = l.length := ⟨_, rfl⟩
            rw [← hm] at hbo hnm htl hll ⊢
            have HNM := Lib.hid hnm
            have HBO := Lib.hid hbo
            have HFL := Lib.hid hfl
            have HTL := Lib.hid htl
            have HMEM := Lib.hid (fun z (hz : z ∈ thingsL ts) => hbp.mem_iff.1 hz)
            have HOKT := Lib.hid (fun z (hz : z ∈ thingsL ts) => hok z (hbp.mem_iff.1 hz))
            have HG := Lib.hid (HG3.out.trans hg)
            have HRELr := Lib.hid (HREL3.out.grow hg)
            have hm16 : m ≤ 16 := by omega
            have e1 : ((k : Int) == (k : Int)) = true := beq_self_eq_true _
            have e2 : ((m : Int) == (m : Int)) = true := beq_self_eq_true _
            clear hL hsub ho hLl hl hll hoi hok hfit hnd hpw hnm hbo hbp hbw hts hfl htl hm hg hlt hk
            go_wp2_with fail
            refine HBO.out.mono ?_
            rintro e w4 ⟨u, rfl, htv, hg4⟩
            have HTH := Lib.hid (things_any htv w4 (Grow.refl _) (by rw [HTL.out]; omega))
            obtain ⟨Ab, cb, qs, rfl, -⟩ := htv.form
            have HG4 := Lib.hid hg4
            obtain ⟨nb, hnb⟩ : ∃ nb, nb = ts.length := ⟨_, rfl⟩
            rw [← hnb] at HTH ⊢
            clear htv hg4 hnb
            go_wp2_with fail
            refine HTH.out.mono ?_
            rintro e w5 ⟨v5, rfl, ho5, hg5⟩
            obtain ⟨A5, c5, rfl, hc5, hm5, hr5⟩ := ho5.form
            rw [HTL.out] at hr5 hc5 ⊢
            have HR5 := Lib.hid hr5
            have HFI := Lib.hid (toW.fits_any w5 gr k R (HRELr.out.grow (HG4.out.trans hg5)) A5 m c5 (thingsL ts) hr5 hc5 hm5 HOKT.out)
            rw [HFL.out] at HFI
            have HG5 := Lib.hid (HG4.out.trans hg5)
            clear ho5 hg5 hc5 hm5 hr5
            go_wp2_with fail
            refine HFI.out.mono ?_
            rintro e w6 ⟨rfl, hg6⟩
            have HWI := Lib.hid (within_any w6 A5 Av m m c5 cv (thingsL ts) l (Row.grow HR5.out hg6) (HNM.out.row.grow (HG5.out.trans hg6)) (by unfold maxLen; omega) (by unfold maxLen; omega) HMEM.out)
            have HG6 := Lib.hid (HG5.out.trans hg6)
            clear hg6
            go_wp2_with fail
            refine HWI.out.mono ?_
            rintro e w7 ⟨rfl, hg7⟩
            have HG7 := Lib.hid (HG6.out.trans hg7)
            clear hg7
            go_wp2_with fail
            refine (works_any w7).mono ?_
            rintro e w8 ⟨rfl, hg8⟩
            have HG8 := Lib.hid ((HG.out.trans HG7.out).trans hg8)
            clear hg8
            go_wp2_with fail
            go_ret
            exact ⟨rfl, HG8.out⟩
end Go.Proofs.Ytbcifodifadoiaa.bk
