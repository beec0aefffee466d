/- The walk of the document's side (printed by gen_bkr.py). -/
import Derived.Test.YtbcifodifadoiaaBkR
namespace Go.Proofs.Ytbcifodifadoiaa.bk
open Go Go.RowKit Go.Par Go.Kit Go.Proofs.Ytbcifodifadoiaa.Bk Go.Proofs.Ytbcifodifadoiaa.reW Go.Proofs.Ytbcifodifadoiaa.mkW Go.Proofs.Ytbcifodifadoiaa.Re

set_option maxRecDepth 100000 in
set_option maxHeartbeats 2000000 in
theorem ref_side (w : World) (M : Int) (v : Value) (L : List (Nat × Nat)) (hv : RefV w v L) (hL : L.length ≤ 1000000) (A : Option Addr) (n c : Nat) (l : List Int) (hl : Nums w A n c l) (hn : n ≤ 1000000) (a : Nat) (ha : a < n) :
    Calls Try.prog 42 #[.agg #[.int .i64 M, v], .slice A n c, .int .i64 (a : Int)] w fun e w' => ∃ u, e = .returned u ∧ w'.ownsRow w.heap.size 3 1 u (sideL (nearI (leadB L)) l a).length ((sideL (nearI (leadB L)) l a).map nv) ∧ Grow w w' := by
  have HV := Lib.hid hv
  obtain ⟨A0, c0, rfl, -⟩ := hv
  obtain ⟨l0, hl0⟩ : ∃ l, l = L.length := ⟨_, rfl⟩
  rw [← hl0] at HV ⊢
  obtain ⟨W1, hW1⟩ : ∃ W, W = w.alloc (.cells #[.int .i64 M, .slice A0 l0 c0] TX8) := ⟨_, rfl⟩
  obtain ⟨b0, hb0⟩ : ∃ b, b = w.heap.size := ⟨_, rfl⟩
  have hg1 : Grow w W1 := by rw [hW1]; exact Grow.alloc _ _
  have hbx : Blk W1 b0 TX8 [.int .i64 M, .slice A0 l0 c0] := by rw [hW1]; exact Blk.new w _ _ _ rfl hb0
  obtain ⟨N, hN⟩ : ∃ N, N = nearI (leadB L) := ⟨_, rfl⟩
  have HNE : Hid (∀ w' x y, Grow w w' → Calls Try.prog 47 #[.agg #[.int .i64 M, .slice A0 l0 c0], .int .i64 x, .int .i64 y] w' fun e w2 => e = .returned (.bool (N x y)) ∧ Grow w' w2) := Lib.hid fun w' x y hg => by
    rw [hN]; exact ref_near w' M _ L (HV.out.grow hg) hL x y
  rw [← hN]
  obtain ⟨sl, hsl⟩ : ∃ sl, sl = sideL N l a := ⟨_, rfl⟩
  rw [← hsl]
  have HSL := Lib.hid hsl
  have hmk := make_row (P := Try.prog) Try.underlying47 iBo iBoz iBos rfl n (by rw [iBob]; omega) (by omega) W1
  obtain ⟨bs, hbs⟩ : ∃ bs, bs = W1.heap.size := ⟨_, rfl⟩
  obtain ⟨W2, hW2⟩ : ∃ W, W = W1.alloc (.cells (Array.replicate n (.bool false)) 4) := ⟨_, rfl⟩
  rw [← hW2, ← hbs] at hmk
  have hg2 : Grow W1 W2 := by rw [hW2]; exact Grow.alloc _ _
  have hss : SS w b0 bs n [.int .i64 M, .slice A0 l0 c0] (fun _ => false) W2 := ⟨hg1.trans hg2, hbx.grow hg2, by rw [hW2]; exact Blk.new _ _ _ _ (boolsL_new n) hbs⟩
  have hbw : w.heap.size ≤ bs := by rw [hbs]; exact hg1.size
  have hne : b0 ≠ bs := by have := hbx.lt; omega
  obtain ⟨W3, hW3⟩ : ∃ W, W = W2.setCell ⟨bs, a, none⟩ (.bool true) := ⟨_, rfl⟩
  have hs3 : SS w b0 bs n [.int .i64 M, .slice A0 l0 c0] (fun j => false || j == a) W3 := by rw [hW3]; exact hss.mark hbw hne
  have hll := hl.len
  have hcl : Clo N l a (fun j => false || j == a) := ⟨fun k _ hk => by
    have : k = a := by simpa using hk
    rw [this]; exact .refl a, by simp⟩
  have hok : Ok N l a 0 (fun j => false || j == a) := .inl (by
    have : a ∈ (List.range l.length).filter fun j => false || j == a := List.mem_filter.2 ⟨List.mem_range.2 (by rw [hll]; exact ha), by simp⟩
    exact List.length_pos_of_mem this)
  have x0 := hss.bl.cell (boolsL_at ha)
  have f0 := hss.bl.free a
  have HL := Lib.hid hl
  have HLL := Lib.hid hll
  have HA := Lib.hid ha
  have HS3 := Lib.hid hs3
  have HCL := Lib.hid hcl
  have HOK := Lib.hid hok
  have HBW := Lib.hid hbw
  have HNB := Lib.hid hne
  have HG1 := Lib.hid hg1
  have HW1 := Lib.hid hW1
  have HW3 := Lib.hid hW3
  have HB0 := Lib.hid hb0
  have ta : decide (a < n) = true := decide_eq_true ha
  have ta' : decide ((a : Int) < (n : Int)) = true := decide_eq_true (by omega)
  clear hl0 hW1 hb0 hg1 hL hN hl hbx HV hbs hW2 hg2 hss hbw hne hW3 hs3 hll hcl hok ha hsl
  go_enter Try.func42, Try.ntmps42
  try dsimp only
  repeat (first | with_reducible (refine wp_region_cut (k := 1) ?_) | go_values | go_guarded | go_step | go_upon | go_back)
  rw [← HW1.out, ← HB0.out]
  unfold Cut
  repeat (first | with_reducible (refine wp_region_cut (k := 3) ?_) | go_values | go_guarded | go_step | go_upon | go_back)
  rw [← HW3.out]
  unfold Cut
  clear x0 f0 hmk ta ta'
  go_wp2_with fail
  go_loopw [8] (fun r' wr => ∃ (r : Nat) (S : Nat → Bool), r ≤ n ∧ r' = .int .i64 (r : Int) ∧ SS w b0 bs n [.int .i64 M, .slice A0 l0 c0] S wr ∧ Clo N l a S ∧ Ok N l a r S) (fun r' _ => n - (intOf r').toNat)
  case atStart => exact ⟨0, _, by omega, rfl, HS3.out, HCL.out, HOK.out⟩
  case round =>
    clear HS3 HCL HOK
    obtain ⟨wa, rfl⟩ : ∃ wa, wa = wr := ⟨_, rfl⟩
    obtain ⟨r, S0, hr, rfl, hss, hcl, hok⟩ := hrel
    by_cases hlr : r < n
    · have t1 : decide (r < n) = true := decide_eq_true hlr
      have t1' : decide ((r : Int) < (n : Int)) = true := decide_eq_true (by omega)
      have HSS := Lib.hid hss
      have HCL := Lib.hid hcl
      have HOK := Lib.hid hok
      have HR := Lib.hid hlr
      have hr9 : r < n := hlr
      clear hss hcl hok hr hlr
      go_wp2_with fail
      go_loopw [9] (fun i' wr => ∃ (i : Nat) (S : Nat → Bool), i ≤ n ∧ i' = .int .i64 (i : Int) ∧ SS w b0 bs n [.int .i64 M, .slice A0 l0 c0] S wr ∧ Rnd N l a S0 S i 0) (fun i' _ => n - (intOf i').toNat)
      case atStart => exact ⟨0, S0, by omega, rfl, HSS.out, Rnd.start HCL.out⟩
      case round =>
        clear HSS
        obtain ⟨wb, rfl⟩ : ∃ wb, wb = wr := ⟨_, rfl⟩
        obtain ⟨i, S1, hi, rfl, hss, hrd⟩ := hrel
        by_cases hli : i < n
        · have t2 : decide (i < n) = true := decide_eq_true hli
          have t2' : decide ((i : Int) < (n : Int)) = true := decide_eq_true (by omega)
          have HSS := Lib.hid hss
          have HRD := Lib.hid hrd
          have HI := Lib.hid hli
          have hi9 : i < n := hli
          clear hss hrd hi hli
          go_wp2_with fail
          go_loopw [10] (fun k' wr => ∃ (k : Nat) (S : Nat → Bool), k ≤ n ∧ k' = .int .i64 (k : Int) ∧ SS w b0 bs n [.int .i64 M, .slice A0 l0 c0] S wr ∧ Rnd N l a S0 S i k) (fun k' _ => n - (intOf k').toNat)
          case atStart => exact ⟨0, S1, by omega, rfl, HSS.out, HRD.out⟩
          case round =>
            clear HSS HRD
            obtain ⟨k, S, hk, rfl, hss, hrd⟩ := hrel
            by_cases hlk : k < n
            · have t3 : decide (k < n) = true := decide_eq_true hlk
              have t3' : decide ((k : Int) < (n : Int)) = true := decide_eq_true (by omega)
              obtain ⟨bl, offl, zi, zk, rfl, hzi, hzk, cl1, cl2, -, -⟩ := HL.out.at2 HI.out hlk
              obtain ⟨s, hs⟩ : ∃ s, s = S i := ⟨_, rfl⟩
              have hxs := hss.bl.cell (boolsL_at (S := S) HI.out)
              rw [← hs] at hxs
              have HXS := Lib.hid hxs
              have HXK := Lib.hid (hss.bl.cell (boolsL_at (S := S) hlk))
              have HSS := Lib.hid hss
              have HRD := Lib.hid hrd
              have HS := Lib.hid hs
              have HC1 := Lib.hid (hss.g.cell cl1)
              have HC2 := Lib.hid (hss.g.cell cl2)
              have HNC := Lib.hid (fun (w' : World) (hR : Grow wr w') => HNE.out w' zi zk (hss.g.trans hR))
              have HNR : Hid (nr N l i k = N zi zk) := Lib.hid (nr_at hzi hzk)
              obtain ⟨q, hq⟩ : ∃ q, q = N zi zk := ⟨_, rfl⟩
              rw [← hq] at HNC HNR
              have HK := Lib.hid hlk
              have hk9 : k < n := hlk
              clear hss hrd hk hlk hzi hzk cl1 cl2 hs hxs hq
              cases s
              · go_wp2_with fail
                apply (fun (v0 v1 v2 v3 v4 v5 v6 v7 v8 v9 v10 v11 v12 v13 v14 v15 : Value) mono obl tail => wp_region_par (R := Grow) (Φ := phi [veq v0, veq v1, veq v2, veq v3, veq v4, veq v5, veq v6, veq v7, veq v8, veq v9, veq v10, veq v11, veq v12, veq v13, veq v14, veq v15]) (m := 16) (dls := [[], [], [(37, 0), (38, 1)], [(39, 2)], [(40, 3)], [(41, 4)], [(41, 4)], [(41, 4)], [(43, 6), (44, 7), (41, 4)], [(45, 8), (41, 4)], [(41, 4)], [(41, 4)], [(47, 10), (48, 11), (41, 4)], [(49, 12), (41, 4)], [(42, 5), (46, 9), (50, 13), (41, 4)], [(41, 4), (51, 14)]]) (ds := [37, 38, 39, 40, 41, 42, 43, 44, 45, 46, 47, 48, 49, 50, 51, 52]) (by kernel_rfl) (by kernel_rfl) (by decide) rfl (Grow.drew _) (fun _ _ _ => Grow.trans) (mono_phi mono) obl tail)
                case obl =>
                  refine obls_frame (fun a1 ha => ?_)
                  have hsz := rd_size (n := 71) ha rfl
                  have e7 := rd_slot 7 ha rfl
                  have e9 := rd_slot 9 ha rfl
                  have e3 := rd_slot 3 ha rfl
                  have e1 := rd_slot 1 ha rfl
                  have e10 := rd_slot 10 ha rfl
                  clear ha
                  refine obls_cons (fun f w' hR hH Q0 hQ0 => ?_) ?_
                  · skip
                    have s7 := sv_off f [] e7 rfl
                    refine small_v hsz [(7, _)] ⟨some 1, (Op.move (.tmp 0)), 47, "", #[], none⟩ [_, undef] 1 rfl rfl ⟨s7, trivial⟩ rfl rfl hQ0 ?_
                    clear hQ0 hH s7
                    intro Q hQ
                    repeat go_step
                    exact hQ _ _ (Grow.refl _) rfl rfl
                  refine obls_cons (fun f w' hR hH Q0 hQ0 => ?_) ?_
                  · skip
                    have s9 := sv_off f [] e9 rfl
                    refine small_v hsz [(9, _)] ⟨some 1, (Op.move (.tmp 0)), 3, "", #[], none⟩ [_, undef] 1 rfl rfl ⟨s9, trivial⟩ rfl rfl hQ0 ?_
                    clear hQ0 hH s9
                    intro Q hQ
                    repeat go_step
                    exact hQ _ _ (Grow.refl _) rfl rfl
                  refine obls_cons (fun f w' hR hH Q0 hQ0 => ?_) ?_
                  · skip
                    have s37 := (sv_at 37 0 hsz f [(37, 0), (38, 1)] rfl).trans (show f 0 = _ from hH.get 0 (37, 0) rfl)
                    have s38 := (sv_at 38 1 hsz f [(37, 0), (38, 1)] rfl).trans (show f 1 = _ from hH.get 1 (38, 1) rfl)
                    refine small_v hsz [(37, _), (38, _)] ⟨some 2, (Op.indexAddr 47 (.tmp 0) (.tmp 1)), 0, "", #[], none⟩ [_, _, undef] 2 rfl rfl ⟨s37, s38, trivial⟩ rfl rfl hQ0 ?_
                    clear hQ0 hH s37 s38
                    intro Q hQ
                    have hin := HI.out
                    repeat go_step
                    exact hQ _ _ (Grow.refl _) rfl rfl
                  refine obls_cons (fun f w' hR hH Q0 hQ0 => ?_) ?_
                  · skip
                    have s39 := (sv_at 39 2 hsz f [(39, 2)] rfl).trans (show f 2 = _ from hH.get 0 (39, 2) rfl)
                    refine small_v hsz [(39, _)] ⟨some 1, (Op.load 4 (.tmp 0)), 4, "", #[], none⟩ [_, undef] 1 rfl rfl ⟨s39, trivial⟩ rfl rfl hQ0 ?_
                    clear hQ0 hH s39
                    intro Q hQ
                    have y0 := hR.cell HXS.out
                    repeat go_step
                    exact hQ _ _ (Grow.refl _) rfl rfl
                  refine obls_cons (fun f w' hR hH Q0 hQ0 => ?_) ?_
                  · skip
                    have s40 := (sv_at 40 3 hsz f [(40, 3)] rfl).trans (show f 3 = _ from hH.get 0 (40, 3) rfl)
                    refine small_v hsz [(40, _)] ⟨some 1, (Op.move (.tmp 0)), 4, "", #[], none⟩ [_, undef] 1 rfl rfl ⟨s40, trivial⟩ rfl rfl hQ0 ?_
                    clear hQ0 hH s40
                    intro Q hQ
                    repeat go_step
                    exact hQ _ _ (Grow.refl _) rfl rfl
                  refine obls_cons (fun f w' hR hH Q0 hQ0 => ?_) ?_
                  · skip
                    have s3 := sv_off f [(41, 4)] e3 rfl
                    have s41 := (sv_at 41 4 hsz f [(41, 4)] rfl).trans (show f 4 = _ from hH.get 0 (41, 4) rfl)
                    first
                      | exact skip_v hsz rfl ((wanted_some (b := false) rfl rfl s41).trans rfl) hQ0 (Grow.refl _) rfl
                      | exact skip_v hsz rfl (wanted_undef rfl rfl s41) hQ0 (Grow.refl _) rfl
                      | refine small_v hsz [(3, _)] ⟨some 1, (Op.load 28 (.tmp 0)), 28, "", #[], none⟩ [_, undef] 1 rfl ((wanted_some (b := true) rfl rfl s41).trans rfl) ⟨s3, trivial⟩ rfl rfl hQ0 ?_
                        clear hQ0 hH s3 s41
                        intro Q hQ
                        repeat go_step
                        exact hQ _ _ (Grow.refl _) rfl rfl
                  refine obls_cons (fun f w' hR hH Q0 hQ0 => ?_) ?_
                  · skip
                    have s1 := sv_off f [(41, 4)] e1 rfl
                    have s41 := (sv_at 41 4 hsz f [(41, 4)] rfl).trans (show f 4 = _ from hH.get 0 (41, 4) rfl)
                    first
                      | exact skip_v hsz rfl ((wanted_some (b := false) rfl rfl s41).trans rfl) hQ0 (Grow.refl _) rfl
                      | exact skip_v hsz rfl (wanted_undef rfl rfl s41) hQ0 (Grow.refl _) rfl
                      | refine small_v hsz [(1, _)] ⟨some 1, (Op.move (.tmp 0)), 23, "", #[], none⟩ [_, undef] 1 rfl ((wanted_some (b := true) rfl rfl s41).trans rfl) ⟨s1, trivial⟩ rfl rfl hQ0 ?_
                        clear hQ0 hH s1 s41
                        intro Q hQ
                        repeat go_step
                        exact hQ _ _ (Grow.refl _) rfl rfl
                  refine obls_cons (fun f w' hR hH Q0 hQ0 => ?_) ?_
                  · skip
                    have s9 := sv_off f [(41, 4)] e9 rfl
                    have s41 := (sv_at 41 4 hsz f [(41, 4)] rfl).trans (show f 4 = _ from hH.get 0 (41, 4) rfl)
                    first
                      | exact skip_v hsz rfl ((wanted_some (b := false) rfl rfl s41).trans rfl) hQ0 (Grow.refl _) rfl
                      | exact skip_v hsz rfl (wanted_undef rfl rfl s41) hQ0 (Grow.refl _) rfl
                      | refine small_v hsz [(9, _)] ⟨some 1, (Op.move (.tmp 0)), 3, "", #[], none⟩ [_, undef] 1 rfl ((wanted_some (b := true) rfl rfl s41).trans rfl) ⟨s9, trivial⟩ rfl rfl hQ0 ?_
                        clear hQ0 hH s9 s41
                        intro Q hQ
                        repeat go_step
                        exact hQ _ _ (Grow.refl _) rfl rfl
                  refine obls_cons (fun f w' hR hH Q0 hQ0 => ?_) ?_
                  · skip
                    have s43 := (sv_at 43 6 hsz f [(43, 6), (44, 7), (41, 4)] rfl).trans (show f 6 = _ from hH.get 0 (43, 6) rfl)
                    have s44 := (sv_at 44 7 hsz f [(43, 6), (44, 7), (41, 4)] rfl).trans (show f 7 = _ from hH.get 1 (44, 7) rfl)
                    have s41 := (sv_at 41 4 hsz f [(43, 6), (44, 7), (41, 4)] rfl).trans (show f 4 = _ from hH.get 2 (41, 4) rfl)
                    first
                      | exact skip_v hsz rfl ((wanted_some (b := false) rfl rfl s41).trans rfl) hQ0 (Grow.refl _) rfl
                      | exact skip_v hsz rfl (wanted_undef rfl rfl s41) hQ0 (Grow.refl _) rfl
                      | refine small_v hsz [(43, _), (44, _)] ⟨some 2, (Op.indexAddr 23 (.tmp 0) (.tmp 1)), 0, "", #[], none⟩ [_, _, undef] 2 rfl ((wanted_some (b := true) rfl rfl s41).trans rfl) ⟨s43, s44, trivial⟩ rfl rfl hQ0 ?_
                        clear hQ0 hH s43 s44 s41
                        intro Q hQ
                        repeat go_step
                        exact hQ _ _ (Grow.refl _) rfl rfl
                  refine obls_cons (fun f w' hR hH Q0 hQ0 => ?_) ?_
                  · skip
                    have s45 := (sv_at 45 8 hsz f [(45, 8), (41, 4)] rfl).trans (show f 8 = _ from hH.get 0 (45, 8) rfl)
                    have s41 := (sv_at 41 4 hsz f [(45, 8), (41, 4)] rfl).trans (show f 4 = _ from hH.get 1 (41, 4) rfl)
                    first
                      | exact skip_v hsz rfl ((wanted_some (b := false) rfl rfl s41).trans rfl) hQ0 (Grow.refl _) rfl
                      | exact skip_v hsz rfl (wanted_undef rfl rfl s41) hQ0 (Grow.refl _) rfl
                      | refine small_v hsz [(45, _)] ⟨some 1, (Op.load 3 (.tmp 0)), 3, "", #[], none⟩ [_, undef] 1 rfl ((wanted_some (b := true) rfl rfl s41).trans rfl) ⟨s45, trivial⟩ rfl rfl hQ0 ?_
                        clear hQ0 hH s45 s41
                        intro Q hQ
                        repeat go_step
                        exact hQ _ _ (Grow.refl _) rfl rfl
                  refine obls_cons (fun f w' hR hH Q0 hQ0 => ?_) ?_
                  · skip
                    have s1 := sv_off f [(41, 4)] e1 rfl
                    have s41 := (sv_at 41 4 hsz f [(41, 4)] rfl).trans (show f 4 = _ from hH.get 0 (41, 4) rfl)
                    first
                      | exact skip_v hsz rfl ((wanted_some (b := false) rfl rfl s41).trans rfl) hQ0 (Grow.refl _) rfl
                      | exact skip_v hsz rfl (wanted_undef rfl rfl s41) hQ0 (Grow.refl _) rfl
                      | refine small_v hsz [(1, _)] ⟨some 1, (Op.move (.tmp 0)), 23, "", #[], none⟩ [_, undef] 1 rfl ((wanted_some (b := true) rfl rfl s41).trans rfl) ⟨s1, trivial⟩ rfl rfl hQ0 ?_
                        clear hQ0 hH s1 s41
                        intro Q hQ
                        repeat go_step
                        exact hQ _ _ (Grow.refl _) rfl rfl
                  refine obls_cons (fun f w' hR hH Q0 hQ0 => ?_) ?_
                  · skip
                    have s10 := sv_off f [(41, 4)] e10 rfl
                    have s41 := (sv_at 41 4 hsz f [(41, 4)] rfl).trans (show f 4 = _ from hH.get 0 (41, 4) rfl)
                    first
                      | exact skip_v hsz rfl ((wanted_some (b := false) rfl rfl s41).trans rfl) hQ0 (Grow.refl _) rfl
                      | exact skip_v hsz rfl (wanted_undef rfl rfl s41) hQ0 (Grow.refl _) rfl
                      | refine small_v hsz [(10, _)] ⟨some 1, (Op.move (.tmp 0)), 3, "", #[], none⟩ [_, undef] 1 rfl ((wanted_some (b := true) rfl rfl s41).trans rfl) ⟨s10, trivial⟩ rfl rfl hQ0 ?_
                        clear hQ0 hH s10 s41
                        intro Q hQ
                        repeat go_step
                        exact hQ _ _ (Grow.refl _) rfl rfl
                  refine obls_cons (fun f w' hR hH Q0 hQ0 => ?_) ?_
                  · skip
                    have s47 := (sv_at 47 10 hsz f [(47, 10), (48, 11), (41, 4)] rfl).trans (show f 10 = _ from hH.get 0 (47, 10) rfl)
                    have s48 := (sv_at 48 11 hsz f [(47, 10), (48, 11), (41, 4)] rfl).trans (show f 11 = _ from hH.get 1 (48, 11) rfl)
                    have s41 := (sv_at 41 4 hsz f [(47, 10), (48, 11), (41, 4)] rfl).trans (show f 4 = _ from hH.get 2 (41, 4) rfl)
                    first
                      | exact skip_v hsz rfl ((wanted_some (b := false) rfl rfl s41).trans rfl) hQ0 (Grow.refl _) rfl
                      | exact skip_v hsz rfl (wanted_undef rfl rfl s41) hQ0 (Grow.refl _) rfl
                      | refine small_v hsz [(47, _), (48, _)] ⟨some 2, (Op.indexAddr 23 (.tmp 0) (.tmp 1)), 0, "", #[], none⟩ [_, _, undef] 2 rfl ((wanted_some (b := true) rfl rfl s41).trans rfl) ⟨s47, s48, trivial⟩ rfl rfl hQ0 ?_
                        clear hQ0 hH s47 s48 s41
                        intro Q hQ
                        repeat go_step
                        exact hQ _ _ (Grow.refl _) rfl rfl
                  refine obls_cons (fun f w' hR hH Q0 hQ0 => ?_) ?_
                  · skip
                    have s49 := (sv_at 49 12 hsz f [(49, 12), (41, 4)] rfl).trans (show f 12 = _ from hH.get 0 (49, 12) rfl)
                    have s41 := (sv_at 41 4 hsz f [(49, 12), (41, 4)] rfl).trans (show f 4 = _ from hH.get 1 (41, 4) rfl)
                    first
                      | exact skip_v hsz rfl ((wanted_some (b := false) rfl rfl s41).trans rfl) hQ0 (Grow.refl _) rfl
                      | exact skip_v hsz rfl (wanted_undef rfl rfl s41) hQ0 (Grow.refl _) rfl
                      | refine small_v hsz [(49, _)] ⟨some 1, (Op.load 3 (.tmp 0)), 3, "", #[], none⟩ [_, undef] 1 rfl ((wanted_some (b := true) rfl rfl s41).trans rfl) ⟨s49, trivial⟩ rfl rfl hQ0 ?_
                        clear hQ0 hH s49 s41
                        intro Q hQ
                        repeat go_step
                        exact hQ _ _ (Grow.refl _) rfl rfl
                  refine obls_cons (fun f w' hR hH Q0 hQ0 => ?_) ?_
                  · skip
                    have s42 := (sv_at 42 5 hsz f [(42, 5), (46, 9), (50, 13), (41, 4)] rfl).trans (show f 5 = _ from hH.get 0 (42, 5) rfl)
                    have s46 := (sv_at 46 9 hsz f [(42, 5), (46, 9), (50, 13), (41, 4)] rfl).trans (show f 9 = _ from hH.get 1 (46, 9) rfl)
                    have s50 := (sv_at 50 13 hsz f [(42, 5), (46, 9), (50, 13), (41, 4)] rfl).trans (show f 13 = _ from hH.get 2 (50, 13) rfl)
                    have s41 := (sv_at 41 4 hsz f [(42, 5), (46, 9), (50, 13), (41, 4)] rfl).trans (show f 4 = _ from hH.get 3 (41, 4) rfl)
                    first
                      | exact skip_v hsz rfl ((wanted_some (b := false) rfl rfl s41).trans rfl) hQ0 (Grow.refl _) rfl
                      | exact skip_v hsz rfl (wanted_undef rfl rfl s41) hQ0 (Grow.refl _) rfl
                      | refine small_v hsz [(42, _), (46, _), (50, _)] ⟨some 3, (Op.call (Call.mk (Callee.value (Operand.func 47)) #[(.tmp 0), (.tmp 1), (.tmp 2)] #[28, 3, 3])), 4, "", #[], none⟩ [_, _, _, undef] 3 rfl ((wanted_some (b := true) rfl rfl s41).trans rfl) ⟨s42, s46, s50, trivial⟩ rfl (ren_call rfl rfl) hQ0 ?_
                        clear hQ0 hH s42 s46 s50 s41
                        intro Q hQ
                        repeat go_step
                        exact hQ _ _ (Grow.refl _) rfl rfl
                  refine obls_cons (fun f w' hR hH Q0 hQ0 => ?_) ?_
                  · skip
                    have s41 := (sv_at 41 4 hsz f [(41, 4), (51, 14)] rfl).trans (show f 4 = _ from hH.get 0 (41, 4) rfl)
                    have s51 := (sv_at 51 14 hsz f [(41, 4), (51, 14)] rfl).trans (show f 14 = _ from hH.get 1 (51, 14) rfl)
                    refine small_v hsz [(41, _), (51, _)] ⟨some 2, (Op.pick (.tmp 0) (.tmp 1) (Operand.const (Value.bool false))), 4, "", #[], none⟩ [_, _, undef] 2 rfl rfl ⟨s41, s51, trivial⟩ rfl rfl hQ0 ?_
                    clear hQ0 hH s41 s51
                    intro Q hQ
                    repeat go_step
                    exact hQ _ _ (Grow.refl _) rfl rfl
                  exact obls_nil
                case mono => exact ⟨Mono.veq _, Mono.veq _, Mono.veq _, Mono.veq _, Mono.veq _, Mono.veq _, Mono.veq _, Mono.veq _, Mono.veq _, Mono.veq _, Mono.veq _, Mono.veq _, Mono.veq _, Mono.veq _, Mono.veq _, Mono.veq _, trivial⟩
                case tail =>
                  intro f w' hR hH
                  have q15 := hH.get 15 (52, 15) rfl
                  clear hH
                  refine wpList_merge (idx := [none, none, none, none, none, none, none, none, none, none, none, none, none, none, none, none, none, none, none, none, none, none, none, none, none, none, none, none, none, none, none, none, none, none, none, none, none, some 0, some 1, some 2, some 3, some 4, some 5, some 6, some 7, some 8, some 9, some 10, some 11, some 12, some 13, some 14, some 15, none, none, none, none, none, none, none, none, none, none, none, none, none, none, none, none, none, none]) (by kernel_rfl) ?_; show wpList _ _ _ [] ⟨#[_, _, _, _, _, _, _, _, _, _, _, _, _, _, _, _, _, _, _, _, _, _, _, _, _, _, _, _, _, _, _, _, _, _, _, _, _, f 0, f 1, f 2, f 3, f 4, f 5, f 6, f 7, f 8, f 9, f 10, f 11, f 12, f 13, f 14, f 15, _, _, _, _, _, _, _, _, _, _, _, _, _, _, _, _, _, _], _⟩ _
                  rw [show f 15 = _ from q15]
                  clear q15
                  have HS9 := Lib.hid (HSS.out.grow hR)
                  clear hR
                  go_wp2_with fail
                  go_roundw
                  case rel => exact ⟨k + 1, S, by have := HK.out; omega, by go_num, HS9.out, HRD.out.skip fun h => by rw [← HS.out] at h; cases h⟩
                  case measure => have := HK.out; simp [intOf] <;> omega
              · go_wp2_with fail
                apply (fun (v0 v1 v2 v3 v4 v5 v6 v7 v8 v9 v10 v11 v12 v13 v14 v15 : Value) mono obl tail => wp_region_par (R := Grow) (Φ := phi [veq v0, veq v1, veq v2, veq v3, veq v4, veq v5, veq v6, veq v7, veq v8, veq v9, veq v10, veq v11, veq v12, veq v13, veq v14, veq v15]) (m := 16) (dls := [[], [], [(37, 0), (38, 1)], [(39, 2)], [(40, 3)], [(41, 4)], [(41, 4)], [(41, 4)], [(43, 6), (44, 7), (41, 4)], [(45, 8), (41, 4)], [(41, 4)], [(41, 4)], [(47, 10), (48, 11), (41, 4)], [(49, 12), (41, 4)], [(42, 5), (46, 9), (50, 13), (41, 4)], [(41, 4), (51, 14)]]) (ds := [37, 38, 39, 40, 41, 42, 43, 44, 45, 46, 47, 48, 49, 50, 51, 52]) (by kernel_rfl) (by kernel_rfl) (by decide) rfl (Grow.drew _) (fun _ _ _ => Grow.trans) (mono_phi mono) obl tail)
                case obl =>
                  refine obls_frame (fun a1 ha => ?_)
                  have hsz := rd_size (n := 71) ha rfl
                  have e7 := rd_slot 7 ha rfl
                  have e9 := rd_slot 9 ha rfl
                  have e3 := rd_slot 3 ha rfl
                  have e1 := rd_slot 1 ha rfl
                  have e10 := rd_slot 10 ha rfl
                  clear ha
                  refine obls_cons (fun f w' hR hH Q0 hQ0 => ?_) ?_
                  · skip
                    have s7 := sv_off f [] e7 rfl
                    refine small_v hsz [(7, _)] ⟨some 1, (Op.move (.tmp 0)), 47, "", #[], none⟩ [_, undef] 1 rfl rfl ⟨s7, trivial⟩ rfl rfl hQ0 ?_
                    clear hQ0 hH s7
                    intro Q hQ
                    repeat go_step
                    exact hQ _ _ (Grow.refl _) rfl rfl
                  refine obls_cons (fun f w' hR hH Q0 hQ0 => ?_) ?_
                  · skip
                    have s9 := sv_off f [] e9 rfl
                    refine small_v hsz [(9, _)] ⟨some 1, (Op.move (.tmp 0)), 3, "", #[], none⟩ [_, undef] 1 rfl rfl ⟨s9, trivial⟩ rfl rfl hQ0 ?_
                    clear hQ0 hH s9
                    intro Q hQ
                    repeat go_step
                    exact hQ _ _ (Grow.refl _) rfl rfl
                  refine obls_cons (fun f w' hR hH Q0 hQ0 => ?_) ?_
                  · skip
                    have s37 := (sv_at 37 0 hsz f [(37, 0), (38, 1)] rfl).trans (show f 0 = _ from hH.get 0 (37, 0) rfl)
                    have s38 := (sv_at 38 1 hsz f [(37, 0), (38, 1)] rfl).trans (show f 1 = _ from hH.get 1 (38, 1) rfl)
                    refine small_v hsz [(37, _), (38, _)] ⟨some 2, (Op.indexAddr 47 (.tmp 0) (.tmp 1)), 0, "", #[], none⟩ [_, _, undef] 2 rfl rfl ⟨s37, s38, trivial⟩ rfl rfl hQ0 ?_
                    clear hQ0 hH s37 s38
                    intro Q hQ
                    have hin := HI.out
                    repeat go_step
                    exact hQ _ _ (Grow.refl _) rfl rfl
                  refine obls_cons (fun f w' hR hH Q0 hQ0 => ?_) ?_
                  · skip
                    have s39 := (sv_at 39 2 hsz f [(39, 2)] rfl).trans (show f 2 = _ from hH.get 0 (39, 2) rfl)
                    refine small_v hsz [(39, _)] ⟨some 1, (Op.load 4 (.tmp 0)), 4, "", #[], none⟩ [_, undef] 1 rfl rfl ⟨s39, trivial⟩ rfl rfl hQ0 ?_
                    clear hQ0 hH s39
                    intro Q hQ
                    have y0 := hR.cell HXS.out
                    repeat go_step
                    exact hQ _ _ (Grow.refl _) rfl rfl
                  refine obls_cons (fun f w' hR hH Q0 hQ0 => ?_) ?_
                  · skip
                    have s40 := (sv_at 40 3 hsz f [(40, 3)] rfl).trans (show f 3 = _ from hH.get 0 (40, 3) rfl)
                    refine small_v hsz [(40, _)] ⟨some 1, (Op.move (.tmp 0)), 4, "", #[], none⟩ [_, undef] 1 rfl rfl ⟨s40, trivial⟩ rfl rfl hQ0 ?_
                    clear hQ0 hH s40
                    intro Q hQ
                    repeat go_step
                    exact hQ _ _ (Grow.refl _) rfl rfl
                  refine obls_cons (fun f w' hR hH Q0 hQ0 => ?_) ?_
                  · skip
                    have s3 := sv_off f [(41, 4)] e3 rfl
                    have s41 := (sv_at 41 4 hsz f [(41, 4)] rfl).trans (show f 4 = _ from hH.get 0 (41, 4) rfl)
                    first
                      | exact skip_v hsz rfl ((wanted_some (b := false) rfl rfl s41).trans rfl) hQ0 (Grow.refl _) rfl
                      | exact skip_v hsz rfl (wanted_undef rfl rfl s41) hQ0 (Grow.refl _) rfl
                      | refine small_v hsz [(3, _)] ⟨some 1, (Op.load 28 (.tmp 0)), 28, "", #[], none⟩ [_, undef] 1 rfl ((wanted_some (b := true) rfl rfl s41).trans rfl) ⟨s3, trivial⟩ rfl rfl hQ0 ?_
                        clear hQ0 hH s3 s41
                        intro Q hQ
                        have y0 := (HSS.out.bx.grow hR).cell (i := 0) rfl
                        have y1 := (HSS.out.bx.grow hR).cell (i := 1) rfl
                        repeat go_step
                        exact hQ _ _ (Grow.refl _) rfl rfl
                  refine obls_cons (fun f w' hR hH Q0 hQ0 => ?_) ?_
                  · skip
                    have s1 := sv_off f [(41, 4)] e1 rfl
                    have s41 := (sv_at 41 4 hsz f [(41, 4)] rfl).trans (show f 4 = _ from hH.get 0 (41, 4) rfl)
                    first
                      | exact skip_v hsz rfl ((wanted_some (b := false) rfl rfl s41).trans rfl) hQ0 (Grow.refl _) rfl
                      | exact skip_v hsz rfl (wanted_undef rfl rfl s41) hQ0 (Grow.refl _) rfl
                      | refine small_v hsz [(1, _)] ⟨some 1, (Op.move (.tmp 0)), 23, "", #[], none⟩ [_, undef] 1 rfl ((wanted_some (b := true) rfl rfl s41).trans rfl) ⟨s1, trivial⟩ rfl rfl hQ0 ?_
                        clear hQ0 hH s1 s41
                        intro Q hQ
                        repeat go_step
                        exact hQ _ _ (Grow.refl _) rfl rfl
                  refine obls_cons (fun f w' hR hH Q0 hQ0 => ?_) ?_
                  · skip
                    have s9 := sv_off f [(41, 4)] e9 rfl
                    have s41 := (sv_at 41 4 hsz f [(41, 4)] rfl).trans (show f 4 = _ from hH.get 0 (41, 4) rfl)
                    first
                      | exact skip_v hsz rfl ((wanted_some (b := false) rfl rfl s41).trans rfl) hQ0 (Grow.refl _) rfl
                      | exact skip_v hsz rfl (wanted_undef rfl rfl s41) hQ0 (Grow.refl _) rfl
                      | refine small_v hsz [(9, _)] ⟨some 1, (Op.move (.tmp 0)), 3, "", #[], none⟩ [_, undef] 1 rfl ((wanted_some (b := true) rfl rfl s41).trans rfl) ⟨s9, trivial⟩ rfl rfl hQ0 ?_
                        clear hQ0 hH s9 s41
                        intro Q hQ
                        repeat go_step
                        exact hQ _ _ (Grow.refl _) rfl rfl
                  refine obls_cons (fun f w' hR hH Q0 hQ0 => ?_) ?_
                  · skip
                    have s43 := (sv_at 43 6 hsz f [(43, 6), (44, 7), (41, 4)] rfl).trans (show f 6 = _ from hH.get 0 (43, 6) rfl)
                    have s44 := (sv_at 44 7 hsz f [(43, 6), (44, 7), (41, 4)] rfl).trans (show f 7 = _ from hH.get 1 (44, 7) rfl)
                    have s41 := (sv_at 41 4 hsz f [(43, 6), (44, 7), (41, 4)] rfl).trans (show f 4 = _ from hH.get 2 (41, 4) rfl)
                    first
                      | exact skip_v hsz rfl ((wanted_some (b := false) rfl rfl s41).trans rfl) hQ0 (Grow.refl _) rfl
                      | exact skip_v hsz rfl (wanted_undef rfl rfl s41) hQ0 (Grow.refl _) rfl
                      | refine small_v hsz [(43, _), (44, _)] ⟨some 2, (Op.indexAddr 23 (.tmp 0) (.tmp 1)), 0, "", #[], none⟩ [_, _, undef] 2 rfl ((wanted_some (b := true) rfl rfl s41).trans rfl) ⟨s43, s44, trivial⟩ rfl rfl hQ0 ?_
                        clear hQ0 hH s43 s44 s41
                        intro Q hQ
                        have hin := HI.out
                        repeat go_step
                        exact hQ _ _ (Grow.refl _) rfl rfl
                  refine obls_cons (fun f w' hR hH Q0 hQ0 => ?_) ?_
                  · skip
                    have s45 := (sv_at 45 8 hsz f [(45, 8), (41, 4)] rfl).trans (show f 8 = _ from hH.get 0 (45, 8) rfl)
                    have s41 := (sv_at 41 4 hsz f [(45, 8), (41, 4)] rfl).trans (show f 4 = _ from hH.get 1 (41, 4) rfl)
                    first
                      | exact skip_v hsz rfl ((wanted_some (b := false) rfl rfl s41).trans rfl) hQ0 (Grow.refl _) rfl
                      | exact skip_v hsz rfl (wanted_undef rfl rfl s41) hQ0 (Grow.refl _) rfl
                      | refine small_v hsz [(45, _)] ⟨some 1, (Op.load 3 (.tmp 0)), 3, "", #[], none⟩ [_, undef] 1 rfl ((wanted_some (b := true) rfl rfl s41).trans rfl) ⟨s45, trivial⟩ rfl rfl hQ0 ?_
                        clear hQ0 hH s45 s41
                        intro Q hQ
                        have y0 := hR.cell HC1.out
                        repeat go_step
                        exact hQ _ _ (Grow.refl _) rfl rfl
                  refine obls_cons (fun f w' hR hH Q0 hQ0 => ?_) ?_
                  · skip
                    have s1 := sv_off f [(41, 4)] e1 rfl
                    have s41 := (sv_at 41 4 hsz f [(41, 4)] rfl).trans (show f 4 = _ from hH.get 0 (41, 4) rfl)
                    first
                      | exact skip_v hsz rfl ((wanted_some (b := false) rfl rfl s41).trans rfl) hQ0 (Grow.refl _) rfl
                      | exact skip_v hsz rfl (wanted_undef rfl rfl s41) hQ0 (Grow.refl _) rfl
                      | refine small_v hsz [(1, _)] ⟨some 1, (Op.move (.tmp 0)), 23, "", #[], none⟩ [_, undef] 1 rfl ((wanted_some (b := true) rfl rfl s41).trans rfl) ⟨s1, trivial⟩ rfl rfl hQ0 ?_
                        clear hQ0 hH s1 s41
                        intro Q hQ
                        repeat go_step
                        exact hQ _ _ (Grow.refl _) rfl rfl
                  refine obls_cons (fun f w' hR hH Q0 hQ0 => ?_) ?_
                  · skip
                    have s10 := sv_off f [(41, 4)] e10 rfl
                    have s41 := (sv_at 41 4 hsz f [(41, 4)] rfl).trans (show f 4 = _ from hH.get 0 (41, 4) rfl)
                    first
                      | exact skip_v hsz rfl ((wanted_some (b := false) rfl rfl s41).trans rfl) hQ0 (Grow.refl _) rfl
                      | exact skip_v hsz rfl (wanted_undef rfl rfl s41) hQ0 (Grow.refl _) rfl
                      | refine small_v hsz [(10, _)] ⟨some 1, (Op.move (.tmp 0)), 3, "", #[], none⟩ [_, undef] 1 rfl ((wanted_some (b := true) rfl rfl s41).trans rfl) ⟨s10, trivial⟩ rfl rfl hQ0 ?_
                        clear hQ0 hH s10 s41
                        intro Q hQ
                        repeat go_step
                        exact hQ _ _ (Grow.refl _) rfl rfl
                  refine obls_cons (fun f w' hR hH Q0 hQ0 => ?_) ?_
                  · skip
                    have s47 := (sv_at 47 10 hsz f [(47, 10), (48, 11), (41, 4)] rfl).trans (show f 10 = _ from hH.get 0 (47, 10) rfl)
                    have s48 := (sv_at 48 11 hsz f [(47, 10), (48, 11), (41, 4)] rfl).trans (show f 11 = _ from hH.get 1 (48, 11) rfl)
                    have s41 := (sv_at 41 4 hsz f [(47, 10), (48, 11), (41, 4)] rfl).trans (show f 4 = _ from hH.get 2 (41, 4) rfl)
                    first
                      | exact skip_v hsz rfl ((wanted_some (b := false) rfl rfl s41).trans rfl) hQ0 (Grow.refl _) rfl
                      | exact skip_v hsz rfl (wanted_undef rfl rfl s41) hQ0 (Grow.refl _) rfl
                      | refine small_v hsz [(47, _), (48, _)] ⟨some 2, (Op.indexAddr 23 (.tmp 0) (.tmp 1)), 0, "", #[], none⟩ [_, _, undef] 2 rfl ((wanted_some (b := true) rfl rfl s41).trans rfl) ⟨s47, s48, trivial⟩ rfl rfl hQ0 ?_
                        clear hQ0 hH s47 s48 s41
                        intro Q hQ
                        have hkn := HK.out
                        repeat go_step
                        exact hQ _ _ (Grow.refl _) rfl rfl
                  refine obls_cons (fun f w' hR hH Q0 hQ0 => ?_) ?_
                  · skip
                    have s49 := (sv_at 49 12 hsz f [(49, 12), (41, 4)] rfl).trans (show f 12 = _ from hH.get 0 (49, 12) rfl)
                    have s41 := (sv_at 41 4 hsz f [(49, 12), (41, 4)] rfl).trans (show f 4 = _ from hH.get 1 (41, 4) rfl)
                    first
                      | exact skip_v hsz rfl ((wanted_some (b := false) rfl rfl s41).trans rfl) hQ0 (Grow.refl _) rfl
                      | exact skip_v hsz rfl (wanted_undef rfl rfl s41) hQ0 (Grow.refl _) rfl
                      | refine small_v hsz [(49, _)] ⟨some 1, (Op.load 3 (.tmp 0)), 3, "", #[], none⟩ [_, undef] 1 rfl ((wanted_some (b := true) rfl rfl s41).trans rfl) ⟨s49, trivial⟩ rfl rfl hQ0 ?_
                        clear hQ0 hH s49 s41
                        intro Q hQ
                        have y0 := hR.cell HC2.out
                        repeat go_step
                        exact hQ _ _ (Grow.refl _) rfl rfl
                  refine obls_cons (fun f w' hR hH Q0 hQ0 => ?_) ?_
                  · skip
                    have s42 := (sv_at 42 5 hsz f [(42, 5), (46, 9), (50, 13), (41, 4)] rfl).trans (show f 5 = _ from hH.get 0 (42, 5) rfl)
                    have s46 := (sv_at 46 9 hsz f [(42, 5), (46, 9), (50, 13), (41, 4)] rfl).trans (show f 9 = _ from hH.get 1 (46, 9) rfl)
                    have s50 := (sv_at 50 13 hsz f [(42, 5), (46, 9), (50, 13), (41, 4)] rfl).trans (show f 13 = _ from hH.get 2 (50, 13) rfl)
                    have s41 := (sv_at 41 4 hsz f [(42, 5), (46, 9), (50, 13), (41, 4)] rfl).trans (show f 4 = _ from hH.get 3 (41, 4) rfl)
                    first
                      | exact skip_v hsz rfl ((wanted_some (b := false) rfl rfl s41).trans rfl) hQ0 (Grow.refl _) rfl
                      | exact skip_v hsz rfl (wanted_undef rfl rfl s41) hQ0 (Grow.refl _) rfl
                      | refine small_v hsz [(42, _), (46, _), (50, _)] ⟨some 3, (Op.call (Call.mk (Callee.value (Operand.func 47)) #[(.tmp 0), (.tmp 1), (.tmp 2)] #[28, 3, 3])), 4, "", #[], none⟩ [_, _, _, undef] 3 rfl ((wanted_some (b := true) rfl rfl s41).trans rfl) ⟨s42, s46, s50, trivial⟩ rfl (ren_call rfl rfl) hQ0 ?_
                        clear hQ0 hH s42 s46 s50 s41
                        intro Q hQ
                        go_wp2_with (go_at_call 47; refine ((HNC.out w' hR)).mono ?_; rintro e w1 ⟨rfl, hg1⟩)
                        exact hQ _ _ hg1 rfl rfl
                  refine obls_cons (fun f w' hR hH Q0 hQ0 => ?_) ?_
                  · skip
                    have s41 := (sv_at 41 4 hsz f [(41, 4), (51, 14)] rfl).trans (show f 4 = _ from hH.get 0 (41, 4) rfl)
                    have s51 := (sv_at 51 14 hsz f [(41, 4), (51, 14)] rfl).trans (show f 14 = _ from hH.get 1 (51, 14) rfl)
                    refine small_v hsz [(41, _), (51, _)] ⟨some 2, (Op.pick (.tmp 0) (.tmp 1) (Operand.const (Value.bool false))), 4, "", #[], none⟩ [_, _, undef] 2 rfl rfl ⟨s41, s51, trivial⟩ rfl rfl hQ0 ?_
                    clear hQ0 hH s41 s51
                    intro Q hQ
                    repeat go_step
                    exact hQ _ _ (Grow.refl _) rfl rfl
                  exact obls_nil
                case mono => exact ⟨Mono.veq _, Mono.veq _, Mono.veq _, Mono.veq _, Mono.veq _, Mono.veq _, Mono.veq _, Mono.veq _, Mono.veq _, Mono.veq _, Mono.veq _, Mono.veq _, Mono.veq _, Mono.veq _, Mono.veq _, Mono.veq _, trivial⟩
                case tail =>
                  intro f w' hR hH
                  have q15 := hH.get 15 (52, 15) rfl
                  clear hH
                  refine wpList_merge (idx := [none, none, none, none, none, none, none, none, none, none, none, none, none, none, none, none, none, none, none, none, none, none, none, none, none, none, none, none, none, none, none, none, none, none, none, none, none, some 0, some 1, some 2, some 3, some 4, some 5, some 6, some 7, some 8, some 9, some 10, some 11, some 12, some 13, some 14, some 15, none, none, none, none, none, none, none, none, none, none, none, none, none, none, none, none, none, none]) (by kernel_rfl) ?_; show wpList _ _ _ [] ⟨#[_, _, _, _, _, _, _, _, _, _, _, _, _, _, _, _, _, _, _, _, _, _, _, _, _, _, _, _, _, _, _, _, _, _, _, _, _, f 0, f 1, f 2, f 3, f 4, f 5, f 6, f 7, f 8, f 9, f 10, f 11, f 12, f 13, f 14, f 15, _, _, _, _, _, _, _, _, _, _, _, _, _, _, _, _, _, _], _⟩ _
                  rw [show f 15 = _ from q15]
                  clear q15
                  have hs9 := HSS.out.grow hR
                  have HS9 := Lib.hid hs9
                  have z0 := hR.cell HXK.out
                  have f0 := hs9.bl.free k
                  clear hR hs9
                  cases q
                  · clear z0 f0
                    go_wp2_with fail
                    go_roundw
                    case rel => exact ⟨k + 1, S, by have := HK.out; omega, by go_num, HS9.out, HRD.out.skip fun _ h => by rw [HNR.out] at h; cases h⟩
                    case measure => have := HK.out; simp [intOf] <;> omega
                  · have HM9 := Lib.hid (HS9.out.mark (k := k) HBW.out HNB.out)
                    go_wp2_with fail
                    clear z0 f0
                    go_roundw
                    case rel => exact ⟨k + 1, _, by have := HK.out; omega, by go_num, HM9.out, HRD.out.mark (by rw [HLL.out]; exact HI.out) (by rw [HLL.out]; exact HK.out) HS.out.symm HNR.out⟩
                    case measure => have := HK.out; simp [intOf] <;> omega
            · obtain rfl : k = n := by omega
              have t3 : decide (k < k) = false := decide_eq_false hlk
              have HSS := Lib.hid hss
              have HRD := Lib.hid (hrd.next (by rw [HLL.out]; exact Nat.le_refl _))
              clear hss hrd hk hlk
              go_wp2_with fail
              go_roundw
              case rel => exact ⟨i + 1, S, by have := HI.out; omega, by go_num, HSS.out, HRD.out⟩
              case measure => have := HI.out; simp [intOf] <;> omega
        · obtain rfl : i = n := by omega
          have t2 : decide (i < i) = false := decide_eq_false hli
          have HSS := Lib.hid hss
          have HCL2 := Lib.hid hrd.clo
          have HOK2 := Lib.hid (hrd.end_ (by rw [HLL.out]; exact HA.out) (by rw [HLL.out]; exact Nat.le_refl _) HOK.out)
          clear hss hrd hi hli
          go_wp2_with fail
          go_roundw
          case rel => exact ⟨r + 1, S1, by have := HR.out; omega, by go_num, HSS.out, HCL2.out, HOK2.out⟩
          case measure => have := HR.out; simp [intOf] <;> omega
    · obtain rfl : r = n := by omega
      have t1 : decide (r < r) = false := decide_eq_false hlr
      have hcn : (List.range l.length).filter S0 = sideL N l a := (show Ok N l a l.length S0 by rw [HLL.out]; exact hok).conn hcl
      rw [HLL.out, ← HSL.out] at hcn
      have HCN := Lib.hid hcn
      have HSS := Lib.hid hss
      clear hss hcl hok hr hlr hcn
      go_wp2_with fail
      go_loopw [11, 12] (fun o' i' wr => ∃ (i : Nat) (u : Value), i ≤ r ∧ i' = .int .i64 (i : Int) ∧ u = o' ∧ Grow wa wr ∧ wr.ownsRow wa.heap.size 3 1 u ((List.range i).filter S0).length (((List.range i).filter S0).map nv)) (fun _ i' _ => r - (intOf i').toNat)
      case atStart => exact ⟨0, _, by omega, rfl, rfl, Grow.refl _, World.ownsRow_nil _ _ _ _⟩
      case round =>
        obtain ⟨i, u, hi, rfl, rfl, hg, ho⟩ := hrel
        by_cases hli : i < r
        · have t2 : decide (i < r) = true := decide_eq_true hli
          have t2' : decide ((i : Int) < (r : Int)) = true := decide_eq_true (by omega)
          have hx := (HSS.out.bl.grow hg).cell (boolsL_at (S := S0) hli)
          have hfs : (List.range (i + 1)).filter S0 = (List.range i).filter S0 ++ if S0 i then [i] else [] := by
            rw [List.range_succ, List.filter_append]
            cases hs : S0 i <;> simp [hs]
          obtain ⟨Q, hQ⟩ : ∃ Q, Q = (List.range i).filter S0 := ⟨_, rfl⟩
          have hql : Q.length ≤ i := by rw [hQ]; exact cnt_le i S0
          obtain ⟨lq, hlq⟩ : ∃ lq, lq = Q.length := ⟨_, rfl⟩
          rw [← hQ] at ho hfs
          rw [← hlq] at ho hql
          obtain ⟨s, hs⟩ : ∃ s, s = S0 i := ⟨_, rfl⟩
          rw [← hs] at hx hfs
          obtain ⟨Av, cv, rfl, -, -, -⟩ := own_form ho
          have HO := Lib.hid ho
          have HG := Lib.hid hg
          have HFS := Lib.hid hfs
          have HLQ := Lib.hid hlq
          have HI := Lib.hid hli
          have hi9 : i < r := hli
          clear ho hg hfs hQ hlq hi hli hs
          cases s
          · go_wp2_with fail
            clear hx
            go_roundw
            case rel => exact ⟨i + 1, _, by have := HI.out; omega, by go_num, rfl, HG.out, by rw [HFS.out, if_neg (by decide), List.append_nil, ← HLQ.out]; exact HO.out⟩
            case measure => have := HI.out; simp [intOf] <;> omega
          · go_wp2_with (at_builtin; refine wpList_append_row rfl _ _ _ rfl wa.heap.size 3 _ _ 1 8 Try.underlying23 iI iIz iIs iIb rfl (by decide) (.slice Av lq cv) lq (Q.map nv) rfl (own_grow HO.out (Grow.alloc wr (.cells #[.int .i64 (i : Int)] 3))) (some ⟨wr.heap.size, 0, none⟩) 1 1 [.int .i64 (i : Int)] rfl (Row.new wr [.int .i64 (i : Int)] 3 (0, 0)) one1 (by unfold maxLen; omega) (by omega) (Nat.le_trans HG.out.size (Grow.alloc wr (.cells #[.int .i64 (i : Int)] 3)).size) ?_; intro v1 w1 hown1 hgb1 hnb1; obtain ⟨Aw, cw, rfl, -, -, -⟩ := own_form hown1)
            have hgr := grow_by (HG.out.trans (Grow.alloc wr (.cells #[.int .i64 (i : Int)] 3))) hgb1 (own_base HO.out)
            have hof : w1.ownsRow wa.heap.size 3 1 (.slice Aw (lq + 1) cw) ((List.range (i + 1)).filter S0).length (((List.range (i + 1)).filter S0).map nv) := by
              rw [HFS.out, if_pos rfl, List.length_append, List.map_append, ← HLQ.out]
              exact hown1
            have HOF := Lib.hid hof
            have HGR := Lib.hid hgr
            clear hown1 hgb1 hnb1 hgr hof hx
            go_roundw
            case rel => exact ⟨i + 1, _, by have := HI.out; omega, by go_num, rfl, HGR.out, HOF.out⟩
            case measure => have := HI.out; simp [intOf] <;> omega
        · obtain rfl : i = r := by omega
          have t2 : decide (i < i) = false := decide_eq_false hli
          rw [HCN.out] at ho
          have ho2 : wr.ownsRow w.heap.size 3 1 u sl.length (sl.map nv) := by
            refine ⟨ho.1, ?_⟩
            rcases ho.2 with h9 | ⟨g9, cap, cur, e9, hb9, h9⟩
            · exact .inl h9
            · exact .inr ⟨g9, cap, cur, e9, Nat.le_trans HSS.out.g.size hb9, h9⟩
          obtain ⟨Av, cv, rfl, -, -, -⟩ := own_form ho2
          have HO := Lib.hid ho2
          have HG := Lib.hid (HSS.out.g.trans hg)
          clear ho ho2 hg hi hli
          go_wp2_with fail
          go_ret
          exact ⟨_, rfl, HO.out, HG.out⟩
end Go.Proofs.Ytbcifodifadoiaa.bk
