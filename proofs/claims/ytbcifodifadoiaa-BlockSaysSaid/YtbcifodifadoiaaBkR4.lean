/- The walk of the document's Of (printed by gen_bkr4.py). -/
import Derived.Test.YtbcifodifadoiaaBkR3
namespace Go.Proofs.Ytbcifodifadoiaa.bk
open Go Go.RowKit Go.Par Go.Kit Go.Proofs.Ytbcifodifadoiaa.Bk Go.Proofs.Ytbcifodifadoiaa.reW Go.Proofs.Ytbcifodifadoiaa.mkW Go.Proofs.Ytbcifodifadoiaa.Re

theorem ref_of_nil (w : World) (M : Int) (v : Value) (A : Option Addr) (c : Nat) : Calls Try.prog 11 #[.agg #[.int .i64 M, v], .slice A 0 c] w fun e w' => ∃ u, e = .returned u ∧ TsV w' (fun k => w.heap.size ≤ k) u [] ∧ Grow w w' := by
  have HW : Hid (Grow w (w.alloc (.cells #[.int .i64 M, v] TX8))) := Lib.hid (Grow.alloc _ _)
  go_enter Try.func11, Try.ntmps11
  go_wp2_with fail
  go_loopw [5, 7] (fun o' k' wr => o' = .slice none 0 0 ∧ k' = .int .i64 1 ∧ Grow w wr) (fun _ _ _ => 0)
  case atStart => exact ⟨rfl, rfl, HW.out⟩
  case round =>
    obtain ⟨rfl, rfl, hg⟩ := hrel
    have HG := Lib.hid hg
    clear hg
    go_wp2_with fail
    go_ret
    exact ⟨.slice none 0 0, rfl, TsV.nil _ _, HG.out⟩
set_option maxRecDepth 100000 in
set_option maxHeartbeats 4000000 in
theorem ref_of_any (M : Int) (v : Value) (LR : List (Nat × Nat)) (hLR : LR.length ≤ 1000000) : ∀ (f : Nat) (w : World), RefV w v LR → ∀ (A : Option Addr) (n c : Nat) (l : List Int), Nums w A n c l → n ≤ f → n ≤ 1000 →
    Calls Try.prog 11 #[.agg #[.int .i64 M, v], .slice A n c] w fun e w' => ∃ u, e = .returned u ∧ TsV w' (fun k => w.heap.size ≤ k) u (blocksF (aheadI (leadB LR)) (nearI (leadB LR)) f l) ∧ Grow w w' := by
  intro f
  induction f with
  | zero =>
    intro w _ A n c l hl hf _
    obtain rfl : n = 0 := by omega
    exact ref_of_nil w M v A c
  | succ f ih =>
    intro w hv A n c l hl hf hn
    have hll := hl.len
    have hc := hl.nc
    have hcm := hl.cm
    unfold maxLen at hcm
    have HV := Lib.hid hv
    obtain ⟨A0, c0, rfl, -⟩ := hv
    obtain ⟨l0, hl0⟩ : ∃ l, l = LR.length := ⟨_, rfl⟩
    rw [← hl0] at HV ih ⊢
    obtain ⟨b2, hb2⟩ : ∃ b2, b2 = w.heap.size := ⟨_, rfl⟩
    obtain ⟨W1, hW1⟩ : ∃ W, W = w.alloc (.cells #[.int .i64 M, .slice A0 l0 c0] TX8) := ⟨_, rfl⟩
    have hg1 : Grow w W1 := by rw [hW1]; exact Grow.alloc _ _
    have hbx2 : Blk W1 b2 TX8 [.int .i64 M, .slice A0 l0 c0] := by rw [hW1]; exact Blk.new w _ _ _ rfl hb2
    have HL := Lib.hid hl
    have HLL := Lib.hid hll
    have HIH := Lib.hid ih
    have HF := Lib.hid hf
    have HX2 := Lib.hid hbx2
    have HW1 := Lib.hid hW1
    have HB2 := Lib.hid hb2
    have HG01 := Lib.hid hg1
    have HLR := Lib.hid hLR
    obtain ⟨B, hB⟩ : ∃ B, B = aheadI (leadB LR) := ⟨_, rfl⟩
    obtain ⟨N, hN⟩ : ∃ N, N = nearI (leadB LR) := ⟨_, rfl⟩
    rw [← hB, ← hN]
    have HB := Lib.hid hB
    have HN := Lib.hid hN
    clear hl ih hf hll hB hN hW1 hg1 hbx2 hb2 hl0 hLR
    go_enter Try.func11, Try.ntmps11
    go_wp2_with fail
    rw [← HW1.out, ← HB2.out]
    go_loopw [5, 6, 7] (fun o' a' k' wr => ∃ (k m at_ : Nat) (v : Value) (qs : List (T × Value)), k ≤ n ∧ k' = .int .i64 ((k : Int) + 1) ∧ a' = .int .i64 (at_ : Int) ∧ v = o' ∧ at_ = (pst B l k).1 ∧ OwnT wr W1.heap.size TY v m qs ∧ qs.map Prod.fst = (pst B l k).2.map (pieceT N (blocksF B N f)) ∧ Grow W1 wr) (fun _ _ k' _ => n + 1 - (intOf k').toNat)
    case atStart => exact ⟨0, 0, 0, _, [], by omega, rfl, rfl, rfl, rfl, OwnT.nil _ _ _, rfl, Grow.refl W1⟩
    case round =>
      obtain ⟨wa, rfl⟩ : ∃ wa, wa = wr := ⟨_, rfl⟩
      obtain ⟨k, m, at_, v, qs, hk, rfl, rfl, rfl, hat, ho, hqs, hg1⟩ := hrel
      have hg := HG01.out.trans hg1
      by_cases hlt : k < n
      · have t1 : decide (k + 1 ≤ n) = true := decide_eq_true hlt
        have t1' : decide ((k : Int) + 1 ≤ (n : Int)) = true := decide_eq_true (by omega)
        have hatk : at_ ≤ k := by rw [hat]; exact pst_le B l k
        have hml : m ≤ k := by
          have h1 := congrArg List.length hqs
          rw [List.length_map, List.length_map, ho.len] at h1
          have := pst_len B l k
          omega
        obtain ⟨q, hq⟩ : ∃ q, q = (decide (k + 1 = n) || cutB B l (k + 1)) := ⟨_, rfl⟩
        have hst : pst B l (k + 1) = if q = true then (k + 1, (pst B l k).2 ++ [seg l (pst B l k).1 (k + 1)]) else pst B l k := by
          rw [hq, ← HLL.out]; rfl
        have HO := Lib.hid ho
        have HQS := Lib.hid hqs
        have HG := Lib.hid hg
        have HG1 := Lib.hid hg1
        have HK := Lib.hid hlt
        have HAT := Lib.hid hat
        have HML := Lib.hid hml
        have HST := Lib.hid hst
        have hCU := ref_cut wa M _ LR (HV.out.grow hg) HLR.out A n c l (HL.out.grow hg) (k + 1) (by omega)
        rw [← HB.out] at hCU
        simp only [Int.natCast_add, show ((1 : Nat) : Int) = 1 from rfl] at hCU
        have HCU := Lib.hid hCU
        have hk9 : k ≤ 1000 := by omega
        have hkc : k + 1 ≤ c := by omega
        have hs1 := slice_both (P := Try.prog) Try.underlying23 iI iIs A n c at_ (k + 1) (by omega) hkc
        simp only [Int.natCast_add, show ((1 : Nat) : Int) = 1 from rfl] at hs1
        have hsg := (HL.out.grow hg).seg (k := at_) (m := k + 1) (by omega) (by omega)
        have hsl : (seg l at_ (k + 1)).length = k + 1 - at_ := seg_len l (by rw [HLL.out]; omega)
        obtain ⟨A2, hA2⟩ : ∃ A2, A2 = cutAt A c at_ := ⟨_, rfl⟩
        obtain ⟨n2, hn2⟩ : ∃ n2, n2 = k + 1 - at_ := ⟨_, rfl⟩
        obtain ⟨c2, hc2⟩ : ∃ c2, c2 = c - at_ := ⟨_, rfl⟩
        rw [← hA2, ← hn2, ← hc2] at hs1 hsg
        obtain ⟨tP, htP⟩ : ∃ tP, tP = pieceT N (blocksF B N f) (seg l at_ (k + 1)) := ⟨_, rfl⟩
        have hpc : ∀ w', Grow wa w' → Calls Try.prog 30 #[.agg #[.int .i64 M, .slice A0 l0 c0], .slice A2 n2 c2] w' fun e w'' => ∃ u, e = .returned u ∧ IsT w'.heap.size tP u w'' ∧ Grow w' w'' := fun w' hgr => by
          rw [htP, HN.out]
          have hvv := HV.out.grow (hg.trans hgr)
          refine ref_piece (blocksF B (nearI (leadB LR)) f) M _ LR HLR.out w' hvv A2 n2 c2 (seg l at_ (k + 1)) (hsg.grow hgr) (by omega) (by omega) fun s hs w'' A' n' c' hgr2 hns => ?_
          have hns2 := hns.len
          have h9 := HIH.out w'' (hvv.grow hgr2) A' n' c' s hns (by have := HF.out; omega) (by omega)
          rw [← HB.out] at h9
          exact h9
        have HPC := Lib.hid hpc
        have HTP := Lib.hid htP
        obtain ⟨Av, cv, rfl, -, -, -⟩ := own_form ho.row
        clear ho hqs hg hg1 hk hlt hat hatk hml hst hCU hsg hsl hA2 hn2 hc2 hpc hkc htP
        by_cases hkn : k + 1 = n
        · have hq1 : q = true := by rw [hq, decide_eq_true hkn]; rfl
          have s1 : (((k : Int) + 1) == (n : Int)) = true := by rw [← hkn]; simp
          have s1' : (k + 1 == n) = true := by rw [hkn]; exact beq_self_eq_true _
          have HKN := Lib.hid hkn
          have HQ1 := Lib.hid hq1
          clear hkn hq hq1 HCU
          obtain ⟨wb, hwb⟩ : ∃ wb, wb = wa := ⟨_, rfl⟩
          have HGB : Hid (Grow wa wb) := Lib.hid (by rw [hwb]; exact Grow.refl _)
          rw [← hwb]
          clear hwb
          go_wp2_with fail
          clear s1 s1'
          apply (fun (v0 v1 v2 v3 v4 v5 : Value) mono draw obl tail => wp_region_piv (I := two (Grow wb) (fun w1 => ∃ v1 s, OwnT w1 W1.heap.size TY v1 (m + 1) (qs ++ [(tP, s)]) ∧ Grow W1 w1)) (G := Grow) (Rp := (fun _ _ _ => True)) (Φ := phi2 [veq2 v0, veq2 v1, veq2 v2, veq2 v3, veq2 v4, veq2 v5, (from2 0 (IsT wb.heap.size tP)), (from2 0 (New1 wb.heap.size tP)), (from2 1 (IsO W1.heap.size TY m qs tP))]) (m := 9) (ps := [8]) (qs := [(0, 0, false), (0, 0, false), (0, 0, false), (0, 0, false), (0, 0, false), (0, 0, false), (0, 0, false), (0, 0, false), (0, 0, true)]) (dls := [[], [], [], [], [], [(26, 2), (27, 3), (28, 4)], [(25, 1), (29, 5)], [(30, 6)], [(24, 0), (31, 7)]]) (ds := [24, 25, 26, 27, 28, 29, 30, 31, 32]) (by kernel_rfl) (by kernel_rfl) (by kernel_rfl) (by decide) rfl rfl draw (mono2_phi mono) (piv2_phi mono) obl tail)
          case obl =>
            refine obls2_cons (fun b hb1 hb2 f w' hI hH Q hQ => ?_) ?_
            · skip
              obtain rfl : b = 0 := by omega
              clear hb1 hb2
              clear hH
              refine wpList_view ?_; show wpList _ _ _ [_] ⟨#[_, _, _, _, _, _, _, _, _, _, _, _, _, _, _, _, _, _, _, _, _, _, _, _, _, _, _, _, _, _, _, _, _, _, _], _⟩ _
              repeat (first | go_guarded | go_step)
              exact hQ _ _ hI (Grow.refl _) rfl rfl
            refine obls2_cons (fun b hb1 hb2 f w' hI hH Q hQ => ?_) ?_
            · skip
              obtain rfl : b = 0 := by omega
              clear hb1 hb2
              clear hH
              refine wpList_view ?_; show wpList _ _ _ [_] ⟨#[_, _, _, _, _, _, _, _, _, _, _, _, _, _, _, _, _, _, _, _, _, _, _, _, _, _, _, _, _, _, _, _, _, _, _], _⟩ _
              have y0 := (HX2.out.grow ((HG1.out.trans HGB.out).trans hI.get0)).cell (i := 0) rfl
              have y1 := (HX2.out.grow ((HG1.out.trans HGB.out).trans hI.get0)).cell (i := 1) rfl
              repeat (first | go_guarded | go_step)
              exact hQ _ _ hI (Grow.refl _) rfl rfl
            refine obls2_cons (fun b hb1 hb2 f w' hI hH Q hQ => ?_) ?_
            · skip
              obtain rfl : b = 0 := by omega
              clear hb1 hb2
              clear hH
              refine wpList_view ?_; show wpList _ _ _ [_] ⟨#[_, _, _, _, _, _, _, _, _, _, _, _, _, _, _, _, _, _, _, _, _, _, _, _, _, _, _, _, _, _, _, _, _, _, _], _⟩ _
              repeat (first | go_guarded | go_step)
              exact hQ _ _ hI (Grow.refl _) rfl rfl
            refine obls2_cons (fun b hb1 hb2 f w' hI hH Q hQ => ?_) ?_
            · skip
              obtain rfl : b = 0 := by omega
              clear hb1 hb2
              clear hH
              refine wpList_view ?_; show wpList _ _ _ [_] ⟨#[_, _, _, _, _, _, _, _, _, _, _, _, _, _, _, _, _, _, _, _, _, _, _, _, _, _, _, _, _, _, _, _, _, _, _], _⟩ _
              repeat (first | go_guarded | go_step)
              exact hQ _ _ hI (Grow.refl _) rfl rfl
            refine obls2_cons (fun b hb1 hb2 f w' hI hH Q hQ => ?_) ?_
            · skip
              obtain rfl : b = 0 := by omega
              clear hb1 hb2
              clear hH
              refine wpList_view ?_; show wpList _ _ _ [_] ⟨#[_, _, _, _, _, _, _, _, _, _, _, _, _, _, _, _, _, _, _, _, _, _, _, _, _, _, _, _, _, _, _, _, _, _, _], _⟩ _
              repeat (first | go_guarded | go_step)
              exact hQ _ _ hI (Grow.refl _) rfl rfl
            refine obls2_cons (fun b hb1 hb2 f w' hI hH Q hQ => ?_) ?_
            · skip
              obtain rfl : b = 0 := by omega
              clear hb1 hb2
              have h2 := hH.get 0 (26, 2) rfl
              have h3 := hH.get 1 (27, 3) rfl
              have h4 := hH.get 2 (28, 4) rfl
              clear hH
              refine wpList_merge (idx := [none, none, none, none, none, none, none, none, none, none, none, none, none, none, none, none, none, none, none, none, none, none, none, none, none, none, some 2, some 3, some 4, none, none, none, none, none, none]) (by kernel_rfl) ?_; show wpList _ _ _ [_] ⟨#[_, _, _, _, _, _, _, _, _, _, _, _, _, _, _, _, _, _, _, _, _, _, _, _, _, _, f 2, f 3, f 4, _, _, _, _, _, _], _⟩ _
              rw [show f 2 = _ from h2]
              rw [show f 3 = _ from h3]
              rw [show f 4 = _ from h4]
              clear h2 h3 h4
              repeat (first | go_guarded | go_step)
              exact hQ _ _ hI (Grow.refl _) rfl rfl
            refine obls2_cons (fun b hb1 hb2 f w' hI hH Q hQ => ?_) ?_
            · skip
              obtain rfl : b = 0 := by omega
              clear hb1 hb2
              have h1 := hH.get 0 (25, 1) rfl
              have h5 := hH.get 1 (29, 5) rfl
              clear hH
              refine wpList_view ?_; show wpList _ _ _ [_] ⟨#[_, _, _, _, _, _, _, _, _, _, _, _, _, _, _, _, _, _, _, _, _, _, _, _, _, f 1, _, _, _, f 5, _, _, _, _, _], _⟩ _
              rw [show f 1 = _ from h1]
              rw [show f 5 = _ from h5]
              clear h1 h5
              have HIg := Lib.hid hI
              have HC := Lib.hid (HPC.out w' (HGB.out.trans HIg.out.get0))
              clear hI
              go_wp2_with (go_at_call 30; refine HC.out.mono ?_; rintro e w1 ⟨v1, rfl, ho1, hg1⟩)
              obtain ⟨s9, e9, ht9⟩ := ho1
              exact hQ _ _ (two.zero (HIg.out.get0.trans hg1)) hg1 (from2.mk ⟨s9, e9, ht9.imp fun k hk => Nat.le_trans HIg.out.get0.size hk⟩) rfl
            refine obls2_cons (fun b hb1 hb2 f w' hI hH Q hQ => ?_) ?_
            · skip
              obtain rfl : b = 0 := by omega
              clear hb1 hb2
              have h6 := hH.get 0 (30, 6) rfl
              clear hH
              refine wpList_view ?_; show wpList _ _ _ [_] ⟨#[_, _, _, _, _, _, _, _, _, _, _, _, _, _, _, _, _, _, _, _, _, _, _, _, _, _, _, _, _, _, f 6, _, _, _, _], _⟩ _
              replace h6 : (from2 0 (IsT wb.heap.size tP)) (f 6) 0 w' := h6
              obtain ⟨u6, hu6⟩ : ∃ u, u = f 6 := ⟨_, rfl⟩
              rw [← hu6]
              rw [← hu6] at h6
              clear hu6
              obtain ⟨s, rfl, h9⟩ := h6.get
              have HIg := Lib.hid hI
              have H9 := Lib.hid h9
              obtain ⟨As9, cs9, qs9, e9, -⟩ := h9.form
              subst e9
              clear hI h9 h6
              go_wp2_with fail
              exact hQ _ _ (two.zero (HIg.out.get0.trans (Grow.alloc _ _))) (Grow.alloc _ _) (from2.mk ⟨_, _, rfl, Row.new _ [.int .i64 tP.kind, .int .i64 tP.n, _] _ (0, 0), H9.out.grow (Grow.alloc _ _)⟩) rfl
            refine oblsP_cons (fun f w' hI hH Q hQ => ?_) ?_
            · skip
              have h0 := hH.get 0 (24, 0) rfl
              have h7 := hH.get 1 (31, 7) rfl
              clear hH
              refine wpList_view ?_; show wpList _ _ _ [_] ⟨#[_, _, _, _, _, _, _, _, _, _, _, _, _, _, _, _, _, _, _, _, _, _, _, _, f 0, _, _, _, _, _, _, f 7, _, _, _], _⟩ _
              rw [show f 0 = _ from h0]
              replace h7 : (from2 0 (New1 wb.heap.size tP)) (f 7) 0 w' := h7
              obtain ⟨u7, hu7⟩ : ∃ u, u = f 7 := ⟨_, rfl⟩
              rw [← hu7]
              rw [← hu7] at h7
              have HU7 : Hid (f 7 = u7) := Lib.hid hu7.symm
              clear hu7
              clear h0
              obtain ⟨gs, s, rfl, hrow, htv⟩ := h7.get
              obtain ⟨As9, cs9, qs9, e9, -⟩ := htv.form
              subst e9
              have HQ2 := Lib.hid (HO.out.grow (HGB.out.trans hI.get0))
              have HTV := Lib.hid htv
              have HGw := Lib.hid ((HG1.out.trans HGB.out).trans hI.get0)
              have HGb := Lib.hid (HG1.out.trans HGB.out)
              have HLw : Hid (∀ k, (Value.slice Av m cv).ownBlock = some k → k < wb.heap.size) := Lib.hid fun k hk => Nat.lt_of_lt_of_le (ltOwn HO.out.row k hk) HGB.out.size
              clear htv
              refine wpList_append_row rfl _ _ _ rfl W1.heap.size TY _ _ 3 40 Try.underlying32 iY iYz iYs iYb rfl (by decide) (.slice Av m cv) m (qs.map qcells).flatten rfl HQ2.out.row (some ⟨gs, 0, none⟩) 1 1 [.int .i64 tP.kind, .int .i64 tP.n, .slice As9 tP.subs.length cs9] rfl hrow (one3 rfl) (by have := HML.out; unfold maxLen; omega) (by have := HML.out; omega) HGw.out.size ?_
              intro v1 w1 hown1 hgb1 hnb1
              have hap := HQ2.out.app (q := (tP, .slice As9 tP.subs.length cs9)) HTV.out HGb.out.size HLw.out hgb1 hown1 hnb1
              exact hQ _ _ (two.one ⟨v1, _, hap, grow_by HGw.out hgb1 (own_base HO.out.row)⟩) trivial (from2.mk ⟨_, hap⟩) rfl
            exact obls2_nil
          case draw =>
            exact two.zero (Grow.drew _)
          case mono => exact ⟨Mono2.veq _, Mono2.veq _, Mono2.veq _, Mono2.veq _, Mono2.veq _, Mono2.veq _, Mono2.from IsT.mono, Mono2.from New1.mono, Mono2.from IsO.mono, trivial⟩
          case tail =>
            intro f w' hI hH
            have q8 : (from2 1 (IsO W1.heap.size TY m qs tP)) (f 8) 1 w' := hH.get 8 (32, 8) rfl
            clear hH
            refine wpList_merge (idx := [none, none, none, none, none, none, none, none, none, none, none, none, none, none, none, none, none, none, none, none, none, none, none, none, some 0, some 1, some 2, some 3, some 4, some 5, some 6, some 7, some 8, none, none]) (by kernel_rfl) ?_; show wpList _ _ _ [_] ⟨#[_, _, _, _, _, _, _, _, _, _, _, _, _, _, _, _, _, _, _, _, _, _, _, _, f 0, f 1, f 2, f 3, f 4, f 5, f 6, f 7, f 8, _, _], _⟩ _
            generalize f 8 = x8 at *
            obtain ⟨v1, s1, -, hgw⟩ := hI.get1
            obtain ⟨s, ho⟩ := q8.get
            obtain ⟨A7, c7, rfl, -, -, -⟩ := own_form ho.row
            have hst2 := HST.out
            rw [if_pos HQ1.out] at hst2
            have HOT := Lib.hid ho
            have HGR := Lib.hid hgw
            have HST2 := Lib.hid hst2
            clear ho hgw hst2 hI q8
            go_wp2_with fail
            go_roundw
            case rel => exact ⟨k + 1, m + 1, k + 1, _, qs ++ [(tP, s)], by have := HK.out; omega, by go_num, by go_num, rfl, by rw [HST2.out], HOT.out, by rw [HST2.out, List.map_append, HQS.out, List.map_append, HTP.out, HAT.out]; rfl, HGR.out⟩
            case measure => have := HK.out; simp [intOf] <;> omega
        · have s1 : (((k : Int) + 1) == (n : Int)) = false := beq_false_of_ne (by omega)
          have s1' : (k + 1 == n) = false := beq_false_of_ne hkn
          have hq1 : q = cutB B l (k + 1) := by rw [hq, decide_eq_false hkn]; rfl
          rw [← hq1] at HCU
          clear hkn hq hq1
          have hx2 := HX2.out.grow HG1.out
          have y0 := hx2.cell (i := 0) rfl
          have y1 := hx2.cell (i := 1) rfl
          clear hx2
          cases q
          · have hst2 := HST.out
            rw [if_neg (by decide)] at hst2
            have HST2 := Lib.hid hst2
            clear hst2
            go_wp2_with fail
            refine HCU.out.mono ?_
            rintro e wb ⟨rfl, hgb⟩
            have HGB := Lib.hid hgb
            clear hgb
            go_wp2_with fail
            clear hs1 s1 s1' y0 y1
            go_roundw
            case rel => exact ⟨k + 1, m, at_, _, qs, by have := HK.out; omega, by go_num, rfl, rfl, by rw [HST2.out]; exact HAT.out, HO.out.grow HGB.out, by rw [HST2.out]; exact HQS.out, HG1.out.trans HGB.out⟩
            case measure => have := HK.out; simp [intOf] <;> omega
          · have HQ1 : Hid (true = true) := Lib.hid rfl
            go_wp2_with fail
            refine HCU.out.mono ?_
            rintro e wb ⟨rfl, hgb⟩
            have HGB := Lib.hid hgb
            clear hgb
            go_wp2_with fail
            clear s1 s1' y0 y1
            apply (fun (v0 v1 v2 v3 v4 v5 : Value) mono draw obl tail => wp_region_piv (I := two (Grow wb) (fun w1 => ∃ v1 s, OwnT w1 W1.heap.size TY v1 (m + 1) (qs ++ [(tP, s)]) ∧ Grow W1 w1)) (G := Grow) (Rp := (fun _ _ _ => True)) (Φ := phi2 [veq2 v0, veq2 v1, veq2 v2, veq2 v3, veq2 v4, veq2 v5, (from2 0 (IsT wb.heap.size tP)), (from2 0 (New1 wb.heap.size tP)), (from2 1 (IsO W1.heap.size TY m qs tP))]) (m := 9) (ps := [8]) (qs := [(0, 0, false), (0, 0, false), (0, 0, false), (0, 0, false), (0, 0, false), (0, 0, false), (0, 0, false), (0, 0, false), (0, 0, true)]) (dls := [[], [], [], [], [], [(26, 2), (27, 3), (28, 4)], [(25, 1), (29, 5)], [(30, 6)], [(24, 0), (31, 7)]]) (ds := [24, 25, 26, 27, 28, 29, 30, 31, 32]) (by kernel_rfl) (by kernel_rfl) (by kernel_rfl) (by decide) rfl rfl draw (mono2_phi mono) (piv2_phi mono) obl tail)
            case obl =>
              refine obls2_cons (fun b hb1 hb2 f w' hI hH Q hQ => ?_) ?_
              · skip
                obtain rfl : b = 0 := by omega
                clear hb1 hb2
                clear hH
                refine wpList_view ?_; show wpList _ _ _ [_] ⟨#[_, _, _, _, _, _, _, _, _, _, _, _, _, _, _, _, _, _, _, _, _, _, _, _, _, _, _, _, _, _, _, _, _, _, _], _⟩ _
                repeat (first | go_guarded | go_step)
                exact hQ _ _ hI (Grow.refl _) rfl rfl
              refine obls2_cons (fun b hb1 hb2 f w' hI hH Q hQ => ?_) ?_
              · skip
                obtain rfl : b = 0 := by omega
                clear hb1 hb2
                clear hH
                refine wpList_view ?_; show wpList _ _ _ [_] ⟨#[_, _, _, _, _, _, _, _, _, _, _, _, _, _, _, _, _, _, _, _, _, _, _, _, _, _, _, _, _, _, _, _, _, _, _], _⟩ _
                have y0 := (HX2.out.grow ((HG1.out.trans HGB.out).trans hI.get0)).cell (i := 0) rfl
                have y1 := (HX2.out.grow ((HG1.out.trans HGB.out).trans hI.get0)).cell (i := 1) rfl
                repeat (first | go_guarded | go_step)
                exact hQ _ _ hI (Grow.refl _) rfl rfl
              refine obls2_cons (fun b hb1 hb2 f w' hI hH Q hQ => ?_) ?_
              · skip
                obtain rfl : b = 0 := by omega
                clear hb1 hb2
                clear hH
                refine wpList_view ?_; show wpList _ _ _ [_] ⟨#[_, _, _, _, _, _, _, _, _, _, _, _, _, _, _, _, _, _, _, _, _, _, _, _, _, _, _, _, _, _, _, _, _, _, _], _⟩ _
                repeat (first | go_guarded | go_step)
                exact hQ _ _ hI (Grow.refl _) rfl rfl
              refine obls2_cons (fun b hb1 hb2 f w' hI hH Q hQ => ?_) ?_
              · skip
                obtain rfl : b = 0 := by omega
                clear hb1 hb2
                clear hH
                refine wpList_view ?_; show wpList _ _ _ [_] ⟨#[_, _, _, _, _, _, _, _, _, _, _, _, _, _, _, _, _, _, _, _, _, _, _, _, _, _, _, _, _, _, _, _, _, _, _], _⟩ _
                repeat (first | go_guarded | go_step)
                exact hQ _ _ hI (Grow.refl _) rfl rfl
              refine obls2_cons (fun b hb1 hb2 f w' hI hH Q hQ => ?_) ?_
              · skip
                obtain rfl : b = 0 := by omega
                clear hb1 hb2
                clear hH
                refine wpList_view ?_; show wpList _ _ _ [_] ⟨#[_, _, _, _, _, _, _, _, _, _, _, _, _, _, _, _, _, _, _, _, _, _, _, _, _, _, _, _, _, _, _, _, _, _, _], _⟩ _
                repeat (first | go_guarded | go_step)
                exact hQ _ _ hI (Grow.refl _) rfl rfl
              refine obls2_cons (fun b hb1 hb2 f w' hI hH Q hQ => ?_) ?_
              · skip
                obtain rfl : b = 0 := by omega
                clear hb1 hb2
                have h2 := hH.get 0 (26, 2) rfl
                have h3 := hH.get 1 (27, 3) rfl
                have h4 := hH.get 2 (28, 4) rfl
                clear hH
                refine wpList_merge (idx := [none, none, none, none, none, none, none, none, none, none, none, none, none, none, none, none, none, none, none, none, none, none, none, none, none, none, some 2, some 3, some 4, none, none, none, none, none, none]) (by kernel_rfl) ?_; show wpList _ _ _ [_] ⟨#[_, _, _, _, _, _, _, _, _, _, _, _, _, _, _, _, _, _, _, _, _, _, _, _, _, _, f 2, f 3, f 4, _, _, _, _, _, _], _⟩ _
                rw [show f 2 = _ from h2]
                rw [show f 3 = _ from h3]
                rw [show f 4 = _ from h4]
                clear h2 h3 h4
                repeat (first | go_guarded | go_step)
                exact hQ _ _ hI (Grow.refl _) rfl rfl
              refine obls2_cons (fun b hb1 hb2 f w' hI hH Q hQ => ?_) ?_
              · skip
                obtain rfl : b = 0 := by omega
                clear hb1 hb2
                have h1 := hH.get 0 (25, 1) rfl
                have h5 := hH.get 1 (29, 5) rfl
                clear hH
                refine wpList_view ?_; show wpList _ _ _ [_] ⟨#[_, _, _, _, _, _, _, _, _, _, _, _, _, _, _, _, _, _, _, _, _, _, _, _, _, f 1, _, _, _, f 5, _, _, _, _, _], _⟩ _
                rw [show f 1 = _ from h1]
                rw [show f 5 = _ from h5]
                clear h1 h5
                have HIg := Lib.hid hI
                have HC := Lib.hid (HPC.out w' (HGB.out.trans HIg.out.get0))
                clear hI
                go_wp2_with (go_at_call 30; refine HC.out.mono ?_; rintro e w1 ⟨v1, rfl, ho1, hg1⟩)
                obtain ⟨s9, e9, ht9⟩ := ho1
                exact hQ _ _ (two.zero (HIg.out.get0.trans hg1)) hg1 (from2.mk ⟨s9, e9, ht9.imp fun k hk => Nat.le_trans HIg.out.get0.size hk⟩) rfl
              refine obls2_cons (fun b hb1 hb2 f w' hI hH Q hQ => ?_) ?_
              · skip
                obtain rfl : b = 0 := by omega
                clear hb1 hb2
                have h6 := hH.get 0 (30, 6) rfl
                clear hH
                refine wpList_view ?_; show wpList _ _ _ [_] ⟨#[_, _, _, _, _, _, _, _, _, _, _, _, _, _, _, _, _, _, _, _, _, _, _, _, _, _, _, _, _, _, f 6, _, _, _, _], _⟩ _
                replace h6 : (from2 0 (IsT wb.heap.size tP)) (f 6) 0 w' := h6
                obtain ⟨u6, hu6⟩ : ∃ u, u = f 6 := ⟨_, rfl⟩
                rw [← hu6]
                rw [← hu6] at h6
                clear hu6
                obtain ⟨s, rfl, h9⟩ := h6.get
                have HIg := Lib.hid hI
                have H9 := Lib.hid h9
                obtain ⟨As9, cs9, qs9, e9, -⟩ := h9.form
                subst e9
                clear hI h9 h6
                go_wp2_with fail
                exact hQ _ _ (two.zero (HIg.out.get0.trans (Grow.alloc _ _))) (Grow.alloc _ _) (from2.mk ⟨_, _, rfl, Row.new _ [.int .i64 tP.kind, .int .i64 tP.n, _] _ (0, 0), H9.out.grow (Grow.alloc _ _)⟩) rfl
              refine oblsP_cons (fun f w' hI hH Q hQ => ?_) ?_
              · skip
                have h0 := hH.get 0 (24, 0) rfl
                have h7 := hH.get 1 (31, 7) rfl
                clear hH
                refine wpList_view ?_; show wpList _ _ _ [_] ⟨#[_, _, _, _, _, _, _, _, _, _, _, _, _, _, _, _, _, _, _, _, _, _, _, _, f 0, _, _, _, _, _, _, f 7, _, _, _], _⟩ _
                rw [show f 0 = _ from h0]
                replace h7 : (from2 0 (New1 wb.heap.size tP)) (f 7) 0 w' := h7
                obtain ⟨u7, hu7⟩ : ∃ u, u = f 7 := ⟨_, rfl⟩
                rw [← hu7]
                rw [← hu7] at h7
                have HU7 : Hid (f 7 = u7) := Lib.hid hu7.symm
                clear hu7
                clear h0
                obtain ⟨gs, s, rfl, hrow, htv⟩ := h7.get
                obtain ⟨As9, cs9, qs9, e9, -⟩ := htv.form
                subst e9
                have HQ2 := Lib.hid (HO.out.grow (HGB.out.trans hI.get0))
                have HTV := Lib.hid htv
                have HGw := Lib.hid ((HG1.out.trans HGB.out).trans hI.get0)
                have HGb := Lib.hid (HG1.out.trans HGB.out)
                have HLw : Hid (∀ k, (Value.slice Av m cv).ownBlock = some k → k < wb.heap.size) := Lib.hid fun k hk => Nat.lt_of_lt_of_le (ltOwn HO.out.row k hk) HGB.out.size
                clear htv
                refine wpList_append_row rfl _ _ _ rfl W1.heap.size TY _ _ 3 40 Try.underlying32 iY iYz iYs iYb rfl (by decide) (.slice Av m cv) m (qs.map qcells).flatten rfl HQ2.out.row (some ⟨gs, 0, none⟩) 1 1 [.int .i64 tP.kind, .int .i64 tP.n, .slice As9 tP.subs.length cs9] rfl hrow (one3 rfl) (by have := HML.out; unfold maxLen; omega) (by have := HML.out; omega) HGw.out.size ?_
                intro v1 w1 hown1 hgb1 hnb1
                have hap := HQ2.out.app (q := (tP, .slice As9 tP.subs.length cs9)) HTV.out HGb.out.size HLw.out hgb1 hown1 hnb1
                exact hQ _ _ (two.one ⟨v1, _, hap, grow_by HGw.out hgb1 (own_base HO.out.row)⟩) trivial (from2.mk ⟨_, hap⟩) rfl
              exact obls2_nil
            case draw =>
              exact two.zero (Grow.drew _)
            case mono => exact ⟨Mono2.veq _, Mono2.veq _, Mono2.veq _, Mono2.veq _, Mono2.veq _, Mono2.veq _, Mono2.from IsT.mono, Mono2.from New1.mono, Mono2.from IsO.mono, trivial⟩
            case tail =>
              intro f w' hI hH
              have q8 : (from2 1 (IsO W1.heap.size TY m qs tP)) (f 8) 1 w' := hH.get 8 (32, 8) rfl
              clear hH
              refine wpList_merge (idx := [none, none, none, none, none, none, none, none, none, none, none, none, none, none, none, none, none, none, none, none, none, none, none, none, some 0, some 1, some 2, some 3, some 4, some 5, some 6, some 7, some 8, none, none]) (by kernel_rfl) ?_; show wpList _ _ _ [_] ⟨#[_, _, _, _, _, _, _, _, _, _, _, _, _, _, _, _, _, _, _, _, _, _, _, _, f 0, f 1, f 2, f 3, f 4, f 5, f 6, f 7, f 8, _, _], _⟩ _
              generalize f 8 = x8 at *
              obtain ⟨v1, s1, -, hgw⟩ := hI.get1
              obtain ⟨s, ho⟩ := q8.get
              obtain ⟨A7, c7, rfl, -, -, -⟩ := own_form ho.row
              have hst2 := HST.out
              rw [if_pos HQ1.out] at hst2
              have HOT := Lib.hid ho
              have HGR := Lib.hid hgw
              have HST2 := Lib.hid hst2
              clear ho hgw hst2 hI q8
              go_wp2_with fail
              go_roundw
              case rel => exact ⟨k + 1, m + 1, k + 1, _, qs ++ [(tP, s)], by have := HK.out; omega, by go_num, by go_num, rfl, by rw [HST2.out], HOT.out, by rw [HST2.out, List.map_append, HQS.out, List.map_append, HTP.out, HAT.out]; rfl, HGR.out⟩
              case measure => have := HK.out; simp [intOf] <;> omega
      · obtain rfl : k = n := by omega
        have t1 : decide (k + 1 ≤ k) = false := decide_eq_false (by omega)
        have t1' : decide ((k : Int) + 1 ≤ (k : Int)) = false := decide_eq_false (by omega)
        have htv := ho.tsV
        rw [hqs] at htv
        have hbl : blocksF B N (f + 1) l = (pst B l k).2.map (pieceT N (blocksF B N f)) := by rw [blocksF]; unfold pieces; rw [HLL.out]
        rw [← hbl] at htv
        have HTV := Lib.hid (htv.imp (P' := fun k => w.heap.size ≤ k) fun k hk => Nat.le_trans HG01.out.size hk)
        obtain ⟨Av, cv, rfl, -, -, -⟩ := own_form ho.row
        have HG := Lib.hid hg
        clear ho hqs hg hg1 htv hbl hk hlt hat
        go_wp2_with fail
        go_ret
        exact ⟨_, rfl, HTV.out, HG.out⟩
end Go.Proofs.Ytbcifodifadoiaa.bk
