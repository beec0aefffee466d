/- Tags: Set. -/
import Derived.Test.YthclgmpjmhacdaaTgS
namespace Go.Proofs.Ythclgmpjmhacdaa.tg
open Go Go.RowKit Go.Par Go.Kit

def setE (L : List Tag) (s : List UInt8) (v : List Int) : Nat := if nameB s then (if goodV v then (if hasT L s || decide (L.length < 32) then 0 else 11) else 1) else 4
section
variable {w w' : World} {B g bs bn n m : Nat} {L L' : List Tag}
theorem wpList_len_want {P : Program} {ops : Array Oper} {rest : List Oper} {o : Oper} {a : Act} {w : World} {Q : Exit → Act → World → Prop} {v : Value}
    (hw : Region.wanted o (yielded ops a.tmps) = true) (x : Operand) (t : TypeId) (hop : o.op = Op.call { callee := Callee.builtin Builtin.len, args := #[x], argTypes := #[t] })
    (b : Nat) (hx : a.eval x = .map (some b)) (hrun : ∀ ty, (Builtin.len_ #[t] ty #[.map (some b)]).run P w = .ok v w)
    (hK : wpList P ops Q rest (a.put o.dst v) w) : wpList P ops Q (o :: rest) a w :=
  BigFrame.wpList_want hw fun K hK' => by
    have hrun' := hrun o.type
    unfold Oper.wp
    simp [execOp, hop, resolve, invoke, builtin, hx, hrun', Result.andThen]
    exact hK' _ _ hK
theorem TagI.mono (h : TagI w B g bs bn n L) (hm : n ≤ m) : TagI w B g bs bn m L := ⟨h.bx, h.mt.mono hm, h.mn.mono hm, h.gB, h.sB, h.nB, h.ne, h.ok⟩
theorem set_nil (w : World) (s : ByteArray) (v : List Int) : Calls Try.prog 14 #[.pointer none, .string s, vv v] w fun e w' => e = .returned (.int .i64 1) ∧ Grow w w' := by
  unfold vv
  obtain ⟨cv, hcv⟩ : ∃ A, A = ints .u16 v := ⟨_, rfl⟩
  rw [← hcv]
  clear hcv
  go_enter Try.func14, Try.ntmps14
  go_wp2_with fail
  go_ret
  exact ⟨rfl, Grow.alloc _ _⟩
theorem hset (L : List Tag) (s x : List UInt8) : (x == s || hasT L x) = (x == s || (x != s && hasT L x)) := by
  unfold bne
  cases x == s <;> cases hasT L x <;> rfl
set_option maxRecDepth 100000 in
set_option maxHeartbeats 2000000 in
theorem set_any (h : TagI w B g bs bn n L) (hn : n < 1000000) (s : List UInt8) (hs : s.length ≤ maxLen) (v : List Int) (hv : VecOk v) :
    Calls Try.prog 14 #[.pointer (some ⟨g, 0, none⟩), .string (str s), vv v] w fun e w' => e = .returned (.int .i64 (setE L s v)) ∧ TagI w' B g bs bn (n + 7) (if setE L s v = 0 then setT L s v else L) ∧ Keep B (Kt bs bn) w w' := by
  obtain ⟨r, hr⟩ : ∃ r, r = setE L s v := ⟨_, rfl⟩
  rw [← hr]
  have hvi := ints_ok hv
  have hgo : ∀ w1, Calls Try.prog 44 #[vv v] w1 fun e w' => e = .returned (.bool (goodV v)) ∧ Grow w1 w' := fun w1 => good_any w1 v hv
  unfold vv at hgo ⊢
  obtain ⟨cv, hcv⟩ : ∃ A, A = ints .u16 v := ⟨_, rfl⟩
  rw [← hcv] at hvi hgo ⊢
  obtain ⟨W0, hW0⟩ : ∃ W, W = w.alloc (.cells cv.toArray TV) := ⟨_, rfl⟩
  have hg0 : Grow w W0 := by rw [hW0]; exact Grow.alloc _ _
  have hb0 : Blk W0 w.heap.size TV cv := by rw [hW0]; exact Blk.new _ _ _ _ rfl rfl
  have hT0 := h.grow hg0
  have x0 := hT0.bx.cell (i := 0) rfl
  have hl := hT0.mt.look hs
  have hio := ints_ok (h.vec s)
  unfold vv at hl
  obtain ⟨cs, hcs⟩ : ∃ A, A = ints .u16 (getT L s) := ⟨_, rfl⟩
  obtain ⟨q, hq⟩ : ∃ q, q = str s := ⟨_, rfl⟩
  obtain ⟨y, hy⟩ : ∃ y, y = hasT L s := ⟨_, rfl⟩
  obtain ⟨a, ha⟩ : ∃ a, a = nameB s := ⟨_, rfl⟩
  obtain ⟨b, hb⟩ : ∃ b, b = goodV v := ⟨_, rfl⟩
  have hr2 : r = if a then (if b then (if y || decide (L.length < 32) then 0 else 11) else 1) else 4 := by rw [hr, ha, hb, hy]; rfl
  have hna : ∀ w1, Calls Try.prog 43 #[.string q] w1 fun e w' => e = .returned (.bool a) ∧ Grow w1 w' := fun w1 => by rw [hq, ha]; exact name_any w1 s hs
  have HF : Hid (∀ w1, Grow w w1 → Calls Try.prog 45 #[.pointer (some ⟨g, 0, none⟩), .string q] w1 fun e w' => (∃ v, e = .returned v) ∧ TagI w' B g bs bn (n + 3) (delT L s) ∧ Keep B (Kt bs bn) w1 w') := Lib.hid fun w1 hg => by
    rw [hq]
    exact forget_any (h.grow hg) hn s hs
  rw [← hcs] at hl hio
  rw [← hq, ← hy] at hl
  rw [← hb] at hgo
  rw [← hq]
  have HC := Lib.hid hio.1
  have HO := Lib.hid hio.2
  have HCV := Lib.hid hvi.1
  have HB0 := Lib.hid hb0
  have HG0 := Lib.hid hg0
  have HW0 := Lib.hid hW0
  have HT := Lib.hid h
  have HNA := Lib.hid hna
  have HGO := Lib.hid hgo
  have HR := Lib.hid hr2
  have HCVE := Lib.hid hcv
  have HQ := Lib.hid hq
  have HY := Lib.hid hy
  have HA := Lib.hid ha
  have HB := Lib.hid hb
  have HS := Lib.hid hs
  have HV := Lib.hid hv
  have HNN := Lib.hid hn
  have hkeep : Hid (∀ w1, Grow w w1 → r ≠ 0 → TagI w1 B g bs bn (n + 7) (if r = 0 then setT L s v else L) ∧ Keep B (Kt bs bn) w w1) := Lib.hid fun w1 hg h0 => by
    rw [if_neg h0]
    exact ⟨(h.grow hg).mono (by omega), Keep.of hg h.base⟩
  clear h hs hn hcs hq hio hvi hgo hcv hg0 hb0 hT0 hy ha hb hr hr2 hna hv hW0
  go_enter Try.func14, Try.ntmps14
  try dsimp only
  repeat (first | with_reducible (refine wp_region_cut (k := 1) ?_) | go_values | go_guarded | go_step | go_upon | go_back)
  rw [← HW0.out]
  unfold Cut
  go_wp2_with (refine store_blk rfl _ _ _ rfl W0.heap.size cs rfl rfl TV _ (Blk.new _ _ _ _ rfl rfl) (by rw [sizeV, HC.out]) HC.out.symm HO.out ?_)
  refine (HNA.out _).mono ?_
  rintro e w1 ⟨rfl, hg1⟩
  have hgw : Grow w w1 := (HG0.out.trans (Grow.setRow (Grow.alloc _ _) (Nat.le_refl _) _)).trans hg1
  have hb1 : Blk w1 w.heap.size TV cv := (HB0.out.grow (Grow.setRow (Grow.alloc _ _) (Nat.le_refl _) _)).grow hg1
  have HGW := Lib.hid hgw
  clear hg1 hgw x0 hl
  cases a
  · have hk := hkeep.out w1 HGW.out (by rw [show r = 4 from HR.out]; decide)
    have hr4 : r = 4 := HR.out
    have HK := Lib.hid hk
    clear hk hb1
    subst hr4
    go_wp2_with fail
    go_ret
    exact ⟨rfl, HK.out⟩
  · go_wp2_with (refine load_blk rfl _ _ rfl w.heap.size rfl _ _ _ hb1 undV rfl (by rw [sizeV, HCV.out]) ?_)
    refine (HGO.out _).mono ?_
    rintro e w2 ⟨rfl, hg2⟩
    have hgw2 := HGW.out.trans hg2
    have hb2 := hb1.grow hg2
    have HB2 := Lib.hid hb2
    have HG2 := Lib.hid hgw2
    clear hg2 hgw2 hb2 hb1
    cases b
    · have hk := hkeep.out w2 HG2.out (by rw [show r = 1 from HR.out]; decide)
      have hr4 : r = 1 := HR.out
      have HK := Lib.hid hk
      clear hk
      subst hr4
      go_wp2_with fail
      go_ret
      exact ⟨rfl, HK.out⟩
    · have x2 := (HT.out.grow HG2.out).bx.cell (i := 0) rfl
      have hlen := fun ty => (HT.out.grow HG2.out).mt.len HT.out.ok.nodup ty
      obtain ⟨k, hk⟩ : ∃ k, k = L.length := ⟨_, rfl⟩
      have hk2 : k ≤ 32 := by rw [hk]; exact HT.out.ok.len
      rw [← hk] at hlen
      have HL := Lib.hid hk
      clear hk
      by_cases hz : y = false ∧ 32 ≤ k
      · obtain ⟨rfl, hk3⟩ := hz
        have hr4 : r = 11 := by rw [HR.out, ← HL.out]; simp; omega
        have hkk := hkeep.out w2 HG2.out (by rw [hr4]; decide)
        have HK := Lib.hid hkk
        subst hr4
        clear hkk
        go_wp2_with (refine wpList_len_want rfl _ _ rfl bs rfl hlen ?_)
        go_ret
        exact ⟨rfl, HK.out⟩
      · have hr4 : r = 0 := by
          rw [HR.out, ← HL.out]
          cases y
          · simp at hz; simp; omega
          · simp
        have HOK : Hid (OkT (setT L s v)) := Lib.hid (HT.out.ok.set HA.out.symm HV.out HB.out.symm (by
          rw [← HY.out, ← HL.out]
          cases y
          · simp at hz; exact .inr (by omega)
          · exact .inl rfl))
        have HZ : Hid (y = true ∨ k < 32) := Lib.hid (by cases y; · simp at hz; exact .inr (by omega)
                                                         · exact .inl rfl)
        clear hz
        subst hr4
        cases y
        · have hk4 : k < 32 := by rcases HZ.out with h | h; · cases h
                                  · exact h
          go_wp2_with (refine wpList_len_want rfl _ _ rfl bs rfl hlen ?_)
          refine (HF.out w2 HG2.out).mono ?_
          rintro e w3 ⟨⟨u, rfl⟩, h3, hk3⟩
          have hne : Kt bs bn w.heap.size := ⟨fun e => by have := HT.out.mt.lt; omega, fun e => by have := HT.out.mn.lt; omega⟩
          have HB3 := Lib.hid (hk3.blk HB2.out hne)
          have HT3 := Lib.hid h3
          have HK3 := Lib.hid ((Keep.of HG2.out HT.out.base).trans hk3)
          have HNE := Lib.hid hne
          clear h3 hk3 hne x2 hlen hk2
          go_wp2_with fail
          apply (fun (v0 v1 v2 v3 v4 v5 : Value) mono obl tail => wp_region_par (R := Grow) (Φ := phi [veq v0, veq v1, veq v2, veq v3, veq v4, veq v5]) (m := 6) (dls := [[], [(42, 0)], [(43, 1)], [(44, 2)], [], []]) (ds := [42, 43, 44, 45, 46, 47]) (by kernel_rfl) (by kernel_rfl) (by decide) rfl (Grow.drew _) (fun _ _ _ => Grow.trans) (mono_phi mono) obl tail)
          case obl =>
            refine obls_frame (fun a1 ha => ?_)
            have hsz := rd_size (n := 57) ha rfl
            have e0 := rd_slot 0 ha rfl
            have e1 := rd_slot 1 ha rfl
            have e5 := rd_slot 5 ha rfl
            clear ha
            refine obls_cons (fun f w' hR hH Q0 hQ0 => ?_) ?_
            · skip
              have s0 := sv_off f [] e0 rfl
              refine small_v hsz [(0, _)] ⟨some 1, (Op.move (.tmp 0)), 24, "", #[], none⟩ [_, undef] 1 rfl rfl ⟨s0, trivial⟩ rfl rfl hQ0 ?_
              clear hQ0 hH s0
              intro Q hQ
              repeat go_step
              exact hQ _ _ (Grow.refl _) rfl rfl
            refine obls_cons (fun f w' hR hH Q0 hQ0 => ?_) ?_
            · skip
              have s42 := (sv_at 42 0 hsz f [(42, 0)] rfl).trans (show f 0 = _ from hH.get 0 (42, 0) rfl)
              refine small_v hsz [(42, _)] ⟨some 1, (Op.nilCheck (.tmp 0)), 0, "", #[], none⟩ [_, undef] 1 rfl rfl ⟨s42, trivial⟩ rfl rfl hQ0 ?_
              clear hQ0 hH s42
              intro Q hQ
              repeat go_step
              exact hQ _ _ (Grow.refl _) rfl rfl
            refine obls_cons (fun f w' hR hH Q0 hQ0 => ?_) ?_
            · skip
              have s43 := (sv_at 43 1 hsz f [(43, 1)] rfl).trans (show f 1 = _ from hH.get 0 (43, 1) rfl)
              refine small_v hsz [(43, _)] ⟨some 1, (Op.fieldAddr 79 (.tmp 0) 0), 0, "", #[], none⟩ [_, undef] 1 rfl rfl ⟨s43, trivial⟩ rfl rfl hQ0 ?_
              clear hQ0 hH s43
              intro Q hQ
              repeat go_step
              exact hQ _ _ (Grow.refl _) rfl rfl
            refine obls_cons (fun f w' hR hH Q0 hQ0 => ?_) ?_
            · skip
              have s44 := (sv_at 44 2 hsz f [(44, 2)] rfl).trans (show f 2 = _ from hH.get 0 (44, 2) rfl)
              refine small_v hsz [(44, _)] ⟨some 1, (Op.load 76 (.tmp 0)), 76, "", #[], none⟩ [_, undef] 1 rfl rfl ⟨s44, trivial⟩ rfl rfl hQ0 ?_
              clear hQ0 hH s44
              intro Q hQ
              have y0 := (HT3.out.bx.grow hR).cell (i := 0) rfl
              repeat go_step
              exact hQ _ _ (Grow.refl _) rfl rfl
            refine obls_cons (fun f w' hR hH Q0 hQ0 => ?_) ?_
            · skip
              have s1 := sv_off f [] e1 rfl
              refine small_v hsz [(1, _)] ⟨some 1, (Op.move (.tmp 0)), 9, "", #[], none⟩ [_, undef] 1 rfl rfl ⟨s1, trivial⟩ rfl rfl hQ0 ?_
              clear hQ0 hH s1
              intro Q hQ
              repeat go_step
              exact hQ _ _ (Grow.refl _) rfl rfl
            refine obls_cons (fun f w' hR hH Q0 hQ0 => ?_) ?_
            · skip
              have s5 := sv_off f [] e5 rfl
              refine small_v hsz [(5, _)] ⟨some 1, (Op.load 37 (.tmp 0)), 37, "", #[], none⟩ [_, undef] 1 rfl rfl ⟨s5, trivial⟩ rfl rfl hQ0 ?_
              clear hQ0 hH s5
              intro Q hQ
              have hb := HB3.out.grow hR
              go_wp2_with (refine load_blk rfl _ _ rfl w.heap.size rfl _ _ _ hb undV rfl (by rw [sizeV, HCV.out]) ?_)
              exact hQ _ _ (Grow.refl _) rfl rfl
            exact obls_nil
          case mono => exact ⟨Mono.veq _, Mono.veq _, Mono.veq _, Mono.veq _, Mono.veq _, Mono.veq _, trivial⟩
          case tail =>
            intro f w' hR hH
            have q3 := hH.get 3 (45, 3) rfl
            have q4 := hH.get 4 (46, 4) rfl
            have q5 := hH.get 5 (47, 5) rfl
            clear hH
            refine wpList_merge (idx := [none, none, none, none, none, none, none, none, none, none, none, none, none, none, none, none, none, none, none, none, none, none, none, none, none, none, none, none, none, none, none, none, none, none, none, none, none, none, none, none, none, none, some 0, some 1, some 2, some 3, some 4, some 5, none, none, none, none, none, none, none, none, none]) (by kernel_rfl) ?_; show wpList _ _ _ [_] ⟨#[_, _, _, _, _, _, _, _, _, _, _, _, _, _, _, _, _, _, _, _, _, _, _, _, _, _, _, _, _, _, _, _, _, _, _, _, _, _, _, _, _, _, f 0, f 1, f 2, f 3, f 4, f 5, _, _, _, _, _, _, _, _, _], _⟩ _
            rw [show f 3 = _ from q3]
            rw [show f 4 = _ from q4]
            rw [show f 5 = _ from q5]
            clear q3 q4 q5
            have h4 := HT3.out.grow hR
            obtain ⟨w4, hr4, hm4, hg4⟩ := h4.mt.store (by have := HNN.out; unfold maxLen; omega) HS.out (v := v) (L' := setT L s v) (fun x => by
              rw [has_setT, hasT_del]
              exact hset L s x) (fun t ht => by
              rcases mem_setT.1 ht with rfl | ht
              · exact ⟨fun _ => rfl, fun h => absurd rfl h⟩
              · exact ⟨fun e => absurd e (mem_del ht).1, fun _ => ht⟩)
            unfold vv at hr4
            rw [← HCVE.out, ← HQ.out] at hr4
            have hk4 : Keep B (fun k => k ≠ bs) w' w4 := keep_map h4.base h4.sB hg4
            have HB4 := Lib.hid (hk4.blk (HB3.out.grow hR) HNE.out.1)
            have HX4 := Lib.hid (hk4.blk h4.bx (h4.mt.not_blk h4.bx))
            have HN4 := Lib.hid (h4.mn.same (hk4.2 bn (fun e => HT.out.ne e.symm) h4.mn.lt))
            have HM4 := Lib.hid hm4
            have HK4 : Hid (Keep B (Kt bs bn) w w4) := Lib.hid ((HK3.out.trans (Keep.of hR HT3.out.base)).trans ⟨hk4.1, fun k hk' hl => hk4.2 k hk'.1 hl⟩)
            have HBS : Hid (B ≤ w4.heap.size) := Lib.hid (Nat.le_trans h4.base hk4.size)
            clear h4 hm4 hg4 hk4 hR
            go_wp2_with fail
            clear hr4
            obtain ⟨c, hc⟩ : ∃ c, c = countT (delT L s) v := ⟨_, rfl⟩
            have hc1 : 0 ≤ c := by rw [hc]; exact Int.natCast_nonneg _
            have hc2 : c ≤ 32 := by have := count_le (L := delT L s) v; have := HT3.out.ok.len; omega
            have HCC := Lib.hid hc
            clear hc
            apply (fun (v0 v1 v2 v3 v4 v5 v6 : Value) mono draw obl tail => wp_region_piv (I := fun b w1 => Keep B (fun k => k ≠ bn) w4 w1 ∧ MapN w1 bn (n + 3 + 1 + b) (countT (delT L s))) (G := Grow) (Rp := (fun _ _ _ => True)) (Φ := phi2 [veq2 v0, veq2 v1, veq2 v2, veq2 v3, veq2 v4, veq2 v5, veq2 v6, (from2 1 (EntU bn (n + 5) (countT (delT L s)) v)), (from2 1 (EntV bn (n + 5) (countT (delT L s)) v))]) (m := 9) (ps := [7]) (qs := [(0, 0, false), (0, 0, false), (0, 0, false), (0, 0, false), (0, 0, false), (0, 1, false), (0, 1, false), (0, 0, true), (1, 1, false)]) (dls := [[], [(48, 0)], [(49, 1)], [(50, 2)], [], [(51, 3), (52, 4)], [(53, 5)], [(51, 3), (52, 4)], [(55, 7)]]) (ds := [48, 49, 50, 51, 52, 53, 54, 55, 56]) (by kernel_rfl) (by kernel_rfl) (by kernel_rfl) (by decide) rfl rfl draw (mono2_phi mono) (piv2_phi mono) obl tail)
            case obl =>
              refine obls2_cons (fun b hb1 hb2 f w' hI hH Q hQ => ?_) ?_
              · skip
                obtain rfl : b = 0 := by omega
                clear hb1 hb2
                clear hH
                refine wpList_view ?_; show wpList _ _ _ [_] ⟨#[_, _, _, _, _, _, _, _, _, _, _, _, _, _, _, _, _, _, _, _, _, _, _, _, _, _, _, _, _, _, _, _, _, _, _, _, _, _, _, _, _, _, _, _, _, _, _, _, _, _, _, _, _, _, _, _, _], _⟩ _
                repeat (first | go_guarded | go_step)
                exact hQ _ _ hI (Grow.refl _) rfl rfl
              refine obls2_cons (fun b hb1 hb2 f w' hI hH Q hQ => ?_) ?_
              · skip
                obtain rfl : b = 0 := by omega
                clear hb1 hb2
                have h0 := hH.get 0 (48, 0) rfl
                clear hH
                refine wpList_view ?_; show wpList _ _ _ [_] ⟨#[_, _, _, _, _, _, _, _, _, _, _, _, _, _, _, _, _, _, _, _, _, _, _, _, _, _, _, _, _, _, _, _, _, _, _, _, _, _, _, _, _, _, _, _, _, _, _, _, f 0, _, _, _, _, _, _, _, _], _⟩ _
                rw [show f 0 = _ from h0]
                clear h0
                repeat (first | go_guarded | go_step)
                exact hQ _ _ hI (Grow.refl _) rfl rfl
              refine obls2_cons (fun b hb1 hb2 f w' hI hH Q hQ => ?_) ?_
              · skip
                obtain rfl : b = 0 := by omega
                clear hb1 hb2
                have h1 := hH.get 0 (49, 1) rfl
                clear hH
                refine wpList_view ?_; show wpList _ _ _ [_] ⟨#[_, _, _, _, _, _, _, _, _, _, _, _, _, _, _, _, _, _, _, _, _, _, _, _, _, _, _, _, _, _, _, _, _, _, _, _, _, _, _, _, _, _, _, _, _, _, _, _, _, f 1, _, _, _, _, _, _, _], _⟩ _
                rw [show f 1 = _ from h1]
                clear h1
                repeat (first | go_guarded | go_step)
                exact hQ _ _ hI (Grow.refl _) rfl rfl
              refine obls2_cons (fun b hb1 hb2 f w' hI hH Q hQ => ?_) ?_
              · skip
                obtain rfl : b = 0 := by omega
                clear hb1 hb2
                have h2 := hH.get 0 (50, 2) rfl
                clear hH
                refine wpList_view ?_; show wpList _ _ _ [_] ⟨#[_, _, _, _, _, _, _, _, _, _, _, _, _, _, _, _, _, _, _, _, _, _, _, _, _, _, _, _, _, _, _, _, _, _, _, _, _, _, _, _, _, _, _, _, _, _, _, _, _, _, f 2, _, _, _, _, _, _], _⟩ _
                rw [show f 2 = _ from h2]
                clear h2
                have y0 := (hI.1.blk HX4.out (HN4.out.not_blk HX4.out)).cell (i := 1) rfl
                repeat (first | go_guarded | go_step)
                exact hQ _ _ hI (Grow.refl _) rfl rfl
              refine obls2_cons (fun b hb1 hb2 f w' hI hH Q hQ => ?_) ?_
              · skip
                obtain rfl : b = 0 := by omega
                clear hb1 hb2
                clear hH
                refine wpList_view ?_; show wpList _ _ _ [_] ⟨#[_, _, _, _, _, _, _, _, _, _, _, _, _, _, _, _, _, _, _, _, _, _, _, _, _, _, _, _, _, _, _, _, _, _, _, _, _, _, _, _, _, _, _, _, _, _, _, _, _, _, _, _, _, _, _, _, _], _⟩ _
                have hb := hI.1.blk HB4.out (HN4.out.not_blk HB4.out)
                have HIg := Lib.hid hI
                clear hI
                go_wp2_with (refine load_blk rfl _ _ rfl w.heap.size rfl _ _ _ hb undV rfl (by rw [sizeV, HCV.out]) ?_)
                exact hQ _ _ HIg.out (Grow.refl _) rfl rfl
              refine obls2_cons (fun b hb1 hb2 f w' hI hH Q hQ => ?_) ?_
              · skip
                have h3 := hH.get 0 (51, 3) rfl
                have h4 := hH.get 1 (52, 4) rfl
                clear hH
                refine wpList_view ?_; show wpList _ _ _ [_] ⟨#[_, _, _, _, _, _, _, _, _, _, _, _, _, _, _, _, _, _, _, _, _, _, _, _, _, _, _, _, _, _, _, _, _, _, _, _, _, _, _, _, _, _, _, _, _, _, _, _, _, _, _, f 3, f 4, _, _, _, _], _⟩ _
                rw [show f 3 = _ from h3]
                rw [show f 4 = _ from h4]
                clear h3 h4
                have y0 := hI.2.get HV.out
                unfold vv at y0
                rw [← HCVE.out, ← HCC.out] at y0
                repeat (first | go_guarded | go_step)
                exact hQ _ _ hI (Grow.refl _) rfl rfl
              refine obls2_cons (fun b hb1 hb2 f w' hI hH Q hQ => ?_) ?_
              · skip
                have h5 := hH.get 0 (53, 5) rfl
                clear hH
                refine wpList_view ?_; show wpList _ _ _ [_] ⟨#[_, _, _, _, _, _, _, _, _, _, _, _, _, _, _, _, _, _, _, _, _, _, _, _, _, _, _, _, _, _, _, _, _, _, _, _, _, _, _, _, _, _, _, _, _, _, _, _, _, _, _, _, _, f 5, _, _, _], _⟩ _
                rw [show f 5 = _ from h5]
                clear h5
                repeat (first | go_guarded | go_step)
                exact hQ _ _ hI (Grow.refl _) rfl rfl
              refine oblsP_cons (fun f w' hI hH Q hQ => ?_) ?_
              · skip
                have h3 := hH.get 0 (51, 3) rfl
                have h4 := hH.get 1 (52, 4) rfl
                clear hH
                refine wpList_view ?_; show wpList _ _ _ [_] ⟨#[_, _, _, _, _, _, _, _, _, _, _, _, _, _, _, _, _, _, _, _, _, _, _, _, _, _, _, _, _, _, _, _, _, _, _, _, _, _, _, _, _, _, _, _, _, _, _, _, _, _, _, f 3, f 4, _, _, _, _], _⟩ _
                rw [show f 3 = _ from h3]
                rw [show f 4 = _ from h4]
                clear h3 h4
                have hn := HNN.out
                obtain ⟨u, s', w5, hr, he, hg⟩ := hI.2.entry (by unfold maxLen; omega) HV.out
                unfold vv at hr
                rw [← HCVE.out] at hr
                have HIG : Hid (Keep B (fun k => k ≠ bn) w4 w5 ∧ MapN w5 bn (n + 3 + 1 + 1) (countT (delT L s))) := Lib.hid ⟨hI.1.trans (keep_map (Nat.le_trans HBS.out hI.1.size) HT.out.nB hg), he.map⟩
                have HE := Lib.hid he
                clear hI he hg hn
                go_wp2_with fail
                exact hQ _ _ HIG.out trivial (from2.mk ⟨s', u, rfl, HE.out⟩) rfl
              refine obls2_cons (fun b hb1 hb2 f w' hI hH Q hQ => ?_) ?_
              · skip
                obtain rfl : b = 1 := by omega
                clear hb1 hb2
                have h7 := hH.get 0 (55, 7) rfl
                clear hH
                refine wpList_view ?_; show wpList _ _ _ [_] ⟨#[_, _, _, _, _, _, _, _, _, _, _, _, _, _, _, _, _, _, _, _, _, _, _, _, _, _, _, _, _, _, _, _, _, _, _, _, _, _, _, _, _, _, _, _, _, _, _, _, _, _, _, _, _, _, _, f 7, _], _⟩ _
                replace h7 : (from2 1 (EntU bn (n + 5) (countT (delT L s)) v)) (f 7) 1 w' := h7
                obtain ⟨u7, hu7⟩ : ∃ u, u = f 7 := ⟨_, rfl⟩
                rw [← hu7]
                rw [← hu7] at h7
                clear hu7
                obtain ⟨s', u0, rfl, he⟩ := h7.get
                have HIG := Lib.hid hI
                have HE := Lib.hid he
                clear hI he
                go_wp2_with fail
                exact hQ _ _ HIG.out (Grow.refl _) (from2.mk ⟨s', rfl, HE.out⟩) rfl
              exact obls2_nil
            case draw =>
              exact ⟨Keep.of (Grow.drew _) HBS.out, (HN4.out.mono (by omega)).grow (Grow.drew _)⟩
            case mono => exact ⟨Mono2.veq _, Mono2.veq _, Mono2.veq _, Mono2.veq _, Mono2.veq _, Mono2.veq _, Mono2.veq _, Mono2.from EntU.mono, Mono2.from EntV.mono, trivial⟩
            case tail =>
              intro f w' hI hH
              have q3 := hH.get 3 (51, 3) rfl
              have q6 := hH.get 6 (54, 6) rfl
              have q8 : (from2 1 (EntV bn (n + 5) (countT (delT L s)) v)) (f 8) 1 w' := hH.get 8 (56, 8) rfl
              clear hH
              refine wpList_merge (idx := [none, none, none, none, none, none, none, none, none, none, none, none, none, none, none, none, none, none, none, none, none, none, none, none, none, none, none, none, none, none, none, none, none, none, none, none, none, none, none, none, none, none, none, none, none, none, none, none, some 0, some 1, some 2, some 3, some 4, some 5, some 6, some 7, some 8]) (by kernel_rfl) ?_; show wpList _ _ _ [_] ⟨#[_, _, _, _, _, _, _, _, _, _, _, _, _, _, _, _, _, _, _, _, _, _, _, _, _, _, _, _, _, _, _, _, _, _, _, _, _, _, _, _, _, _, _, _, _, _, _, _, f 0, f 1, f 2, f 3, f 4, f 5, f 6, f 7, f 8], _⟩ _
              rw [show f 3 = _ from q3]
              rw [show f 6 = _ from q6]
              clear q3 q6
              generalize f 8 = x8 at *
              obtain ⟨s', rfl, he⟩ := q8.get
              have hn := HNN.out
              obtain ⟨W5, hr, hmn, hgb⟩ := he.store (C' := countT (setT L s v)) (by unfold maxLen; omega) HV.out (c + 1) (fun x => by rw [count_setT, HCC.out])
              have hk5 : Keep B (fun k => k ≠ bn) w4 W5 := hI.1.trans (keep_map (Nat.le_trans HBS.out hI.1.size) HT.out.nB hgb)
              have hkk : Keep B (Kt bs bn) w W5 := HK4.out.trans ⟨hk5.1, fun k hk' hl => hk5.2 k hk'.2 hl⟩
              have HEND : Hid (TagI W5 B g bs bn (n + 7) (setT L s v) ∧ Keep B (Kt bs bn) w W5) := Lib.hid ⟨HT.out.keep hkk ((HM4.out.same (hk5.2 bs HT.out.ne HM4.out.lt)).mono (by omega)) (hmn.mono (by omega)) HOK.out, hkk⟩
              clear hI he hmn hgb hk5 hn hkk
              go_wp2_with fail
              go_ret
              exact ⟨rfl, HEND.out⟩
        · go_wp2_with (refine wpList_len_want rfl _ _ rfl bs rfl hlen ?_)
          refine (HF.out w2 HG2.out).mono ?_
          rintro e w3 ⟨⟨u, rfl⟩, h3, hk3⟩
          have hne : Kt bs bn w.heap.size := ⟨fun e => by have := HT.out.mt.lt; omega, fun e => by have := HT.out.mn.lt; omega⟩
          have HB3 := Lib.hid (hk3.blk HB2.out hne)
          have HT3 := Lib.hid h3
          have HK3 := Lib.hid ((Keep.of HG2.out HT.out.base).trans hk3)
          have HNE := Lib.hid hne
          clear h3 hk3 hne x2 hlen hk2
          go_wp2_with fail
          apply (fun (v0 v1 v2 v3 v4 v5 : Value) mono obl tail => wp_region_par (R := Grow) (Φ := phi [veq v0, veq v1, veq v2, veq v3, veq v4, veq v5]) (m := 6) (dls := [[], [(42, 0)], [(43, 1)], [(44, 2)], [], []]) (ds := [42, 43, 44, 45, 46, 47]) (by kernel_rfl) (by kernel_rfl) (by decide) rfl (Grow.drew _) (fun _ _ _ => Grow.trans) (mono_phi mono) obl tail)
          case obl =>
            refine obls_frame (fun a1 ha => ?_)
            have hsz := rd_size (n := 57) ha rfl
            have e0 := rd_slot 0 ha rfl
            have e1 := rd_slot 1 ha rfl
            have e5 := rd_slot 5 ha rfl
            clear ha
            refine obls_cons (fun f w' hR hH Q0 hQ0 => ?_) ?_
            · skip
              have s0 := sv_off f [] e0 rfl
              refine small_v hsz [(0, _)] ⟨some 1, (Op.move (.tmp 0)), 24, "", #[], none⟩ [_, undef] 1 rfl rfl ⟨s0, trivial⟩ rfl rfl hQ0 ?_
              clear hQ0 hH s0
              intro Q hQ
              repeat go_step
              exact hQ _ _ (Grow.refl _) rfl rfl
            refine obls_cons (fun f w' hR hH Q0 hQ0 => ?_) ?_
            · skip
              have s42 := (sv_at 42 0 hsz f [(42, 0)] rfl).trans (show f 0 = _ from hH.get 0 (42, 0) rfl)
              refine small_v hsz [(42, _)] ⟨some 1, (Op.nilCheck (.tmp 0)), 0, "", #[], none⟩ [_, undef] 1 rfl rfl ⟨s42, trivial⟩ rfl rfl hQ0 ?_
              clear hQ0 hH s42
              intro Q hQ
              repeat go_step
              exact hQ _ _ (Grow.refl _) rfl rfl
            refine obls_cons (fun f w' hR hH Q0 hQ0 => ?_) ?_
            · skip
              have s43 := (sv_at 43 1 hsz f [(43, 1)] rfl).trans (show f 1 = _ from hH.get 0 (43, 1) rfl)
              refine small_v hsz [(43, _)] ⟨some 1, (Op.fieldAddr 79 (.tmp 0) 0), 0, "", #[], none⟩ [_, undef] 1 rfl rfl ⟨s43, trivial⟩ rfl rfl hQ0 ?_
              clear hQ0 hH s43
              intro Q hQ
              repeat go_step
              exact hQ _ _ (Grow.refl _) rfl rfl
            refine obls_cons (fun f w' hR hH Q0 hQ0 => ?_) ?_
            · skip
              have s44 := (sv_at 44 2 hsz f [(44, 2)] rfl).trans (show f 2 = _ from hH.get 0 (44, 2) rfl)
              refine small_v hsz [(44, _)] ⟨some 1, (Op.load 76 (.tmp 0)), 76, "", #[], none⟩ [_, undef] 1 rfl rfl ⟨s44, trivial⟩ rfl rfl hQ0 ?_
              clear hQ0 hH s44
              intro Q hQ
              have y0 := (HT3.out.bx.grow hR).cell (i := 0) rfl
              repeat go_step
              exact hQ _ _ (Grow.refl _) rfl rfl
            refine obls_cons (fun f w' hR hH Q0 hQ0 => ?_) ?_
            · skip
              have s1 := sv_off f [] e1 rfl
              refine small_v hsz [(1, _)] ⟨some 1, (Op.move (.tmp 0)), 9, "", #[], none⟩ [_, undef] 1 rfl rfl ⟨s1, trivial⟩ rfl rfl hQ0 ?_
              clear hQ0 hH s1
              intro Q hQ
              repeat go_step
              exact hQ _ _ (Grow.refl _) rfl rfl
            refine obls_cons (fun f w' hR hH Q0 hQ0 => ?_) ?_
            · skip
              have s5 := sv_off f [] e5 rfl
              refine small_v hsz [(5, _)] ⟨some 1, (Op.load 37 (.tmp 0)), 37, "", #[], none⟩ [_, undef] 1 rfl rfl ⟨s5, trivial⟩ rfl rfl hQ0 ?_
              clear hQ0 hH s5
              intro Q hQ
              have hb := HB3.out.grow hR
              go_wp2_with (refine load_blk rfl _ _ rfl w.heap.size rfl _ _ _ hb undV rfl (by rw [sizeV, HCV.out]) ?_)
              exact hQ _ _ (Grow.refl _) rfl rfl
            exact obls_nil
          case mono => exact ⟨Mono.veq _, Mono.veq _, Mono.veq _, Mono.veq _, Mono.veq _, Mono.veq _, trivial⟩
          case tail =>
            intro f w' hR hH
            have q3 := hH.get 3 (45, 3) rfl
            have q4 := hH.get 4 (46, 4) rfl
            have q5 := hH.get 5 (47, 5) rfl
            clear hH
            refine wpList_merge (idx := [none, none, none, none, none, none, none, none, none, none, none, none, none, none, none, none, none, none, none, none, none, none, none, none, none, none, none, none, none, none, none, none, none, none, none, none, none, none, none, none, none, none, some 0, some 1, some 2, some 3, some 4, some 5, none, none, none, none, none, none, none, none, none]) (by kernel_rfl) ?_; show wpList _ _ _ [_] ⟨#[_, _, _, _, _, _, _, _, _, _, _, _, _, _, _, _, _, _, _, _, _, _, _, _, _, _, _, _, _, _, _, _, _, _, _, _, _, _, _, _, _, _, f 0, f 1, f 2, f 3, f 4, f 5, _, _, _, _, _, _, _, _, _], _⟩ _
            rw [show f 3 = _ from q3]
            rw [show f 4 = _ from q4]
            rw [show f 5 = _ from q5]
            clear q3 q4 q5
            have h4 := HT3.out.grow hR
            obtain ⟨w4, hr4, hm4, hg4⟩ := h4.mt.store (by have := HNN.out; unfold maxLen; omega) HS.out (v := v) (L' := setT L s v) (fun x => by
              rw [has_setT, hasT_del]
              exact hset L s x) (fun t ht => by
              rcases mem_setT.1 ht with rfl | ht
              · exact ⟨fun _ => rfl, fun h => absurd rfl h⟩
              · exact ⟨fun e => absurd e (mem_del ht).1, fun _ => ht⟩)
            unfold vv at hr4
            rw [← HCVE.out, ← HQ.out] at hr4
            have hk4 : Keep B (fun k => k ≠ bs) w' w4 := keep_map h4.base h4.sB hg4
            have HB4 := Lib.hid (hk4.blk (HB3.out.grow hR) HNE.out.1)
            have HX4 := Lib.hid (hk4.blk h4.bx (h4.mt.not_blk h4.bx))
            have HN4 := Lib.hid (h4.mn.same (hk4.2 bn (fun e => HT.out.ne e.symm) h4.mn.lt))
            have HM4 := Lib.hid hm4
            have HK4 : Hid (Keep B (Kt bs bn) w w4) := Lib.hid ((HK3.out.trans (Keep.of hR HT3.out.base)).trans ⟨hk4.1, fun k hk' hl => hk4.2 k hk'.1 hl⟩)
            have HBS : Hid (B ≤ w4.heap.size) := Lib.hid (Nat.le_trans h4.base hk4.size)
            clear h4 hm4 hg4 hk4 hR
            go_wp2_with fail
            clear hr4
            obtain ⟨c, hc⟩ : ∃ c, c = countT (delT L s) v := ⟨_, rfl⟩
            have hc1 : 0 ≤ c := by rw [hc]; exact Int.natCast_nonneg _
            have hc2 : c ≤ 32 := by have := count_le (L := delT L s) v; have := HT3.out.ok.len; omega
            have HCC := Lib.hid hc
            clear hc
            apply (fun (v0 v1 v2 v3 v4 v5 v6 : Value) mono draw obl tail => wp_region_piv (I := fun b w1 => Keep B (fun k => k ≠ bn) w4 w1 ∧ MapN w1 bn (n + 3 + 1 + b) (countT (delT L s))) (G := Grow) (Rp := (fun _ _ _ => True)) (Φ := phi2 [veq2 v0, veq2 v1, veq2 v2, veq2 v3, veq2 v4, veq2 v5, veq2 v6, (from2 1 (EntU bn (n + 5) (countT (delT L s)) v)), (from2 1 (EntV bn (n + 5) (countT (delT L s)) v))]) (m := 9) (ps := [7]) (qs := [(0, 0, false), (0, 0, false), (0, 0, false), (0, 0, false), (0, 0, false), (0, 1, false), (0, 1, false), (0, 0, true), (1, 1, false)]) (dls := [[], [(48, 0)], [(49, 1)], [(50, 2)], [], [(51, 3), (52, 4)], [(53, 5)], [(51, 3), (52, 4)], [(55, 7)]]) (ds := [48, 49, 50, 51, 52, 53, 54, 55, 56]) (by kernel_rfl) (by kernel_rfl) (by kernel_rfl) (by decide) rfl rfl draw (mono2_phi mono) (piv2_phi mono) obl tail)
            case obl =>
              refine obls2_cons (fun b hb1 hb2 f w' hI hH Q hQ => ?_) ?_
              · skip
                obtain rfl : b = 0 := by omega
                clear hb1 hb2
                clear hH
                refine wpList_view ?_; show wpList _ _ _ [_] ⟨#[_, _, _, _, _, _, _, _, _, _, _, _, _, _, _, _, _, _, _, _, _, _, _, _, _, _, _, _, _, _, _, _, _, _, _, _, _, _, _, _, _, _, _, _, _, _, _, _, _, _, _, _, _, _, _, _, _], _⟩ _
                repeat (first | go_guarded | go_step)
                exact hQ _ _ hI (Grow.refl _) rfl rfl
              refine obls2_cons (fun b hb1 hb2 f w' hI hH Q hQ => ?_) ?_
              · skip
                obtain rfl : b = 0 := by omega
                clear hb1 hb2
                have h0 := hH.get 0 (48, 0) rfl
                clear hH
                refine wpList_view ?_; show wpList _ _ _ [_] ⟨#[_, _, _, _, _, _, _, _, _, _, _, _, _, _, _, _, _, _, _, _, _, _, _, _, _, _, _, _, _, _, _, _, _, _, _, _, _, _, _, _, _, _, _, _, _, _, _, _, f 0, _, _, _, _, _, _, _, _], _⟩ _
                rw [show f 0 = _ from h0]
                clear h0
                repeat (first | go_guarded | go_step)
                exact hQ _ _ hI (Grow.refl _) rfl rfl
              refine obls2_cons (fun b hb1 hb2 f w' hI hH Q hQ => ?_) ?_
              · skip
                obtain rfl : b = 0 := by omega
                clear hb1 hb2
                have h1 := hH.get 0 (49, 1) rfl
                clear hH
                refine wpList_view ?_; show wpList _ _ _ [_] ⟨#[_, _, _, _, _, _, _, _, _, _, _, _, _, _, _, _, _, _, _, _, _, _, _, _, _, _, _, _, _, _, _, _, _, _, _, _, _, _, _, _, _, _, _, _, _, _, _, _, _, f 1, _, _, _, _, _, _, _], _⟩ _
                rw [show f 1 = _ from h1]
                clear h1
                repeat (first | go_guarded | go_step)
                exact hQ _ _ hI (Grow.refl _) rfl rfl
              refine obls2_cons (fun b hb1 hb2 f w' hI hH Q hQ => ?_) ?_
              · skip
                obtain rfl : b = 0 := by omega
                clear hb1 hb2
                have h2 := hH.get 0 (50, 2) rfl
                clear hH
                refine wpList_view ?_; show wpList _ _ _ [_] ⟨#[_, _, _, _, _, _, _, _, _, _, _, _, _, _, _, _, _, _, _, _, _, _, _, _, _, _, _, _, _, _, _, _, _, _, _, _, _, _, _, _, _, _, _, _, _, _, _, _, _, _, f 2, _, _, _, _, _, _], _⟩ _
                rw [show f 2 = _ from h2]
                clear h2
                have y0 := (hI.1.blk HX4.out (HN4.out.not_blk HX4.out)).cell (i := 1) rfl
                repeat (first | go_guarded | go_step)
                exact hQ _ _ hI (Grow.refl _) rfl rfl
              refine obls2_cons (fun b hb1 hb2 f w' hI hH Q hQ => ?_) ?_
              · skip
                obtain rfl : b = 0 := by omega
                clear hb1 hb2
                clear hH
                refine wpList_view ?_; show wpList _ _ _ [_] ⟨#[_, _, _, _, _, _, _, _, _, _, _, _, _, _, _, _, _, _, _, _, _, _, _, _, _, _, _, _, _, _, _, _, _, _, _, _, _, _, _, _, _, _, _, _, _, _, _, _, _, _, _, _, _, _, _, _, _], _⟩ _
                have hb := hI.1.blk HB4.out (HN4.out.not_blk HB4.out)
                have HIg := Lib.hid hI
                clear hI
                go_wp2_with (refine load_blk rfl _ _ rfl w.heap.size rfl _ _ _ hb undV rfl (by rw [sizeV, HCV.out]) ?_)
                exact hQ _ _ HIg.out (Grow.refl _) rfl rfl
              refine obls2_cons (fun b hb1 hb2 f w' hI hH Q hQ => ?_) ?_
              · skip
                have h3 := hH.get 0 (51, 3) rfl
                have h4 := hH.get 1 (52, 4) rfl
                clear hH
                refine wpList_view ?_; show wpList _ _ _ [_] ⟨#[_, _, _, _, _, _, _, _, _, _, _, _, _, _, _, _, _, _, _, _, _, _, _, _, _, _, _, _, _, _, _, _, _, _, _, _, _, _, _, _, _, _, _, _, _, _, _, _, _, _, _, f 3, f 4, _, _, _, _], _⟩ _
                rw [show f 3 = _ from h3]
                rw [show f 4 = _ from h4]
                clear h3 h4
                have y0 := hI.2.get HV.out
                unfold vv at y0
                rw [← HCVE.out, ← HCC.out] at y0
                repeat (first | go_guarded | go_step)
                exact hQ _ _ hI (Grow.refl _) rfl rfl
              refine obls2_cons (fun b hb1 hb2 f w' hI hH Q hQ => ?_) ?_
              · skip
                have h5 := hH.get 0 (53, 5) rfl
                clear hH
                refine wpList_view ?_; show wpList _ _ _ [_] ⟨#[_, _, _, _, _, _, _, _, _, _, _, _, _, _, _, _, _, _, _, _, _, _, _, _, _, _, _, _, _, _, _, _, _, _, _, _, _, _, _, _, _, _, _, _, _, _, _, _, _, _, _, _, _, f 5, _, _, _], _⟩ _
                rw [show f 5 = _ from h5]
                clear h5
                repeat (first | go_guarded | go_step)
                exact hQ _ _ hI (Grow.refl _) rfl rfl
              refine oblsP_cons (fun f w' hI hH Q hQ => ?_) ?_
              · skip
                have h3 := hH.get 0 (51, 3) rfl
                have h4 := hH.get 1 (52, 4) rfl
                clear hH
                refine wpList_view ?_; show wpList _ _ _ [_] ⟨#[_, _, _, _, _, _, _, _, _, _, _, _, _, _, _, _, _, _, _, _, _, _, _, _, _, _, _, _, _, _, _, _, _, _, _, _, _, _, _, _, _, _, _, _, _, _, _, _, _, _, _, f 3, f 4, _, _, _, _], _⟩ _
                rw [show f 3 = _ from h3]
                rw [show f 4 = _ from h4]
                clear h3 h4
                have hn := HNN.out
                obtain ⟨u, s', w5, hr, he, hg⟩ := hI.2.entry (by unfold maxLen; omega) HV.out
                unfold vv at hr
                rw [← HCVE.out] at hr
                have HIG : Hid (Keep B (fun k => k ≠ bn) w4 w5 ∧ MapN w5 bn (n + 3 + 1 + 1) (countT (delT L s))) := Lib.hid ⟨hI.1.trans (keep_map (Nat.le_trans HBS.out hI.1.size) HT.out.nB hg), he.map⟩
                have HE := Lib.hid he
                clear hI he hg hn
                go_wp2_with fail
                exact hQ _ _ HIG.out trivial (from2.mk ⟨s', u, rfl, HE.out⟩) rfl
              refine obls2_cons (fun b hb1 hb2 f w' hI hH Q hQ => ?_) ?_
              · skip
                obtain rfl : b = 1 := by omega
                clear hb1 hb2
                have h7 := hH.get 0 (55, 7) rfl
                clear hH
                refine wpList_view ?_; show wpList _ _ _ [_] ⟨#[_, _, _, _, _, _, _, _, _, _, _, _, _, _, _, _, _, _, _, _, _, _, _, _, _, _, _, _, _, _, _, _, _, _, _, _, _, _, _, _, _, _, _, _, _, _, _, _, _, _, _, _, _, _, _, f 7, _], _⟩ _
                replace h7 : (from2 1 (EntU bn (n + 5) (countT (delT L s)) v)) (f 7) 1 w' := h7
                obtain ⟨u7, hu7⟩ : ∃ u, u = f 7 := ⟨_, rfl⟩
                rw [← hu7]
                rw [← hu7] at h7
                clear hu7
                obtain ⟨s', u0, rfl, he⟩ := h7.get
                have HIG := Lib.hid hI
                have HE := Lib.hid he
                clear hI he
                go_wp2_with fail
                exact hQ _ _ HIG.out (Grow.refl _) (from2.mk ⟨s', rfl, HE.out⟩) rfl
              exact obls2_nil
            case draw =>
              exact ⟨Keep.of (Grow.drew _) HBS.out, (HN4.out.mono (by omega)).grow (Grow.drew _)⟩
            case mono => exact ⟨Mono2.veq _, Mono2.veq _, Mono2.veq _, Mono2.veq _, Mono2.veq _, Mono2.veq _, Mono2.veq _, Mono2.from EntU.mono, Mono2.from EntV.mono, trivial⟩
            case tail =>
              intro f w' hI hH
              have q3 := hH.get 3 (51, 3) rfl
              have q6 := hH.get 6 (54, 6) rfl
              have q8 : (from2 1 (EntV bn (n + 5) (countT (delT L s)) v)) (f 8) 1 w' := hH.get 8 (56, 8) rfl
              clear hH
              refine wpList_merge (idx := [none, none, none, none, none, none, none, none, none, none, none, none, none, none, none, none, none, none, none, none, none, none, none, none, none, none, none, none, none, none, none, none, none, none, none, none, none, none, none, none, none, none, none, none, none, none, none, none, some 0, some 1, some 2, some 3, some 4, some 5, some 6, some 7, some 8]) (by kernel_rfl) ?_; show wpList _ _ _ [_] ⟨#[_, _, _, _, _, _, _, _, _, _, _, _, _, _, _, _, _, _, _, _, _, _, _, _, _, _, _, _, _, _, _, _, _, _, _, _, _, _, _, _, _, _, _, _, _, _, _, _, f 0, f 1, f 2, f 3, f 4, f 5, f 6, f 7, f 8], _⟩ _
              rw [show f 3 = _ from q3]
              rw [show f 6 = _ from q6]
              clear q3 q6
              generalize f 8 = x8 at *
              obtain ⟨s', rfl, he⟩ := q8.get
              have hn := HNN.out
              obtain ⟨W5, hr, hmn, hgb⟩ := he.store (C' := countT (setT L s v)) (by unfold maxLen; omega) HV.out (c + 1) (fun x => by rw [count_setT, HCC.out])
              have hk5 : Keep B (fun k => k ≠ bn) w4 W5 := hI.1.trans (keep_map (Nat.le_trans HBS.out hI.1.size) HT.out.nB hgb)
              have hkk : Keep B (Kt bs bn) w W5 := HK4.out.trans ⟨hk5.1, fun k hk' hl => hk5.2 k hk'.2 hl⟩
              have HEND : Hid (TagI W5 B g bs bn (n + 7) (setT L s v) ∧ Keep B (Kt bs bn) w W5) := Lib.hid ⟨HT.out.keep hkk ((HM4.out.same (hk5.2 bs HT.out.ne HM4.out.lt)).mono (by omega)) (hmn.mono (by omega)) HOK.out, hkk⟩
              clear hI he hmn hgb hk5 hn hkk
              go_wp2_with fail
              go_ret
              exact ⟨rfl, HEND.out⟩
end
end Go.Proofs.Ythclgmpjmhacdaa.tg
