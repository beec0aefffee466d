/- The walks of nets: New, Cut, Heal, Take. -/
import Derived.Test.YtmekdhlcflielaaNt4
namespace Go.Proofs.Ytmekdhlcflielaa.nt
open Go Go.RowKit Go.Par Go.Kit Go.Proofs.Ytmekdhlcflielaa.mpA Go.Proofs.Ytmekdhlcflielaa.cl

def clamp64 (n : Int) : Nat := (min (max n 0) 64).toNat
theorem new_any (n0 : Int) (w : World) :
    Calls Try.prog 7 #[.int .i64 n0] w fun e w' => ∃ g bm, e = .returned (.pointer (some ⟨g, 0, none⟩)) ∧ NetI w' w.heap.size g bm (clamp64 n0) 0 (.slice none 0 0) [] (fun _ _ => false) ∧ Grow w w' := by
  obtain ⟨n, hn⟩ : ∃ n, n = clamp64 n0 := ⟨_, rfl⟩
  rw [← hn]
  have hnl : n ≤ 64 := by rw [hn]; unfold clamp64; omega
  have hmax := fun ts t W => run_max2i (P := Try.prog) ts t n0 0 (max n0 0) rfl W
  have hmin := fun ts t W => run_min2i (P := Try.prog) ts t (max n0 0) 64 (n : Int) (by rw [hn]; unfold clamp64; omega) W
  generalize max n0 0 = n' at hmax hmin
  have hmm := @run_makeMap Try.prog
  clear hn
  go_enter Try.func7, Try.ntmps7
  go_wp2_with fail
  go_ret
  refine ⟨w.heap.size + 1, w.heap.size, rfl, ⟨Blk.new _ _ _ _ rfl (by simp), World.ownsRow_nil _ _ _ _, (MapC.made w).grow (Grow.alloc _ _), fun p hp => (by cases hp), by omega, Nat.le_refl _, hnl, by decide⟩, (Grow.alloc _ _).trans (Grow.alloc _ _)⟩
section
variable (w : World) (B g bm n cnt : Nat) (lv : Value) (ps : List PkR) (C : Nat → Nat → Bool)
theorem cut_no (h : NetI w B g bm n cnt lv ps C) (a b : Nat) (ha : a ≤ 255) (hb : b ≤ 255) (hp : pairB n a b = false) :
    Calls Try.prog 26 #[.pointer (some ⟨g, 0, none⟩), .int .u8 (a : Int), .int .u8 (b : Int)] w fun e w' => e = .returned (.int .i64 1) ∧ w = w' := by
  have hq := pair_any w B g bm n cnt lv ps C h a b ha hb
  rw [hp] at hq
  have HQ := Lib.hid hq
  clear h hq hp
  go_enter Try.func26, Try.ntmps26
  go_wp2_with fail
  refine HQ.out.mono ?_
  rintro e w' ⟨rfl, rfl⟩
  go_wp2_with fail
  go_ret
  exact ⟨rfl, rfl⟩
theorem cut_nil (a b : Nat) : Calls Try.prog 26 #[.pointer none, .int .u8 (a : Int), .int .u8 (b : Int)] w fun e w' => e = .returned (.int .i64 1) ∧ w = w' := by
  have HQ := Lib.hid (pair_nil w a b)
  go_enter Try.func26, Try.ntmps26
  go_wp2_with fail
  refine HQ.out.mono ?_
  rintro e w' ⟨rfl, rfl⟩
  go_wp2_with fail
  go_ret
  exact ⟨rfl, rfl⟩
theorem NetI.map (h : NetI w B g bm n cnt lv ps C) {w' : World} {cnt' : Nat} {C' : Nat → Nat → Bool} (hm : MapC w' bm cnt' C') (hg : w.grownBy w' (some bm)) : NetI w' B g bm n cnt' lv ps C' ∧ Keep B (Kn g bm lv) w w' := by
  have hK : Keep B (fun j => j ≠ bm) w w' := Keep.by_ (Keep.refl w) h.base hg fun k hk => by
    injection hk with hk
    subst hk
    exact ⟨h.bB, fun hn => hn rfl⟩
  have nb : ∀ {j : Nat} {t : TypeId} {cs : List Value}, Blk w j t cs → j ≠ bm := fun hb => h.mp.not_blk hb
  refine ⟨⟨hK.blk h.bx (nb h.bx), hK.own h.own fun k hk => ?_, hm, fun p hp => (h.ok p hp).keep hK fun j cs hb => nb hb, h.gB, h.bB, h.n64, h.len⟩, ⟨hK.1, fun j hj hl => hK.2 j hj.2.1 hl⟩⟩
  obtain ⟨cs, hb⟩ := own_blkK h.own hk
  exact nb hb
set_option maxHeartbeats 1000000 in
theorem cut_any (h : NetI w B g bm n cnt lv ps C) (a b : Nat) (ha : a ≤ 255) (hb : b ≤ 255) (hp : pairB n a b = true) (hcnt : cnt < 1000000) :
    Calls Try.prog 26 #[.pointer (some ⟨g, 0, none⟩), .int .u8 (a : Int), .int .u8 (b : Int)] w fun e w' => e = .returned (.int .i64 0) ∧ NetI w' B g bm n (cnt + 1) lv ps (setC C (min a b) (max a b)) ∧ Keep B (Kn g bm lv) w w' := by
  have hq := pair_any w B g bm n cnt lv ps C h a b ha hb
  rw [hp] at hq
  have HQ := Lib.hid hq
  have HN := Lib.hid h
  obtain ⟨m, hm⟩ : ∃ m, m = min a b := ⟨_, rfl⟩
  obtain ⟨x, hx⟩ : ∃ m, m = max a b := ⟨_, rfl⟩
  have HL : Hid (∀ w', Calls Try.prog 39 #[.int .u8 (a : Int), .int .u8 (b : Int)] w' fun e w2 => e = .returned (.agg #[.int .u8 (m : Int), .int .u8 (x : Int)]) ∧ Grow w' w2) := Lib.hid fun w' => by rw [hm, hx]; exact link_any w' a b
  have HMX : Hid (m ≤ 255 ∧ x ≤ 255) := Lib.hid (by omega)
  rw [← hm, ← hx]
  have HC := Lib.hid hcnt
  clear h hq hp hm hx ha hb hcnt
  go_enter Try.func26, Try.ntmps26
  go_wp2_with fail
  refine HQ.out.mono ?_
  rintro e w' ⟨rfl, rfl⟩
  go_wp2_with fail
  apply (fun (v0 v1 v2 v3 v4 v5 v6 : Value) mono obl tail => wp_region_par (R := Grow) (Φ := phi [veq v0, veq v1, veq v2, veq v3, veq v4, veq v5, veq v6]) (m := 7) (dls := [[], [(12, 0)], [(13, 1)], [(14, 2)], [], [], [(16, 4), (17, 5)]]) (ds := [12, 13, 14, 15, 16, 17, 18]) (by kernel_rfl) (by kernel_rfl) (by decide) rfl (Grow.drew _) (fun _ _ _ => Grow.trans) (mono_phi mono) obl tail)
  case obl =>
    refine obls_frame (fun a1 ha => ?_)
    have hsz := rd_size (n := 19) ha rfl
    have e0 := rd_slot 0 ha rfl
    have e1 := rd_slot 1 ha rfl
    have e2 := rd_slot 2 ha rfl
    clear ha
    refine obls_cons (fun f w' hR hH Q0 hQ0 => ?_) ?_
    · skip
      have s0 := sv_off f [] e0 rfl
      refine small_v hsz [(0, _)] ⟨some 1, (Op.move (.tmp 0)), 22, "", #[], none⟩ [_, undef] 1 rfl rfl ⟨s0, trivial⟩ rfl rfl hQ0 ?_
      clear hQ0 hH s0
      intro Q hQ
      repeat go_step
      exact hQ _ _ (Grow.refl _) rfl rfl
    refine obls_cons (fun f w' hR hH Q0 hQ0 => ?_) ?_
    · skip
      have s12 := (sv_at 12 0 hsz f [(12, 0)] rfl).trans (show f 0 = _ from hH.get 0 (12, 0) rfl)
      refine small_v hsz [(12, _)] ⟨some 1, (Op.nilCheck (.tmp 0)), 0, "", #[], none⟩ [_, undef] 1 rfl rfl ⟨s12, trivial⟩ rfl rfl hQ0 ?_
      clear hQ0 hH s12
      intro Q hQ
      repeat go_step
      exact hQ _ _ (Grow.refl _) rfl rfl
    refine obls_cons (fun f w' hR hH Q0 hQ0 => ?_) ?_
    · skip
      have s13 := (sv_at 13 1 hsz f [(13, 1)] rfl).trans (show f 1 = _ from hH.get 0 (13, 1) rfl)
      refine small_v hsz [(13, _)] ⟨some 1, (Op.fieldAddr 65 (.tmp 0) 2), 0, "", #[], none⟩ [_, undef] 1 rfl rfl ⟨s13, trivial⟩ rfl rfl hQ0 ?_
      clear hQ0 hH s13
      intro Q hQ
      repeat go_step
      exact hQ _ _ (Grow.refl _) rfl rfl
    refine obls_cons (fun f w' hR hH Q0 hQ0 => ?_) ?_
    · skip
      have s14 := (sv_at 14 2 hsz f [(14, 2)] rfl).trans (show f 2 = _ from hH.get 0 (14, 2) rfl)
      refine small_v hsz [(14, _)] ⟨some 1, (Op.load 62 (.tmp 0)), 62, "", #[], none⟩ [_, undef] 1 rfl rfl ⟨s14, trivial⟩ rfl rfl hQ0 ?_
      clear hQ0 hH s14
      intro Q hQ
      have y0 := (HN.out.bx.grow hR).cell (i := 2) rfl
      repeat go_step
      exact hQ _ _ (Grow.refl _) rfl rfl
    refine obls_cons (fun f w' hR hH Q0 hQ0 => ?_) ?_
    · skip
      have s1 := sv_off f [] e1 rfl
      refine small_v hsz [(1, _)] ⟨some 1, (Op.move (.tmp 0)), 5, "", #[], none⟩ [_, undef] 1 rfl rfl ⟨s1, trivial⟩ rfl rfl hQ0 ?_
      clear hQ0 hH s1
      intro Q hQ
      repeat go_step
      exact hQ _ _ (Grow.refl _) rfl rfl
    refine obls_cons (fun f w' hR hH Q0 hQ0 => ?_) ?_
    · skip
      have s2 := sv_off f [] e2 rfl
      refine small_v hsz [(2, _)] ⟨some 1, (Op.move (.tmp 0)), 5, "", #[], none⟩ [_, undef] 1 rfl rfl ⟨s2, trivial⟩ rfl rfl hQ0 ?_
      clear hQ0 hH s2
      intro Q hQ
      repeat go_step
      exact hQ _ _ (Grow.refl _) rfl rfl
    refine obls_cons (fun f w' hR hH Q0 hQ0 => ?_) ?_
    · skip
      have s16 := (sv_at 16 4 hsz f [(16, 4), (17, 5)] rfl).trans (show f 4 = _ from hH.get 0 (16, 4) rfl)
      have s17 := (sv_at 17 5 hsz f [(16, 4), (17, 5)] rfl).trans (show f 5 = _ from hH.get 1 (17, 5) rfl)
      refine small_v hsz [(16, _), (17, _)] ⟨some 2, (Op.call (Call.mk (Callee.value (Operand.func 39)) #[(.tmp 0), (.tmp 1)] #[5, 5])), 77, "", #[], none⟩ [_, _, undef] 2 rfl rfl ⟨s16, s17, trivial⟩ rfl (ren_call rfl rfl) hQ0 ?_
      clear hQ0 hH s16 s17
      intro Q hQ
      go_wp2_with (go_at_call 39; refine (HL.out w').mono ?_; rintro e w1 ⟨rfl, hg1⟩)
      exact hQ _ _ hg1 rfl rfl
    exact obls_nil
  case mono => exact ⟨Mono.veq _, Mono.veq _, Mono.veq _, Mono.veq _, Mono.veq _, Mono.veq _, Mono.veq _, trivial⟩
  case tail =>
    intro f w' hR hH
    have q3 := hH.get 3 (15, 3) rfl
    have q6 := hH.get 6 (18, 6) rfl
    clear hH
    refine wpList_merge (idx := [none, none, none, none, none, none, none, none, none, none, none, none, some 0, some 1, some 2, some 3, some 4, some 5, some 6]) (by kernel_rfl) ?_; show wpList _ _ _ [_] ⟨#[_, _, _, _, _, _, _, _, _, _, _, _, f 0, f 1, f 2, f 3, f 4, f 5, f 6], _⟩ _
    rw [show f 3 = _ from q3]
    rw [show f 6 = _ from q6]
    clear q3 q6
    have HN1 := Lib.hid (HN.out.grow hR)
    obtain ⟨w5, hr, hmp, hgb⟩ := HN1.out.mp.store (by have := HC.out; unfold maxLen; omega) HMX.out.1 HMX.out.2
    obtain ⟨hnet, hkp⟩ := HN1.out.map w' B g bm n cnt lv ps C hmp hgb
    have HEND : Hid (NetI w5 B g bm n (cnt + 1) lv ps (setC C m x) ∧ Keep B (Kn g bm lv) w w5) := Lib.hid ⟨hnet, (Keep.of hR HN.out.base).trans hkp⟩
    unfold keyv at hr
    clear hmp hgb hnet hkp hR
    go_wp2_with fail
    go_ret
    exact ⟨rfl, HEND.out⟩
theorem wpList_clear_map {P : Program} {ops : Array Oper} {rest : List Oper} {o : Oper} {a : Act} {w w' : World} {Q : Exit → Act → World → Prop}
    (hg : o.guard = none) (x : Operand) (t : TypeId) (hop : o.op = Op.call { callee := Callee.builtin Builtin.clear, args := #[x], argTypes := #[t] })
    (b : Nat) (hx : a.eval x = .map (some b)) (hrun : ∀ ty, (Builtin.clear_ #[t] ty #[.map (some b)]).run P w = .ok (.tuple #[]) w')
    (hK : wpList P ops Q rest (a.put o.dst (.tuple #[])) w') : wpList P ops Q (o :: rest) a w := by
  refine wpList_plain hg fun K hK' => ?_
  have hrun' := hrun o.type
  unfold Oper.wp
  simp [execOp, hop, resolve, invoke, builtin, hx, hrun', Result.andThen]
  exact hK' _ _ hK
theorem heal_nil : Calls Try.prog 23 #[.pointer none] w fun e w' => (∃ v, e = .returned v) ∧ w = w' := by
  go_enter Try.func23, Try.ntmps23
  go_wp2_with fail
  go_end0
  exact ⟨⟨_, rfl⟩, rfl⟩
theorem heal_any (h : NetI w B g bm n cnt lv ps C) :
    Calls Try.prog 23 #[.pointer (some ⟨g, 0, none⟩)] w fun e w' => (∃ v, e = .returned v) ∧ NetI w' B g bm n cnt lv ps (fun _ _ => false) ∧ Keep B (Kn g bm lv) w w' := by
  have x2 := h.bx.cell (i := 2) rfl
  have hcl : ∃ w5, (∀ ty, (Builtin.clear_ #[TM] ty #[.map (some bm)]).run Try.prog w = .ok (.tuple #[]) w5) ∧ MapC w5 bm cnt (fun _ _ => false) ∧ w.grownBy w5 (some bm) := by
    obtain ⟨w5, hr, hmp, hgb⟩ := h.mp.clear 0
    refine ⟨w5, fun ty => ?_, hmp, hgb⟩
    rw [← hr]; rfl
  obtain ⟨w5, hr, hmp, hgb⟩ := hcl
  obtain ⟨hnet, hkp⟩ := h.map w B g bm n cnt lv ps C hmp hgb
  have HEND : Hid (NetI w5 B g bm n cnt lv ps (fun _ _ => false) ∧ Keep B (Kn g bm lv) w w5) := Lib.hid ⟨hnet, hkp⟩
  have HRUN := Lib.hid hr
  clear h hmp hgb hnet hkp hr
  go_enter Try.func23, Try.ntmps23
  go_wp2_with (refine wpList_clear_map rfl _ _ rfl bm rfl HRUN.out ?_)
  go_end0
  exact ⟨⟨_, rfl⟩, HEND.out⟩
/-- a call that takes what is there no more -/
theorem take_no (h : NetI w B g bm n cnt lv ps C) (k : Int) (hk : ¬ (0 ≤ k ∧ k < (ps.length : Int))) :
    Calls Try.prog 24 #[.pointer (some ⟨g, 0, none⟩), .int .i64 k] w fun e w' => e = .returned (.tuple #[zval, .int .i64 6]) ∧ Grow w w' := by
  obtain ⟨W0, hW0⟩ : ∃ W, W = w.alloc (.cells zk.toArray TK) := ⟨_, rfl⟩
  have hg0 : Grow w W0 := by rw [hW0]; exact Grow.alloc _ _
  have hb0 : Blk W0 w.heap.size TK zk := by rw [hW0]; exact Blk.new _ _ _ _ rfl rfl
  have HAT := Lib.hid (at_no W0 B g bm n cnt lv ps C (h.grow hg0) k hk)
  have HDR : Hid (∀ w', Grow W0 w' → Calls Try.prog 12 #[.pointer (some ⟨g, 0, none⟩), .int .i64 k] w' fun e w2 => e = .returned (.int .i64 6) ∧ w' = w2) := Lib.hid fun w' hg => drop_no w' B g bm n cnt lv ps C (h.grow (hg0.trans hg)) k hk
  have HW0 := Lib.hid hW0
  have HG0 := Lib.hid hg0
  have HB0 := Lib.hid hb0
  clear h hk hW0 hg0 hb0
  go_enter Try.func24, Try.ntmps24
  go_wp2_with fail
  rw [show w.alloc (.cells #[.int .u8 0, .int .u8 0, .slice none 0 0, .bool false] TK) = W0 from HW0.out.symm]
  refine HAT.out.mono ?_
  rintro e w1 ⟨rfl, hg1⟩
  unfold zval zk
  go_wp2_with fail
  obtain ⟨W2, hW2⟩ : ∃ W, W = w1.alloc (.cells #[.int .u8 0, .int .u8 0, .slice none 0 0, .bool false] TK) := ⟨_, rfl⟩
  rw [← hW2]
  have hg2 : Grow W0 W2 := by rw [hW2]; exact hg1.trans (Grow.alloc _ _)
  have HG2 := Lib.hid hg2
  have hb2 := HB0.out.grow hg2
  clear hW2 hg1 hg2
  refine (HDR.out W2 HG2.out).mono ?_
  rintro e w' ⟨rfl, rfl⟩
  go_wp2_with (refine store_blk rfl _ _ _ rfl w.heap.size zk rfl rfl _ _ hb2 (by rw [sizeK]; rfl) rfl rfl ?_)
  exact ret_blk_tmp rfl w.heap.size _ zk _ (.int .i64 6) rfl (hb2.setRow _) undK rfl (by rw [sizeK]; rfl) rfl rfl ⟨rfl, Grow.setRow (HG0.out.trans HG2.out) (Nat.le_refl _) _⟩
end
end Go.Proofs.Ytmekdhlcflielaa.nt
