/- Vectors: Join, Within, and the document's. -/
import Derived.Test.YthclgmpjmhacdaaTgS
import Derived.Laws.EntriesVeiled
namespace Go.Proofs.Ythclgmpjmhacdaa.tg
open Go Go.RowKit Go.Par Go.Kit

theorem vec_at {v : List Int} (h : VecOk v) {i : Nat} (hi : i < 64) : ∃ x, v[i]? = some x := ⟨_, List.getElem?_eq_getElem (by rw [h.1]; exact hi)⟩
def maxs (a b : List Int) : List Int := List.zipWith max a b
theorem maxs_len {a b : List Int} (ha : VecOk a) (hb : VecOk b) : (maxs a b).length = 64 := by simp [maxs, ha.1, hb.1]
theorem maxs_at {a b : List Int} {k : Nat} {x y : Int} (hx : a[k]? = some x) (hy : b[k]? = some y) : (maxs a b)[k]? = some (max x y) := by
  unfold maxs
  rw [List.getElem?_zipWith, hx, hy]
theorem within_eq {a b : List Int} (ha : VecOk a) (hb : VecOk b) : (maxs a b == b) = withinV a b := by
  rw [Bool.eq_iff_iff, beq_iff_eq]
  unfold withinV
  rw [List.all_eq_true]
  constructor
  · intro e i hi
    have hi : i < 64 := by simpa using hi
    obtain ⟨x, h1⟩ := vec_at ha hi
    obtain ⟨y, h2⟩ := vec_at hb hi
    have h3 := maxs_at h1 h2
    rw [e, h2] at h3
    injection h3 with h3
    rw [List.getD_eq_getElem?_getD, List.getD_eq_getElem?_getD, h1, h2]
    simp only [Option.getD_some, decide_eq_true_eq]
    omega
  · intro h
    apply List.ext_getElem?
    intro i
    by_cases hi : i < 64
    · obtain ⟨x, h1⟩ := vec_at ha hi
      obtain ⟨y, h2⟩ := vec_at hb hi
      rw [maxs_at h1 h2, h2]
      have := h i (by simpa using hi)
      rw [List.getD_eq_getElem?_getD, List.getD_eq_getElem?_getD, h1, h2] at this
      simp only [Option.getD_some, decide_eq_true_eq] at this
      congr 1
      omega
    · rw [List.getElem?_eq_none (by rw [maxs_len ha hb]; omega), List.getElem?_eq_none (by rw [hb.1]; omega)]
theorem part_set {m a : List Int} {k : Nat} {x : Int} (hm : m[k]? = some x) (hl : m.length = a.length) : (m.take k ++ a.drop k).set k x = m.take (k + 1) ++ a.drop (k + 1) := by
  obtain ⟨hk, he⟩ := List.getElem?_eq_some_iff.1 hm
  rw [List.drop_eq_getElem_cons (by omega), List.set_append_right _ _ (by simp; omega)]
  have : k - (m.take k).length = 0 := by simp; omega
  rw [this, List.set_cons_zero, List.take_succ_eq_append_getElem hk, he, List.append_assoc]
  rfl
theorem ints_set (k : IntKind) (l : List Int) (i : Nat) (x : Int) : (ints k l).set i (.int k x) = ints k (l.set i x) := by
  unfold ints
  rw [List.map_set]
theorem part_len {m a : List Int} {k : Nat} (hl : m.length = a.length) : (m.take k ++ a.drop k).length = a.length := by simp; omega
theorem part_at {m a : List Int} {k : Nat} (hl : m.length = a.length) (hk : k < a.length) : (m.take k ++ a.drop k)[k]? = a[k]? := by
  rw [List.getElem?_append_right (by simp; omega)]
  simp
  congr 1
  omega
theorem run_max2w {P : Program} (ts : Array TypeId) (t : TypeId) (a b m : Int) (hm : m = max a b) (w : World) : (Builtin.max_ ts t #[.int .u16 a, .int .u16 b]).run P w = .ok (.int .u16 m) w := by
  subst hm
  simp [Builtin.max_, Builtin.max2]
  omega
theorem maxs_ok {a b : List Int} (ha : VecOk a) (hb : VecOk b) : VecOk (maxs a b) := by
  refine ⟨maxs_len ha hb, fun x hx => ?_⟩
  obtain ⟨i, hi, rfl⟩ := List.getElem_of_mem hx
  have hi' : i < 64 := by rw [maxs_len ha hb] at hi; exact hi
  obtain ⟨x, h1⟩ := vec_at ha hi'
  obtain ⟨y, h2⟩ := vec_at hb hi'
  have h3 := maxs_at h1 h2
  rw [List.getElem?_eq_getElem hi] at h3
  injection h3 with h3
  rw [h3]
  have q1 := ha.2 _ (List.mem_of_getElem? h1)
  have q2 := hb.2 _ (List.mem_of_getElem? h2)
  omega
set_option maxRecDepth 100000 in
set_option maxHeartbeats 2000000 in
theorem join_any (w : World) (a b : List Int) (ha : VecOk a) (hb : VecOk b) : Calls Try.prog 66 #[vv a, vv b] w fun e w' => e = .returned (vv (maxs a b)) ∧ Grow w w' := by
  have hoa := ints_ok ha
  have hob := ints_ok hb
  have hml := maxs_len ha hb
  obtain ⟨m, hm⟩ : ∃ m, m = maxs a b := ⟨_, rfl⟩
  rw [← hm] at hml ⊢
  have hmo : VecOk m := by rw [hm]; exact maxs_ok ha hb
  unfold vv
  obtain ⟨ca, hca⟩ : ∃ A, A = ints .u16 a := ⟨_, rfl⟩
  obtain ⟨cb, hcb⟩ : ∃ A, A = ints .u16 b := ⟨_, rfl⟩
  rw [← hca] at hoa ⊢
  rw [← hcb] at hob ⊢
  obtain ⟨W1, hW1⟩ : ∃ W, W = ((w.alloc (.cells ca.toArray TV)).alloc (.cells cb.toArray TV)).alloc (.cells (List.replicate 64 (.int .u16 0)).toArray TV) := ⟨_, rfl⟩
  have hg1 : Grow w W1 := by rw [hW1]; exact ((Grow.alloc _ _).trans (Grow.alloc _ _)).trans (Grow.alloc _ _)
  have hb1 : Blk W1 w.heap.size TV ca := by rw [hW1]; exact ((Blk.new w _ _ _ rfl rfl).grow (Grow.alloc _ _)).grow (Grow.alloc _ _)
  have hb2 : Blk W1 (w.heap.size + 1) TV cb := by rw [hW1]; exact (Blk.new _ _ _ _ rfl (by simp)).grow (Grow.alloc _ _)
  have hb4 : Blk W1 (w.heap.size + 2) TV (List.replicate 64 (.int .u16 0)) := by rw [hW1]; exact Blk.new _ _ _ _ rfl (by simp)
  have HG1 := Lib.hid hg1
  have HB1 := Lib.hid hb1
  have HB2 := Lib.hid hb2
  have HB4 := Lib.hid hb4
  have HW1 := Lib.hid hW1
  have HM := Lib.hid hm
  have HML := Lib.hid hml
  have HMO := Lib.hid hmo
  have HA := Lib.hid ha
  have HB := Lib.hid hb
  have HCA := Lib.hid hca
  have HCB := Lib.hid hcb
  clear hoa hob hml hm hca hcb hg1 hb1 hb2 hb4 hW1 ha hb hmo
  go_enter Try.func66, Try.ntmps66
  try dsimp only
  repeat (first | with_reducible (refine wp_region_cut (k := 1) ?_) | go_values | go_guarded | go_step | go_upon | go_back)
  unfold Cut
  refine wp_named ?_
  intro W hW
  obtain rfl : W = W1 := hW.trans HW1.out.symm
  clear hW
  go_wp2_with fail
  go_loopw [6] (fun k' wr => ∃ k : Nat, k ≤ 64 ∧ k' = .int .i64 (k : Int) ∧ Grow w wr ∧ Blk wr w.heap.size TV (ints .u16 (m.take k ++ a.drop k)) ∧ Blk wr (w.heap.size + 1) TV cb ∧ Blk wr (w.heap.size + 2) TV (List.replicate 64 (.int .u16 0))) (fun k' _ => 64 - (intOf k').toNat)
  case atStart => exact ⟨0, by omega, rfl, HG1.out, by rw [List.take_zero, List.drop_zero, List.nil_append, ← HCA.out]; exact HB1.out, HB2.out, HB4.out⟩
  case round =>
    obtain ⟨k, hk, rfl, hgr, h1, h2, h4⟩ := hrel
    obtain ⟨wa, rfl⟩ : ∃ wa, wa = wr := ⟨_, rfl⟩
    have HGR := Lib.hid hgr
    have H1 := Lib.hid h1
    have H2 := Lib.hid h2
    have H4 := Lib.hid h4
    clear hgr h1 h2 h4
    by_cases hlt : k < 64
    · have t1 : decide (k < 64) = true := decide_eq_true hlt
      have t1' : decide ((k : Int) < 64) = true := decide_eq_true (by omega)
      obtain ⟨x, hx⟩ : ∃ x, a[k]? = some x := ⟨_, List.getElem?_eq_getElem (by rw [HA.out.1]; exact hlt)⟩
      obtain ⟨y, hy⟩ : ∃ y, b[k]? = some y := ⟨_, List.getElem?_eq_getElem (by rw [HB.out.1]; exact hlt)⟩
      obtain ⟨z, hz⟩ : ∃ z, z = max x y := ⟨_, rfl⟩
      have hmz : m[k]? = some z := by rw [HM.out, hz]; exact maxs_at hx hy
      have hmx := fun ts t W => run_max2w (P := Try.prog) ts t x y z hz W
      have hax : (m.take k ++ a.drop k)[k]? = some x := by rw [part_at (by rw [HML.out, HA.out.1]) (by rw [HA.out.1]; exact hlt)]; exact hx
      have HAX := Lib.hid hax
      have HY := Lib.hid hy
      have HMZ := Lib.hid hmz
      have HMX := Lib.hid hmx
      have HLT := Lib.hid hlt
      have hk9 : k < 64 := hlt
      clear hk hx hy hz hmz hmx hax hlt
      go_wp2_with fail
      apply (fun (v0 v1 v2 v3 v4 v5 v6 v7 v8 : Value) mono obl tail => wp_region_par (R := Grow) (Φ := phi [veq v0, veq v1, veq v2, veq v3, veq v4, veq v5, veq v6, veq v7, veq v8]) (m := 9) (dls := [[], [], [(10, 1)], [(11, 2)], [], [(13, 4)], [(14, 5)], [(12, 3), (15, 6)], [(9, 0)]]) (ds := [9, 10, 11, 12, 13, 14, 15, 16, 17]) (by kernel_rfl) (by kernel_rfl) (by decide) rfl (Grow.drew _) (fun _ _ _ => Grow.trans) (mono_phi mono) obl tail)
      case obl =>
        refine obls_frame (fun a1 ha => ?_)
        have hsz := rd_size (n := 20) ha rfl
        have e5 := rd_slot 5 ha rfl
        have e2 := rd_slot 2 ha rfl
        have e3 := rd_slot 3 ha rfl
        clear ha
        refine obls_cons (fun f w' hR hH Q0 hQ0 => ?_) ?_
        · skip
          have s5 := sv_off f [] e5 rfl
          refine small_v hsz [(5, _)] ⟨some 1, (Op.move (.tmp 0)), 3, "", #[], none⟩ [_, undef] 1 rfl rfl ⟨s5, trivial⟩ rfl rfl hQ0 ?_
          clear hQ0 hH s5
          intro Q hQ
          repeat go_step
          exact hQ _ _ (Grow.refl _) rfl rfl
        refine obls_cons (fun f w' hR hH Q0 hQ0 => ?_) ?_
        · skip
          have s5 := sv_off f [] e5 rfl
          refine small_v hsz [(5, _)] ⟨some 1, (Op.move (.tmp 0)), 3, "", #[], none⟩ [_, undef] 1 rfl rfl ⟨s5, trivial⟩ rfl rfl hQ0 ?_
          clear hQ0 hH s5
          intro Q hQ
          repeat go_step
          exact hQ _ _ (Grow.refl _) rfl rfl
        refine obls_cons (fun f w' hR hH Q0 hQ0 => ?_) ?_
        · skip
          have s2 := sv_off f [(10, 1)] e2 rfl
          have s10 := (sv_at 10 1 hsz f [(10, 1)] rfl).trans (show f 1 = _ from hH.get 0 (10, 1) rfl)
          refine small_v hsz [(2, _), (10, _)] ⟨some 2, (Op.indexAddr 37 (.tmp 0) (.tmp 1)), 0, "", #[], none⟩ [_, _, undef] 2 rfl rfl ⟨s2, s10, trivial⟩ rfl rfl hQ0 ?_
          clear hQ0 hH s2 s10
          intro Q hQ
          have hk8 : k < 64 := hk9
          repeat go_step
          exact hQ _ _ (Grow.refl _) rfl rfl
        refine obls_cons (fun f w' hR hH Q0 hQ0 => ?_) ?_
        · skip
          have s11 := (sv_at 11 2 hsz f [(11, 2)] rfl).trans (show f 2 = _ from hH.get 0 (11, 2) rfl)
          refine small_v hsz [(11, _)] ⟨some 1, (Op.load 35 (.tmp 0)), 35, "", #[], none⟩ [_, undef] 1 rfl rfl ⟨s11, trivial⟩ rfl rfl hQ0 ?_
          clear hQ0 hH s11
          intro Q hQ
          have y0 := (H1.out.grow hR).cell (ints_at (k := .u16) HAX.out)
          repeat go_step
          exact hQ _ _ (Grow.refl _) rfl rfl
        refine obls_cons (fun f w' hR hH Q0 hQ0 => ?_) ?_
        · skip
          have s5 := sv_off f [] e5 rfl
          refine small_v hsz [(5, _)] ⟨some 1, (Op.move (.tmp 0)), 3, "", #[], none⟩ [_, undef] 1 rfl rfl ⟨s5, trivial⟩ rfl rfl hQ0 ?_
          clear hQ0 hH s5
          intro Q hQ
          repeat go_step
          exact hQ _ _ (Grow.refl _) rfl rfl
        refine obls_cons (fun f w' hR hH Q0 hQ0 => ?_) ?_
        · skip
          have s3 := sv_off f [(13, 4)] e3 rfl
          have s13 := (sv_at 13 4 hsz f [(13, 4)] rfl).trans (show f 4 = _ from hH.get 0 (13, 4) rfl)
          refine small_v hsz [(3, _), (13, _)] ⟨some 2, (Op.indexAddr 37 (.tmp 0) (.tmp 1)), 0, "", #[], none⟩ [_, _, undef] 2 rfl rfl ⟨s3, s13, trivial⟩ rfl rfl hQ0 ?_
          clear hQ0 hH s3 s13
          intro Q hQ
          have hk8 : k < 64 := hk9
          repeat go_step
          exact hQ _ _ (Grow.refl _) rfl rfl
        refine obls_cons (fun f w' hR hH Q0 hQ0 => ?_) ?_
        · skip
          have s14 := (sv_at 14 5 hsz f [(14, 5)] rfl).trans (show f 5 = _ from hH.get 0 (14, 5) rfl)
          refine small_v hsz [(14, _)] ⟨some 1, (Op.load 35 (.tmp 0)), 35, "", #[], none⟩ [_, undef] 1 rfl rfl ⟨s14, trivial⟩ rfl rfl hQ0 ?_
          clear hQ0 hH s14
          intro Q hQ
          have y0 := (H2.out.grow hR).cell (by rw [HCB.out]; exact ints_at (k := .u16) HY.out)
          repeat go_step
          exact hQ _ _ (Grow.refl _) rfl rfl
        refine obls_cons (fun f w' hR hH Q0 hQ0 => ?_) ?_
        · skip
          have s12 := (sv_at 12 3 hsz f [(12, 3), (15, 6)] rfl).trans (show f 3 = _ from hH.get 0 (12, 3) rfl)
          have s15 := (sv_at 15 6 hsz f [(12, 3), (15, 6)] rfl).trans (show f 6 = _ from hH.get 1 (15, 6) rfl)
          refine small_v hsz [(12, _), (15, _)] ⟨some 2, (Op.call (Call.mk (Callee.builtin Builtin.max) #[(.tmp 0), (.tmp 1)] #[35, 35])), 35, "", #[], none⟩ [_, _, undef] 2 rfl rfl ⟨s12, s15, trivial⟩ rfl (ren_builtin rfl rfl) hQ0 ?_
          clear hQ0 hH s12 s15
          intro Q hQ
          have y0 := HMX.out
          repeat go_step
          exact hQ _ _ (Grow.refl _) rfl rfl
        refine obls_cons (fun f w' hR hH Q0 hQ0 => ?_) ?_
        · skip
          have s2 := sv_off f [(9, 0)] e2 rfl
          have s9 := (sv_at 9 0 hsz f [(9, 0)] rfl).trans (show f 0 = _ from hH.get 0 (9, 0) rfl)
          refine small_v hsz [(2, _), (9, _)] ⟨some 2, (Op.indexAddr 37 (.tmp 0) (.tmp 1)), 0, "", #[], none⟩ [_, _, undef] 2 rfl rfl ⟨s2, s9, trivial⟩ rfl rfl hQ0 ?_
          clear hQ0 hH s2 s9
          intro Q hQ
          have hk8 : k < 64 := hk9
          repeat go_step
          exact hQ _ _ (Grow.refl _) rfl rfl
        exact obls_nil
      case mono => exact ⟨Mono.veq _, Mono.veq _, Mono.veq _, Mono.veq _, Mono.veq _, Mono.veq _, Mono.veq _, Mono.veq _, Mono.veq _, trivial⟩
      case tail =>
        intro f w' hR hH
        have q7 := hH.get 7 (16, 7) rfl
        have q8 := hH.get 8 (17, 8) rfl
        clear hH
        refine wpList_merge (idx := [none, none, none, none, none, none, none, none, none, some 0, some 1, some 2, some 3, some 4, some 5, some 6, some 7, some 8, none, none]) (by kernel_rfl) ?_; show wpList _ _ _ [_] ⟨#[_, _, _, _, _, _, _, _, _, f 0, f 1, f 2, f 3, f 4, f 5, f 6, f 7, f 8, _, _], _⟩ _
        rw [show f 7 = _ from q7]
        rw [show f 8 = _ from q8]
        clear q7 q8
        have h5 := H1.out.grow hR
        have y0 := h5.cell (ints_at (k := .u16) HAX.out)
        have f0 := h5.free k
        have HH5 := Lib.hid h5
        have HR5 := Lib.hid hR
        clear h5 hR
        go_wp2_with fail
        clear y0 f0
        go_roundw
        case rel =>
          have hs := HH5.out.set_ k (.int .u16 z)
          rw [ints_set, part_set HMZ.out (by rw [HML.out, HA.out.1])] at hs
          refine ⟨k + 1, by have := HLT.out; omega, by go_num, Grow.set_ (HGR.out.trans HR5.out) (p := ⟨w.heap.size, k, none⟩) (Nat.le_refl _) _, hs, ?_, ?_⟩
          · exact (H2.out.grow HR5.out).far (by simp) _
          · exact (H4.out.grow HR5.out).far (by simp) _
        case measure => have := HLT.out; simp [intOf] <;> omega
    · obtain rfl : k = 64 := by omega
      have t1 : decide ((64 : Nat) < 64) = false := decide_eq_false (by omega)
      have e : m.take 64 ++ a.drop 64 = m := by rw [List.take_of_length_le (by rw [HML.out]; omega), List.drop_of_length_le (by rw [HA.out.1]; omega), List.append_nil]
      have h1 := H1.out
      rw [e] at h1
      have hio := ints_ok HMO.out
      obtain ⟨cm, hcm⟩ : ∃ A, A = ints .u16 m := ⟨_, rfl⟩
      rw [← hcm] at h1 hio
      have HCM := Lib.hid hcm
      have HI := Lib.hid hio
      have h4 := H4.out
      clear hk hlt e hcm hio
      go_wp2_with (first | (refine load_blk rfl _ _ rfl w.heap.size rfl _ _ _ h1 undV rfl (by rw [sizeV, HI.out.1]) ?_) | (refine store_blk rfl _ _ _ rfl (w.heap.size + 2) cm rfl rfl TV _ h4 (by rw [sizeV, HI.out.1]) (by rw [HI.out.1]; rfl) HI.out.2 ?_))
      exact ret_blk rfl (w.heap.size + 2) _ cm _ rfl (h4.setRow _) undV rfl (by rw [sizeV, HI.out.1]) rfl ⟨by rw [HCM.out], Grow.setRow HGR.out (by omega) _⟩
theorem eqV (w : World) (a b : List Int) (ha : VecOk a) (hb : VecOk b) : (Op.equalIn 10000 TV (.agg (ints .u16 a).toArray) (.agg (ints .u16 b).toArray)).run Try.prog w = .ok (a == b) w :=
  run_equalIn_ints w 9998 TV 35 64 .u16 undV Try.underlying35 sz16 a b ha.1 hb.1
set_option maxRecDepth 100000 in
set_option maxHeartbeats 2000000 in
theorem within_any (w : World) (a b : List Int) (ha : VecOk a) (hb : VecOk b) : Calls Try.prog 49 #[vv a, vv b] w fun e w' => e = .returned (.bool (withinV a b)) ∧ Grow w w' := by
  have hj := fun w1 => join_any w1 a b ha hb
  have hq := fun w1 => eqV w1 (maxs a b) b (maxs_ok ha hb) hb
  rw [within_eq ha hb] at hq
  obtain ⟨q, hqq⟩ : ∃ q, q = withinV a b := ⟨_, rfl⟩
  rw [← hqq] at hq ⊢
  have hoa := ints_ok ha
  have hob := ints_ok hb
  unfold vv at hj ⊢
  obtain ⟨ca, hca⟩ : ∃ A, A = ints .u16 a := ⟨_, rfl⟩
  obtain ⟨cb, hcb⟩ : ∃ A, A = ints .u16 b := ⟨_, rfl⟩
  obtain ⟨cm, hcm⟩ : ∃ A, A = ints .u16 (maxs a b) := ⟨_, rfl⟩
  rw [← hca] at hoa hj ⊢
  rw [← hcb] at hob hj hq ⊢
  rw [← hcm] at hj hq
  obtain ⟨W1, hW1⟩ : ∃ W, W = (w.alloc (.cells ca.toArray TV)).alloc (.cells cb.toArray TV) := ⟨_, rfl⟩
  have hg1 : Grow w W1 := by rw [hW1]; exact (Grow.alloc _ _).trans (Grow.alloc _ _)
  have hb1 : Blk W1 w.heap.size TV ca := by rw [hW1]; exact (Blk.new w _ _ _ rfl rfl).grow (Grow.alloc _ _)
  have hb2 : Blk W1 (w.heap.size + 1) TV cb := by rw [hW1]; exact Blk.new _ _ _ _ rfl (by simp)
  have HG1 := Lib.hid hg1
  have HB1 := Lib.hid hb1
  have HB2 := Lib.hid hb2
  have HW1 := Lib.hid hW1
  have HA := Lib.hid hoa.1
  have HB := Lib.hid hob.1
  have HJ := Lib.hid hj
  have HQ := Lib.hid hq
  clear hj hq hqq hca hcb hcm hg1 hb1 hb2 hW1 hoa hob ha hb
  go_enter Try.func49, Try.ntmps49
  go_wp2_with fail
  rw [← HW1.out]
  apply (fun (v0 v1 v2 v3 v4 v5 : Value) mono obl tail => wp_region_par (R := Grow) (Φ := phi [veq v0, veq v1, veq v2, veq v3, veq v4, veq v5]) (m := 6) (dls := [[], [], [(5, 0), (6, 1)], [], [(7, 2), (8, 3)], [(9, 4)]]) (ds := [5, 6, 7, 8, 9, 4]) (by kernel_rfl) (by kernel_rfl) (by decide) rfl (Grow.drew _) (fun _ _ _ => Grow.trans) (mono_phi mono) obl tail)
  case obl =>
    refine obls_frame (fun a1 ha => ?_)
    have hsz := rd_size (n := 10) ha rfl
    have e2 := rd_slot 2 ha rfl
    have e3 := rd_slot 3 ha rfl
    clear ha
    refine obls_cons (fun f w' hR hH Q0 hQ0 => ?_) ?_
    · skip
      have s2 := sv_off f [] e2 rfl
      refine small_v hsz [(2, _)] ⟨some 1, (Op.load 37 (.tmp 0)), 37, "", #[], none⟩ [_, undef] 1 rfl rfl ⟨s2, trivial⟩ rfl rfl hQ0 ?_
      clear hQ0 hH s2
      intro Q hQ
      have hb := HB1.out.grow hR
      go_wp2_with (refine load_blk rfl _ _ rfl w.heap.size rfl _ _ _ hb undV rfl (by rw [sizeV, HA.out]) ?_)
      exact hQ _ _ (Grow.refl _) rfl rfl
    refine obls_cons (fun f w' hR hH Q0 hQ0 => ?_) ?_
    · skip
      have s3 := sv_off f [] e3 rfl
      refine small_v hsz [(3, _)] ⟨some 1, (Op.load 37 (.tmp 0)), 37, "", #[], none⟩ [_, undef] 1 rfl rfl ⟨s3, trivial⟩ rfl rfl hQ0 ?_
      clear hQ0 hH s3
      intro Q hQ
      have hb := HB2.out.grow hR
      go_wp2_with (refine load_blk rfl _ _ rfl (w.heap.size + 1) rfl _ _ _ hb undV rfl (by rw [sizeV, HB.out]) ?_)
      exact hQ _ _ (Grow.refl _) rfl rfl
    refine obls_cons (fun f w' hR hH Q0 hQ0 => ?_) ?_
    · skip
      have s5 := (sv_at 5 0 hsz f [(5, 0), (6, 1)] rfl).trans (show f 0 = _ from hH.get 0 (5, 0) rfl)
      have s6 := (sv_at 6 1 hsz f [(5, 0), (6, 1)] rfl).trans (show f 1 = _ from hH.get 1 (6, 1) rfl)
      refine small_v hsz [(5, _), (6, _)] ⟨some 2, (Op.call (Call.mk (Callee.value (Operand.func 66)) #[(.tmp 0), (.tmp 1)] #[37, 37])), 37, "", #[], none⟩ [_, _, undef] 2 rfl rfl ⟨s5, s6, trivial⟩ rfl (ren_call rfl rfl) hQ0 ?_
      clear hQ0 hH s5 s6
      intro Q hQ
      go_wp2_with (go_at_call 66; refine (HJ.out w').mono ?_; rintro e w1 ⟨rfl, hg1⟩)
      exact hQ _ _ hg1 rfl rfl
    refine obls_cons (fun f w' hR hH Q0 hQ0 => ?_) ?_
    · skip
      have s3 := sv_off f [] e3 rfl
      refine small_v hsz [(3, _)] ⟨some 1, (Op.load 37 (.tmp 0)), 37, "", #[], none⟩ [_, undef] 1 rfl rfl ⟨s3, trivial⟩ rfl rfl hQ0 ?_
      clear hQ0 hH s3
      intro Q hQ
      have hb := HB2.out.grow hR
      go_wp2_with (refine load_blk rfl _ _ rfl (w.heap.size + 1) rfl _ _ _ hb undV rfl (by rw [sizeV, HB.out]) ?_)
      exact hQ _ _ (Grow.refl _) rfl rfl
    refine obls_cons (fun f w' hR hH Q0 hQ0 => ?_) ?_
    · skip
      have s7 := (sv_at 7 2 hsz f [(7, 2), (8, 3)] rfl).trans (show f 2 = _ from hH.get 0 (7, 2) rfl)
      have s8 := (sv_at 8 3 hsz f [(7, 2), (8, 3)] rfl).trans (show f 3 = _ from hH.get 1 (8, 3) rfl)
      refine small_v hsz [(7, _), (8, _)] ⟨some 2, (Op.binOp BinOp.eql 37 (.tmp 0) (.tmp 1) 37), 4, "", #[], none⟩ [_, _, undef] 2 rfl rfl ⟨s7, s8, trivial⟩ rfl rfl hQ0 ?_
      clear hQ0 hH s7 s8
      intro Q hQ
      have y0 := HQ.out w'
      repeat go_step
      exact hQ _ _ (Grow.refl _) rfl rfl
    refine obls_cons (fun f w' hR hH Q0 hQ0 => ?_) ?_
    · skip
      have s9 := (sv_at 9 4 hsz f [(9, 4)] rfl).trans (show f 4 = _ from hH.get 0 (9, 4) rfl)
      refine small_v hsz [(9, _)] ⟨some 1, (Op.assign (.tmp 0)), 4, "", #[], none⟩ [_, undef] 1 rfl rfl ⟨s9, trivial⟩ rfl rfl hQ0 ?_
      clear hQ0 hH s9
      intro Q hQ
      repeat go_step
      exact hQ _ _ (Grow.refl _) rfl rfl
    exact obls_nil
  case mono => exact ⟨Mono.veq _, Mono.veq _, Mono.veq _, Mono.veq _, Mono.veq _, Mono.veq _, trivial⟩
  case tail =>
    intro f w' hR hH
    have q5 := hH.get 5 (4, 5) rfl
    clear hH
    refine wpList_merge (idx := [none, none, none, none, some 5, some 0, some 1, some 2, some 3, some 4]) (by kernel_rfl) ?_; show wpList _ _ _ [] ⟨#[_, _, _, _, f 5, f 0, f 1, f 2, f 3, f 4], _⟩ _
    rw [show f 5 = _ from q5]
    clear q5
    have HR := Lib.hid hR
    clear hR
    go_wp2_with fail
    go_ret
    exact ⟨rfl, HG1.out.trans HR.out⟩
theorem win_yes {a b : List Int} (ha : VecOk a) (hb : VecOk b) (h : ∀ (i : Nat) (x y : Int), i < 64 → a[i]? = some x → b[i]? = some y → x ≤ y) : withinV a b = true := by
  unfold withinV
  rw [List.all_eq_true]
  intro i hi
  have hi : i < 64 := by simpa using hi
  obtain ⟨x, hx⟩ := vec_at ha hi
  obtain ⟨y, hy⟩ := vec_at hb hi
  rw [List.getD_eq_getElem?_getD, List.getD_eq_getElem?_getD, hx, hy]
  simpa using h i x y hi hx hy
theorem win_no {a b : List Int} {i : Nat} {x y : Int} (hi : i < 64) (hx : a[i]? = some x) (hy : b[i]? = some y) (h : ¬ x ≤ y) : withinV a b = false := by
  unfold withinV
  rw [List.all_eq_false]
  refine ⟨i, by simpa using hi, ?_⟩
  rw [List.getD_eq_getElem?_getD, List.getD_eq_getElem?_getD, hx, hy]
  simpa using h
set_option maxRecDepth 100000 in
set_option maxHeartbeats 2000000 in
theorem rwithin_any (w : World) (a b : List Int) (ha : VecOk a) (hb : VecOk b) : Calls Try.prog 50 #[vv a, vv b] w fun e w' => e = .returned (.bool (withinV a b)) ∧ Grow w w' := by
  obtain ⟨r, hr⟩ : ∃ r, r = withinV a b := ⟨_, rfl⟩
  rw [← hr]
  unfold vv
  obtain ⟨ca, hca⟩ : ∃ A, A = ints .u16 a := ⟨_, rfl⟩
  obtain ⟨cb, hcb⟩ : ∃ A, A = ints .u16 b := ⟨_, rfl⟩
  rw [← hca, ← hcb]
  obtain ⟨W1, hW1⟩ : ∃ W, W = (w.alloc (.cells ca.toArray TV)).alloc (.cells cb.toArray TV) := ⟨_, rfl⟩
  have hg1 : Grow w W1 := by rw [hW1]; exact (Grow.alloc _ _).trans (Grow.alloc _ _)
  have hb1 : Blk W1 w.heap.size TV ca := by rw [hW1]; exact (Blk.new w _ _ _ rfl rfl).grow (Grow.alloc _ _)
  have hb2 : Blk W1 (w.heap.size + 1) TV cb := by rw [hW1]; exact Blk.new _ _ _ _ rfl (by simp)
  have HG1 := Lib.hid hg1
  have HB1 := Lib.hid hb1
  have HB2 := Lib.hid hb2
  have HW1 := Lib.hid hW1
  have HR := Lib.hid hr
  have HA := Lib.hid ha
  have HB := Lib.hid hb
  have HCA := Lib.hid hca
  have HCB := Lib.hid hcb
  clear hr hca hcb hg1 hb1 hb2 hW1 ha hb
  go_enter Try.func50, Try.ntmps50
  try dsimp only
  repeat (first | with_reducible (refine wp_region_cut (k := 1) ?_) | go_values | go_guarded | go_step | go_upon | go_back)
  rw [← HW1.out]
  unfold Cut
  go_wp2_with fail
  go_loopw [5] (fun k' wr => ∃ k : Nat, k ≤ 64 ∧ k' = .int .i64 (k : Int) ∧ Grow W1 wr ∧ ∀ (i : Nat) (x y : Int), i < k → a[i]? = some x → b[i]? = some y → x ≤ y) (fun k' _ => 64 - (intOf k').toNat)
  case atStart => exact ⟨0, by omega, rfl, Grow.refl _, fun i x y h => absurd h (by omega)⟩
  case round =>
    obtain ⟨k, hk, rfl, hgr, hal⟩ := hrel
    obtain ⟨wa, rfl⟩ : ∃ wa, wa = wr := ⟨_, rfl⟩
    have HAL := Lib.hid hal
    have HGR := Lib.hid hgr
    clear hal hgr
    by_cases hlt : k < 64
    · have t1 : decide (k < 64) = true := decide_eq_true hlt
      have t1' : decide ((k : Int) < 64) = true := decide_eq_true (by omega)
      obtain ⟨x, hx⟩ := vec_at HA.out hlt
      obtain ⟨y, hy⟩ := vec_at HB.out hlt
      have HX := Lib.hid hx
      have HY := Lib.hid hy
      have HLT := Lib.hid hlt
      have hk9 : k < 64 := hlt
      clear hk hx hy hlt
      by_cases h6 : x ≤ y
      · have s1 : decide (y < x) = false := decide_eq_false (by omega)
        have H6 := Lib.hid h6
        clear h6
        go_wp2_with fail
        apply (fun (v0 v1 v2 v3 v4 v5 v6 : Value) mono obl tail => wp_region_par (R := Grow) (Φ := phi [veq v0, veq v1, veq v2, veq v3, veq v4, veq v5, veq v6]) (m := 7) (dls := [[], [(10, 0)], [(11, 1)], [], [(13, 3)], [(14, 4)], [(12, 2), (15, 5)]]) (ds := [10, 11, 12, 13, 14, 15, 16]) (by kernel_rfl) (by kernel_rfl) (by decide) rfl (Grow.drew _) (fun _ _ _ => Grow.trans) (mono_phi mono) obl tail)
        case obl =>
          refine obls_frame (fun a1 ha => ?_)
          have hsz := rd_size (n := 17) ha rfl
          have e5 := rd_slot 5 ha rfl
          have e2 := rd_slot 2 ha rfl
          have e3 := rd_slot 3 ha rfl
          clear ha
          refine obls_cons (fun f w' hR hH Q0 hQ0 => ?_) ?_
          · skip
            have s5 := sv_off f [] e5 rfl
            refine small_v hsz [(5, _)] ⟨some 1, (Op.move (.tmp 0)), 3, "", #[], none⟩ [_, undef] 1 rfl rfl ⟨s5, trivial⟩ rfl rfl hQ0 ?_
            clear hQ0 hH s5
            intro Q hQ
            repeat go_step
            exact hQ _ _ (Grow.refl _) rfl rfl
          refine obls_cons (fun f w' hR hH Q0 hQ0 => ?_) ?_
          · skip
            have s2 := sv_off f [(10, 0)] e2 rfl
            have s10 := (sv_at 10 0 hsz f [(10, 0)] rfl).trans (show f 0 = _ from hH.get 0 (10, 0) rfl)
            refine small_v hsz [(2, _), (10, _)] ⟨some 2, (Op.indexAddr 37 (.tmp 0) (.tmp 1)), 0, "", #[], none⟩ [_, _, undef] 2 rfl rfl ⟨s2, s10, trivial⟩ rfl rfl hQ0 ?_
            clear hQ0 hH s2 s10
            intro Q hQ
            have hk8 : k < 64 := hk9
            repeat go_step
            exact hQ _ _ (Grow.refl _) rfl rfl
          refine obls_cons (fun f w' hR hH Q0 hQ0 => ?_) ?_
          · skip
            have s11 := (sv_at 11 1 hsz f [(11, 1)] rfl).trans (show f 1 = _ from hH.get 0 (11, 1) rfl)
            refine small_v hsz [(11, _)] ⟨some 1, (Op.load 35 (.tmp 0)), 35, "", #[], none⟩ [_, undef] 1 rfl rfl ⟨s11, trivial⟩ rfl rfl hQ0 ?_
            clear hQ0 hH s11
            intro Q hQ
            have y0 := ((HB1.out.grow HGR.out).grow hR).cell (by rw [HCA.out]; exact ints_at (k := .u16) HX.out)
            repeat go_step
            exact hQ _ _ (Grow.refl _) rfl rfl
          refine obls_cons (fun f w' hR hH Q0 hQ0 => ?_) ?_
          · skip
            have s5 := sv_off f [] e5 rfl
            refine small_v hsz [(5, _)] ⟨some 1, (Op.move (.tmp 0)), 3, "", #[], none⟩ [_, undef] 1 rfl rfl ⟨s5, trivial⟩ rfl rfl hQ0 ?_
            clear hQ0 hH s5
            intro Q hQ
            repeat go_step
            exact hQ _ _ (Grow.refl _) rfl rfl
          refine obls_cons (fun f w' hR hH Q0 hQ0 => ?_) ?_
          · skip
            have s3 := sv_off f [(13, 3)] e3 rfl
            have s13 := (sv_at 13 3 hsz f [(13, 3)] rfl).trans (show f 3 = _ from hH.get 0 (13, 3) rfl)
            refine small_v hsz [(3, _), (13, _)] ⟨some 2, (Op.indexAddr 37 (.tmp 0) (.tmp 1)), 0, "", #[], none⟩ [_, _, undef] 2 rfl rfl ⟨s3, s13, trivial⟩ rfl rfl hQ0 ?_
            clear hQ0 hH s3 s13
            intro Q hQ
            have hk8 : k < 64 := hk9
            repeat go_step
            exact hQ _ _ (Grow.refl _) rfl rfl
          refine obls_cons (fun f w' hR hH Q0 hQ0 => ?_) ?_
          · skip
            have s14 := (sv_at 14 4 hsz f [(14, 4)] rfl).trans (show f 4 = _ from hH.get 0 (14, 4) rfl)
            refine small_v hsz [(14, _)] ⟨some 1, (Op.load 35 (.tmp 0)), 35, "", #[], none⟩ [_, undef] 1 rfl rfl ⟨s14, trivial⟩ rfl rfl hQ0 ?_
            clear hQ0 hH s14
            intro Q hQ
            have y0 := ((HB2.out.grow HGR.out).grow hR).cell (by rw [HCB.out]; exact ints_at (k := .u16) HY.out)
            repeat go_step
            exact hQ _ _ (Grow.refl _) rfl rfl
          refine obls_cons (fun f w' hR hH Q0 hQ0 => ?_) ?_
          · skip
            have s12 := (sv_at 12 2 hsz f [(12, 2), (15, 5)] rfl).trans (show f 2 = _ from hH.get 0 (12, 2) rfl)
            have s15 := (sv_at 15 5 hsz f [(12, 2), (15, 5)] rfl).trans (show f 5 = _ from hH.get 1 (15, 5) rfl)
            refine small_v hsz [(12, _), (15, _)] ⟨some 2, (Op.binOp BinOp.gtr 35 (.tmp 0) (.tmp 1) 35), 4, "", #[], none⟩ [_, _, undef] 2 rfl rfl ⟨s12, s15, trivial⟩ rfl rfl hQ0 ?_
            clear hQ0 hH s12 s15
            intro Q hQ
            repeat go_step
            exact hQ _ _ (Grow.refl _) rfl rfl
          exact obls_nil
        case mono => exact ⟨Mono.veq _, Mono.veq _, Mono.veq _, Mono.veq _, Mono.veq _, Mono.veq _, Mono.veq _, trivial⟩
        case tail =>
          intro f w' hR hH
          have q6 := hH.get 6 (16, 6) rfl
          clear hH
          refine wpList_merge (idx := [none, none, none, none, none, none, none, none, none, none, some 0, some 1, some 2, some 3, some 4, some 5, some 6]) (by kernel_rfl) ?_; show wpList _ _ _ [] ⟨#[_, _, _, _, _, _, _, _, _, _, f 0, f 1, f 2, f 3, f 4, f 5, f 6], _⟩ _
          rw [show f 6 = _ from q6]
          clear q6
          have HR5 := Lib.hid hR
          clear hR
          go_wp2_with fail
          clear s1
          go_roundw
          case rel =>
            refine ⟨k + 1, by have := HLT.out; omega, by go_num, HGR.out.trans HR5.out, fun i u v hi hu hv => ?_⟩
            rcases Nat.lt_or_ge i k with h3 | h3
            · exact HAL.out i u v h3 hu hv
            · obtain rfl : i = k := by omega
              rw [HX.out] at hu
              rw [HY.out] at hv
              injection hu with hu
              injection hv with hv
              rw [← hu, ← hv]; exact H6.out
          case measure => have := HLT.out; simp [intOf] <;> omega
      · have s1 : decide (y < x) = true := decide_eq_true (by omega)
        have H6 := Lib.hid h6
        clear h6
        go_wp2_with fail
        apply (fun (v0 v1 v2 v3 v4 v5 v6 : Value) mono obl tail => wp_region_par (R := Grow) (Φ := phi [veq v0, veq v1, veq v2, veq v3, veq v4, veq v5, veq v6]) (m := 7) (dls := [[], [(10, 0)], [(11, 1)], [], [(13, 3)], [(14, 4)], [(12, 2), (15, 5)]]) (ds := [10, 11, 12, 13, 14, 15, 16]) (by kernel_rfl) (by kernel_rfl) (by decide) rfl (Grow.drew _) (fun _ _ _ => Grow.trans) (mono_phi mono) obl tail)
        case obl =>
          refine obls_frame (fun a1 ha => ?_)
          have hsz := rd_size (n := 17) ha rfl
          have e5 := rd_slot 5 ha rfl
          have e2 := rd_slot 2 ha rfl
          have e3 := rd_slot 3 ha rfl
          clear ha
          refine obls_cons (fun f w' hR hH Q0 hQ0 => ?_) ?_
          · skip
            have s5 := sv_off f [] e5 rfl
            refine small_v hsz [(5, _)] ⟨some 1, (Op.move (.tmp 0)), 3, "", #[], none⟩ [_, undef] 1 rfl rfl ⟨s5, trivial⟩ rfl rfl hQ0 ?_
            clear hQ0 hH s5
            intro Q hQ
            repeat go_step
            exact hQ _ _ (Grow.refl _) rfl rfl
          refine obls_cons (fun f w' hR hH Q0 hQ0 => ?_) ?_
          · skip
            have s2 := sv_off f [(10, 0)] e2 rfl
            have s10 := (sv_at 10 0 hsz f [(10, 0)] rfl).trans (show f 0 = _ from hH.get 0 (10, 0) rfl)
            refine small_v hsz [(2, _), (10, _)] ⟨some 2, (Op.indexAddr 37 (.tmp 0) (.tmp 1)), 0, "", #[], none⟩ [_, _, undef] 2 rfl rfl ⟨s2, s10, trivial⟩ rfl rfl hQ0 ?_
            clear hQ0 hH s2 s10
            intro Q hQ
            have hk8 : k < 64 := hk9
            repeat go_step
            exact hQ _ _ (Grow.refl _) rfl rfl
          refine obls_cons (fun f w' hR hH Q0 hQ0 => ?_) ?_
          · skip
            have s11 := (sv_at 11 1 hsz f [(11, 1)] rfl).trans (show f 1 = _ from hH.get 0 (11, 1) rfl)
            refine small_v hsz [(11, _)] ⟨some 1, (Op.load 35 (.tmp 0)), 35, "", #[], none⟩ [_, undef] 1 rfl rfl ⟨s11, trivial⟩ rfl rfl hQ0 ?_
            clear hQ0 hH s11
            intro Q hQ
            have y0 := ((HB1.out.grow HGR.out).grow hR).cell (by rw [HCA.out]; exact ints_at (k := .u16) HX.out)
            repeat go_step
            exact hQ _ _ (Grow.refl _) rfl rfl
          refine obls_cons (fun f w' hR hH Q0 hQ0 => ?_) ?_
          · skip
            have s5 := sv_off f [] e5 rfl
            refine small_v hsz [(5, _)] ⟨some 1, (Op.move (.tmp 0)), 3, "", #[], none⟩ [_, undef] 1 rfl rfl ⟨s5, trivial⟩ rfl rfl hQ0 ?_
            clear hQ0 hH s5
            intro Q hQ
            repeat go_step
            exact hQ _ _ (Grow.refl _) rfl rfl
          refine obls_cons (fun f w' hR hH Q0 hQ0 => ?_) ?_
          · skip
            have s3 := sv_off f [(13, 3)] e3 rfl
            have s13 := (sv_at 13 3 hsz f [(13, 3)] rfl).trans (show f 3 = _ from hH.get 0 (13, 3) rfl)
            refine small_v hsz [(3, _), (13, _)] ⟨some 2, (Op.indexAddr 37 (.tmp 0) (.tmp 1)), 0, "", #[], none⟩ [_, _, undef] 2 rfl rfl ⟨s3, s13, trivial⟩ rfl rfl hQ0 ?_
            clear hQ0 hH s3 s13
            intro Q hQ
            have hk8 : k < 64 := hk9
            repeat go_step
            exact hQ _ _ (Grow.refl _) rfl rfl
          refine obls_cons (fun f w' hR hH Q0 hQ0 => ?_) ?_
          · skip
            have s14 := (sv_at 14 4 hsz f [(14, 4)] rfl).trans (show f 4 = _ from hH.get 0 (14, 4) rfl)
            refine small_v hsz [(14, _)] ⟨some 1, (Op.load 35 (.tmp 0)), 35, "", #[], none⟩ [_, undef] 1 rfl rfl ⟨s14, trivial⟩ rfl rfl hQ0 ?_
            clear hQ0 hH s14
            intro Q hQ
            have y0 := ((HB2.out.grow HGR.out).grow hR).cell (by rw [HCB.out]; exact ints_at (k := .u16) HY.out)
            repeat go_step
            exact hQ _ _ (Grow.refl _) rfl rfl
          refine obls_cons (fun f w' hR hH Q0 hQ0 => ?_) ?_
          · skip
            have s12 := (sv_at 12 2 hsz f [(12, 2), (15, 5)] rfl).trans (show f 2 = _ from hH.get 0 (12, 2) rfl)
            have s15 := (sv_at 15 5 hsz f [(12, 2), (15, 5)] rfl).trans (show f 5 = _ from hH.get 1 (15, 5) rfl)
            refine small_v hsz [(12, _), (15, _)] ⟨some 2, (Op.binOp BinOp.gtr 35 (.tmp 0) (.tmp 1) 35), 4, "", #[], none⟩ [_, _, undef] 2 rfl rfl ⟨s12, s15, trivial⟩ rfl rfl hQ0 ?_
            clear hQ0 hH s12 s15
            intro Q hQ
            repeat go_step
            exact hQ _ _ (Grow.refl _) rfl rfl
          exact obls_nil
        case mono => exact ⟨Mono.veq _, Mono.veq _, Mono.veq _, Mono.veq _, Mono.veq _, Mono.veq _, Mono.veq _, trivial⟩
        case tail =>
          intro f w' hR hH
          have q6 := hH.get 6 (16, 6) rfl
          clear hH
          refine wpList_merge (idx := [none, none, none, none, none, none, none, none, none, none, some 0, some 1, some 2, some 3, some 4, some 5, some 6]) (by kernel_rfl) ?_; show wpList _ _ _ [] ⟨#[_, _, _, _, _, _, _, _, _, _, f 0, f 1, f 2, f 3, f 4, f 5, f 6], _⟩ _
          rw [show f 6 = _ from q6]
          clear q6
          have HR5 := Lib.hid hR
          have hrf : r = false := HR.out.trans (win_no HLT.out HX.out HY.out (by have := H6.out; omega))
          subst hrf
          clear hR
          go_wp2_with fail
          go_ret
          exact ⟨rfl, HG1.out.trans (HGR.out.trans HR5.out)⟩
    · obtain rfl : k = 64 := by omega
      have t1 : decide ((64 : Nat) < 64) = false := decide_eq_false (by omega)
      have hrf : r = true := HR.out.trans (win_yes HA.out HB.out HAL.out)
      subst hrf
      clear hk hlt
      go_wp2_with fail
      go_ret
      exact ⟨rfl, HG1.out.trans HGR.out⟩
end Go.Proofs.Ythclgmpjmhacdaa.tg
