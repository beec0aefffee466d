/- The document's tags: Of, Within. -/
import Derived.Test.YthclgmpjmhacdaaTgR2
namespace Go.Proofs.Ythclgmpjmhacdaa.tg
open Go Go.RowKit Go.Par Go.Kit Go.Maps

set_option maxRecDepth 100000 in
set_option maxHeartbeats 2000000 in
theorem rof_any (w : World) (v : Value) (L : List Tag) (hr : RT w v L) (hv : ∀ t ∈ L, VecOk t.2) (hm : L.length ≤ 1000) (x : List Int) (hx : VecOk x) :
    Calls Try.prog 21 #[v, vv x] w fun e w' => ∃ u, e = .returned u ∧ w'.ownsRow w.heap.size TS 1 u (namesT (fun a => a == x) L).length (strs (namesT (fun a => a == x) L)) ∧ Grow w w' := by
  obtain ⟨A, c, rfl, hc1, hc2, hrow⟩ := hr
  have hix := ints_ok hx
  have HQ : Hid (∀ (a : List Int) (w1 : World), VecOk a → (Op.equalIn 10000 TV (.agg (ints .u16 a).toArray) (.agg (ints .u16 x).toArray)).run Try.prog w1 = .ok (a == x) w1) := Lib.hid fun a w1 ha => eqV w1 a x ha hx
  obtain ⟨l, hl⟩ : ∃ l, l = L.length := ⟨_, rfl⟩
  obtain ⟨p, hp⟩ : ∃ p : List Int → Bool, p = (fun a => a == x) := ⟨_, rfl⟩
  obtain ⟨cx, hcx⟩ : ∃ cs, cs = ints .u16 x := ⟨_, rfl⟩
  obtain ⟨W1, hW1⟩ : ∃ W, W = w.alloc (.cells cx.toArray TV) := ⟨_, rfl⟩
  have hg1 : Grow w W1 := by rw [hW1]; exact Grow.alloc _ _
  have hbx : Blk W1 w.heap.size TV cx := by rw [hW1]; exact Blk.new _ _ _ _ rfl rfl
  have HROW := Lib.hid (hrow.grow hg1)
  have hpx : ∀ a, (a == x) = p a := fun a => by rw [hp]
  unfold vv at HQ ⊢
  rw [← hcx] at HQ hix
  rw [← hl, ← hp, ← hcx]
  rw [← hl] at hm
  have HIX := Lib.hid hix
  have HG1 := Lib.hid hg1
  have HBX := Lib.hid hbx
  have HW1 := Lib.hid hW1
  have HL := Lib.hid hl
  have HV := Lib.hid hv
  have HPX := Lib.hid hpx
  clear hv hx hl hp hcx hW1 hg1 hbx hrow hc1 hc2 hix hpx
  go_enter Try.func21, Try.ntmps21
  go_wp2_with fail
  rw [← HW1.out]
  go_loopw [5, 6] (fun o' k' wr => ∃ (k m : Nat) (v : Value) (xs : List Value), k ≤ l ∧ k' = .int .i64 (k : Int) ∧ v = o' ∧ NamesI W1 wr p L k v m xs) (fun _ k' _ => l - (intOf k').toNat)
  case atStart => exact ⟨0, 0, _, [], by omega, rfl, rfl, World.ownsRow_nil _ _ _ _, by simp [namesT, strs], by simp [namesT], Grow.refl _⟩
  case round =>
    obtain ⟨k, m, v, xs, hk, rfl, rfl, hI⟩ := hrel
    obtain ⟨wa, rfl⟩ : ∃ wa, wa = wr := ⟨_, rfl⟩
    have HI := Lib.hid hI
    obtain ⟨A5, c5, rfl, -⟩ := own_form hI.1
    have hm5 : m ≤ l := by rw [hI.2.2.1, HL.out]; exact names_len p L k
    clear hI
    by_cases hlt : k < l
    · have t1 : decide (k < l) = true := decide_eq_true hlt
      have t1' : decide ((k : Int) < (l : Int)) = true := decide_eq_true (by omega)
      obtain ⟨t, ht⟩ : ∃ t, L[k]? = some t := ⟨_, List.getElem?_eq_getElem (by rw [← HL.out]; exact hlt)⟩
      obtain ⟨b, off, rfl, hc⟩ := rt_at (HROW.out.grow HI.out.2.2.2) HV.out ht
      have hvk := HV.out t (List.mem_of_getElem? ht)
      have hcall := fun w1 => HQ.out t.2 w1 hvk
      have hio := ints_ok hvk
      have hcv : ∀ j u, (ints .u16 t.2)[j]? = some u → wa.cell? ⟨b, off + k * 65 + 1 + j, none⟩ = some u := fun j u hu => by
        rw [Nat.add_assoc (off + k * 65), Nat.add_comm 1 j]
        exact hc (j + 1) u (trow_vec j u hu)
      have hst := names_step (p := p) ht
      rw [← HPX.out] at hst
      obtain ⟨y, hy⟩ : ∃ y, y = (t.2 == x) := ⟨_, rfl⟩
      obtain ⟨ct, hct⟩ : ∃ cs, cs = ints .u16 t.2 := ⟨_, rfl⟩
      obtain ⟨q, hq⟩ : ∃ q, q = str t.1 := ⟨_, rfl⟩
      have hq0 : wa.cell? ⟨b, off + k * 65, none⟩ = some (.string (str t.1)) := hc 0 _ rfl
      rw [← hq] at hq0
      rw [← hy] at hst hcall
      rw [← hct] at hcall hcv hio
      have HCALL := Lib.hid hcall
      have HST := Lib.hid hst
      have HCV := Lib.hid hcv
      have HIO := Lib.hid hio
      have HQ0 := Lib.hid hq0
      have HQQ := Lib.hid hq
      have HLT := Lib.hid hlt
      have HS4 : Hid (W1.heap.size ≤ wa.heap.size) := Lib.hid HI.out.2.2.2.size
      have HK : Hid (k < l ∧ m ≤ l ∧ l ≤ 1000) := Lib.hid ⟨hlt, hm5, hm⟩
      have hk9 : k < l := hlt
      clear hk ht hc hvk hcall hcv hio hst hy hct hq hq0 hlt hm5
      go_wp2_with fail
      apply (fun (v0 v1 v2 v3 v4 v5 v6 : Value) mono obl tail => wp_region_par (R := Grow) (Φ := phi [veq v0, veq v1, veq v2, veq v3, veq v4, veq v5, veq v6]) (m := 7) (dls := [[], [], [(13, 0), (14, 1)], [(15, 2)], [(16, 3)], [], [(17, 4), (18, 5)]]) (ds := [13, 14, 15, 16, 17, 18, 19]) (by kernel_rfl) (by kernel_rfl) (by decide) rfl (Grow.drew _) (fun _ _ _ => Grow.trans) (mono_phi mono) obl tail)
      case obl =>
        refine obls_frame (fun a1 ha => ?_)
        have hsz := rd_size (n := 29) ha rfl
        have e0 := rd_slot 0 ha rfl
        have e6 := rd_slot 6 ha rfl
        have e3 := rd_slot 3 ha rfl
        clear ha
        refine obls_cons (fun f w' hR hH Q0 hQ0 => ?_) ?_
        · skip
          have s0 := sv_off f [] e0 rfl
          refine small_v hsz [(0, _)] ⟨some 1, (Op.move (.tmp 0)), 28, "", #[], none⟩ [_, undef] 1 rfl rfl ⟨s0, trivial⟩ rfl rfl hQ0 ?_
          clear hQ0 hH s0
          intro Q hQ
          repeat go_step
          exact hQ _ _ (Grow.refl _) rfl rfl
        refine obls_cons (fun f w' hR hH Q0 hQ0 => ?_) ?_
        · skip
          have s6 := sv_off f [] e6 rfl
          refine small_v hsz [(6, _)] ⟨some 1, (Op.move (.tmp 0)), 3, "", #[], none⟩ [_, undef] 1 rfl rfl ⟨s6, trivial⟩ rfl rfl hQ0 ?_
          clear hQ0 hH s6
          intro Q hQ
          repeat go_step
          exact hQ _ _ (Grow.refl _) rfl rfl
        refine obls_cons (fun f w' hR hH Q0 hQ0 => ?_) ?_
        · skip
          have s13 := (sv_at 13 0 hsz f [(13, 0), (14, 1)] rfl).trans (show f 0 = _ from hH.get 0 (13, 0) rfl)
          have s14 := (sv_at 14 1 hsz f [(13, 0), (14, 1)] rfl).trans (show f 1 = _ from hH.get 1 (14, 1) rfl)
          refine small_v hsz [(13, _), (14, _)] ⟨some 2, (Op.indexAddr 28 (.tmp 0) (.tmp 1)), 0, "", #[], none⟩ [_, _, undef] 2 rfl rfl ⟨s13, s14, trivial⟩ rfl rfl hQ0 ?_
          clear hQ0 hH s13 s14
          intro Q hQ
          have hk8 : k < l := hk9
          repeat go_step
          exact hQ _ _ (Grow.refl _) rfl rfl
        refine obls_cons (fun f w' hR hH Q0 hQ0 => ?_) ?_
        · skip
          have s15 := (sv_at 15 2 hsz f [(15, 2)] rfl).trans (show f 2 = _ from hH.get 0 (15, 2) rfl)
          refine small_v hsz [(15, _)] ⟨some 1, (Op.fieldAddr 68 (.tmp 0) 1), 0, "", #[], none⟩ [_, undef] 1 rfl rfl ⟨s15, trivial⟩ rfl rfl hQ0 ?_
          clear hQ0 hH s15
          intro Q hQ
          repeat go_step
          exact hQ _ _ (Grow.refl _) rfl rfl
        refine obls_cons (fun f w' hR hH Q0 hQ0 => ?_) ?_
        · skip
          have s16 := (sv_at 16 3 hsz f [(16, 3)] rfl).trans (show f 3 = _ from hH.get 0 (16, 3) rfl)
          refine small_v hsz [(16, _)] ⟨some 1, (Op.load 37 (.tmp 0)), 37, "", #[], none⟩ [_, undef] 1 rfl rfl ⟨s16, trivial⟩ rfl rfl hQ0 ?_
          clear hQ0 hH s16
          intro Q hQ
          have hcg : ∀ j u, ct[j]? = some u → w'.cell? ⟨b, off + k * 65 + 1 + j, none⟩ = some u := fun j u hu => hR.cell (HCV.out j u hu)
          refine load_cells rfl _ _ rfl b (off + k * 65 + 1) rfl ct _ hcg undV rfl (by rw [sizeV, HIO.out.1]) ?_
          exact hQ _ _ (Grow.refl _) rfl rfl
        refine obls_cons (fun f w' hR hH Q0 hQ0 => ?_) ?_
        · skip
          have s3 := sv_off f [] e3 rfl
          refine small_v hsz [(3, _)] ⟨some 1, (Op.load 37 (.tmp 0)), 37, "", #[], none⟩ [_, undef] 1 rfl rfl ⟨s3, trivial⟩ rfl rfl hQ0 ?_
          clear hQ0 hH s3
          intro Q hQ
          have hb := (HBX.out.grow HI.out.2.2.2).grow hR
          refine load_blk rfl _ _ rfl w.heap.size rfl _ _ _ hb undV rfl (by rw [sizeV, HIX.out.1]) ?_
          exact hQ _ _ (Grow.refl _) rfl rfl
        refine obls_cons (fun f w' hR hH Q0 hQ0 => ?_) ?_
        · skip
          have s17 := (sv_at 17 4 hsz f [(17, 4), (18, 5)] rfl).trans (show f 4 = _ from hH.get 0 (17, 4) rfl)
          have s18 := (sv_at 18 5 hsz f [(17, 4), (18, 5)] rfl).trans (show f 5 = _ from hH.get 1 (18, 5) rfl)
          refine small_v hsz [(17, _), (18, _)] ⟨some 2, (Op.binOp BinOp.eql 37 (.tmp 0) (.tmp 1) 37), 4, "", #[], none⟩ [_, _, undef] 2 rfl rfl ⟨s17, s18, trivial⟩ rfl rfl hQ0 ?_
          clear hQ0 hH s17 s18
          intro Q hQ
          have y0 := HCALL.out w'
          repeat go_step
          exact hQ _ _ (Grow.refl _) rfl rfl
        exact obls_nil
      case mono => exact ⟨Mono.veq _, Mono.veq _, Mono.veq _, Mono.veq _, Mono.veq _, Mono.veq _, Mono.veq _, trivial⟩
      case tail =>
        intro f w' hR hH
        have q6 := hH.get 6 (19, 6) rfl
        clear hH
        refine wpList_merge (idx := [none, none, none, none, none, none, none, none, none, none, none, none, none, some 0, some 1, some 2, some 3, some 4, some 5, some 6, none, none, none, none, none, none, none, none, none]) (by kernel_rfl) ?_; show wpList _ _ _ [] ⟨#[_, _, _, _, _, _, _, _, _, _, _, _, _, f 0, f 1, f 2, f 3, f 4, f 5, f 6, _, _, _, _, _, _, _, _, _], _⟩ _
        rw [show f 6 = _ from q6]
        clear q6
        have HR := Lib.hid hR
        have y1 := hR.cell HQ0.out
        clear hR
        cases y
        · go_wp2_with fail
          go_roundw
          case rel =>
            refine ⟨k + 1, m, _, xs, by have := HLT.out; omega, by go_num, rfl, own_grow HI.out.1 HR.out, ?_, ?_, HI.out.2.2.2.trans HR.out⟩
            · rw [HST.out]; exact HI.out.2.1
            · rw [HST.out]; exact HI.out.2.2.1
          case measure => have := HLT.out; simp [intOf] <;> omega
        · go_wp2_with (at_builtin; refine wpList_append_row rfl _ _ _ rfl W1.heap.size TS _ _ 1 16 Try.underlying50 iS iSz iSs iSb rfl (by decide) (.slice A5 m c5) m xs rfl (own_grow (own_grow HI.out.1 HR.out) (Grow.alloc w' (.cells #[.string q] TS))) (some ⟨w'.heap.size, 0, none⟩) 1 1 [.string q] rfl (Row.new w' [.string q] TS (0, 0)) (by intro u hu; rw [List.mem_singleton.1 hu]; rfl) (by have := HK.out; unfold maxLen; omega) (by have := HK.out; omega) (Nat.le_trans (Nat.le_trans HS4.out HR.out.size) (Grow.alloc w' (.cells #[.string q] TS)).size) ?_; intro v1 w1 hown1 hgb1 _; obtain ⟨Av, cv, rfl, -, -, -⟩ := own_form hown1)
          have hni : NamesI W1 w1 p L (k + 1) (.slice Av (m + 1) cv) (m + 1) (xs ++ [.string q]) := by
            refine ⟨hown1, ?_, ?_, ?_⟩
            · rw [HST.out, HI.out.2.1, HQQ.out]
              simp [strs]
            · rw [HST.out, HI.out.2.2.1]
              simp
            · exact grow_by ((HI.out.2.2.2.trans HR.out).trans (Grow.alloc w' (.cells #[.string q] TS))) hgb1 fun k' hk' => own_base HI.out.1 k' hk'
          have HNI := Lib.hid hni
          clear hown1 hgb1 hni y1
          go_roundw
          case rel => exact ⟨k + 1, m + 1, _, _, by have := HLT.out; omega, by go_num, rfl, HNI.out⟩
          case measure => have := HLT.out; simp [intOf] <;> omega
    · obtain rfl : k = l := by omega
      have t1 : decide (k < k) = false := decide_eq_false (by omega)
      have HEND : Hid (wa.ownsRow w.heap.size TS 1 (.slice A5 m c5) (namesT p L).length (strs (namesT p L)) ∧ Grow w wa) := Lib.hid (by
        obtain ⟨q1, q2, q3, q4⟩ := HI.out
        have e : L.take k = L := List.take_of_length_le (by rw [HL.out]; omega)
        rw [e] at q2 q3
        rw [← q3, ← q2]
        exact ⟨own_lower q1 (HG1.out.size), HG1.out.trans q4⟩)
      clear hk hlt hm5
      go_wp2_with fail
      go_ret
      exact ⟨_, rfl, HEND.out⟩
set_option maxRecDepth 100000 in
set_option maxHeartbeats 2000000 in
theorem rwin_any (w : World) (v : Value) (L : List Tag) (hr : RT w v L) (hv : ∀ t ∈ L, VecOk t.2) (hm : L.length ≤ 1000) (x : List Int) (hx : VecOk x) :
    Calls Try.prog 23 #[v, vv x] w fun e w' => ∃ u, e = .returned u ∧ w'.ownsRow w.heap.size TS 1 u (namesT (fun a => withinV a x) L).length (strs (namesT (fun a => withinV a x) L)) ∧ Grow w w' := by
  obtain ⟨A, c, rfl, hc1, hc2, hrow⟩ := hr
  have hix := ints_ok hx
  have HQ : Hid (∀ (a : List Int) (w1 : World), VecOk a → Calls Try.prog 50 #[vv a, vv x] w1 fun e w' => e = .returned (.bool (withinV a x)) ∧ Grow w1 w') := Lib.hid fun a w1 ha => rwithin_any w1 a x ha hx
  obtain ⟨l, hl⟩ : ∃ l, l = L.length := ⟨_, rfl⟩
  obtain ⟨p, hp⟩ : ∃ p : List Int → Bool, p = (fun a => withinV a x) := ⟨_, rfl⟩
  obtain ⟨cx, hcx⟩ : ∃ cs, cs = ints .u16 x := ⟨_, rfl⟩
  obtain ⟨W1, hW1⟩ : ∃ W, W = w.alloc (.cells cx.toArray TV) := ⟨_, rfl⟩
  have hg1 : Grow w W1 := by rw [hW1]; exact Grow.alloc _ _
  have hbx : Blk W1 w.heap.size TV cx := by rw [hW1]; exact Blk.new _ _ _ _ rfl rfl
  have HROW := Lib.hid (hrow.grow hg1)
  have hpx : ∀ a, withinV a x = p a := fun a => by rw [hp]
  unfold vv at HQ ⊢
  rw [← hcx] at HQ hix
  rw [← hl, ← hp, ← hcx]
  rw [← hl] at hm
  have HIX := Lib.hid hix
  have HG1 := Lib.hid hg1
  have HBX := Lib.hid hbx
  have HW1 := Lib.hid hW1
  have HL := Lib.hid hl
  have HV := Lib.hid hv
  have HPX := Lib.hid hpx
  clear hv hx hl hp hcx hW1 hg1 hbx hrow hc1 hc2 hix hpx
  go_enter Try.func23, Try.ntmps23
  go_wp2_with fail
  rw [← HW1.out]
  go_loopw [5, 6] (fun o' k' wr => ∃ (k m : Nat) (v : Value) (xs : List Value), k ≤ l ∧ k' = .int .i64 (k : Int) ∧ v = o' ∧ NamesI W1 wr p L k v m xs) (fun _ k' _ => l - (intOf k').toNat)
  case atStart => exact ⟨0, 0, _, [], by omega, rfl, rfl, World.ownsRow_nil _ _ _ _, by simp [namesT, strs], by simp [namesT], Grow.refl _⟩
  case round =>
    obtain ⟨k, m, v, xs, hk, rfl, rfl, hI⟩ := hrel
    obtain ⟨wa, rfl⟩ : ∃ wa, wa = wr := ⟨_, rfl⟩
    have HI := Lib.hid hI
    obtain ⟨A5, c5, rfl, -⟩ := own_form hI.1
    have hm5 : m ≤ l := by rw [hI.2.2.1, HL.out]; exact names_len p L k
    clear hI
    by_cases hlt : k < l
    · have t1 : decide (k < l) = true := decide_eq_true hlt
      have t1' : decide ((k : Int) < (l : Int)) = true := decide_eq_true (by omega)
      obtain ⟨t, ht⟩ : ∃ t, L[k]? = some t := ⟨_, List.getElem?_eq_getElem (by rw [← HL.out]; exact hlt)⟩
      obtain ⟨b, off, rfl, hc⟩ := rt_at (HROW.out.grow HI.out.2.2.2) HV.out ht
      have hvk := HV.out t (List.mem_of_getElem? ht)
      have hcall := fun w1 => HQ.out t.2 w1 hvk
      have hio := ints_ok hvk
      have hcv : ∀ j u, (ints .u16 t.2)[j]? = some u → wa.cell? ⟨b, off + k * 65 + 1 + j, none⟩ = some u := fun j u hu => by
        rw [Nat.add_assoc (off + k * 65), Nat.add_comm 1 j]
        exact hc (j + 1) u (trow_vec j u hu)
      have hst := names_step (p := p) ht
      rw [← HPX.out] at hst
      obtain ⟨y, hy⟩ : ∃ y, y = withinV t.2 x := ⟨_, rfl⟩
      obtain ⟨ct, hct⟩ : ∃ cs, cs = ints .u16 t.2 := ⟨_, rfl⟩
      obtain ⟨q, hq⟩ : ∃ q, q = str t.1 := ⟨_, rfl⟩
      have hq0 : wa.cell? ⟨b, off + k * 65, none⟩ = some (.string (str t.1)) := hc 0 _ rfl
      rw [← hq] at hq0
      rw [← hy] at hst hcall
      rw [← hct] at hcall hcv hio
      have HCALL := Lib.hid hcall
      have HST := Lib.hid hst
      have HCV := Lib.hid hcv
      have HIO := Lib.hid hio
      have HQ0 := Lib.hid hq0
      have HQQ := Lib.hid hq
      have HLT := Lib.hid hlt
      have HS4 : Hid (W1.heap.size ≤ wa.heap.size) := Lib.hid HI.out.2.2.2.size
      have HK : Hid (k < l ∧ m ≤ l ∧ l ≤ 1000) := Lib.hid ⟨hlt, hm5, hm⟩
      have hk9 : k < l := hlt
      clear hk ht hc hvk hcall hcv hio hst hy hct hq hq0 hlt hm5
      go_wp2_with fail
      apply (fun (v0 v1 v2 v3 v4 v5 v6 : Value) mono obl tail => wp_region_par (R := Grow) (Φ := phi [veq v0, veq v1, veq v2, veq v3, veq v4, veq v5, veq v6]) (m := 7) (dls := [[], [], [(13, 0), (14, 1)], [(15, 2)], [(16, 3)], [], [(17, 4), (18, 5)]]) (ds := [13, 14, 15, 16, 17, 18, 19]) (by kernel_rfl) (by kernel_rfl) (by decide) rfl (Grow.drew _) (fun _ _ _ => Grow.trans) (mono_phi mono) obl tail)
      case obl =>
        refine obls_frame (fun a1 ha => ?_)
        have hsz := rd_size (n := 29) ha rfl
        have e0 := rd_slot 0 ha rfl
        have e6 := rd_slot 6 ha rfl
        have e3 := rd_slot 3 ha rfl
        clear ha
        refine obls_cons (fun f w' hR hH Q0 hQ0 => ?_) ?_
        · skip
          have s0 := sv_off f [] e0 rfl
          refine small_v hsz [(0, _)] ⟨some 1, (Op.move (.tmp 0)), 28, "", #[], none⟩ [_, undef] 1 rfl rfl ⟨s0, trivial⟩ rfl rfl hQ0 ?_
          clear hQ0 hH s0
          intro Q hQ
          repeat go_step
          exact hQ _ _ (Grow.refl _) rfl rfl
        refine obls_cons (fun f w' hR hH Q0 hQ0 => ?_) ?_
        · skip
          have s6 := sv_off f [] e6 rfl
          refine small_v hsz [(6, _)] ⟨some 1, (Op.move (.tmp 0)), 3, "", #[], none⟩ [_, undef] 1 rfl rfl ⟨s6, trivial⟩ rfl rfl hQ0 ?_
          clear hQ0 hH s6
          intro Q hQ
          repeat go_step
          exact hQ _ _ (Grow.refl _) rfl rfl
        refine obls_cons (fun f w' hR hH Q0 hQ0 => ?_) ?_
        · skip
          have s13 := (sv_at 13 0 hsz f [(13, 0), (14, 1)] rfl).trans (show f 0 = _ from hH.get 0 (13, 0) rfl)
          have s14 := (sv_at 14 1 hsz f [(13, 0), (14, 1)] rfl).trans (show f 1 = _ from hH.get 1 (14, 1) rfl)
          refine small_v hsz [(13, _), (14, _)] ⟨some 2, (Op.indexAddr 28 (.tmp 0) (.tmp 1)), 0, "", #[], none⟩ [_, _, undef] 2 rfl rfl ⟨s13, s14, trivial⟩ rfl rfl hQ0 ?_
          clear hQ0 hH s13 s14
          intro Q hQ
          have hk8 : k < l := hk9
          repeat go_step
          exact hQ _ _ (Grow.refl _) rfl rfl
        refine obls_cons (fun f w' hR hH Q0 hQ0 => ?_) ?_
        · skip
          have s15 := (sv_at 15 2 hsz f [(15, 2)] rfl).trans (show f 2 = _ from hH.get 0 (15, 2) rfl)
          refine small_v hsz [(15, _)] ⟨some 1, (Op.fieldAddr 68 (.tmp 0) 1), 0, "", #[], none⟩ [_, undef] 1 rfl rfl ⟨s15, trivial⟩ rfl rfl hQ0 ?_
          clear hQ0 hH s15
          intro Q hQ
          repeat go_step
          exact hQ _ _ (Grow.refl _) rfl rfl
        refine obls_cons (fun f w' hR hH Q0 hQ0 => ?_) ?_
        · skip
          have s16 := (sv_at 16 3 hsz f [(16, 3)] rfl).trans (show f 3 = _ from hH.get 0 (16, 3) rfl)
          refine small_v hsz [(16, _)] ⟨some 1, (Op.load 37 (.tmp 0)), 37, "", #[], none⟩ [_, undef] 1 rfl rfl ⟨s16, trivial⟩ rfl rfl hQ0 ?_
          clear hQ0 hH s16
          intro Q hQ
          have hcg : ∀ j u, ct[j]? = some u → w'.cell? ⟨b, off + k * 65 + 1 + j, none⟩ = some u := fun j u hu => hR.cell (HCV.out j u hu)
          refine load_cells rfl _ _ rfl b (off + k * 65 + 1) rfl ct _ hcg undV rfl (by rw [sizeV, HIO.out.1]) ?_
          exact hQ _ _ (Grow.refl _) rfl rfl
        refine obls_cons (fun f w' hR hH Q0 hQ0 => ?_) ?_
        · skip
          have s3 := sv_off f [] e3 rfl
          refine small_v hsz [(3, _)] ⟨some 1, (Op.load 37 (.tmp 0)), 37, "", #[], none⟩ [_, undef] 1 rfl rfl ⟨s3, trivial⟩ rfl rfl hQ0 ?_
          clear hQ0 hH s3
          intro Q hQ
          have hb := (HBX.out.grow HI.out.2.2.2).grow hR
          refine load_blk rfl _ _ rfl w.heap.size rfl _ _ _ hb undV rfl (by rw [sizeV, HIX.out.1]) ?_
          exact hQ _ _ (Grow.refl _) rfl rfl
        refine obls_cons (fun f w' hR hH Q0 hQ0 => ?_) ?_
        · skip
          have s17 := (sv_at 17 4 hsz f [(17, 4), (18, 5)] rfl).trans (show f 4 = _ from hH.get 0 (17, 4) rfl)
          have s18 := (sv_at 18 5 hsz f [(17, 4), (18, 5)] rfl).trans (show f 5 = _ from hH.get 1 (18, 5) rfl)
          refine small_v hsz [(17, _), (18, _)] ⟨some 2, (Op.call (Call.mk (Callee.value (Operand.func 50)) #[(.tmp 0), (.tmp 1)] #[37, 37])), 4, "", #[], none⟩ [_, _, undef] 2 rfl rfl ⟨s17, s18, trivial⟩ rfl (ren_call rfl rfl) hQ0 ?_
          clear hQ0 hH s17 s18
          intro Q hQ
          go_wp2_with (go_at_call 50; refine (HCALL.out w').mono ?_; rintro e w1 ⟨rfl, hg1⟩)
          exact hQ _ _ hg1 rfl rfl
        exact obls_nil
      case mono => exact ⟨Mono.veq _, Mono.veq _, Mono.veq _, Mono.veq _, Mono.veq _, Mono.veq _, Mono.veq _, trivial⟩
      case tail =>
        intro f w' hR hH
        have q6 := hH.get 6 (19, 6) rfl
        clear hH
        refine wpList_merge (idx := [none, none, none, none, none, none, none, none, none, none, none, none, none, some 0, some 1, some 2, some 3, some 4, some 5, some 6, none, none, none, none, none, none, none, none, none]) (by kernel_rfl) ?_; show wpList _ _ _ [] ⟨#[_, _, _, _, _, _, _, _, _, _, _, _, _, f 0, f 1, f 2, f 3, f 4, f 5, f 6, _, _, _, _, _, _, _, _, _], _⟩ _
        rw [show f 6 = _ from q6]
        clear q6
        have HR := Lib.hid hR
        have y1 := hR.cell HQ0.out
        clear hR
        cases y
        · go_wp2_with fail
          go_roundw
          case rel =>
            refine ⟨k + 1, m, _, xs, by have := HLT.out; omega, by go_num, rfl, own_grow HI.out.1 HR.out, ?_, ?_, HI.out.2.2.2.trans HR.out⟩
            · rw [HST.out]; exact HI.out.2.1
            · rw [HST.out]; exact HI.out.2.2.1
          case measure => have := HLT.out; simp [intOf] <;> omega
        · go_wp2_with (at_builtin; refine wpList_append_row rfl _ _ _ rfl W1.heap.size TS _ _ 1 16 Try.underlying50 iS iSz iSs iSb rfl (by decide) (.slice A5 m c5) m xs rfl (own_grow (own_grow HI.out.1 HR.out) (Grow.alloc w' (.cells #[.string q] TS))) (some ⟨w'.heap.size, 0, none⟩) 1 1 [.string q] rfl (Row.new w' [.string q] TS (0, 0)) (by intro u hu; rw [List.mem_singleton.1 hu]; rfl) (by have := HK.out; unfold maxLen; omega) (by have := HK.out; omega) (Nat.le_trans (Nat.le_trans HS4.out HR.out.size) (Grow.alloc w' (.cells #[.string q] TS)).size) ?_; intro v1 w1 hown1 hgb1 _; obtain ⟨Av, cv, rfl, -, -, -⟩ := own_form hown1)
          have hni : NamesI W1 w1 p L (k + 1) (.slice Av (m + 1) cv) (m + 1) (xs ++ [.string q]) := by
            refine ⟨hown1, ?_, ?_, ?_⟩
            · rw [HST.out, HI.out.2.1, HQQ.out]
              simp [strs]
            · rw [HST.out, HI.out.2.2.1]
              simp
            · exact grow_by ((HI.out.2.2.2.trans HR.out).trans (Grow.alloc w' (.cells #[.string q] TS))) hgb1 fun k' hk' => own_base HI.out.1 k' hk'
          have HNI := Lib.hid hni
          clear hown1 hgb1 hni y1
          go_roundw
          case rel => exact ⟨k + 1, m + 1, _, _, by have := HLT.out; omega, by go_num, rfl, HNI.out⟩
          case measure => have := HLT.out; simp [intOf] <;> omega
    · obtain rfl : k = l := by omega
      have t1 : decide (k < k) = false := decide_eq_false (by omega)
      have HEND : Hid (wa.ownsRow w.heap.size TS 1 (.slice A5 m c5) (namesT p L).length (strs (namesT p L)) ∧ Grow w wa) := Lib.hid (by
        obtain ⟨q1, q2, q3, q4⟩ := HI.out
        have e : L.take k = L := List.take_of_length_le (by rw [HL.out]; omega)
        rw [e] at q2 q3
        rw [← q3, ← q2]
        exact ⟨own_lower q1 (HG1.out.size), HG1.out.trans q4⟩)
      clear hk hlt hm5
      go_wp2_with fail
      go_ret
      exact ⟨_, rfl, HEND.out⟩
end Go.Proofs.Ythclgmpjmhacdaa.tg
