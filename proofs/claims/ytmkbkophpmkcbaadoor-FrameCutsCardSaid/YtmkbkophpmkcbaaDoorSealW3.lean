/- The walks of seals: the document's Open. -/
import Derived.Test.YtmkbkophpmkcbaaDoorSealW2
namespace Go.Proofs.YtmkbkophpmkcbaaDoor.slW
open Go Go.RowKit Go.Par Go.Kit Go.Proofs.YtmkbkophpmkcbaaDoor.cl Go.Proofs.YtmkbkophpmkcbaaDoor.crcW

theorem bv_inj {a b : List UInt8} (h : bv a = bv b) : a = b := by
  have := congrArg (List.map UInt8.ofBitVec) h
  simpa [bv, List.map_map, Function.comp_def] using this
theorem four_of {d : List UInt8} {J S : BitVec 32} (hd : d.length = 4) (hJ : Sea.join4 (bv d) = J) : J = S ↔ d = four8 S := by
  constructor
  · intro h
    apply bv_inj
    rw [four8_bv, ← h, ← hJ, Sea.four4_join (by simp [bv, hd])]
  · intro h
    rw [← hJ, h, four8_bv, Sea.join4_four]
def IsFour (S : BitVec 32) : Value → World → Prop := fun v w => ∃ g, v = .slice (some ⟨g, 0, none⟩) 4 4 ∧ Bytes w (some ⟨g, 0, none⟩) 4 (four8 S)
theorem IsFour.mono {S : BitVec 32} : Mono Grow (IsFour S) := fun _ _ _ ⟨g, e, h⟩ hg => ⟨g, e, h.grow hg⟩

set_option maxHeartbeats 400000 in
theorem ref_open_any (A : Option Addr) (n c : Nat) (l : List UInt8) (w : World) (hb : Bytes w A n l) (hc : n ≤ c) (hn : n ≤ 100000) :
    Calls Tryd.prog 22 #[.slice A n c] w fun e w' => ∃ v, e = .returned (.tuple #[v, .int .i64 ((open8 l).2 : Int)]) ∧ w'.ownsRow w.heap.size 5 1 v (open8 l).1.length (u8s (open8 l).1) ∧ Grow w w' := by
  have hlen := hb.len
  by_cases h4 : n < 4
  · have ho : open8 l = ([], 2) := by unfold open8; rw [if_pos (by omega)]
    rw [ho]
    clear ho hlen
    go_enter Tryd.func22, Tryd.ntmps22
    go_wp2_with fail
    go_ret2
    exact ⟨_, rfl, own_none _ _ _, Grow.refl _⟩
  · obtain ⟨k, hk⟩ : ∃ k, k = n - 4 := ⟨_, rfl⟩
    have hkn : k ≤ n := by omega
    have e4 : n - k = 4 := by omega
    have hsub : (n : Int) - 4 = (k : Int) := by omega
    have hbd := hb.cut hkn hc
    have hbt := hb.take hkn
    rw [e4] at hbd
    obtain ⟨S, hS⟩ : ∃ S, sum [l.take k] = S := ⟨_, rfl⟩
    obtain ⟨J, hJ⟩ : ∃ J, Sea.join4 (bv (l.drop k)) = J := ⟨_, rfl⟩
    have ho : open8 l = if J = S then (l.take k, 0) else ([], 5) := by
      unfold open8
      rw [if_neg (by omega), hlen, ← hk, hS, hJ]
    have hdl : (l.drop k).length = 4 := hbd.len
    have hfo := four_of (S := S) hdl hJ
    have hmo := ref_more_as (s := 0#32) (l := l.take k) (S := S) (by rw [← hS, sum_one])
    rw [show ((0#32).toNat : Int) = 0 from rfl] at hmo
    have HMO := Lib.hid hmo
    obtain ⟨D, hD⟩ : ∃ D, D = cutAt A c k := ⟨_, rfl⟩
    have hs1 := slice_lo (P := Tryd.prog) Tryd.underlying25 i8 i8s A n c k hkn
    have hs2 := slice_hi (P := Tryd.prog) Tryd.underlying25 i8 A n c k (by omega)
    rw [e4, ← hD] at hs1
    rw [← hD] at hbd
    have hkl : (l.take k).length = k := by rw [List.length_take]; omega
    obtain ⟨d, hd⟩ : ∃ d, d = l.drop k := ⟨_, rfl⟩
    obtain ⟨t, htt⟩ : ∃ t, t = l.take k := ⟨_, rfl⟩
    rw [← hd] at hbd hfo
    rw [← htt] at hbt hkl
    rw [← htt] at hmo ho
    have HMO := Lib.hid hmo
    have HBT := Lib.hid hbt
    have HBD := Lib.hid hbd
    have HKL := Lib.hid hkl
    by_cases hJS : J = S
    · have hdf := hfo.1 hJS
      have hoe : open8 l = (t, 0) := by rw [ho, if_pos hJS]
      have HOE := Lib.hid hoe
      rw [hdf] at hbd
      have HBD := Lib.hid hbd
      clear hlen hk e4 hS hJ ho hdl hD hd hbt hfo hmo htt hkl hdf hoe hbd hJS
      go_enter Tryd.func22, Tryd.ntmps22
      go_wp2_with fail
      apply (fun (v0 v1 v2 v3 v4 v5 v6 v7 v9 v10 : Value) mono obl tail => wp_region_par (R := Grow) (Φ := phi [veq v0, veq v1, veq v2, veq v3, veq v4, veq v5, veq v6, veq v7, (IsFour S), veq v9, veq v10]) (m := 11) (dls := [[], [], [(12, 0), (13, 1)], [(14, 2)], [], [], [(16, 4), (17, 5)], [(18, 6)], [(19, 7)], [(20, 8)], [(15, 3), (21, 9)]]) (ds := [12, 13, 14, 15, 16, 17, 18, 19, 20, 21, 22]) (by kernel_rfl) (by kernel_rfl) (by decide) rfl (Grow.drew _) (fun _ _ _ => Grow.trans) (mono_phi mono) obl tail)
      case obl =>
        refine obls_cons (fun f w' hR hH Q hQ => ?_) ?_
        · skip
          simp only [view, List.foldl]
          repeat (first | go_guarded | go_step)
          exact hQ _ _ (Grow.refl _) rfl rfl
        refine obls_cons (fun f w' hR hH Q hQ => ?_) ?_
        · skip
          simp only [view, List.foldl]
          repeat (first | go_guarded | go_step)
          exact hQ _ _ (Grow.refl _) rfl rfl
        refine obls_cons (fun f w' hR hH Q hQ => ?_) ?_
        · skip
          obtain ⟨h0, h1, -⟩ := hH
          simp only [view, List.foldl, Act.put, List.setIfInBounds_toArray, List.set_cons_zero, List.set_cons_succ]
          rw [show f 0 = _ from h0]
          rw [show f 1 = _ from h1]
          clear h0 h1
          repeat (first | go_guarded | go_step)
          exact hQ _ _ (Grow.refl _) rfl rfl
        refine obls_cons (fun f w' hR hH Q hQ => ?_) ?_
        · skip
          obtain ⟨h2, -⟩ := hH
          simp only [view, List.foldl, Act.put, List.setIfInBounds_toArray, List.set_cons_zero, List.set_cons_succ]
          rw [show f 2 = _ from h2]
          clear h2
          have hcs := conv_str (P := Tryd.prog) Tryd.underlying25 Tryd.underlying5 Tryd.underlying9 (HBD.out.grow hR) (c - k)
          go_wp2_with fail
          exact hQ _ _ (Grow.refl _) rfl rfl
        refine obls_cons (fun f w' hR hH Q hQ => ?_) ?_
        · skip
          simp only [view, List.foldl]
          repeat (first | go_guarded | go_step)
          exact hQ _ _ (Grow.refl _) rfl rfl
        refine obls_cons (fun f w' hR hH Q hQ => ?_) ?_
        · skip
          simp only [view, List.foldl]
          repeat (first | go_guarded | go_step)
          exact hQ _ _ (Grow.refl _) rfl rfl
        refine obls_cons (fun f w' hR hH Q hQ => ?_) ?_
        · skip
          obtain ⟨h4, h5, -⟩ := hH
          simp only [view, List.foldl, Act.put, List.setIfInBounds_toArray, List.set_cons_zero, List.set_cons_succ]
          rw [show f 4 = _ from h4]
          rw [show f 5 = _ from h5]
          clear h4 h5
          repeat (first | go_guarded | go_step)
          exact hQ _ _ (Grow.refl _) rfl rfl
        refine obls_cons (fun f w' hR hH Q hQ => ?_) ?_
        · skip
          obtain ⟨h6, -⟩ := hH
          simp only [view, List.foldl, Act.put, List.setIfInBounds_toArray, List.set_cons_zero, List.set_cons_succ]
          rw [show f 6 = _ from h6]
          clear h6
          go_wp2_with (go_at_call 17; refine (HMO.out _ _ _ _ (HBT.out.grow hR) (by unfold maxLen; omega)).mono ?_; rintro e w1 ⟨rfl, rfl⟩)
          exact hQ _ _ (Grow.refl _) rfl rfl
        refine obls_cons (fun f w' hR hH Q hQ => ?_) ?_
        · skip
          obtain ⟨h7, -⟩ := hH
          simp only [view, List.foldl, Act.put, List.setIfInBounds_toArray, List.set_cons_zero, List.set_cons_succ]
          rw [show f 7 = _ from h7]
          clear h7
          go_wp2_with (go_at_call 35; refine (four_any S w').mono ?_; rintro e w1 ⟨g1, rfl, hf1, hg1⟩)
          exact hQ _ _ hg1 ⟨_, rfl, hf1⟩ rfl
        refine obls_cons (fun f w' hR hH Q hQ => ?_) ?_
        · skip
          obtain ⟨h8, -⟩ := hH
          simp only [view, List.foldl, Act.put, List.setIfInBounds_toArray, List.set_cons_zero, List.set_cons_succ]
          generalize f 8 = u8 at h8 ⊢
          replace h8 : (IsFour S) u8 w' := h8
          obtain ⟨g1, rfl, hf1⟩ := h8
          have hcs := conv_str (P := Tryd.prog) Tryd.underlying25 Tryd.underlying5 Tryd.underlying9 hf1 4
          go_wp2_with fail
          exact hQ _ _ (Grow.refl _) rfl rfl
        refine obls_cons (fun f w' hR hH Q hQ => ?_) ?_
        · skip
          obtain ⟨h3, h9, -⟩ := hH
          simp only [view, List.foldl, Act.put, List.setIfInBounds_toArray, List.set_cons_zero, List.set_cons_succ]
          rw [show f 3 = _ from h3]
          rw [show f 9 = _ from h9]
          clear h3 h9
          repeat (first | go_guarded | go_step)
          exact hQ _ _ (Grow.refl _) rfl rfl
        exact obls_nil
      case mono => exact ⟨Mono.veq _, Mono.veq _, Mono.veq _, Mono.veq _, Mono.veq _, Mono.veq _, Mono.veq _, Mono.veq _, IsFour.mono, Mono.veq _, Mono.veq _, trivial⟩
      case tail =>
        intro f w' hR hH
        simp only [view, List.zipIdx, List.foldl, Act.put, List.setIfInBounds_toArray, List.set_cons_zero, List.set_cons_succ, List.drop_succ_cons, List.drop_zero]
        obtain ⟨-, -, -, -, -, -, -, -, -, -, q10, -⟩ := hH
        rw [show f 10 = _ from q10]
        clear q10
        generalize f 0 = x0
        generalize f 1 = x1
        generalize f 2 = x2
        generalize f 3 = x3
        generalize f 4 = x4
        generalize f 5 = x5
        generalize f 6 = x6
        generalize f 7 = x7
        generalize f 8 = x8
        generalize f 9 = x9
        have HR := Lib.hid hR
        have hsz : w.heap.size ≤ w'.heap.size := hR.size
        have HBT2 := Lib.hid (HBT.out.grow hR)
        clear hR
        go_wp2_with (at_builtin; refine append_bytes Tryd.underlying25 i8 i8z i8s i8b rfl _ _ rfl w.heap.size _ 0 [] (own_none w' _ _) rfl A k c t HBT2.out rfl ?_ ?_ ?_; omega; exact hsz; intro v3 w3 hown3 hgb3 hh3; obtain ⟨A3, c3, rfl, -, -, -⟩ := own_form hown3)
        go_ret2
        rw [Nat.zero_add, List.nil_append] at hown3
        rw [HOE.out]
        exact ⟨_, rfl, by show World.ownsRow _ _ _ _ _ t.length _; rw [HKL.out]; exact hown3, grow_by HR.out hgb3 (own_base (own_none w' w.heap.size 5))⟩
    · have el : ∀ l, (str l).toList = l := fun l => ByteArray.toList_mk l
      have t1 : ((str d).toList == (str (four8 S)).toList) = false := beq_false_of_ne (fun h => hJS (hfo.2 (by rw [el, el] at h; exact h)))
      clear el
      have hoe : open8 l = ([], 5) := by rw [ho, if_neg hJS]
      have HOE := Lib.hid hoe
      clear hlen hk e4 hS hJ ho hdl hD hd hbt hfo hmo htt hkl hoe hbd hJS
      go_enter Tryd.func22, Tryd.ntmps22
      go_wp2_with fail
      apply (fun (v0 v1 v2 v3 v4 v5 v6 v7 v9 v10 : Value) mono obl tail => wp_region_par (R := Grow) (Φ := phi [veq v0, veq v1, veq v2, veq v3, veq v4, veq v5, veq v6, veq v7, (IsFour S), veq v9, veq v10]) (m := 11) (dls := [[], [], [(12, 0), (13, 1)], [(14, 2)], [], [], [(16, 4), (17, 5)], [(18, 6)], [(19, 7)], [(20, 8)], [(15, 3), (21, 9)]]) (ds := [12, 13, 14, 15, 16, 17, 18, 19, 20, 21, 22]) (by kernel_rfl) (by kernel_rfl) (by decide) rfl (Grow.drew _) (fun _ _ _ => Grow.trans) (mono_phi mono) obl tail)
      case obl =>
        refine obls_cons (fun f w' hR hH Q hQ => ?_) ?_
        · skip
          simp only [view, List.foldl]
          repeat (first | go_guarded | go_step)
          exact hQ _ _ (Grow.refl _) rfl rfl
        refine obls_cons (fun f w' hR hH Q hQ => ?_) ?_
        · skip
          simp only [view, List.foldl]
          repeat (first | go_guarded | go_step)
          exact hQ _ _ (Grow.refl _) rfl rfl
        refine obls_cons (fun f w' hR hH Q hQ => ?_) ?_
        · skip
          obtain ⟨h0, h1, -⟩ := hH
          simp only [view, List.foldl, Act.put, List.setIfInBounds_toArray, List.set_cons_zero, List.set_cons_succ]
          rw [show f 0 = _ from h0]
          rw [show f 1 = _ from h1]
          clear h0 h1
          repeat (first | go_guarded | go_step)
          exact hQ _ _ (Grow.refl _) rfl rfl
        refine obls_cons (fun f w' hR hH Q hQ => ?_) ?_
        · skip
          obtain ⟨h2, -⟩ := hH
          simp only [view, List.foldl, Act.put, List.setIfInBounds_toArray, List.set_cons_zero, List.set_cons_succ]
          rw [show f 2 = _ from h2]
          clear h2
          have hcs := conv_str (P := Tryd.prog) Tryd.underlying25 Tryd.underlying5 Tryd.underlying9 (HBD.out.grow hR) (c - k)
          go_wp2_with fail
          exact hQ _ _ (Grow.refl _) rfl rfl
        refine obls_cons (fun f w' hR hH Q hQ => ?_) ?_
        · skip
          simp only [view, List.foldl]
          repeat (first | go_guarded | go_step)
          exact hQ _ _ (Grow.refl _) rfl rfl
        refine obls_cons (fun f w' hR hH Q hQ => ?_) ?_
        · skip
          simp only [view, List.foldl]
          repeat (first | go_guarded | go_step)
          exact hQ _ _ (Grow.refl _) rfl rfl
        refine obls_cons (fun f w' hR hH Q hQ => ?_) ?_
        · skip
          obtain ⟨h4, h5, -⟩ := hH
          simp only [view, List.foldl, Act.put, List.setIfInBounds_toArray, List.set_cons_zero, List.set_cons_succ]
          rw [show f 4 = _ from h4]
          rw [show f 5 = _ from h5]
          clear h4 h5
          repeat (first | go_guarded | go_step)
          exact hQ _ _ (Grow.refl _) rfl rfl
        refine obls_cons (fun f w' hR hH Q hQ => ?_) ?_
        · skip
          obtain ⟨h6, -⟩ := hH
          simp only [view, List.foldl, Act.put, List.setIfInBounds_toArray, List.set_cons_zero, List.set_cons_succ]
          rw [show f 6 = _ from h6]
          clear h6
          go_wp2_with (go_at_call 17; refine (HMO.out _ _ _ _ (HBT.out.grow hR) (by unfold maxLen; omega)).mono ?_; rintro e w1 ⟨rfl, rfl⟩)
          exact hQ _ _ (Grow.refl _) rfl rfl
        refine obls_cons (fun f w' hR hH Q hQ => ?_) ?_
        · skip
          obtain ⟨h7, -⟩ := hH
          simp only [view, List.foldl, Act.put, List.setIfInBounds_toArray, List.set_cons_zero, List.set_cons_succ]
          rw [show f 7 = _ from h7]
          clear h7
          go_wp2_with (go_at_call 35; refine (four_any S w').mono ?_; rintro e w1 ⟨g1, rfl, hf1, hg1⟩)
          exact hQ _ _ hg1 ⟨_, rfl, hf1⟩ rfl
        refine obls_cons (fun f w' hR hH Q hQ => ?_) ?_
        · skip
          obtain ⟨h8, -⟩ := hH
          simp only [view, List.foldl, Act.put, List.setIfInBounds_toArray, List.set_cons_zero, List.set_cons_succ]
          generalize f 8 = u8 at h8 ⊢
          replace h8 : (IsFour S) u8 w' := h8
          obtain ⟨g1, rfl, hf1⟩ := h8
          have hcs := conv_str (P := Tryd.prog) Tryd.underlying25 Tryd.underlying5 Tryd.underlying9 hf1 4
          go_wp2_with fail
          exact hQ _ _ (Grow.refl _) rfl rfl
        refine obls_cons (fun f w' hR hH Q hQ => ?_) ?_
        · skip
          obtain ⟨h3, h9, -⟩ := hH
          simp only [view, List.foldl, Act.put, List.setIfInBounds_toArray, List.set_cons_zero, List.set_cons_succ]
          rw [show f 3 = _ from h3]
          rw [show f 9 = _ from h9]
          clear h3 h9
          repeat (first | go_guarded | go_step)
          exact hQ _ _ (Grow.refl _) rfl rfl
        exact obls_nil
      case mono => exact ⟨Mono.veq _, Mono.veq _, Mono.veq _, Mono.veq _, Mono.veq _, Mono.veq _, Mono.veq _, Mono.veq _, IsFour.mono, Mono.veq _, Mono.veq _, trivial⟩
      case tail =>
        intro f w' hR hH
        simp only [view, List.zipIdx, List.foldl, Act.put, List.setIfInBounds_toArray, List.set_cons_zero, List.set_cons_succ, List.drop_succ_cons, List.drop_zero]
        obtain ⟨-, -, -, -, -, -, -, -, -, -, q10, -⟩ := hH
        rw [show f 10 = _ from q10]
        clear q10
        generalize f 0 = x0
        generalize f 1 = x1
        generalize f 2 = x2
        generalize f 3 = x3
        generalize f 4 = x4
        generalize f 5 = x5
        generalize f 6 = x6
        generalize f 7 = x7
        generalize f 8 = x8
        generalize f 9 = x9
        have HR := Lib.hid hR
        clear hR
        go_wp2_with fail
        go_ret2
        rw [HOE.out]
        exact ⟨_, rfl, own_none _ _ _, HR.out⟩
end Go.Proofs.YtmkbkophpmkcbaaDoor.slW
