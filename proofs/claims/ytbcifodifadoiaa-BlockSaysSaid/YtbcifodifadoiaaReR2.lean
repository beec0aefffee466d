/- The walk of the document's Of. -/
import Derived.Test.YtbcifodifadoiaaReR
import Derived.Test.YtbcifodifadoiaaCut
namespace Go.Proofs.Ytbcifodifadoiaa.reW
open Go Go.RowKit Go.Par Go.Kit Go.Proofs.Ytbcifodifadoiaa.Mk Go.Proofs.Ytbcifodifadoiaa.mkW Go.Proofs.Ytbcifodifadoiaa.Re Go.Proofs.Ytbcifodifadoiaa.mkR Go.Proofs.Ytbcifodifadoiaa.mkL

theorem info2 : (Try.prog.info? T2).isSome = true := by kernel_rfl
theorem i2 : Try.prog.info? T2 = some ((Try.prog.info? T2).get info2) := by simp
theorem i2s : ((Try.prog.info? T2).get info2).size = 2 := by kernel_rfl
theorem i2z : ((Try.prog.info? T2).get info2).zero = some (.agg #[.int .i64 0, .int .i64 0]) := by kernel_rfl
theorem i2b : ((Try.prog.info? T2).get info2).bytes = 16 := by kernel_rfl
def npair (p : Nat × Nat) : List Value := [.int .i64 (p.1 : Int), .int .i64 (p.2 : Int)]
/-- the cells of steps -/
def steps (L : List (Nat × Nat)) : List Value := (L.map npair).flatten
/-- the document's relation, as a value -/
def RefV (w : World) (v : Value) (L : List (Nat × Nat)) : Prop := ∃ A c, v = .slice A L.length c ∧ L.length ≤ c ∧ c ≤ maxLen ∧ Recs 2 npair w A L.length L
theorem RefV.grow {w w' : World} {v : Value} {L : List (Nat × Nat)} (h : RefV w v L) (hg : Grow w w') : RefV w' v L :=
  let ⟨A, c, e, h1, h2, h3⟩ := h; ⟨A, c, e, h1, h2, h3.grow hg⟩
theorem RefV.own {w : World} {base : Nat} {v : Value} {L : List (Nat × Nat)} (h : w.ownsRow base T2 2 v L.length (steps L)) : RefV w v L := by
  obtain ⟨A, c, e, h1, h2, h3⟩ := own_form h
  exact ⟨A, c, e, h1, h2, rfl, fun _ => rfl, h3⟩
theorem steps_snoc (L : List (Nat × Nat)) (p : Nat × Nat) : steps L ++ npair p = steps (L ++ [p]) := by simp [steps]
theorem own_blk2 {w : World} {base : Nat} {v : Value} {n : Nat} {xs : List Value} (h : w.ownsRow base T2 2 v n xs) {k : Nat} (hk : v.ownBlock = some k) : ∃ cs, Blk w k T2 cs := by
  rcases h.2 with ⟨e, -⟩ | ⟨g', cap, cur, e, -, h5, -⟩
  · rw [e] at hk; cases hk
  · rw [e] at hk
    injection hk with hk
    subst hk
    exact ⟨cur.toList, by unfold Blk; rw [h5]⟩
/-- what the walk keeps -/
structure RF (w0 : World) (b0 n : Nat) (L : List (Nat × Nat)) (v : Value) (w : World) : Prop where
  g : Grow w0 w
  b4 : Blk w b0 TX8 [.int .i64 0, .slice none 0 0]
  b5 : Blk w (b0 + 1) TX8 [.int .i64 (n : Int), v]
  own : w.ownsRow w0.heap.size T2 2 v L.length (steps L)
section
variable {w0 w w' : World} {b0 n : Nat} {L : List (Nat × Nat)} {v : Value}
theorem RF.grow (h : RF w0 b0 n L v w) (hg : Grow w w') : RF w0 b0 n L v w' := ⟨h.g.trans hg, h.b4.grow hg, h.b5.grow hg, own_grow h.own hg⟩
/-- appended, not stored yet -/
structure RG (w0 : World) (b0 n : Nat) (L : List (Nat × Nat)) (v v1 : Value) (w : World) : Prop where
  g : Grow w0 w
  b4 : Blk w b0 TX8 [.int .i64 0, .slice none 0 0]
  b5 : Blk w (b0 + 1) TX8 [.int .i64 (n : Int), v]
  own : w.ownsRow w0.heap.size T2 2 v1 L.length (steps L)
theorem RF.app {L' : List (Nat × Nat)} {v1 : Value} (h : RF w0 b0 n L v w) (hgb : w.grownBy w' v.ownBlock) (ho : w'.ownsRow w0.heap.size T2 2 v1 L'.length (steps L')) : RG w0 b0 n L' v v1 w' := by
  have hK : Keep w0.heap.size (fun j => v.ownBlock ≠ some j) w w' := Keep.by_ (Keep.refl w) h.g.size hgb (fun k hk => ⟨(h.own.lt k hk).1, fun h => h hk⟩)
  have nb : ∀ {j : Nat} {t : TypeId} {cs : List Value}, Blk w j t cs → t ≠ T2 → v.ownBlock ≠ some j := fun hb ht e => by
    obtain ⟨cs, hb2⟩ := own_blk2 h.own e
    exact ht (Blk.ty_eq hb hb2)
  exact ⟨hK.grow h.g rfl, hK.blk h.b4 (nb h.b4 (by decide)), hK.blk h.b5 (nb h.b5 (by decide)), ho⟩
theorem RG.grow {v1 : Value} (h : RG w0 b0 n L v v1 w) (hg : Grow w w') : RG w0 b0 n L v v1 w' := ⟨h.g.trans hg, h.b4.grow hg, h.b5.grow hg, own_grow h.own hg⟩
theorem RG.put {v1 : Value} (h : RG w0 b0 n L v v1 w) (hb : w0.heap.size ≤ b0) : RF w0 b0 n L v1 (w.setCell ⟨b0 + 1, 1, none⟩ v1) := by
  refine ⟨Grow.set_ h.g (p := ⟨b0 + 1, 1, none⟩) (by show w0.heap.size ≤ b0 + 1; omega) v1, h.b4.far (p := ⟨b0 + 1, 1, none⟩) (by show b0 ≠ b0 + 1; omega) v1, h.b5.set_ 1 v1, own_far h.own _ _ fun k hk e => ?_⟩
  obtain ⟨cs, hb2⟩ := own_blk2 h.own hk
  have e : k = b0 + 1 := e
  subst e
  exact absurd (Blk.ty_eq h.b5 hb2) (by decide)
end
/-- one step, in a block of its own -/
def NewS (a b : Nat) : Value → World → Prop := fun u w => ∃ g, u = .slice (some ⟨g, 0, none⟩) 1 1 ∧ Row w (some ⟨g, 0, none⟩) (1 * 2) (npair (a, b))
theorem NewS.mono {a b : Nat} : Mono Grow (NewS a b) := fun _ _ _ ⟨g, e, h⟩ hg => ⟨g, e, h.grow hg⟩
theorem NewS.mk {a b : Nat} {w : World} {g : Nat} (hg : g = w.heap.size) : NewS a b (.slice (some ⟨g, 0, none⟩) 1 1) (w.alloc (.cells #[.int .i64 (a : Int), .int .i64 (b : Int)] T2)) := by
  subst hg
  exact ⟨_, rfl, Row.new w (npair (a, b)) T2 (0, 0)⟩
/-- a slice of own steps -/
def IsOwn (base : Nat) (L : List (Nat × Nat)) : Value → World → Prop := fun u w => w.ownsRow base T2 2 u L.length (steps L)
theorem IsOwn.mono {base : Nat} {L : List (Nat × Nat)} : Mono Grow (IsOwn base L) := fun _ _ _ h hg => own_grow h hg
set_option maxRecDepth 100000 in
set_option maxHeartbeats 4000000 in
theorem ref_of (w : World) (n0 : Int) (A : Option Addr) (len c : Nat) (xs : List (Int × Int)) (hr : Recs 2 prow w A len xs) (hlen : len ≤ 1000000) :
    Calls Try.prog 9 #[.int .i64 n0, .slice A len c] w fun e w' => ∃ v, e = .returned (.agg #[.int .i64 (clampN n0 : Int), v]) ∧ RefV w' v (vp (clampN n0) xs) ∧ Grow w w' := by
  obtain ⟨n, hn⟩ : ∃ n, n = clampN n0 := ⟨_, rfl⟩
  rw [← hn]
  unfold clampN at hn
  have HR := Lib.hid hr
  have HXL := Lib.hid hr.1
  obtain ⟨b0, hb0⟩ : ∃ b, b = w.heap.size := ⟨_, rfl⟩
  obtain ⟨W0, hW0⟩ : ∃ W, W = w.alloc (.cells #[.int .i64 0, .slice none 0 0] TX8) := ⟨_, rfl⟩
  obtain ⟨W1, hW1⟩ : ∃ W, W = W0.alloc (.cells #[.int .i64 (n : Int), .slice none 0 0] TX8) := ⟨_, rfl⟩
  have HRF : Hid (RF w b0 n [] (.slice none 0 0) W1) := Lib.hid
    ⟨by rw [hW1, hW0]; exact (Grow.alloc _ _).trans (Grow.alloc _ _), by rw [hW1, hW0]; exact (Blk.new w _ _ _ rfl hb0).grow (Grow.alloc _ _), by rw [hW1, hW0]; exact Blk.new _ _ _ _ rfl (by simp [hb0]), World.ownsRow_nil _ _ _ _⟩
  have HB : Hid (w.heap.size ≤ b0) := Lib.hid (by omega)
  have HW0 := Lib.hid hW0
  have HW1 := Lib.hid hW1
  have HB0 := Lib.hid hb0
  have HS : Hid (W0.heap.size = b0 + 1) := Lib.hid (by rw [hW0, hb0]; simp)
  obtain ⟨m0, hm0⟩ : ∃ m, m = max n0 0 := ⟨_, rfl⟩
  have HM0 := Lib.hid hm0
  have hn2 : (n : Int) = min m0 65536 := by rw [hm0]; omega
  have HN2 := Lib.hid hn2
  have HNL : Hid (n ≤ 65536) := Lib.hid (by omega)
  clear hr hW0 hW1 hb0 hm0 hn hn2
  go_enter Try.func9, Try.ntmps9
  repeat (first | with_reducible (refine wp_cond_cut (k := 8) ?_) | go_values | go_guarded | go_step | go_upon | go_back)
  refine wp_cut [some 0, none, none, none, none, none, none, none, none, none, none, none, none, none, none, none, none, none, none, none, none, none, none, none, none, none, none, none, none, none, none, none, none, none, none, none, none, none, none, none, none, none, none, none, none, none, none, none, none, none, none, none, none, none, none, none, none, none, none, none, none] (AtI 0 m0 W0) ?cutA ?cutB
  case cutB =>
    intro f w' A hA hJ
    replace hA : A = ⟨#[f 0, _, _, _, _, _, _, _, _, _, _, _, _, _, _, _, _, _, _, _, _, _, _, _, _, _, _, _, _, _, _, _, _, _, _, _, _, _, _, _, _, _, _, _, _, _, _, _, _, _, _, _, _, _, _, _, _, _, _, _, _], _⟩ := hA
    subst hA
    obtain ⟨e0, rfl⟩ := hJ
    rw [e0]
    clear e0
    repeat (first | with_reducible (refine wp_cond_cut (k := 10) ?_) | go_values | go_guarded | go_step | go_upon | go_back)
    refine wp_cut [some 0, none, none, none, none, none, none, none, none, none, none, none, none, none, none, none, none, none, none, none, none, none, none, none, none, none, none, none, none, none, none, none, none, none, none, none, none, none, none, none, none, none, none, none, none, none, none, none, none, none, none, none, none, none, none, none, none, none, none, none, none] (AtI 0 n w') ?cutA2 ?cutB2
    case cutB2 =>
      intro f w' A hA hJ
      replace hA : A = ⟨#[f 0, _, _, _, _, _, _, _, _, _, _, _, _, _, _, _, _, _, _, _, _, _, _, _, _, _, _, _, _, _, _, _, _, _, _, _, _, _, _, _, _, _, _, _, _, _, _, _, _, _, _, _, _, _, _, _, _, _, _, _, _], _⟩ := hA
      subst hA
      obtain ⟨e0, e1⟩ := hJ
      subst e1
      rw [e0]
      clear e0
      go_wp2_with fail
      rw [← HW1.out, HS.out, ← HB0.out]
      go_loopw [6] (fun i' wr => ∃ (k : Nat) (v : Value), k ≤ len ∧ i' = .int .i64 (k : Int) ∧ RF w b0 n (vp n (xs.take k)) v wr) (fun i' _ => len - (intOf i').toNat)
      case atStart => exact ⟨0, _, by omega, rfl, by rw [List.take_zero]; exact HRF.out⟩
      case round =>
        obtain ⟨k, v, hkl, rfl, rf⟩ := hrel
        by_cases hlt : k < len
        · obtain ⟨b, off, x, rfl, hx, hcell⟩ := HR.out.at_ (by decide) hlt
          obtain ⟨x1, x2⟩ := x
          have HXK := Lib.hid hx
          have HQ0 := Lib.hid (hcell 0 (.int .i64 x1) rfl)
          have HQ1 := Lib.hid (hcell 1 (.int .i64 x2) rfl)
          obtain ⟨Lk, hLk⟩ : ∃ Lk, Lk = vp n (xs.take k) := ⟨_, rfl⟩
          rw [← hLk] at rf
          have HLK := Lib.hid hLk
          have HRF1 := Lib.hid rf
          have q0 := rf.g.cell HQ0.out
          have q1 := rf.g.cell HQ1.out
          rw [Nat.add_zero] at q0
          obtain ⟨c1, hc1⟩ : ∃ f, f = decide (0 ≤ x1) := ⟨_, rfl⟩
          obtain ⟨c2, hc2⟩ : ∃ f, f = decide (x1 < (n : Int)) := ⟨_, rfl⟩
          obtain ⟨c3, hc3⟩ : ∃ f, f = decide (0 ≤ x2) := ⟨_, rfl⟩
          obtain ⟨c4, hc4⟩ : ∃ f, f = decide (x2 < (n : Int)) := ⟨_, rfl⟩
          have t1 := hc1.symm
          have t2 := hc2.symm
          have t3 := hc3.symm
          have t4 := hc4.symm
          have HV : Hid (valid n (x1, x2) = ((c1 && c2) && (c3 && c4))) := Lib.hid (by unfold valid; rw [t1, t2, t3, t4])
          clear hx hcell rf hLk hc1 hc2 hc3 hc4
          cases c1
          · go_wp2_with fail
            go_roundw
            case rel => exact ⟨k + 1, _, by omega, by go_num, by rw [vp_no HXK.out (by rw [HV.out]; rfl), ← HLK.out]; exact HRF1.out⟩
            case measure => simp [intOf] <;> omega
          · cases c2
            · go_wp2_with fail
              go_roundw
              case rel => exact ⟨k + 1, _, by omega, by go_num, by rw [vp_no HXK.out (by rw [HV.out]; rfl), ← HLK.out]; exact HRF1.out⟩
              case measure => simp [intOf] <;> omega
            · cases c3
              · go_wp2_with fail
                go_roundw
                case rel => exact ⟨k + 1, _, by omega, by go_num, by rw [vp_no HXK.out (by rw [HV.out]; rfl), ← HLK.out]; exact HRF1.out⟩
                case measure => simp [intOf] <;> omega
              · cases c4
                · go_wp2_with fail
                  go_roundw
                  case rel => exact ⟨k + 1, _, by omega, by go_num, by rw [vp_no HXK.out (by rw [HV.out]; rfl), ← HLK.out]; exact HRF1.out⟩
                  case measure => simp [intOf] <;> omega
                · obtain ⟨a, rfl⟩ := Int.eq_ofNat_of_zero_le (of_decide_eq_true t1)
                  obtain ⟨b', rfl⟩ := Int.eq_ofNat_of_zero_le (of_decide_eq_true t3)
                  have u2 : decide (a < n) = true := decide_eq_true (by have := of_decide_eq_true t2; omega)
                  have u4 : decide (b' < n) = true := decide_eq_true (by have := of_decide_eq_true t4; omega)
                  have HLL : Hid (Lk.length ≤ k) := Lib.hid (by
                    rw [HLK.out]
                    unfold vp
                    rw [List.length_map]
                    exact Nat.le_trans (List.length_filter_le _ _) (by rw [List.length_take]; exact Nat.min_le_left _ _))
                  go_wp2_with fail
                  clear q0 q1
                  apply (fun (v0 v1 v2 v3 v4 v5 v8 : Value) mono draw obl tail => wp_region_piv (I := two (Grow wr) (fun w1 => ∃ v1, RG w b0 n (Lk ++ [(a, b')]) v v1 w1)) (G := Grow) (Rp := (fun _ _ _ => True)) (Φ := phi2 [veq2 v0, veq2 v1, veq2 v2, veq2 v3, veq2 v4, veq2 v5, (from2 0 (NewS a b')), (from2 1 (IsOwn w.heap.size (Lk ++ [(a, b')]))), veq2 v8]) (m := 9) (ps := [7]) (qs := [(0, 0, false), (0, 0, false), (0, 0, false), (0, 0, false), (0, 0, false), (0, 0, false), (0, 0, false), (0, 0, true), (1, 1, false)]) (dls := [[], [(51, 0)], [], [], [(53, 2), (54, 3)], [(55, 4)], [(56, 5)], [(52, 1), (57, 6)], []]) (ds := [51, 52, 53, 54, 55, 56, 57, 58, 59]) (by kernel_rfl) (by kernel_rfl) (by kernel_rfl) (by decide) rfl rfl draw (mono2_phi mono) (piv2_phi mono) obl tail)
                  case obl =>
                    refine obls2_cons (fun b hb1 hb2 f w' hI hH Q hQ => ?_) ?_
                    · skip
                      obtain rfl : b = 0 := by omega
                      clear hb1 hb2
                      clear hH
                      refine wpList_view ?_; show wpList _ _ _ [_] ⟨#[_, _, _, _, _, _, _, _, _, _, _, _, _, _, _, _, _, _, _, _, _, _, _, _, _, _, _, _, _, _, _, _, _, _, _, _, _, _, _, _, _, _, _, _, _, _, _, _, _, _, _, _, _, _, _, _, _, _, _, _, _], _⟩ _
                      repeat (first | go_guarded | go_step)
                      exact hQ _ _ hI (Grow.refl _) rfl rfl
                    refine obls2_cons (fun b hb1 hb2 f w' hI hH Q hQ => ?_) ?_
                    · skip
                      obtain rfl : b = 0 := by omega
                      clear hb1 hb2
                      have h0 := hH.get 0 (51, 0) rfl
                      clear hH
                      refine wpList_view ?_; show wpList _ _ _ [_] ⟨#[_, _, _, _, _, _, _, _, _, _, _, _, _, _, _, _, _, _, _, _, _, _, _, _, _, _, _, _, _, _, _, _, _, _, _, _, _, _, _, _, _, _, _, _, _, _, _, _, _, _, _, f 0, _, _, _, _, _, _, _, _, _], _⟩ _
                      rw [show f 0 = _ from h0]
                      clear h0
                      have y0 := (HRF1.out.b5.grow hI.get0).cell (i := 1) rfl
                      repeat (first | go_guarded | go_step)
                      exact hQ _ _ hI (Grow.refl _) rfl rfl
                    refine obls2_cons (fun b hb1 hb2 f w' hI hH Q hQ => ?_) ?_
                    · skip
                      obtain rfl : b = 0 := by omega
                      clear hb1 hb2
                      clear hH
                      refine wpList_view ?_; show wpList _ _ _ [_] ⟨#[_, _, _, _, _, _, _, _, _, _, _, _, _, _, _, _, _, _, _, _, _, _, _, _, _, _, _, _, _, _, _, _, _, _, _, _, _, _, _, _, _, _, _, _, _, _, _, _, _, _, _, _, _, _, _, _, _, _, _, _, _], _⟩ _
                      repeat (first | go_guarded | go_step)
                      exact hQ _ _ hI (Grow.refl _) rfl rfl
                    refine obls2_cons (fun b hb1 hb2 f w' hI hH Q hQ => ?_) ?_
                    · skip
                      obtain rfl : b = 0 := by omega
                      clear hb1 hb2
                      clear hH
                      refine wpList_view ?_; show wpList _ _ _ [_] ⟨#[_, _, _, _, _, _, _, _, _, _, _, _, _, _, _, _, _, _, _, _, _, _, _, _, _, _, _, _, _, _, _, _, _, _, _, _, _, _, _, _, _, _, _, _, _, _, _, _, _, _, _, _, _, _, _, _, _, _, _, _, _], _⟩ _
                      repeat (first | go_guarded | go_step)
                      exact hQ _ _ hI (Grow.refl _) rfl rfl
                    refine obls2_cons (fun b hb1 hb2 f w' hI hH Q hQ => ?_) ?_
                    · skip
                      obtain rfl : b = 0 := by omega
                      clear hb1 hb2
                      have h2 := hH.get 0 (53, 2) rfl
                      have h3 := hH.get 1 (54, 3) rfl
                      clear hH
                      refine wpList_view ?_; show wpList _ _ _ [_] ⟨#[_, _, _, _, _, _, _, _, _, _, _, _, _, _, _, _, _, _, _, _, _, _, _, _, _, _, _, _, _, _, _, _, _, _, _, _, _, _, _, _, _, _, _, _, _, _, _, _, _, _, _, _, _, f 2, f 3, _, _, _, _, _, _], _⟩ _
                      rw [show f 2 = _ from h2]
                      rw [show f 3 = _ from h3]
                      clear h2 h3
                      repeat (first | go_guarded | go_step)
                      exact hQ _ _ hI (Grow.refl _) rfl rfl
                    refine obls2_cons (fun b hb1 hb2 f w' hI hH Q hQ => ?_) ?_
                    · skip
                      obtain rfl : b = 0 := by omega
                      clear hb1 hb2
                      have h4 := hH.get 0 (55, 4) rfl
                      clear hH
                      refine wpList_view ?_; show wpList _ _ _ [_] ⟨#[_, _, _, _, _, _, _, _, _, _, _, _, _, _, _, _, _, _, _, _, _, _, _, _, _, _, _, _, _, _, _, _, _, _, _, _, _, _, _, _, _, _, _, _, _, _, _, _, _, _, _, _, _, _, _, f 4, _, _, _, _, _], _⟩ _
                      rw [show f 4 = _ from h4]
                      clear h4
                      have HIg := Lib.hid hI
                      have hc : ∀ j v, [Value.int .i64 (a : Int), Value.int .i64 (b' : Int)][j]? = some v → w'.cell? ⟨b, off + k * 2 + j, none⟩ = some v := fun j v hv => (HRF1.out.g.trans hI.get0).cell (by
                        match j, hv with
                        | 0, hv => obtain rfl := Option.some.inj hv; exact HQ0.out
                        | 1, hv => obtain rfl := Option.some.inj hv; exact HQ1.out
                        | j + 2, hv => simp at hv)
                      clear hI
                      go_wp2_with (refine load_cells rfl _ _ rfl b (off + k * 2) rfl [.int .i64 (a : Int), .int .i64 (b' : Int)] _ hc und2 rfl (by rw [size2]; rfl) ?_)
                      exact hQ _ _ HIg.out (Grow.refl _) rfl rfl
                    refine obls2_cons (fun b hb1 hb2 f w' hI hH Q hQ => ?_) ?_
                    · skip
                      obtain rfl : b = 0 := by omega
                      clear hb1 hb2
                      have h5 := hH.get 0 (56, 5) rfl
                      clear hH
                      refine wpList_view ?_; show wpList _ _ _ [_] ⟨#[_, _, _, _, _, _, _, _, _, _, _, _, _, _, _, _, _, _, _, _, _, _, _, _, _, _, _, _, _, _, _, _, _, _, _, _, _, _, _, _, _, _, _, _, _, _, _, _, _, _, _, _, _, _, _, _, f 5, _, _, _, _], _⟩ _
                      rw [show f 5 = _ from h5]
                      clear h5
                      have HIg := Lib.hid hI
                      clear hI
                      go_wp2_with fail
                      exact hQ _ _ (two.zero (HIg.out.get0.trans (Grow.alloc _ _))) (Grow.alloc _ _) (from2.mk (NewS.mk rfl)) rfl
                    refine oblsP_cons (fun f w' hI hH Q hQ => ?_) ?_
                    · skip
                      have h1 := hH.get 0 (52, 1) rfl
                      have h6 := hH.get 1 (57, 6) rfl
                      clear hH
                      refine wpList_view ?_; show wpList _ _ _ [_] ⟨#[_, _, _, _, _, _, _, _, _, _, _, _, _, _, _, _, _, _, _, _, _, _, _, _, _, _, _, _, _, _, _, _, _, _, _, _, _, _, _, _, _, _, _, _, _, _, _, _, _, _, _, _, f 1, _, _, _, _, f 6, _, _, _], _⟩ _
                      rw [show f 1 = _ from h1]
                      replace h6 : (from2 0 (NewS a b')) (f 6) 0 w' := h6
                      obtain ⟨u6, hu6⟩ : ∃ u, u = f 6 := ⟨_, rfl⟩
                      rw [← hu6]
                      rw [← hu6] at h6
                      have HU6 : Hid (f 6 = u6) := Lib.hid hu6.symm
                      clear hu6
                      clear h1
                      obtain ⟨gs, rfl, hrow⟩ := h6.get
                      have HG := Lib.hid hI.get0
                      have HLLo := HLL.out
                      have hown := own_grow HRF1.out.own hI.get0
                      refine wpList_append_row rfl _ _ _ rfl w.heap.size T2 _ _ 2 16 Try.underlying22 i2 i2z i2s i2b rfl (by decide) v Lk.length (steps Lk) rfl hown (some ⟨gs, 0, none⟩) 1 1 (npair (a, b')) rfl hrow (by simp [npair, Value.oneCell']) (by unfold maxLen; omega) (by omega) (Nat.le_trans HRF1.out.g.size HG.out.size) ?_
                      intro v1 w1 hown1 hgb1 _
                      have e1 : w1.ownsRow w.heap.size T2 2 v1 (Lk ++ [(a, b')]).length (steps (Lk ++ [(a, b')])) := by rw [steps_snoc] at hown1; rw [List.length_append]; exact hown1
                      exact hQ _ _ (two.one ⟨v1, (HRF1.out.grow HG.out).app hgb1 e1⟩) trivial (from2.mk e1) rfl
                    refine obls2_cons (fun b hb1 hb2 f w' hI hH Q hQ => ?_) ?_
                    · skip
                      obtain rfl : b = 1 := by omega
                      clear hb1 hb2
                      clear hH
                      refine wpList_view ?_; show wpList _ _ _ [_] ⟨#[_, _, _, _, _, _, _, _, _, _, _, _, _, _, _, _, _, _, _, _, _, _, _, _, _, _, _, _, _, _, _, _, _, _, _, _, _, _, _, _, _, _, _, _, _, _, _, _, _, _, _, _, _, _, _, _, _, _, _, _, _], _⟩ _
                      repeat (first | go_guarded | go_step)
                      exact hQ _ _ hI (Grow.refl _) rfl rfl
                    exact obls2_nil
                  case draw =>
                    exact two.zero (Grow.drew _)
                  case mono => exact ⟨Mono2.veq _, Mono2.veq _, Mono2.veq _, Mono2.veq _, Mono2.veq _, Mono2.veq _, Mono2.from NewS.mono, Mono2.from IsOwn.mono, Mono2.veq _, trivial⟩
                  case tail =>
                    intro f w' hI hH
                    have q7 : (from2 1 (IsOwn w.heap.size (Lk ++ [(a, b')]))) (f 7) 1 w' := hH.get 7 (58, 7) rfl
                    have q8 := hH.get 8 (59, 8) rfl
                    clear hH
                    refine wpList_merge (idx := [none, none, none, none, none, none, none, none, none, none, none, none, none, none, none, none, none, none, none, none, none, none, none, none, none, none, none, none, none, none, none, none, none, none, none, none, none, none, none, none, none, none, none, none, none, none, none, none, none, none, none, some 0, some 1, some 2, some 3, some 4, some 5, some 6, some 7, some 8, none]) (by kernel_rfl) ?_; show wpList _ _ _ [_] ⟨#[_, _, _, _, _, _, _, _, _, _, _, _, _, _, _, _, _, _, _, _, _, _, _, _, _, _, _, _, _, _, _, _, _, _, _, _, _, _, _, _, _, _, _, _, _, _, _, _, _, _, _, f 0, f 1, f 2, f 3, f 4, f 5, f 6, f 7, f 8, _], _⟩ _
                    rw [show f 8 = _ from q8]
                    clear q8
                    generalize f 7 = x7 at *
                    obtain ⟨v1, rg⟩ := hI.get1
                    have q := q7.get
                    have HRG : Hid (RG w b0 n (Lk ++ [(a, b')]) v x7 w') := Lib.hid ⟨rg.g, rg.b4, rg.b5, q⟩
                    have f7 := rg.b5.free 1
                    have c7 := rg.b5.cell (i := 1) rfl
                    obtain ⟨A7, cc7, rfl, -, -, -⟩ := own_form q
                    have HF := Lib.hid (HRG.out.put HB.out)
                    clear rg q hI q7
                    go_wp2_with fail
                    go_roundw
                    case rel => exact ⟨k + 1, _, by omega, by go_num, by rw [vp_yes HXK.out (by rw [HV.out]; rfl), ← HLK.out, Int.toNat_natCast, Int.toNat_natCast]; first | exact HF.out | (have h := HF.out; rw [show (Lk ++ [(a, b')]).length = Lk.length + 1 by simp] at h; exact h)⟩
                    case measure => simp [intOf] <;> omega
        · obtain rfl : k = len := by omega
          have htk : xs.take k = xs := List.take_of_length_le (by rw [HXL.out]; exact Nat.le_refl _)
          rw [htk] at rf
          obtain ⟨A7, cc7, e7, -⟩ := own_form rf.own
          obtain ⟨l7, hl7⟩ : ∃ l, l = (vp n xs).length := ⟨_, rfl⟩
          rw [← hl7] at e7
          subst e7
          have hb5 := rf.b5
          have hb4 := rf.b4
          have HEND : Hid (RefV (wr.setRow b0 [.int .i64 (n : Int), .slice A7 l7 cc7].toArray) (.slice A7 l7 cc7) (vp n xs) ∧ Grow w (wr.setRow b0 [.int .i64 (n : Int), .slice A7 l7 cc7].toArray)) := Lib.hid
            ⟨RefV.own (own_awayRow rf.own (fun k hk e => by
              obtain ⟨cs, hb2⟩ := own_blk2 rf.own hk
              subst e
              exact absurd (Blk.ty_eq hb4 hb2) (by decide)) _), Grow.setRow rf.g HB.out _⟩
          clear rf htk hl7
          go_wp2_with (first | (refine load_blk rfl _ _ rfl (b0 + 1) rfl _ _ _ hb5 und8 rfl (by rw [size8]; rfl) ?_) | (refine store_blk rfl _ _ _ rfl b0 [.int .i64 (n : Int), .slice A7 l7 cc7] rfl rfl _ _ hb4 (by rw [size8]; rfl) rfl rfl ?_))
          exact ret_blk rfl b0 _ [.int .i64 (n : Int), .slice A7 l7 cc7] _ rfl (hb4.setRow _) und8 rfl (by rw [size8]; rfl) rfl ⟨_, rfl, HEND.out⟩
    case cutA2 =>
      by_cases h1 : 65536 < m0
      · have hnm : (n : Int) = 65536 := by have := HN2.out; omega
        have HNM := Lib.hid hnm
        clear hnm
        go_wp2_with fail
        refine CutEnd.mk (by kernel_rfl) ⟨by rw [HNM.out]; rfl, rfl⟩
      · have hnm : m0 = (n : Int) := by have := HN2.out; omega
        have HNM := Lib.hid hnm
        clear hnm
        go_wp2_with fail
        refine CutEnd.mk (by kernel_rfl) ⟨by rw [← HNM.out]; rfl, rfl⟩
  case cutA =>
    by_cases h0 : n0 < 0
    · have hm : m0 = 0 := by rw [HM0.out]; omega
      have HM := Lib.hid hm
      clear hm
      go_wp2_with fail
      refine CutEnd.mk (by kernel_rfl) ⟨by rw [HM.out]; rfl, HW0.out.symm⟩
    · have hm : n0 = m0 := by rw [HM0.out]; omega
      have HM := Lib.hid hm
      clear hm
      go_wp2_with fail
      refine CutEnd.mk (by kernel_rfl) ⟨by rw [← HM.out]; rfl, HW0.out.symm⟩
end Go.Proofs.Ytbcifodifadoiaa.reW
