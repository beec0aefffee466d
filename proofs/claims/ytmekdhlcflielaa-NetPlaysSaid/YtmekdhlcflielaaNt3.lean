/- The walks of nets: add, Send, Drop, Twice. -/
import Derived.Test.YtmekdhlcflielaaNt2
namespace Go.Proofs.Ytmekdhlcflielaa.nt
open Go Go.RowKit Go.Par Go.Kit Go.Proofs.Ytmekdhlcflielaa.mpA Go.Proofs.Ytmekdhlcflielaa.cl

section
variable {w w' w5 : World} {B g bm n cnt : Nat} {lv : Value} {ps : List PkR} {C : Nat → Nat → Bool}
theorem PkOk.keep {K : Nat → Prop} {p : PkR} (h : PkOk w p) (hk : Keep B K w w') (hK : ∀ g cs, Blk w g 5 cs → K g) : PkOk w' p := ⟨h.b.keep hk hK, h.fr, h.to, h.len⟩
theorem PkOk.grow {p : PkR} (h : PkOk w p) (hg : Grow w w') : PkOk w' p := ⟨h.b.grow hg, h.fr, h.to, h.len⟩
/-- the row has turned, and is stored -/
theorem NetI.store (h : NetI w B g bm n cnt lv ps C) (hk : Keep B (fun j => lv.ownBlock ≠ some j) w w5) {v' : Value} {ps' : List PkR} (ho : w5.ownsRow B TK 4 v' ps'.length (krows ps')) (hok : ∀ p ∈ ps', p ∈ ps ∨ PkOk w5 p) (hl : ps'.length ≤ 4096) :
    NetI (w5.setCell ⟨g, 1, none⟩ v') B g bm n cnt v' ps' C := by
  have offK : ∀ {j : Nat} {t : TypeId} {cs : List Value}, Blk w j t cs → t ≠ TK → lv.ownBlock ≠ some j := fun hb ht e => by
    obtain ⟨cs', hb'⟩ := own_blkK h.own e
    exact ht (Blk.ty_eq hb hb')
  have hbx := hk.blk h.bx (offK h.bx (by decide))
  have hS : Keep B (fun j => j ≠ g) w5 (w5.setCell ⟨g, 1, none⟩ v') := (Keep.refl w5).setCell h.gB (fun hn => hn rfl) _
  have hmp := h.mp.keep hk (fun e => by
    obtain ⟨cs', hb'⟩ := own_blkK h.own e
    exact h.mp.not_blk hb' rfl)
  refine ⟨hbx.set_ 1 v', own_far ho _ _ fun k hk2 => ?_, hmp.keep hS ?_, fun p hp => ?_, h.gB, h.bB, h.n64, hl⟩
  · obtain ⟨cs', hb'⟩ := own_blkK ho hk2
    intro e
    have e : k = g := e
    subst e
    exact absurd (Blk.ty_eq hbx hb') (by decide)
  · exact fun e => hmp.not_blk hbx e.symm
  · have : PkOk w5 p := by
      rcases hok p hp with h9 | h9
      · exact (h.ok p h9).keep hk fun j cs hb => offK hb (by decide)
      · exact h9
    exact this.keep hS fun j cs hb e => by
      subst e
      exact absurd (Blk.ty_eq hbx hb) (by decide)
theorem NetI.keepS (h : NetI w B g bm n cnt lv ps C) (hk : Keep B (fun j => lv.ownBlock ≠ some j) w w5) (v' : Value) : Keep B (Kn g bm lv) w (w5.setCell ⟨g, 1, none⟩ v') := by
  have h1 : Keep B (Kn g bm lv) w w5 := ⟨hk.1, fun j hj hl => hk.2 j hj.2.2 hl⟩
  exact h1.setCell h.gB (fun hn => hn.1 rfl) _
theorem NetI.base (h : NetI w B g bm n cnt lv ps C) : B ≤ w.heap.size := by have := h.gB; have := h.bx.lt; omega
theorem Keep.of' {K : Nat → Prop} (hB : B ≤ w.heap.size) (h : Grow w w') : Keep B K w w' := Keep.of h hB
end
/-- where the row lies now: where it lay, or in a new block -/
def Moved (w : World) (lv lv' : Value) : Prop := lv'.ownBlock = lv.ownBlock ∨ ∃ j, lv'.ownBlock = some j ∧ w.heap.size ≤ j
/-- what a call that turns a net hands on -/
def After (w : World) (B g bm n cnt : Nat) (lv : Value) (ps : List PkR) (C : Nat → Nat → Bool) (w' : World) : Prop :=
  ∃ lv', NetI w' B g bm n cnt lv' ps C ∧ Moved w lv lv'
/-- appended, not stored yet -/
def IsK (B len : Nat) (xs : List Value) (lv : Value) (sz : Nat) : Value → World → Prop := fun u w => w.ownsRow B TK 4 u len xs ∧ (u.ownBlock = lv.ownBlock ∨ ∃ j, u.ownBlock = some j ∧ sz ≤ j)
theorem IsK.mono {B len : Nat} {xs : List Value} {lv : Value} {sz : Nat} : Mono Grow (IsK B len xs lv sz) := fun _ _ _ ⟨h, h2⟩ hg => ⟨own_grow h hg, h2⟩
def NewK (p : PkR) : Value → World → Prop := fun u w => ∃ g, u = .slice (some ⟨g, 0, none⟩) 1 1 ∧ Row w (some ⟨g, 0, none⟩) (1 * 4) (krow p)
theorem NewK.mono {p : PkR} : Mono Grow (NewK p) := fun _ _ _ ⟨g, e, h⟩ hg => ⟨g, e, h.grow hg⟩
theorem add_full (w : World) (B g bm n cnt : Nat) (lv : Value) (ps : List PkR) (C : Nat → Nat → Bool) (h : NetI w B g bm n cnt lv ps C) (hl : 4096 ≤ ps.length) (fr to : Nat) (v : Value) (sp : Bool) :
    Calls Try.prog 28 #[.pointer (some ⟨g, 0, none⟩), .agg #[.int .u8 (fr : Int), .int .u8 (to : Int), v, .bool sp]] w fun e w' => e = .returned (.int .i64 11) ∧ Grow w w' := by
  have x1 := (h.bx.grow (Grow.alloc w (.cells #[.int .u8 (fr : Int), .int .u8 (to : Int), v, .bool sp] TK))).cell (i := 1) rfl
  obtain ⟨A, c, rfl, -⟩ := own_form h.own
  have t1 : decide (4096 ≤ ps.length) = true := decide_eq_true hl
  have t1' : decide ((4096 : Int) ≤ (ps.length : Int)) = true := decide_eq_true (by omega)
  obtain ⟨l, hl⟩ : ∃ l, l = ps.length := ⟨_, rfl⟩
  rw [← hl] at x1 t1 t1'
  clear h hl
  go_enter Try.func28, Try.ntmps28
  go_wp2_with fail
  go_ret
  exact ⟨rfl, Grow.alloc _ _⟩
set_option maxRecDepth 100000 in
set_option maxHeartbeats 8000000 in
theorem add_any (w : World) (B g bm n cnt : Nat) (lv : Value) (ps : List PkR) (C : Nat → Nat → Bool) (h : NetI w B g bm n cnt lv ps C) (hl : ps.length < 4096) (fr to : Nat) (v : Value) (b : List UInt8) (sp : Bool)
    (hfr : fr ≤ 255) (hto : to ≤ 255) (hb : Sl w v b) (hbl : b.length ≤ 1000) :
    Calls Try.prog 28 #[.pointer (some ⟨g, 0, none⟩), .agg #[.int .u8 (fr : Int), .int .u8 (to : Int), v, .bool sp]] w fun e w' => e = .returned (.int .i64 0) ∧ (∃ u, (∀ j, u.ownBlock = some j → w.heap.size ≤ j) ∧ After w B g bm n cnt lv (ps ++ [⟨fr, to, u, b, sp⟩]) C w') ∧ Keep B (Kn g bm lv) w w' := by
  obtain ⟨A2, n2, c2, rfl, hnc2, hcm2, hby⟩ := hb
  have hbn := hby.len
  obtain ⟨W1, hW1⟩ : ∃ W, W = w.alloc (.cells #[.int .u8 (fr : Int), .int .u8 (to : Int), .slice A2 n2 c2, .bool sp] TK) := ⟨_, rfl⟩
  have hg1 : Grow w W1 := by rw [hW1]; exact Grow.alloc _ _
  have hb1 : Blk W1 w.heap.size TK [.int .u8 (fr : Int), .int .u8 (to : Int), .slice A2 n2 c2, .bool sp] := by rw [hW1]; exact Blk.new _ _ _ _ rfl rfl
  have hs1 : W1.heap.size = w.heap.size + 1 := by rw [hW1]; simp
  have x1 := (h.bx.grow (Grow.alloc w (.cells #[.int .u8 (fr : Int), .int .u8 (to : Int), .slice A2 n2 c2, .bool sp] TK))).cell (i := 1) rfl
  have HN := Lib.hid h
  obtain ⟨A, c, e1, -⟩ := own_form h.own
  obtain ⟨l, hll⟩ : ∃ l, l = ps.length := ⟨_, rfl⟩
  rw [← hll] at e1 hl
  subst e1
  have HLL := Lib.hid hll
  have HCL := Lib.hid (clone_any A2 n2 c2 b W1 (hby.grow hg1) (by omega))
  have t1 : decide (4096 ≤ l) = false := decide_eq_false (by omega)
  have t1' : decide ((4096 : Int) ≤ (l : Int)) = false := decide_eq_false (by omega)
  have HG1 := Lib.hid hg1
  have HB1 := Lib.hid hb1
  have HS1 := Lib.hid hs1
  have HW1 := Lib.hid hW1
  have HP : Hid (fr ≤ 255 ∧ to ≤ 255 ∧ b.length ≤ 1000) := Lib.hid ⟨hfr, hto, hbl⟩
  have HBN := Lib.hid hbn
  clear h hby hbn hg1 hb1 hs1 hW1 hll hbl hfr hto hcm2 hnc2
  go_enter Try.func28, Try.ntmps28
  go_wp2_with fail
  rw [← HW1.out]
  refine HCL.out.mono ?_
  rintro e w3 ⟨u, rfl, ho, hg3⟩
  have hb3 := HB1.out.grow hg3
  have f3 := hb3.free 2
  have c3 := hb3.cell (i := 2) rfl
  have hbv : BV w3 u b := BV.own ho
  have hul : ∀ j, u.ownBlock = some j → w.heap.size ≤ j := fun j hj => by have := (ho.lt j hj).1; rw [HS1.out] at this; omega
  obtain ⟨A7, c7, e7, -⟩ := own_form ho
  rw [HBN.out] at e7
  subst e7
  obtain ⟨W4, hW4⟩ : ∃ W, W = w3.setCell ⟨w.heap.size, 2, none⟩ (.slice A7 n2 c7) := ⟨_, rfl⟩
  have hb4 : Blk W4 w.heap.size TK [.int .u8 (fr : Int), .int .u8 (to : Int), .slice A7 n2 c7, .bool sp] := by rw [hW4]; exact hb3.set_ 2 _
  have hg4 : Grow w W4 := by rw [hW4]; exact Grow.set_ (HG1.out.trans hg3) (p := ⟨w.heap.size, 2, none⟩) (Nat.le_refl _) _
  have hbv4 : BV W4 (.slice A7 n2 c7) b := by
    rw [hW4]
    have hS : Keep w.heap.size (fun j => j ≠ w.heap.size) w3 (w3.setCell ⟨w.heap.size, 2, none⟩ (.slice A7 n2 c7)) := Keep.setCell (K := fun j => j ≠ w.heap.size) (Keep.refl w3) (p := ⟨w.heap.size, 2, none⟩) (Nat.le_refl _) (fun hn => hn rfl) _
    exact hbv.keep hS fun j cs hb e => by
      subst e
      exact absurd (Blk.ty_eq hb3 hb) (by decide)
  have HUL := Lib.hid hul
  have HB4 := Lib.hid hb4
  have HG4 := Lib.hid hg4
  have HBV := Lib.hid hbv4
  have HW4 := Lib.hid hW4
  clear ho hb3 hbv hg3 hW4 hb4 hg4 hbv4 hul
  go_wp2_with fail
  rw [← HW4.out]
  obtain ⟨p, hp⟩ : ∃ p, p = PkR.mk fr to (.slice A7 n2 c7) b sp := ⟨_, rfl⟩
  have hkp : krow p = [.int .u8 (fr : Int), .int .u8 (to : Int), .slice A7 n2 c7, .bool sp] := by rw [hp]; rfl
  have HKP := Lib.hid hkp
  have HPE := Lib.hid hp
  have HN4 := Lib.hid (HN.out.grow HG4.out)
  have HKS : Hid (krows ps ++ krow p = krows (ps ++ [p])) := Lib.hid (by simp [krows])
  have hl9 : l < 4096 := by omega
  clear hp hkp x1 f3 c3
  apply (fun (v0 v1 v2 v3 v4 v5 v8 v9 : Value) mono draw obl tail => wp_region_piv (I := two (Grow W4) (fun w1 => Keep B (fun j => (Value.slice A l c).ownBlock ≠ some j) W4 w1)) (G := Grow) (Rp := (fun _ _ _ => True)) (Φ := phi2 [veq2 v0, veq2 v1, veq2 v2, veq2 v3, veq2 v4, veq2 v5, (from2 0 (NewK p)), (from2 1 (IsK B (l + 1) (krows ps ++ krow p) (.slice A l c) W4.heap.size)), veq2 v8, veq2 v9]) (m := 10) (ps := [7]) (qs := [(0, 1, false), (0, 0, false), (0, 0, false), (0, 0, false), (0, 0, false), (0, 0, false), (0, 0, false), (0, 0, true), (1, 1, false), (1, 1, false)]) (dls := [[], [], [(16, 1)], [(17, 2)], [(18, 3)], [], [(20, 5)], [(19, 4), (21, 6)], [(15, 0)], [(23, 8)]]) (ds := [15, 16, 17, 18, 19, 20, 21, 22, 23, 24]) (by kernel_rfl) (by kernel_rfl) (by kernel_rfl) (by decide) rfl rfl draw (mono2_phi mono) (piv2_phi mono) obl tail)
  case obl =>
    refine obls2_cons (fun b hb1 hb2 f w' hI hH Q hQ => ?_) ?_
    · skip
      clear hH
      refine wpList_view ?_; show wpList _ _ _ [_] ⟨#[_, _, _, _, _, _, _, _, _, _, _, _, _, _, _, _, _, _, _, _, _, _, _, _, _], _⟩ _
      repeat (first | go_guarded | go_step)
      exact hQ _ _ hI (Grow.refl _) rfl rfl
    refine obls2_cons (fun b hb1 hb2 f w' hI hH Q hQ => ?_) ?_
    · skip
      obtain rfl : b = 0 := by omega
      clear hb1 hb2
      clear hH
      refine wpList_view ?_; show wpList _ _ _ [_] ⟨#[_, _, _, _, _, _, _, _, _, _, _, _, _, _, _, _, _, _, _, _, _, _, _, _, _], _⟩ _
      repeat (first | go_guarded | go_step)
      exact hQ _ _ hI (Grow.refl _) rfl rfl
    refine obls2_cons (fun b hb1 hb2 f w' hI hH Q hQ => ?_) ?_
    · skip
      obtain rfl : b = 0 := by omega
      clear hb1 hb2
      have h1 := hH.get 0 (16, 1) rfl
      clear hH
      refine wpList_view ?_; show wpList _ _ _ [_] ⟨#[_, _, _, _, _, _, _, _, _, _, _, _, _, _, _, _, f 1, _, _, _, _, _, _, _, _], _⟩ _
      rw [show f 1 = _ from h1]
      clear h1
      repeat (first | go_guarded | go_step)
      exact hQ _ _ hI (Grow.refl _) rfl rfl
    refine obls2_cons (fun b hb1 hb2 f w' hI hH Q hQ => ?_) ?_
    · skip
      obtain rfl : b = 0 := by omega
      clear hb1 hb2
      have h2 := hH.get 0 (17, 2) rfl
      clear hH
      refine wpList_view ?_; show wpList _ _ _ [_] ⟨#[_, _, _, _, _, _, _, _, _, _, _, _, _, _, _, _, _, f 2, _, _, _, _, _, _, _], _⟩ _
      rw [show f 2 = _ from h2]
      clear h2
      repeat (first | go_guarded | go_step)
      exact hQ _ _ hI (Grow.refl _) rfl rfl
    refine obls2_cons (fun b hb1 hb2 f w' hI hH Q hQ => ?_) ?_
    · skip
      obtain rfl : b = 0 := by omega
      clear hb1 hb2
      have h3 := hH.get 0 (18, 3) rfl
      clear hH
      refine wpList_view ?_; show wpList _ _ _ [_] ⟨#[_, _, _, _, _, _, _, _, _, _, _, _, _, _, _, _, _, _, f 3, _, _, _, _, _, _], _⟩ _
      rw [show f 3 = _ from h3]
      clear h3
      have y0 := (HN4.out.bx.grow hI.get0).cell (i := 1) rfl
      repeat (first | go_guarded | go_step)
      exact hQ _ _ hI (Grow.refl _) rfl rfl
    refine obls2_cons (fun b hb1 hb2 f w' hI hH Q hQ => ?_) ?_
    · skip
      obtain rfl : b = 0 := by omega
      clear hb1 hb2
      clear hH
      refine wpList_view ?_; show wpList _ _ _ [_] ⟨#[_, _, _, _, _, _, _, _, _, _, _, _, _, _, _, _, _, _, _, _, _, _, _, _, _], _⟩ _
      have hb := HB4.out.grow hI.get0
      have HIg := Lib.hid hI
      clear hI
      go_wp2_with (refine load_blk rfl _ _ rfl w.heap.size rfl _ _ _ hb undK rfl (by rw [sizeK]; rfl) ?_)
      exact hQ _ _ HIg.out (Grow.refl _) rfl rfl
    refine obls2_cons (fun b hb1 hb2 f w' hI hH Q hQ => ?_) ?_
    · skip
      obtain rfl : b = 0 := by omega
      clear hb1 hb2
      have h5 := hH.get 0 (20, 5) rfl
      clear hH
      refine wpList_view ?_; show wpList _ _ _ [_] ⟨#[_, _, _, _, _, _, _, _, _, _, _, _, _, _, _, _, _, _, _, _, f 5, _, _, _, _], _⟩ _
      rw [show f 5 = _ from h5]
      clear h5
      have HIg := Lib.hid hI
      clear hI
      go_wp2_with fail
      exact hQ _ _ (two.zero (HIg.out.get0.trans (Grow.alloc _ _))) (Grow.alloc _ _) (from2.mk ⟨w'.heap.size, rfl, by rw [HKP.out]; exact Row.new w' [.int .u8 (fr : Int), .int .u8 (to : Int), .slice A7 n2 c7, .bool sp] TK (0, 0)⟩) rfl
    refine oblsP_cons (fun f w' hI hH Q hQ => ?_) ?_
    · skip
      have h4 := hH.get 0 (19, 4) rfl
      have h6 := hH.get 1 (21, 6) rfl
      clear hH
      refine wpList_view ?_; show wpList _ _ _ [_] ⟨#[_, _, _, _, _, _, _, _, _, _, _, _, _, _, _, _, _, _, _, f 4, _, f 6, _, _, _], _⟩ _
      rw [show f 4 = _ from h4]
      replace h6 : (from2 0 (NewK p)) (f 6) 0 w' := h6
      obtain ⟨u6, hu6⟩ : ∃ u, u = f 6 := ⟨_, rfl⟩
      rw [← hu6]
      rw [← hu6] at h6
      have HU6 : Hid (f 6 = u6) := Lib.hid hu6.symm
      clear hu6
      clear h4
      obtain ⟨gs, rfl, hrow⟩ := h6.get
      have hg := hI.get0
      have hown := own_grow HN4.out.own hg
      rw [← HLL.out] at hown
      refine wpList_append_row rfl _ _ _ rfl B TK _ _ 4 40 Try.underlying63 iK iKz iKs iKb rfl (by decide) (.slice A l c) l (krows ps) rfl hown (some ⟨gs, 0, none⟩) 1 1 (krow p) rfl hrow (by rw [HKP.out]; intro u hu; simp only [List.mem_cons, List.not_mem_nil, or_false] at hu; rcases hu with rfl | rfl | rfl | rfl <;> rfl) (by unfold maxLen; omega) (by omega) (Nat.le_trans HN4.out.base hg.size) ?_
      intro v1 w1 hown1 hgb1 hv1
      refine hQ _ _ (two.one ?_) trivial (from2.mk ⟨hown1, ?_⟩) rfl
      · exact Keep.by_ (Keep.of hg HN4.out.base) (Nat.le_trans HN4.out.base hg.size) hgb1 fun k hk => ⟨(hown.lt k hk).1, fun hn => hn hk⟩
      · rcases hv1 with hv1 | hv1
        · exact .inl hv1
        · exact .inr ⟨_, hv1, hg.size⟩
    refine obls2_cons (fun b hb1 hb2 f w' hI hH Q hQ => ?_) ?_
    · skip
      obtain rfl : b = 1 := by omega
      clear hb1 hb2
      have h0 := hH.get 0 (15, 0) rfl
      clear hH
      refine wpList_view ?_; show wpList _ _ _ [_] ⟨#[_, _, _, _, _, _, _, _, _, _, _, _, _, _, _, f 0, _, _, _, _, _, _, _, _, _], _⟩ _
      rw [show f 0 = _ from h0]
      clear h0
      repeat (first | go_guarded | go_step)
      exact hQ _ _ hI (Grow.refl _) rfl rfl
    refine obls2_cons (fun b hb1 hb2 f w' hI hH Q hQ => ?_) ?_
    · skip
      obtain rfl : b = 1 := by omega
      clear hb1 hb2
      have h8 := hH.get 0 (23, 8) rfl
      clear hH
      refine wpList_view ?_; show wpList _ _ _ [_] ⟨#[_, _, _, _, _, _, _, _, _, _, _, _, _, _, _, _, _, _, _, _, _, _, _, f 8, _], _⟩ _
      rw [show f 8 = _ from h8]
      clear h8
      repeat (first | go_guarded | go_step)
      exact hQ _ _ hI (Grow.refl _) rfl rfl
    exact obls2_nil
  case draw =>
    exact two.zero (Grow.drew _)
  case mono => exact ⟨Mono2.veq _, Mono2.veq _, Mono2.veq _, Mono2.veq _, Mono2.veq _, Mono2.veq _, Mono2.from NewK.mono, Mono2.from IsK.mono, Mono2.veq _, Mono2.veq _, trivial⟩
  case tail =>
    intro f w' hI hH
    have q7 : (from2 1 (IsK B (l + 1) (krows ps ++ krow p) (.slice A l c) W4.heap.size)) (f 7) 1 w' := hH.get 7 (22, 7) rfl
    have q8 := hH.get 8 (23, 8) rfl
    have q9 := hH.get 9 (24, 9) rfl
    clear hH
    refine wpList_merge (idx := [none, none, none, none, none, none, none, none, none, none, none, none, none, none, none, some 0, some 1, some 2, some 3, some 4, some 5, some 6, some 7, some 8, some 9]) (by kernel_rfl) ?_; show wpList _ _ _ [_] ⟨#[_, _, _, _, _, _, _, _, _, _, _, _, _, _, _, f 0, f 1, f 2, f 3, f 4, f 5, f 6, f 7, f 8, f 9], _⟩ _
    rw [show f 8 = _ from q8]
    rw [show f 9 = _ from q9]
    clear q8 q9
    generalize f 7 = x7 at *
    obtain ⟨hown7, hmv7⟩ := q7.get
    have hk5 := hI.get1
    rw [HKS.out] at hown7
    have hnet := HN4.out.store hk5 (v' := x7) (ps' := ps ++ [p]) (by rw [List.length_append, ← HLL.out]; exact hown7) (fun p' hp' => by
      rcases List.mem_append.1 hp' with hp' | hp'
      · exact .inl hp'
      · obtain rfl := List.mem_singleton.1 hp'
        refine .inr (PkOk.keep (B := B) (w := W4) ?_ hk5 fun j cs hb e => ?_)
        · rw [HPE.out]
          exact ⟨HBV.out, HP.out.1, HP.out.2.1, HP.out.2.2⟩
        · have hown := HN4.out.own
          obtain ⟨cs', hb'⟩ := own_blkK hown e
          exact absurd (Blk.ty_eq hb hb') (by decide)) (by rw [List.length_append, ← HLL.out]; simp; omega)
    have hoff : (Value.slice A l c).ownBlock ≠ some g := fun e => by
      obtain ⟨cs', hb'⟩ := own_blkK HN4.out.own e
      exact absurd (Blk.ty_eq HN4.out.bx hb') (by decide)
    have hbx5 := hk5.blk HN4.out.bx hoff
    have f5 := hbx5.free 1
    have c5 := hbx5.cell (i := 1) rfl
    have hks := HN4.out.keepS hk5 x7
    obtain ⟨A9, c9, e9, -⟩ := own_form hown7
    have HEND : Hid (After w B g bm n cnt (.slice A l c) (ps ++ [p]) C (w'.setCell ⟨g, 1, none⟩ x7) ∧ Keep B (Kn g bm (.slice A l c)) w (w'.setCell ⟨g, 1, none⟩ x7)) := Lib.hid
      ⟨⟨x7, hnet, by
        rcases hmv7 with h9 | ⟨j, h9, h8⟩
        · exact .inl h9
        · exact .inr ⟨j, h9, Nat.le_trans HG4.out.size h8⟩⟩, (Keep.of HG4.out HN.out.base).trans hks⟩
    subst e9
    clear hown7 hmv7 hk5 hnet hoff hbx5 hks hI q7
    go_wp2_with fail
    go_ret
    exact ⟨rfl, ⟨.slice A7 n2 c7, HUL.out, by have := HEND.out.1; rw [HPE.out] at this; exact this⟩, HEND.out.2⟩
end Go.Proofs.Ytmekdhlcflielaa.nt
