/- The walks of the disk's methods, on: Crash, Copy, and those of nil. -/
import Derived.Test.YtgpcijpadelcfaaDkW
namespace Go.Proofs.Ytgpcijpadelcfaa.dkW
open Go Go.RowKit Go.Par Go.Kit Go.Proofs.Ytgpcijpadelcfaa.cl

/-- how many bytes a crash leaves -/
def left (L : List UInt8) (s : Nat) (k : Int) : Nat := s + (min (max k 0) ((L.length : Int) - s)).toNat
theorem left_le {L : List UInt8} {s : Nat} (k : Int) (h : s ≤ L.length) : left L s k ≤ L.length := by unfold left; omega

set_option maxHeartbeats 400000 in
theorem crash_any (w : World) (B : Nat) (K : Nat → Prop) (hB : B ≤ w.heap.size) (g : Nat) (L : List UInt8) (s : Nat) (h : Disk w B K g L s) (hL : L.length ≤ 140737488355328) (k : Int) :
    Calls Try.prog 56 #[.pointer (some ⟨g, 0, none⟩), .int .i64 k] w fun e w' => e = .returned (.tuple #[]) ∧ Disk w' B K g (L.take (left L s k)) (left L s k) ∧ Keep B K w w' := by
  have hle := left_le k (L := L) (s := s) (by obtain ⟨v, h1, h2, h3, h4, h5, h6⟩ := h; exact h6)
  have hcut := fun w (h : Disk w B K g L s) => cut_any w B K g L s h (left L s k) hle
  have H := Lib.hid h
  obtain ⟨v, h1, h2, h3, h4, h5, h6⟩ := h
  obtain ⟨A, c, rfl, a1, a2, a3⟩ := own_form h2
  obtain ⟨mx, hmx⟩ : ∃ m, m = max k 0 := ⟨_, rfl⟩
  obtain ⟨mn, hmn⟩ : ∃ m, m = min mx ((L.length : Int) - s) := ⟨_, rfl⟩
  have hmax := fun ts t W => run_max2i (P := Try.prog) ts t k 0 mx hmx W
  have hmin := fun ts t W => run_min2i (P := Try.prog) ts t mx ((L.length : Int) - s) mn hmn W
  have hend : (left L s k : Int) = s + mn := by unfold left; omega
  have hmn0 : 0 ≤ mn := by omega
  have hmn1 : mn ≤ (L.length : Int) - s := by omega
  rw [hend] at hcut
  have HC := Lib.hid hcut
  have H1 := Lib.hid h1
  have hb0 := Lib.hid (show Blk w g 94 [.slice A L.length c, .int .i64 (s : Int)] from h1)
  clear h1 h2 a3 hcut hmx hmn hend h3 h4 h5
  go_enter Try.func56, Try.ntmps56
  go_wp2_with fail
  apply (fun (v0 v1 v2 v3 v4 v5 v6 v7 v8 v9 v10 v11 v12 v13 v14 v15 v16 v17 v18 : Value) mono obl tail => wp_region_par (R := Grow) (Φ := phi [veq v0, veq v1, veq v2, veq v3, veq v4, veq v5, veq v6, veq v7, veq v8, veq v9, veq v10, veq v11, veq v12, veq v13, veq v14, veq v15, veq v16, veq v17, veq v18]) (m := 19) (dls := [[], [], [(7, 1)], [(8, 2)], [(9, 3)], [], [(11, 5)], [], [(13, 7)], [(14, 8)], [(15, 9)], [(16, 10)], [], [(18, 12)], [(19, 13)], [(20, 14)], [(17, 11), (21, 15)], [(12, 6), (22, 16)], [(10, 4), (23, 17)]]) (ds := [6, 7, 8, 9, 10, 11, 12, 13, 14, 15, 16, 17, 18, 19, 20, 21, 22, 23, 24]) (by kernel_rfl) (by kernel_rfl) (by decide) rfl (Grow.drew _) (fun _ _ _ => Grow.trans) (mono_phi mono) obl tail)
  case obl =>
    refine obls_cons (fun f w' hR hH Q hQ => ?_) ?_
    · skip
      simp only [view, List.foldl]
      repeat (first | go_guarded | go_step)
      exact hQ _ _ (Grow.refl _) rfl rfl
    refine obls_cons (fun f w' hR hH Q hQ => ?_) ?_
    · skip
      simp only [view, List.foldl]
      repeat (first | go_guarded | go_step)
      exact hQ _ _ (Grow.refl _) rfl rfl
    refine obls_cons (fun f w' hR hH Q hQ => ?_) ?_
    · skip
      obtain ⟨h1, -⟩ := hH
      simp only [view, List.foldl, Act.put, List.setIfInBounds_toArray, List.set_cons_zero, List.set_cons_succ]
      rw [show f 1 = _ from h1]
      clear h1
      repeat (first | go_guarded | go_step)
      exact hQ _ _ (Grow.refl _) rfl rfl
    refine obls_cons (fun f w' hR hH Q hQ => ?_) ?_
    · skip
      obtain ⟨h2, -⟩ := hH
      simp only [view, List.foldl, Act.put, List.setIfInBounds_toArray, List.set_cons_zero, List.set_cons_succ]
      rw [show f 2 = _ from h2]
      clear h2
      repeat (first | go_guarded | go_step)
      exact hQ _ _ (Grow.refl _) rfl rfl
    refine obls_cons (fun f w' hR hH Q hQ => ?_) ?_
    · skip
      obtain ⟨h3, -⟩ := hH
      simp only [view, List.foldl, Act.put, List.setIfInBounds_toArray, List.set_cons_zero, List.set_cons_succ]
      rw [show f 3 = _ from h3]
      clear h3
      have c1 := (hb0.out.grow hR).cell (i := 1) rfl
      repeat (first | go_guarded | go_step)
      exact hQ _ _ (Grow.refl _) rfl rfl
    refine obls_cons (fun f w' hR hH Q hQ => ?_) ?_
    · skip
      simp only [view, List.foldl]
      repeat (first | go_guarded | go_step)
      exact hQ _ _ (Grow.refl _) rfl rfl
    refine obls_cons (fun f w' hR hH Q hQ => ?_) ?_
    · skip
      obtain ⟨h5, -⟩ := hH
      simp only [view, List.foldl, Act.put, List.setIfInBounds_toArray, List.set_cons_zero, List.set_cons_succ]
      rw [show f 5 = _ from h5]
      clear h5
      repeat (first | go_guarded | go_step)
      exact hQ _ _ (Grow.refl _) rfl rfl
    refine obls_cons (fun f w' hR hH Q hQ => ?_) ?_
    · skip
      simp only [view, List.foldl]
      repeat (first | go_guarded | go_step)
      exact hQ _ _ (Grow.refl _) rfl rfl
    refine obls_cons (fun f w' hR hH Q hQ => ?_) ?_
    · skip
      obtain ⟨h7, -⟩ := hH
      simp only [view, List.foldl, Act.put, List.setIfInBounds_toArray, List.set_cons_zero, List.set_cons_succ]
      rw [show f 7 = _ from h7]
      clear h7
      repeat (first | go_guarded | go_step)
      exact hQ _ _ (Grow.refl _) rfl rfl
    refine obls_cons (fun f w' hR hH Q hQ => ?_) ?_
    · skip
      obtain ⟨h8, -⟩ := hH
      simp only [view, List.foldl, Act.put, List.setIfInBounds_toArray, List.set_cons_zero, List.set_cons_succ]
      rw [show f 8 = _ from h8]
      clear h8
      repeat (first | go_guarded | go_step)
      exact hQ _ _ (Grow.refl _) rfl rfl
    refine obls_cons (fun f w' hR hH Q hQ => ?_) ?_
    · skip
      obtain ⟨h9, -⟩ := hH
      simp only [view, List.foldl, Act.put, List.setIfInBounds_toArray, List.set_cons_zero, List.set_cons_succ]
      rw [show f 9 = _ from h9]
      clear h9
      have c0 := (hb0.out.grow hR).cell (i := 0) rfl
      repeat (first | go_guarded | go_step)
      exact hQ _ _ (Grow.refl _) rfl rfl
    refine obls_cons (fun f w' hR hH Q hQ => ?_) ?_
    · skip
      obtain ⟨h10, -⟩ := hH
      simp only [view, List.foldl, Act.put, List.setIfInBounds_toArray, List.set_cons_zero, List.set_cons_succ]
      rw [show f 10 = _ from h10]
      clear h10
      repeat (first | go_guarded | go_step)
      exact hQ _ _ (Grow.refl _) rfl rfl
    refine obls_cons (fun f w' hR hH Q hQ => ?_) ?_
    · skip
      simp only [view, List.foldl]
      repeat (first | go_guarded | go_step)
      exact hQ _ _ (Grow.refl _) rfl rfl
    refine obls_cons (fun f w' hR hH Q hQ => ?_) ?_
    · skip
      obtain ⟨h12, -⟩ := hH
      simp only [view, List.foldl, Act.put, List.setIfInBounds_toArray, List.set_cons_zero, List.set_cons_succ]
      rw [show f 12 = _ from h12]
      clear h12
      repeat (first | go_guarded | go_step)
      exact hQ _ _ (Grow.refl _) rfl rfl
    refine obls_cons (fun f w' hR hH Q hQ => ?_) ?_
    · skip
      obtain ⟨h13, -⟩ := hH
      simp only [view, List.foldl, Act.put, List.setIfInBounds_toArray, List.set_cons_zero, List.set_cons_succ]
      rw [show f 13 = _ from h13]
      clear h13
      repeat (first | go_guarded | go_step)
      exact hQ _ _ (Grow.refl _) rfl rfl
    refine obls_cons (fun f w' hR hH Q hQ => ?_) ?_
    · skip
      obtain ⟨h14, -⟩ := hH
      simp only [view, List.foldl, Act.put, List.setIfInBounds_toArray, List.set_cons_zero, List.set_cons_succ]
      rw [show f 14 = _ from h14]
      clear h14
      have c1 := (hb0.out.grow hR).cell (i := 1) rfl
      repeat (first | go_guarded | go_step)
      exact hQ _ _ (Grow.refl _) rfl rfl
    refine obls_cons (fun f w' hR hH Q hQ => ?_) ?_
    · skip
      obtain ⟨h11, h15, -⟩ := hH
      simp only [view, List.foldl, Act.put, List.setIfInBounds_toArray, List.set_cons_zero, List.set_cons_succ]
      rw [show f 11 = _ from h11]
      rw [show f 15 = _ from h15]
      clear h11 h15
      repeat (first | go_guarded | go_step)
      exact hQ _ _ (Grow.refl _) rfl rfl
    refine obls_cons (fun f w' hR hH Q hQ => ?_) ?_
    · skip
      obtain ⟨h6, h16, -⟩ := hH
      simp only [view, List.foldl, Act.put, List.setIfInBounds_toArray, List.set_cons_zero, List.set_cons_succ]
      rw [show f 6 = _ from h6]
      rw [show f 16 = _ from h16]
      clear h6 h16
      repeat (first | go_guarded | go_step)
      exact hQ _ _ (Grow.refl _) rfl rfl
    refine obls_cons (fun f w' hR hH Q hQ => ?_) ?_
    · skip
      obtain ⟨h4, h17, -⟩ := hH
      simp only [view, List.foldl, Act.put, List.setIfInBounds_toArray, List.set_cons_zero, List.set_cons_succ]
      rw [show f 4 = _ from h4]
      rw [show f 17 = _ from h17]
      clear h4 h17
      repeat (first | go_guarded | go_step)
      exact hQ _ _ (Grow.refl _) rfl rfl
    exact obls_nil
  case mono => exact ⟨Mono.veq _, Mono.veq _, Mono.veq _, Mono.veq _, Mono.veq _, Mono.veq _, Mono.veq _, Mono.veq _, Mono.veq _, Mono.veq _, Mono.veq _, Mono.veq _, Mono.veq _, Mono.veq _, Mono.veq _, Mono.veq _, Mono.veq _, Mono.veq _, Mono.veq _, trivial⟩
  case tail =>
    intro f w' hR hH
    simp only [view, List.zipIdx, List.foldl, Act.put, List.setIfInBounds_toArray, List.set_cons_zero, List.set_cons_succ, List.drop_succ_cons, List.drop_zero]
    obtain ⟨q0, -, -, -, -, -, -, -, -, -, -, -, -, -, -, -, -, -, q18, -⟩ := hH
    rw [show f 0 = _ from q0]
    rw [show f 18 = _ from q18]
    clear q0 q18
    generalize f 1 = x1
    generalize f 2 = x2
    generalize f 3 = x3
    generalize f 4 = x4
    generalize f 5 = x5
    generalize f 6 = x6
    generalize f 7 = x7
    generalize f 8 = x8
    generalize f 9 = x9
    generalize f 10 = x10
    generalize f 11 = x11
    generalize f 12 = x12
    generalize f 13 = x13
    generalize f 14 = x14
    generalize f 15 = x15
    generalize f 16 = x16
    generalize f 17 = x17
    have HG := Lib.hid hR
    clear hR
    go_wp2_with (go_at_call 59; refine (HC.out _ (H.out.grow HG.out)).mono ?_; rintro e w1 ⟨rfl, hd, hk⟩)
    refine bodyPost_end (results_none rfl _ _ _) rfl ?_
    exact ⟨rfl, hd, (Keep.of HG.out hB).trans hk⟩

def OwnSl (base : Nat) (L : List UInt8) : Value → World → Prop := fun v w => w.ownsRow base 5 1 v L.length (u8s L)
theorem OwnSl.mono {base : Nat} {L : List UInt8} : Mono Grow (OwnSl base L) := fun _ _ _ h hg => own_grow h hg
def PreDisk (base : Nat) (L : List UInt8) (s : Nat) : Value → World → Prop := fun u w => ∃ v, u = .agg #[v, .int .i64 (s : Int)] ∧ w.ownsRow base 5 1 v L.length (u8s L)
theorem PreDisk.mono {base : Nat} {L : List UInt8} {s : Nat} : Mono Grow (PreDisk base L s) := fun _ _ _ ⟨v, e, h⟩ hg => ⟨v, e, own_grow h hg⟩
def PtrDisk (B : Nat) (K : Nat → Prop) (L : List UInt8) (s : Nat) : Value → World → Prop := fun u w => ∃ g, u = .pointer (some ⟨g, 0, none⟩) ∧ Disk w B K g L s
theorem PtrDisk.mono {B : Nat} {K : Nat → Prop} {L : List UInt8} {s : Nat} : Mono Grow (PtrDisk B K L s) := fun _ _ _ ⟨g, e, h⟩ hg => ⟨g, e, h.grow hg⟩

set_option maxHeartbeats 400000 in
/-- a copy: its blocks are new -/
theorem copy_any (w : World) (B : Nat) (K : Nat → Prop) (g : Nat) (L : List UInt8) (s : Nat) (h : Disk w B K g L s) (hL : L.length ≤ 140737488355328) (K2 : Nat → Prop) (hK : ∀ k, K2 k → k < w.heap.size) :
    Calls Try.prog 55 #[.pointer (some ⟨g, 0, none⟩)] w fun e w' => ∃ g', e = .returned (.pointer (some ⟨g', 0, none⟩)) ∧ Disk w' w.heap.size K2 g' L s ∧ Grow w w' := by
  obtain ⟨v, h1, h2, h3, h4, h5, h6⟩ := h
  obtain ⟨A, c, rfl, a1, a2, a3⟩ := own_form h2
  rw [Nat.mul_one] at a3
  have hb0 := Lib.hid (show Blk w g 94 [.slice A L.length c, .int .i64 (s : Int)] from h1)
  have HA := Lib.hid (show Bytes w A L.length L from a3)
  obtain ⟨base, hbase⟩ : ∃ base, base = w.heap.size := ⟨_, rfl⟩
  have HBA := Lib.hid hbase
  rw [← hbase]
  clear h1 h2 a3 h3 h4 h5 hbase
  go_enter Try.func55, Try.ntmps55
  go_wp2_with fail
  apply (fun (v0 v1 v2 v3 v5 v6 v7 v8 : Value) mono obl tail => wp_region_par (R := Grow) (Φ := phi [veq v0, veq v1, veq v2, veq v3, (OwnSl base L), veq v5, veq v6, veq v7, veq v8, (PreDisk base L s), (PtrDisk base K2 L s), (PtrDisk base K2 L s)]) (m := 12) (dls := [[], [(5, 0)], [(6, 1)], [(7, 2)], [(8, 3)], [], [(10, 5)], [(11, 6)], [(12, 7)], [(9, 4), (13, 8)], [(14, 9)], [(15, 10)]]) (ds := [5, 6, 7, 8, 9, 10, 11, 12, 13, 14, 15, 2]) (by kernel_rfl) (by kernel_rfl) (by decide) rfl (Grow.drew _) (fun _ _ _ => Grow.trans) (mono_phi mono) obl tail)
  case obl =>
    refine obls_cons (fun f w' hR hH Q hQ => ?_) ?_
    · skip
      simp only [view, List.foldl]
      repeat (first | go_guarded | go_step)
      exact hQ _ _ (Grow.refl _) rfl rfl
    refine obls_cons (fun f w' hR hH Q hQ => ?_) ?_
    · skip
      obtain ⟨h0, -⟩ := hH
      simp only [view, List.foldl, Act.put, List.setIfInBounds_toArray, List.set_cons_zero, List.set_cons_succ]
      rw [show f 0 = _ from h0]
      clear h0
      repeat (first | go_guarded | go_step)
      exact hQ _ _ (Grow.refl _) rfl rfl
    refine obls_cons (fun f w' hR hH Q hQ => ?_) ?_
    · skip
      obtain ⟨h1, -⟩ := hH
      simp only [view, List.foldl, Act.put, List.setIfInBounds_toArray, List.set_cons_zero, List.set_cons_succ]
      rw [show f 1 = _ from h1]
      clear h1
      repeat (first | go_guarded | go_step)
      exact hQ _ _ (Grow.refl _) rfl rfl
    refine obls_cons (fun f w' hR hH Q hQ => ?_) ?_
    · skip
      obtain ⟨h2, -⟩ := hH
      simp only [view, List.foldl, Act.put, List.setIfInBounds_toArray, List.set_cons_zero, List.set_cons_succ]
      rw [show f 2 = _ from h2]
      clear h2
      have c0 := (hb0.out.grow hR).cell (i := 0) rfl
      repeat (first | go_guarded | go_step)
      exact hQ _ _ (Grow.refl _) rfl rfl
    refine obls_cons (fun f w' hR hH Q hQ => ?_) ?_
    · skip
      obtain ⟨h3, -⟩ := hH
      simp only [view, List.foldl, Act.put, List.setIfInBounds_toArray, List.set_cons_zero, List.set_cons_succ]
      rw [show f 3 = _ from h3]
      clear h3
      go_wp2_with (go_at_call 68; refine (clone_any A L.length c L _ (HA.out.grow hR) hL).mono ?_; rintro e w1 ⟨v1, rfl, ho1, hg1⟩)
      exact hQ _ _ hg1 (own_lower ho1 (by rw [HBA.out]; exact hR.size)) rfl
    refine obls_cons (fun f w' hR hH Q hQ => ?_) ?_
    · skip
      simp only [view, List.foldl]
      repeat (first | go_guarded | go_step)
      exact hQ _ _ (Grow.refl _) rfl rfl
    refine obls_cons (fun f w' hR hH Q hQ => ?_) ?_
    · skip
      obtain ⟨h5, -⟩ := hH
      simp only [view, List.foldl, Act.put, List.setIfInBounds_toArray, List.set_cons_zero, List.set_cons_succ]
      rw [show f 5 = _ from h5]
      clear h5
      repeat (first | go_guarded | go_step)
      exact hQ _ _ (Grow.refl _) rfl rfl
    refine obls_cons (fun f w' hR hH Q hQ => ?_) ?_
    · skip
      obtain ⟨h6, -⟩ := hH
      simp only [view, List.foldl, Act.put, List.setIfInBounds_toArray, List.set_cons_zero, List.set_cons_succ]
      rw [show f 6 = _ from h6]
      clear h6
      repeat (first | go_guarded | go_step)
      exact hQ _ _ (Grow.refl _) rfl rfl
    refine obls_cons (fun f w' hR hH Q hQ => ?_) ?_
    · skip
      obtain ⟨h7, -⟩ := hH
      simp only [view, List.foldl, Act.put, List.setIfInBounds_toArray, List.set_cons_zero, List.set_cons_succ]
      rw [show f 7 = _ from h7]
      clear h7
      have c1 := (hb0.out.grow hR).cell (i := 1) rfl
      repeat (first | go_guarded | go_step)
      exact hQ _ _ (Grow.refl _) rfl rfl
    refine obls_cons (fun f w' hR hH Q hQ => ?_) ?_
    · skip
      obtain ⟨h4, h8, -⟩ := hH
      simp only [view, List.foldl, Act.put, List.setIfInBounds_toArray, List.set_cons_zero, List.set_cons_succ]
      generalize f 4 = u4 at h4 ⊢
      replace h4 : (OwnSl base L) u4 w' := h4
      rw [show f 8 = _ from h8]
      clear h8
      obtain ⟨A1, cc1, rfl, -, -, -⟩ := own_form h4
      repeat (first | go_guarded | go_step)
      exact hQ _ _ (Grow.refl _) ⟨_, rfl, h4⟩ rfl
    refine obls_cons (fun f w' hR hH Q hQ => ?_) ?_
    · skip
      obtain ⟨h9, -⟩ := hH
      simp only [view, List.foldl, Act.put, List.setIfInBounds_toArray, List.set_cons_zero, List.set_cons_succ]
      generalize f 9 = u9 at h9 ⊢
      replace h9 : (PreDisk base L s) u9 w' := h9
      obtain ⟨v1, rfl, ho⟩ := h9
      obtain ⟨A1, cc1, rfl, -, -, -⟩ := own_form ho
      have hbs := hR.size
      have hbl := ho.lt
      repeat (first | go_guarded | go_step)
      refine hQ _ _ (Grow.alloc _ _) ⟨_, rfl, _, Blk.new _ _ _ _ rfl rfl, own_grow ho (Grow.alloc _ _), by rw [HBA.out]; exact hbs, fun hk => by have := hK _ hk; omega, fun k hk => ⟨by have := (hbl k hk).2; omega, fun h2 => by have := (hbl k hk).1; have := hK _ h2; have := HBA.out; omega⟩, h6⟩ rfl
    refine obls_cons (fun f w' hR hH Q hQ => ?_) ?_
    · skip
      obtain ⟨h10, -⟩ := hH
      simp only [view, List.foldl, Act.put, List.setIfInBounds_toArray, List.set_cons_zero, List.set_cons_succ]
      generalize f 10 = u10 at h10 ⊢
      replace h10 : (PtrDisk base K2 L s) u10 w' := h10
      obtain ⟨g1, rfl, hd⟩ := h10
      repeat (first | go_guarded | go_step)
      exact hQ _ _ (Grow.refl _) ⟨_, rfl, hd⟩ rfl
    exact obls_nil
  case mono => exact ⟨Mono.veq _, Mono.veq _, Mono.veq _, Mono.veq _, OwnSl.mono, Mono.veq _, Mono.veq _, Mono.veq _, Mono.veq _, PreDisk.mono, PtrDisk.mono, PtrDisk.mono, trivial⟩
  case tail =>
    intro f w' hR hH
    simp only [view, List.zipIdx, List.foldl, Act.put, List.setIfInBounds_toArray, List.set_cons_zero, List.set_cons_succ, List.drop_succ_cons, List.drop_zero]
    obtain ⟨-, -, -, -, -, -, -, -, -, -, -, q11, -⟩ := hH
    replace q11 : (PtrDisk base K2 L s) (f 11) w' := q11
    generalize f 0 = x0
    generalize f 1 = x1
    generalize f 2 = x2
    generalize f 3 = x3
    generalize f 4 = x4
    generalize f 5 = x5
    generalize f 6 = x6
    generalize f 7 = x7
    generalize f 8 = x8
    generalize f 9 = x9
    generalize f 10 = x10
    generalize f 11 = x11 at *
    obtain ⟨g1, hu, hd⟩ := q11
    subst hu
    go_wp2_with fail
    go_ret
    exact ⟨g1, rfl, hd, hR⟩

/-! of nil -/
theorem nil_append (A : Option Addr) (n c : Nat) (w : World) : Calls Try.prog 58 #[.pointer none, .slice A n c] w fun e w' => e = .returned (.int .i64 1) ∧ w = w' := by
  go_enter Try.func58, Try.ntmps58
  go_wp2_with fail
  go_ret
  exact ⟨rfl, rfl⟩
theorem nil_cut (n : Int) (w : World) : Calls Try.prog 59 #[.pointer none, .int .i64 n] w fun e w' => e = .returned (.int .i64 1) ∧ w = w' := by
  go_enter Try.func59, Try.ntmps59
  go_wp2_with fail
  go_ret
  exact ⟨rfl, rfl⟩
theorem nil_len (w : World) : Calls Try.prog 54 #[.pointer none] w fun e w' => e = .returned (.int .i64 0) ∧ w = w' := by
  go_enter Try.func54, Try.ntmps54
  go_wp2_with fail
  go_ret
  exact ⟨rfl, rfl⟩
theorem nil_sure (w : World) : Calls Try.prog 53 #[.pointer none] w fun e w' => e = .returned (.int .i64 0) ∧ w = w' := by
  go_enter Try.func53, Try.ntmps53
  go_wp2_with fail
  go_ret
  exact ⟨rfl, rfl⟩
theorem nil_copy (w : World) : Calls Try.prog 55 #[.pointer none] w fun e w' => e = .returned (.pointer none) ∧ w = w' := by
  go_enter Try.func55, Try.ntmps55
  go_wp2_with fail
  go_ret
  exact ⟨rfl, rfl⟩
theorem nil_sync (w : World) : Calls Try.prog 57 #[.pointer none] w fun e w' => e = .returned (.tuple #[]) ∧ w = w' := by
  go_enter Try.func57, Try.ntmps57
  go_wp2_with fail
  refine bodyPost_end (results_none rfl _ _ _) rfl ?_
  exact ⟨rfl, rfl⟩
theorem nil_crash (n : Int) (w : World) : Calls Try.prog 56 #[.pointer none, .int .i64 n] w fun e w' => e = .returned (.tuple #[]) ∧ w = w' := by
  go_enter Try.func56, Try.ntmps56
  go_wp2_with fail
  refine bodyPost_end (results_none rfl _ _ _) rfl ?_
  exact ⟨rfl, rfl⟩
theorem nil_bytes (w : World) : Calls Try.prog 52 #[.pointer none] w fun e w' => ∃ v, e = .returned (.slice v 0 0) ∧ Grow w w' := by
  have hmk := make_row (P := Try.prog) (z := .int .u8 0) Try.underlying65 i8 i8z i8s rfl 0 (by omega) (by omega)
  simp only [show ((0 : Nat) : Int) = 0 from rfl] at hmk
  go_enter Try.func52, Try.ntmps52
  go_wp2_with fail
  refine (nil_len w).mono ?_
  rintro e w' ⟨rfl, rfl⟩
  go_wp2_with fail
  go_ret
  exact ⟨_, rfl, Grow.alloc _ _⟩
end Go.Proofs.Ytgpcijpadelcfaa.dkW
