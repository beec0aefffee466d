/- The statement BloomHas: the walk. -/
import Derived.Test.YtgpcijpadelcfaaBlmL
namespace Go.Proofs.Ytgpcijpadelcfaa.blmL
open Go Go.RowKit Go.Par Go.Kit Go.Proofs.Ytgpcijpadelcfaa.btW Go.Proofs.Ytgpcijpadelcfaa.blmW

theorem pc_drop : ∀ (l : List (Nat × Nat)) (k : Nat), pc (l.drop k) = (pc l).drop (k * 2)
  | [], k => by simp [pc]
  | p :: l, 0 => by simp
  | p :: l, k + 1 => by
    have := pc_drop l k
    rw [List.drop_succ_cons, this, show (k + 1) * 2 = k * 2 + 2 by omega]
    show _ = List.drop (k * 2 + 2) (.int .u8 (p.1 : Int) :: .int .u16 (p.2 : Int) :: pc l)
    rfl
theorem pc_take : ∀ (l : List (Nat × Nat)) (k : Nat), pc (l.take k) = (pc l).take (k * 2)
  | [], k => by simp [pc]
  | p :: l, 0 => by simp [pc]
  | p :: l, k + 1 => by
    have := pc_take l k
    rw [List.take_succ_cons, show (k + 1) * 2 = k * 2 + 2 by omega]
    show .int .u8 (p.1 : Int) :: .int .u16 (p.2 : Int) :: pc (l.take k) = List.take (k * 2 + 2) (.int .u8 (p.1 : Int) :: .int .u16 (p.2 : Int) :: pc l)
    rw [this]; rfl
theorem Pids.take {w : World} {A : Option Addr} {n : Nat} {l : List (Nat × Nat)} (h : Pids w A n l) {k : Nat} (hk : k ≤ n) : Pids w A k (l.take k) :=
  ⟨by rw [List.length_take, h.1]; omega, by rw [pc_take]; exact h.2.1.take (by omega), fun p hp => h.2.2 p (List.mem_of_mem_take hp)⟩
theorem Pids.cut {w : World} {A : Option Addr} {n : Nat} {l : List (Nat × Nat)} (h : Pids w A n l) {k c : Nat} (hk : k ≤ n) (hc : n ≤ c) : Pids w (cutS A c k 2) (n - k) (l.drop k) :=
  ⟨by rw [List.length_drop, h.1], by rw [pc_drop]; exact h.2.1.cutS hk hc, fun p hp => h.2.2 p (List.mem_of_mem_drop hp)⟩
theorem infop : (Try.prog.info? 49).isSome = true := by kernel_rfl
theorem ip : Try.prog.info? 49 = some ((Try.prog.info? 49).get infop) := by simp
theorem ips : ((Try.prog.info? 49).get infop).size = 2 := by kernel_rfl

/-- a pointer to a block of nothing -/
def PtrZ (base : Nat) : Value → World → Prop := fun u w => ∃ g, u = .pointer (some ⟨g, 0, none⟩) ∧ base ≤ g ∧ Blk w g 47 zeros4
theorem PtrZ.mono {base : Nat} : Mono Grow (PtrZ base) := fun _ _ _ ⟨g, e, h1, h2⟩ hg => ⟨g, e, h1, h2.grow hg⟩

set_option maxRecDepth 100000 in
set_option maxHeartbeats 4000000 in
theorem hasLaw_walk (A : Option Addr) (n c : Nat) (l : List (Nat × Nat)) (x : Int) (b : List (BitVec 64)) (hl : b.length = 4) (w : World) (hp : Pids w A n l) (hc : n ≤ c) (hm : c ≤ maxLen) (hx0 : 0 ≤ x) (hx1 : x ≤ 255) :
    Calls Try.prog 11 #[.slice A n c, .int .u8 x, bv b] w fun e w' => e = .returned (.bool true) ∧ Grow w w' := by
  have HBL := Lib.hid hl
  have HB : Hid (∀ w : World, ∀ g, g = w.heap.size → Blk (w.alloc (.cells (u64s b).toArray 47)) g 47 (u64s b)) := Lib.hid fun w g hg => Blk.new w _ _ _ rfl hg
  obtain ⟨b0, hb0⟩ : ∃ b0, b0 = b := ⟨_, rfl⟩
  have HB0 := Lib.hid hb0
  clear hb0
  obtain ⟨g, hg⟩ : ∃ g, g = w.heap.size := ⟨_, rfl⟩
  have HG := Lib.hid hg
  clear hg
  obtain ⟨x0, x1, x2, x3, ra⟩ := len4 hl
  rw [ra]
  have RA := Lib.hid ra
  clear ra hl
  by_cases hn : 60 < n
  · go_enter Try.func11, Try.ntmps11
    go_wp2_with (go_at_call 34; refine (works_any _).mono ?_; rintro e w' ⟨rfl, hg⟩)
    go_ret
    exact ⟨rfl, (Grow.alloc _ _).trans hg⟩
  · have hm' := hm
    unfold maxLen at hm'
    have hnm : n ≤ maxLen := by unfold maxLen; omega
    obtain ⟨k, hk, hkn⟩ : ∃ k : Nat, x % ((n : Int) + 1) = k ∧ k ≤ n := by
      have h1 := Int.emod_nonneg x (show ((n : Int) + 1) ≠ 0 by omega)
      have h2 := Int.emod_lt_of_pos x (show 0 < ((n : Int) + 1) by omega)
      exact ⟨(x % ((n : Int) + 1)).toNat, by omega, by omega⟩
    have HK := Lib.hid hk
    have hof := fun (w : World) (hp : Pids w A n l) => of_any A n c l w hp hnm
    have hof1 := fun (w : World) (hp : Pids w A n l) => of_any (cutS A c k 2) (n - k) (c - k) (l.drop k) w (Pids.cut hp hkn hc) (by unfold maxLen; omega)
    have hof2 := fun (w : World) (hp : Pids w A n l) => of_any A k c (l.take k) w (Pids.take hp hkn) (by unfold maxLen; omega)
    have hsp := Blm.of_split l k
    have hO1 := Blm.of_len (l.drop k)
    have hO2 := Blm.of_len (l.take k)
    have hO := Blm.of_len l
    have hs1 := slice_loS (P := Try.prog) Try.underlying50 ip ips A n c k hkn
    have hs2 := slice_hi (P := Try.prog) Try.underlying50 ip A n c k (by omega)
    obtain ⟨O, hO'⟩ : ∃ O, O = Blm.of l := ⟨_, rfl⟩
    obtain ⟨O1, hO1'⟩ : ∃ O, O = Blm.of (l.drop k) := ⟨_, rfl⟩
    obtain ⟨O2, hO2'⟩ : ∃ O, O = Blm.of (l.take k) := ⟨_, rfl⟩
    have h31 : Blm.ones O ≤ 3 * n := by rw [hO', ← hp.1]; exact Blm.ones_of l
    have hin : ∀ a s, (a, s) ∈ l → Blm.has O (a, s) = true := fun a s h => by rw [hO']; exact Blm.has_of h
    rw [← hO'] at hof hO hsp
    rw [← hO1'] at hof1 hO1 hsp
    rw [← hO2'] at hof2 hO2 hsp
    obtain ⟨Z, hZ⟩ : ∃ Z, Z = Blm.orW b O := ⟨_, rfl⟩
    have hZ4 : Z.length = 4 := by rw [hZ]; exact Blm.orW_len HBL.out hO
    have hor1 := or_any O1 O2 hO1 hO2
    rw [← hsp] at hor1
    have hor2 := or_any b O HBL.out hO
    rw [← hZ] at hor2
    have hor3 := or_any O b hO HBL.out
    rw [Blm.or_comm hO HBL.out, ← hZ] at hor3
    have hon1 := ones_any' O hO
    have hon2 := ones_any' b HBL.out
    have hon3 := ones_any' Z hZ4
    have h32 : Blm.ones Z ≤ Blm.ones O + Blm.ones b := by
      have := Blm.ones_or HBL.out hO
      rw [hZ]; omega
    have h33 := Blm.ones_le hO
    have h34 := Blm.ones_le HBL.out
    have hin2 : ∀ a s, (a, s) ∈ l → Blm.has Z (a, s) = true := fun a s h => by rw [hZ]; exact Blm.has_or HBL.out hO (hin a s h)
    have hin3 : ∀ a s, (a, s) ∈ l → Blm.put O (a, s) = O := fun a s h => (Blm.put_has hO _).2 (hin a s h)
    have e1 := eql_self hO
    have e2 := eql_self hZ4
    obtain ⟨m1, hm1⟩ : ∃ m, m = Blm.ones O := ⟨_, rfl⟩
    obtain ⟨m2, hm2⟩ : ∃ m, m = Blm.ones b := ⟨_, rfl⟩
    obtain ⟨m3, hm3⟩ : ∃ m, m = Blm.ones Z := ⟨_, rfl⟩
    rw [← hm1] at h31 h32 h33 hon1
    rw [← hm2] at h32 h34 hon2
    rw [← hm3] at h32 hon3
    have d1 : decide ((m1 : Int) ≤ 3 * (n : Int)) = true := decide_eq_true (by omega)
    have d2 : decide ((m3 : Int) ≤ (m1 : Int) + (m2 : Int)) = true := decide_eq_true (by omega)
    have hcl : n ≤ 60 := by omega
    have HO := Lib.hid hO
    have HZ := Lib.hid hZ4
    have F1 := Lib.hid hof
    have F2 := Lib.hid hof1
    have F3 := Lib.hid hof2
    have R1 := Lib.hid hor1
    have R2 := Lib.hid hor2
    have R3 := Lib.hid hor3
    have N1 := Lib.hid hon1
    have N2 := Lib.hid hon2
    have N3 := Lib.hid hon3
    have I1 := Lib.hid hin
    have I2 := Lib.hid hin2
    have I3 := Lib.hid hin3
    have HP := Lib.hid hp
    have S1 := Lib.hid hs1
    have S2 := Lib.hid hs2
    have E1 := Lib.hid e1
    have E2 := Lib.hid e2
    clear hk hof hof1 hof2 hsp hO1 hO2 hO hO' hO1' hO2' hin hZ hZ4 hor1 hor2 hor3 hon1 hon2 hon3 hin2 hin3 e1 e2 hm1 hm2 hm3 hp hs1 hs2
    go_enter Try.func11, Try.ntmps11
    go_wp2_with fail
    rw [← HG.out]
    have b5 : Blk (w.alloc (.cells (u64s [x0, x1, x2, x3]).toArray 47)) g 47 (u64s b) := by
      have := HB.out w g HG.out
      rw [RA.out] at this ⊢; exact this
    refine (F1.out _ (HP.out.grow (Grow.alloc _ _))).mono ?_
    rintro e w1 ⟨rfl, hg1⟩
    rw [HK.out]
    have B5 := Lib.hid (b5.grow hg1)
    have HG1 := Lib.hid ((Grow.alloc w _).trans hg1)
    have HO4 := HO.out
    have hsz := hg1.size
    simp at hsz
    clear b5 hg1
    go_wp2_with (refine store_blk rfl _ _ _ rfl w1.heap.size (u64s O) rfl rfl _ zeros4 (Blk.new _ _ _ _ rfl rfl) (by rw [infoB]; simp [u64s] <;> omega) (by simp [u64s, zeros4] <;> omega) (all_u64s O) ?_)
    obtain ⟨g8, hg8⟩ : ∃ g8, g8 = w1.heap.size := ⟨_, rfl⟩
    rw [← hg8]
    have b8 := (Blk.new w1 47 #[.int .u64 0, .int .u64 0, .int .u64 0, .int .u64 0] zeros4 rfl hg8).setRow (u64s O)
    have b5' := (B5.out.grow (Grow.alloc w1 (.cells #[.int .u64 0, .int .u64 0, .int .u64 0, .int .u64 0] 47))).farRow (k := g8) (by have := HG.out; omega) (u64s O).toArray
    have hgw := Grow.setRow ((HG1.out).trans (Grow.alloc w1 (.cells #[.int .u64 0, .int .u64 0, .int .u64 0, .int .u64 0] 47))) (g := g8) (by omega) (u64s O).toArray
    obtain ⟨w2, hw2⟩ : ∃ w2, w2 = (w1.alloc (.cells #[.int .u64 0, .int .u64 0, .int .u64 0, .int .u64 0] 47)).setRow g8 (u64s O).toArray := ⟨_, rfl⟩
    rw [← hw2] at b8 b5' hgw ⊢
    have B8 := Lib.hid b8
    have B5' := Lib.hid b5'
    have HGW := Lib.hid hgw
    clear hw2 b8 b5' hgw hg8 hsz B5 HG1
    obtain ⟨base, hbase⟩ : ∃ base, base = w2.heap.size := ⟨_, rfl⟩
    have HBA := Lib.hid hbase
    clear hbase
    apply (fun (v0 v1 v2 v3 v4 v5 v6 v7 v8 : Value) mono obl tail => wp_region_par (R := Grow) (Φ := phi [veq v0, veq v1, veq v2, veq v3, veq v4, veq v5, veq v6, veq v7, veq v8, (PtrZ base)]) (m := 10) (dls := [[], [], [(24, 0), (25, 1)], [(26, 2)], [], [], [(28, 4), (29, 5)], [(30, 6)], [(27, 3), (31, 7)], []]) (ds := [24, 25, 26, 27, 28, 29, 30, 31, 32, 9]) (by kernel_rfl) (by kernel_rfl) (by decide) rfl (Grow.drew _) (fun _ _ _ => Grow.trans) (mono_phi mono) obl tail)
    case obl =>
      refine obls_cons (fun f w' hR hH Q hQ => ?_) ?_
      · skip
        simp only [view, List.foldl]
        repeat (first | go_guarded | go_step)
        exact hQ _ _ (Grow.refl _) rfl rfl
      refine obls_cons (fun f w' hR hH Q hQ => ?_) ?_
      · skip
        simp only [view, List.foldl]
        repeat (first | go_guarded | go_step)
        exact hQ _ _ (Grow.refl _) rfl rfl
      refine obls_cons (fun f w' hR hH Q hQ => ?_) ?_
      · skip
        obtain ⟨h0, h1, -⟩ := hH
        simp only [view, List.foldl, Act.put, List.setIfInBounds_toArray, List.set_cons_zero, List.set_cons_succ]
        rw [show f 0 = _ from h0]
        rw [show f 1 = _ from h1]
        clear h0 h1
        have hs1 := S1.out
        repeat (first | go_guarded | go_step)
        exact hQ _ _ (Grow.refl _) rfl rfl
      refine obls_cons (fun f w' hR hH Q hQ => ?_) ?_
      · skip
        obtain ⟨h2, -⟩ := hH
        simp only [view, List.foldl, Act.put, List.setIfInBounds_toArray, List.set_cons_zero, List.set_cons_succ]
        rw [show f 2 = _ from h2]
        clear h2
        go_wp2_with (go_at_call 39; refine (F2.out _ (HP.out.grow (HGW.out.trans hR))).mono ?_; rintro e w1 ⟨rfl, hg1⟩)
        exact hQ _ _ hg1 rfl rfl
      refine obls_cons (fun f w' hR hH Q hQ => ?_) ?_
      · skip
        simp only [view, List.foldl]
        repeat (first | go_guarded | go_step)
        exact hQ _ _ (Grow.refl _) rfl rfl
      refine obls_cons (fun f w' hR hH Q hQ => ?_) ?_
      · skip
        simp only [view, List.foldl]
        repeat (first | go_guarded | go_step)
        exact hQ _ _ (Grow.refl _) rfl rfl
      refine obls_cons (fun f w' hR hH Q hQ => ?_) ?_
      · skip
        obtain ⟨h4, h5, -⟩ := hH
        simp only [view, List.foldl, Act.put, List.setIfInBounds_toArray, List.set_cons_zero, List.set_cons_succ]
        rw [show f 4 = _ from h4]
        rw [show f 5 = _ from h5]
        clear h4 h5
        have hs2 := S2.out
        repeat (first | go_guarded | go_step)
        exact hQ _ _ (Grow.refl _) rfl rfl
      refine obls_cons (fun f w' hR hH Q hQ => ?_) ?_
      · skip
        obtain ⟨h6, -⟩ := hH
        simp only [view, List.foldl, Act.put, List.setIfInBounds_toArray, List.set_cons_zero, List.set_cons_succ]
        rw [show f 6 = _ from h6]
        clear h6
        go_wp2_with (go_at_call 39; refine (F3.out _ (HP.out.grow (HGW.out.trans hR))).mono ?_; rintro e w1 ⟨rfl, hg1⟩)
        exact hQ _ _ hg1 rfl rfl
      refine obls_cons (fun f w' hR hH Q hQ => ?_) ?_
      · skip
        obtain ⟨h3, h7, -⟩ := hH
        simp only [view, List.foldl, Act.put, List.setIfInBounds_toArray, List.set_cons_zero, List.set_cons_succ]
        rw [show f 3 = _ from h3]
        rw [show f 7 = _ from h7]
        clear h3 h7
        go_wp2_with (go_at_call 43; refine (R1.out _).mono ?_; rintro e w1 ⟨rfl, hg1⟩)
        exact hQ _ _ hg1 rfl rfl
      refine obls_cons (fun f w' hR hH Q hQ => ?_) ?_
      · skip
        simp only [view, List.foldl]
        repeat (first | go_guarded | go_step)
        exact hQ _ _ (Grow.alloc _ _) ⟨_, rfl, by rw [HBA.out]; exact hR.size, Blk.new _ _ _ _ rfl rfl⟩ rfl
      exact obls_nil
    case mono => exact ⟨Mono.veq _, Mono.veq _, Mono.veq _, Mono.veq _, Mono.veq _, Mono.veq _, Mono.veq _, Mono.veq _, Mono.veq _, PtrZ.mono, trivial⟩
    case tail =>
      intro f w' hR hH
      simp only [view, List.zipIdx, List.foldl, Act.put, List.setIfInBounds_toArray, List.set_cons_zero, List.set_cons_succ, List.drop_succ_cons, List.drop_zero]
      obtain ⟨-, -, -, -, -, -, -, -, q8, q9, -⟩ := hH
      rw [show f 8 = _ from q8]
      replace q9 : (PtrZ base) (f 9) w' := q9
      clear q8
      generalize f 0 = x0
      generalize f 1 = x1
      generalize f 2 = x2
      generalize f 3 = x3
      generalize f 4 = x4
      generalize f 5 = x5
      generalize f 6 = x6
      generalize f 7 = x7
      generalize f 9 = x9 at *
      obtain ⟨g9, hf9, hg9, b9⟩ := q9
      subst hf9
      have hsz8 := B8.out.lt
      have hsz5 := B5'.out.lt
      have hbs := HBA.out
      have HO4 := HO.out
      have b8 := (B8.out.grow hR).farRow (k := g9) (by omega) (u64s O).toArray
      have b5 := (B5'.out.grow hR).farRow (k := g9) (by omega) (u64s O).toArray
      have b9' := b9.setRow (u64s O)
      have hgw := Grow.setRow (HGW.out.trans hR) (g := g9) (by have := HGW.out.size; omega) (u64s O).toArray
      clear hsz8 hsz5 hbs
      go_wp2_with (first | (refine store_blk rfl _ _ _ rfl g9 (u64s O) rfl rfl _ zeros4 b9 (by rw [infoB]; simp [u64s] <;> omega) (by simp [u64s, zeros4] <;> omega) (all_u64s O) ?_) | (refine load_blk rfl _ _ rfl g rfl _ (u64s b) _ b5 undB rfl (by rw [infoB, RA.out]; rfl) ?_) | (refine load_blk rfl _ _ rfl g8 rfl _ (u64s O) _ b8 undB rfl (by rw [infoB]; simp [u64s] <;> omega) ?_))
      refine (R2.out _).mono ?_
      rintro e w4 ⟨rfl, hg4⟩
      have C5 := Lib.hid (b5.grow hg4)
      have C8 := Lib.hid (b8.grow hg4)
      have C9 := Lib.hid (b9'.grow hg4)
      have HG4 := Lib.hid (hgw.trans hg4)
      have HZ4 := HZ.out
      clear b5 b8 b9 b9' hgw hg4 HO4
      go_wp2_with (refine store_blk rfl _ _ _ rfl w4.heap.size (u64s Z) rfl rfl _ zeros4 (Blk.new _ _ _ _ rfl rfl) (by rw [infoB]; simp [u64s] <;> omega) (by simp [u64s, zeros4] <;> omega) (all_u64s Z) ?_)
      obtain ⟨g10, hg10⟩ : ∃ g10, g10 = w4.heap.size := ⟨_, rfl⟩
      rw [← hg10]
      have d10 := (Blk.new w4 47 #[.int .u64 0, .int .u64 0, .int .u64 0, .int .u64 0] zeros4 rfl hg10).setRow (u64s Z)
      have l5 := C5.out.lt
      have l8 := C8.out.lt
      have l9 := C9.out.lt
      have d5 := (C5.out.grow (Grow.alloc w4 (.cells #[.int .u64 0, .int .u64 0, .int .u64 0, .int .u64 0] 47))).farRow (k := g10) (by omega) (u64s Z).toArray
      have d8 := (C8.out.grow (Grow.alloc w4 (.cells #[.int .u64 0, .int .u64 0, .int .u64 0, .int .u64 0] 47))).farRow (k := g10) (by omega) (u64s Z).toArray
      have d9 := (C9.out.grow (Grow.alloc w4 (.cells #[.int .u64 0, .int .u64 0, .int .u64 0, .int .u64 0] 47))).farRow (k := g10) (by omega) (u64s Z).toArray
      have hgw := Grow.setRow ((HG4.out).trans (Grow.alloc w4 (.cells #[.int .u64 0, .int .u64 0, .int .u64 0, .int .u64 0] 47))) (g := g10) (by have := HG4.out.size; omega) (u64s Z).toArray
      obtain ⟨w5, hw5⟩ : ∃ w5, w5 = (w4.alloc (.cells #[.int .u64 0, .int .u64 0, .int .u64 0, .int .u64 0] 47)).setRow g10 (u64s Z).toArray := ⟨_, rfl⟩
      rw [← hw5] at d5 d8 d9 d10 hgw ⊢
      have D5 := Lib.hid d5
      have D8 := Lib.hid d8
      have D9 := Lib.hid d9
      have D10 := Lib.hid d10
      have HGW5 := Lib.hid hgw
      clear d5 d8 d9 d10 hgw hw5 hg10 l5 l8 l9 C5 C8 C9 HG4 HZ4 B8 B5' hg9 hR
      go_loopw [11] (fun i wr => ∃ j : Nat, j ≤ n ∧ i = .int .i64 (j : Int) ∧ Grow w5 wr) (fun i _ => n - (intOf i).toNat)
      case atStart => exact ⟨0, by omega, rfl, Grow.refl _⟩
      case round =>
        obtain ⟨j, hj, rfl, hgr⟩ := hrel
        by_cases hlt : j < n
        · obtain ⟨bb, off, a, s, rfl, hx, ha, hs, hc0, hc1⟩ := (HP.out.grow (HGW5.out.trans hgr)).at_ hlt
          have hmem : (a, s) ∈ l := List.mem_of_getElem? hx
          have hh1 := has_any O HO.out a s ha hs
          rw [I1.out a s hmem] at hh1
          have hh2 := has_any Z HZ.out a s ha hs
          rw [I2.out a s hmem] at hh2
          have hh3 := put_any O HO.out a s ha hs
          rw [I3.out a s hmem] at hh3
          have J1 := Lib.hid hh1
          have J2 := Lib.hid hh2
          have J3 := Lib.hid hh3
          have HGR := Lib.hid hgr
          have heq := E1.out
          clear hh1 hh2 hh3 hx hmem hgr
          go_wp2_with fail
          apply (fun (v0 v1 v2 v3 v4 v5 v6 v7 v8 v9 v10 v11 v12 v13 v14 v15 v16 v17 v18 v19 v20 v21 v22 v23 v24 v25 : Value) mono obl tail => wp_region_par (R := Grow) (Φ := phi [veq v0, veq v1, veq v2, veq v3, veq v4, veq v5, veq v6, veq v7, veq v8, veq v9, veq v10, veq v11, veq v12, veq v13, veq v14, veq v15, veq v16, veq v17, veq v18, veq v19, veq v20, veq v21, veq v22, veq v23, veq v24, veq v25]) (m := 26) (dls := [[], [], [], [(43, 1), (44, 2)], [(45, 3)], [(42, 0), (46, 4)], [(47, 5)], [(48, 6)], [(49, 7)], [(49, 7)], [(49, 7)], [(51, 9), (52, 10), (49, 7)], [(53, 11), (49, 7)], [(50, 8), (54, 12), (49, 7)], [(55, 13), (49, 7)], [(49, 7), (56, 14)], [(57, 15)], [(58, 16)], [(58, 16)], [(58, 16)], [(60, 18), (61, 19), (58, 16)], [(62, 20), (58, 16)], [(59, 17), (63, 21), (58, 16)], [(58, 16)], [(64, 22), (65, 23), (58, 16)], [(58, 16), (66, 24)]]) (ds := [42, 43, 44, 45, 46, 47, 48, 49, 50, 51, 52, 53, 54, 55, 56, 57, 58, 59, 60, 61, 62, 63, 64, 65, 66, 67]) (by kernel_rfl) (by kernel_rfl) (by decide) rfl (Grow.drew _) (fun _ _ _ => Grow.trans) (mono_phi mono) obl tail)
          case obl =>
            refine obls_cons (fun f w' hR hH Q hQ => ?_) ?_
            · skip
              simp only [view, List.foldl]
              have HO4 := HO.out
              go_wp2_with (refine load_blk rfl _ _ rfl g8 rfl _ _ _ (D8.out.grow (HGR.out.trans hR)) undB rfl (by rw [infoB]; simp [u64s] <;> omega) ?_)
              exact hQ _ _ (Grow.refl _) rfl rfl
            refine obls_cons (fun f w' hR hH Q hQ => ?_) ?_
            · skip
              simp only [view, List.foldl]
              repeat (first | go_guarded | go_step)
              exact hQ _ _ (Grow.refl _) rfl rfl
            refine obls_cons (fun f w' hR hH Q hQ => ?_) ?_
            · skip
              simp only [view, List.foldl]
              repeat (first | go_guarded | go_step)
              exact hQ _ _ (Grow.refl _) rfl rfl
            refine obls_cons (fun f w' hR hH Q hQ => ?_) ?_
            · skip
              obtain ⟨h1, h2, -⟩ := hH
              simp only [view, List.foldl, Act.put, List.setIfInBounds_toArray, List.set_cons_zero, List.set_cons_succ]
              rw [show f 1 = _ from h1]
              rw [show f 2 = _ from h2]
              clear h1 h2
              repeat (first | go_guarded | go_step)
              exact hQ _ _ (Grow.refl _) rfl rfl
            refine obls_cons (fun f w' hR hH Q hQ => ?_) ?_
            · skip
              obtain ⟨h3, -⟩ := hH
              simp only [view, List.foldl, Act.put, List.setIfInBounds_toArray, List.set_cons_zero, List.set_cons_succ]
              rw [show f 3 = _ from h3]
              clear h3
              have c0 := hR.cell hc0
              have c1 := hR.cell hc1
              repeat (first | go_guarded | go_step)
              exact hQ _ _ (Grow.refl _) rfl rfl
            refine obls_cons (fun f w' hR hH Q hQ => ?_) ?_
            · skip
              obtain ⟨h0, h4, -⟩ := hH
              simp only [view, List.foldl, Act.put, List.setIfInBounds_toArray, List.set_cons_zero, List.set_cons_succ]
              rw [show f 0 = _ from h0]
              rw [show f 4 = _ from h4]
              clear h0 h4
              go_wp2_with (go_at_call 37; refine (J1.out _).mono ?_; rintro e w1 ⟨rfl, hg1⟩)
              exact hQ _ _ hg1 rfl rfl
            refine obls_cons (fun f w' hR hH Q hQ => ?_) ?_
            · skip
              obtain ⟨h5, -⟩ := hH
              simp only [view, List.foldl, Act.put, List.setIfInBounds_toArray, List.set_cons_zero, List.set_cons_succ]
              rw [show f 5 = _ from h5]
              clear h5
              repeat (first | go_guarded | go_step)
              exact hQ _ _ (Grow.refl _) rfl rfl
            refine obls_cons (fun f w' hR hH Q hQ => ?_) ?_
            · skip
              obtain ⟨h6, -⟩ := hH
              simp only [view, List.foldl, Act.put, List.setIfInBounds_toArray, List.set_cons_zero, List.set_cons_succ]
              rw [show f 6 = _ from h6]
              clear h6
              repeat (first | go_guarded | go_step)
              exact hQ _ _ (Grow.refl _) rfl rfl
            refine obls_cons (fun f w' hR hH Q hQ => ?_) ?_
            · skip
              obtain ⟨h7, -⟩ := hH
              simp only [view, List.foldl, Act.put, List.setIfInBounds_toArray, List.set_cons_zero, List.set_cons_succ]
              rw [show f 7 = _ from h7]
              clear h7
              have HZ4 := HZ.out
              refine load_blk rfl _ _ rfl g10 rfl _ _ _ (D10.out.grow (HGR.out.trans hR)) undB rfl (by rw [infoB]; simp [u64s] <;> omega) ?_
              exact hQ _ _ (Grow.refl _) rfl rfl
            refine obls_cons (fun f w' hR hH Q hQ => ?_) ?_
            · skip
              obtain ⟨h7, -⟩ := hH
              simp only [view, List.foldl, Act.put, List.setIfInBounds_toArray, List.set_cons_zero, List.set_cons_succ]
              rw [show f 7 = _ from h7]
              clear h7
              repeat (first | go_guarded | go_step)
              exact hQ _ _ (Grow.refl _) rfl rfl
            refine obls_cons (fun f w' hR hH Q hQ => ?_) ?_
            · skip
              obtain ⟨h7, -⟩ := hH
              simp only [view, List.foldl, Act.put, List.setIfInBounds_toArray, List.set_cons_zero, List.set_cons_succ]
              rw [show f 7 = _ from h7]
              clear h7
              repeat (first | go_guarded | go_step)
              exact hQ _ _ (Grow.refl _) rfl rfl
            refine obls_cons (fun f w' hR hH Q hQ => ?_) ?_
            · skip
              obtain ⟨h9, h10, h7, -⟩ := hH
              simp only [view, List.foldl, Act.put, List.setIfInBounds_toArray, List.set_cons_zero, List.set_cons_succ]
              rw [show f 9 = _ from h9]
              rw [show f 10 = _ from h10]
              rw [show f 7 = _ from h7]
              clear h9 h10 h7
              repeat (first | go_guarded | go_step)
              exact hQ _ _ (Grow.refl _) rfl rfl
            refine obls_cons (fun f w' hR hH Q hQ => ?_) ?_
            · skip
              obtain ⟨h11, h7, -⟩ := hH
              simp only [view, List.foldl, Act.put, List.setIfInBounds_toArray, List.set_cons_zero, List.set_cons_succ]
              rw [show f 11 = _ from h11]
              rw [show f 7 = _ from h7]
              clear h11 h7
              have c0 := hR.cell hc0
              have c1 := hR.cell hc1
              repeat (first | go_guarded | go_step)
              exact hQ _ _ (Grow.refl _) rfl rfl
            refine obls_cons (fun f w' hR hH Q hQ => ?_) ?_
            · skip
              obtain ⟨h8, h12, h7, -⟩ := hH
              simp only [view, List.foldl, Act.put, List.setIfInBounds_toArray, List.set_cons_zero, List.set_cons_succ]
              rw [show f 8 = _ from h8]
              rw [show f 12 = _ from h12]
              rw [show f 7 = _ from h7]
              clear h8 h12 h7
              go_wp2_with (go_at_call 37; refine (J2.out _).mono ?_; rintro e w1 ⟨rfl, hg1⟩)
              exact hQ _ _ hg1 rfl rfl
            refine obls_cons (fun f w' hR hH Q hQ => ?_) ?_
            · skip
              obtain ⟨h13, h7, -⟩ := hH
              simp only [view, List.foldl, Act.put, List.setIfInBounds_toArray, List.set_cons_zero, List.set_cons_succ]
              rw [show f 13 = _ from h13]
              rw [show f 7 = _ from h7]
              clear h13 h7
              repeat (first | go_guarded | go_step)
              exact hQ _ _ (Grow.refl _) rfl rfl
            refine obls_cons (fun f w' hR hH Q hQ => ?_) ?_
            · skip
              obtain ⟨h7, h14, -⟩ := hH
              simp only [view, List.foldl, Act.put, List.setIfInBounds_toArray, List.set_cons_zero, List.set_cons_succ]
              rw [show f 7 = _ from h7]
              rw [show f 14 = _ from h14]
              clear h7 h14
              repeat (first | go_guarded | go_step)
              exact hQ _ _ (Grow.refl _) rfl rfl
            refine obls_cons (fun f w' hR hH Q hQ => ?_) ?_
            · skip
              obtain ⟨h15, -⟩ := hH
              simp only [view, List.foldl, Act.put, List.setIfInBounds_toArray, List.set_cons_zero, List.set_cons_succ]
              rw [show f 15 = _ from h15]
              clear h15
              repeat (first | go_guarded | go_step)
              exact hQ _ _ (Grow.refl _) rfl rfl
            refine obls_cons (fun f w' hR hH Q hQ => ?_) ?_
            · skip
              obtain ⟨h16, -⟩ := hH
              simp only [view, List.foldl, Act.put, List.setIfInBounds_toArray, List.set_cons_zero, List.set_cons_succ]
              rw [show f 16 = _ from h16]
              clear h16
              have HO4 := HO.out
              refine load_blk rfl _ _ rfl g8 rfl _ _ _ (D8.out.grow (HGR.out.trans hR)) undB rfl (by rw [infoB]; simp [u64s] <;> omega) ?_
              exact hQ _ _ (Grow.refl _) rfl rfl
            refine obls_cons (fun f w' hR hH Q hQ => ?_) ?_
            · skip
              obtain ⟨h16, -⟩ := hH
              simp only [view, List.foldl, Act.put, List.setIfInBounds_toArray, List.set_cons_zero, List.set_cons_succ]
              rw [show f 16 = _ from h16]
              clear h16
              repeat (first | go_guarded | go_step)
              exact hQ _ _ (Grow.refl _) rfl rfl
            refine obls_cons (fun f w' hR hH Q hQ => ?_) ?_
            · skip
              obtain ⟨h16, -⟩ := hH
              simp only [view, List.foldl, Act.put, List.setIfInBounds_toArray, List.set_cons_zero, List.set_cons_succ]
              rw [show f 16 = _ from h16]
              clear h16
              repeat (first | go_guarded | go_step)
              exact hQ _ _ (Grow.refl _) rfl rfl
            refine obls_cons (fun f w' hR hH Q hQ => ?_) ?_
            · skip
              obtain ⟨h18, h19, h16, -⟩ := hH
              simp only [view, List.foldl, Act.put, List.setIfInBounds_toArray, List.set_cons_zero, List.set_cons_succ]
              rw [show f 18 = _ from h18]
              rw [show f 19 = _ from h19]
              rw [show f 16 = _ from h16]
              clear h18 h19 h16
              repeat (first | go_guarded | go_step)
              exact hQ _ _ (Grow.refl _) rfl rfl
            refine obls_cons (fun f w' hR hH Q hQ => ?_) ?_
            · skip
              obtain ⟨h20, h16, -⟩ := hH
              simp only [view, List.foldl, Act.put, List.setIfInBounds_toArray, List.set_cons_zero, List.set_cons_succ]
              rw [show f 20 = _ from h20]
              rw [show f 16 = _ from h16]
              clear h20 h16
              have c0 := hR.cell hc0
              have c1 := hR.cell hc1
              repeat (first | go_guarded | go_step)
              exact hQ _ _ (Grow.refl _) rfl rfl
            refine obls_cons (fun f w' hR hH Q hQ => ?_) ?_
            · skip
              obtain ⟨h17, h21, h16, -⟩ := hH
              simp only [view, List.foldl, Act.put, List.setIfInBounds_toArray, List.set_cons_zero, List.set_cons_succ]
              rw [show f 17 = _ from h17]
              rw [show f 21 = _ from h21]
              rw [show f 16 = _ from h16]
              clear h17 h21 h16
              go_wp2_with (go_at_call 35; refine (J3.out _).mono ?_; rintro e w1 ⟨rfl, hg1⟩)
              exact hQ _ _ hg1 rfl rfl
            refine obls_cons (fun f w' hR hH Q hQ => ?_) ?_
            · skip
              obtain ⟨h16, -⟩ := hH
              simp only [view, List.foldl, Act.put, List.setIfInBounds_toArray, List.set_cons_zero, List.set_cons_succ]
              rw [show f 16 = _ from h16]
              clear h16
              have HO4 := HO.out
              refine load_blk rfl _ _ rfl g8 rfl _ _ _ (D8.out.grow (HGR.out.trans hR)) undB rfl (by rw [infoB]; simp [u64s] <;> omega) ?_
              exact hQ _ _ (Grow.refl _) rfl rfl
            refine obls_cons (fun f w' hR hH Q hQ => ?_) ?_
            · skip
              obtain ⟨h22, h23, h16, -⟩ := hH
              simp only [view, List.foldl, Act.put, List.setIfInBounds_toArray, List.set_cons_zero, List.set_cons_succ]
              rw [show f 22 = _ from h22]
              rw [show f 23 = _ from h23]
              rw [show f 16 = _ from h16]
              clear h22 h23 h16
              repeat (first | go_guarded | go_step)
              exact hQ _ _ (Grow.refl _) rfl rfl
            refine obls_cons (fun f w' hR hH Q hQ => ?_) ?_
            · skip
              obtain ⟨h16, h24, -⟩ := hH
              simp only [view, List.foldl, Act.put, List.setIfInBounds_toArray, List.set_cons_zero, List.set_cons_succ]
              rw [show f 16 = _ from h16]
              rw [show f 24 = _ from h24]
              clear h16 h24
              repeat (first | go_guarded | go_step)
              exact hQ _ _ (Grow.refl _) rfl rfl
            exact obls_nil
          case mono => exact ⟨Mono.veq _, Mono.veq _, Mono.veq _, Mono.veq _, Mono.veq _, Mono.veq _, Mono.veq _, Mono.veq _, Mono.veq _, Mono.veq _, Mono.veq _, Mono.veq _, Mono.veq _, Mono.veq _, Mono.veq _, Mono.veq _, Mono.veq _, Mono.veq _, Mono.veq _, Mono.veq _, Mono.veq _, Mono.veq _, Mono.veq _, Mono.veq _, Mono.veq _, Mono.veq _, trivial⟩
          case tail =>
            intro f w' hR hH
            simp only [view, List.zipIdx, List.foldl, Act.put, List.setIfInBounds_toArray, List.set_cons_zero, List.set_cons_succ, List.drop_succ_cons, List.drop_zero]
            obtain ⟨-, -, -, -, -, -, -, -, -, -, -, -, -, -, -, -, -, -, -, -, -, -, -, -, -, q25, -⟩ := hH
            rw [show f 25 = _ from q25]
            clear q25
            generalize f 0 = x0
            generalize f 1 = x1
            generalize f 2 = x2
            generalize f 3 = x3
            generalize f 4 = x4
            generalize f 5 = x5
            generalize f 6 = x6
            generalize f 7 = x7
            generalize f 8 = x8
            generalize f 9 = x9
            generalize f 10 = x10
            generalize f 11 = x11
            generalize f 12 = x12
            generalize f 13 = x13
            generalize f 14 = x14
            generalize f 15 = x15
            generalize f 16 = x16
            generalize f 17 = x17
            generalize f 18 = x18
            generalize f 19 = x19
            generalize f 20 = x20
            generalize f 21 = x21
            generalize f 22 = x22
            generalize f 23 = x23
            generalize f 24 = x24
            go_wp2_with fail
            go_roundw
            case rel => exact ⟨j + 1, by omega, by go_num, HGR.out.trans hR⟩
            case measure => simp [intOf] <;> omega
        · obtain rfl : j = n := by omega
          have heq1 := E1.out
          have heq2 := E2.out
          have HGR := Lib.hid hgr
          clear hgr
          go_wp2_with fail
          apply (fun (v0 v1 v2 v3 v4 v5 v6 v7 v8 v9 v10 v11 v12 v13 v14 v15 v16 v17 v18 v19 v20 v21 v22 v23 v24 v25 v26 v27 v28 v29 v30 v31 : Value) mono obl tail => wp_region_par (R := Grow) (Φ := phi [veq v0, veq v1, veq v2, veq v3, veq v4, veq v5, veq v6, veq v7, veq v8, veq v9, veq v10, veq v11, veq v12, veq v13, veq v14, veq v15, veq v16, veq v17, veq v18, veq v19, veq v20, veq v21, veq v22, veq v23, veq v24, veq v25, veq v26, veq v27, veq v28, veq v29, veq v30, veq v31]) (m := 32) (dls := [[], [], [(68, 0), (69, 1)], [(70, 2)], [(71, 3)], [(72, 4), (71, 3)], [(71, 3)], [(74, 6), (71, 3)], [(75, 7), (71, 3)], [(73, 5), (76, 8), (71, 3)], [(71, 3), (77, 9)], [(78, 10)], [(79, 11)], [(79, 11)], [(80, 12), (81, 13), (79, 11)], [(79, 11)], [(82, 14), (83, 15), (79, 11)], [(79, 11), (84, 16)], [(85, 17)], [(86, 18)], [(87, 19), (86, 18)], [(86, 18)], [(89, 21), (86, 18)], [(86, 18)], [(91, 23), (86, 18)], [(90, 22), (92, 24), (86, 18)], [(88, 20), (93, 25), (86, 18)], [(86, 18), (94, 26)], [(95, 27)], [(96, 28)], [(96, 28), (97, 29)], [(98, 30)]]) (ds := [68, 69, 70, 71, 72, 73, 74, 75, 76, 77, 78, 79, 80, 81, 82, 83, 84, 85, 86, 87, 88, 89, 90, 91, 92, 93, 94, 95, 96, 97, 98, 6]) (by kernel_rfl) (by kernel_rfl) (by decide) rfl (Grow.drew _) (fun _ _ _ => Grow.trans) (mono_phi mono) obl tail)
          case obl =>
            refine obls_cons (fun f w' hR hH Q hQ => ?_) ?_
            · skip
              simp only [view, List.foldl]
              have HO4 := HO.out
              go_wp2_with (refine load_blk rfl _ _ rfl g8 rfl _ _ _ (D8.out.grow (HGR.out.trans hR)) undB rfl (by rw [infoB]; simp [u64s] <;> omega) ?_)
              exact hQ _ _ (Grow.refl _) rfl rfl
            refine obls_cons (fun f w' hR hH Q hQ => ?_) ?_
            · skip
              simp only [view, List.foldl]
              have HO4 := HO.out
              go_wp2_with (refine load_blk rfl _ _ rfl g9 rfl _ _ _ (D9.out.grow (HGR.out.trans hR)) undB rfl (by rw [infoB]; simp [u64s] <;> omega) ?_)
              exact hQ _ _ (Grow.refl _) rfl rfl
            refine obls_cons (fun f w' hR hH Q hQ => ?_) ?_
            · skip
              obtain ⟨h0, h1, -⟩ := hH
              simp only [view, List.foldl, Act.put, List.setIfInBounds_toArray, List.set_cons_zero, List.set_cons_succ]
              rw [show f 0 = _ from h0]
              rw [show f 1 = _ from h1]
              clear h0 h1
              repeat (first | go_guarded | go_step)
              exact hQ _ _ (Grow.refl _) rfl rfl
            refine obls_cons (fun f w' hR hH Q hQ => ?_) ?_
            · skip
              obtain ⟨h2, -⟩ := hH
              simp only [view, List.foldl, Act.put, List.setIfInBounds_toArray, List.set_cons_zero, List.set_cons_succ]
              rw [show f 2 = _ from h2]
              clear h2
              repeat (first | go_guarded | go_step)
              exact hQ _ _ (Grow.refl _) rfl rfl
            refine obls_cons (fun f w' hR hH Q hQ => ?_) ?_
            · skip
              obtain ⟨h3, -⟩ := hH
              simp only [view, List.foldl, Act.put, List.setIfInBounds_toArray, List.set_cons_zero, List.set_cons_succ]
              rw [show f 3 = _ from h3]
              clear h3
              have HO4 := HO.out
              refine load_blk rfl _ _ rfl g8 rfl _ _ _ (D8.out.grow (HGR.out.trans hR)) undB rfl (by rw [infoB]; simp [u64s] <;> omega) ?_
              exact hQ _ _ (Grow.refl _) rfl rfl
            refine obls_cons (fun f w' hR hH Q hQ => ?_) ?_
            · skip
              obtain ⟨h4, h3, -⟩ := hH
              simp only [view, List.foldl, Act.put, List.setIfInBounds_toArray, List.set_cons_zero, List.set_cons_succ]
              rw [show f 4 = _ from h4]
              rw [show f 3 = _ from h3]
              clear h4 h3
              go_wp2_with (go_at_call 41; refine (N1.out _).mono ?_; rintro e w1 ⟨rfl, hg1⟩)
              exact hQ _ _ hg1 rfl rfl
            refine obls_cons (fun f w' hR hH Q hQ => ?_) ?_
            · skip
              obtain ⟨h3, -⟩ := hH
              simp only [view, List.foldl, Act.put, List.setIfInBounds_toArray, List.set_cons_zero, List.set_cons_succ]
              rw [show f 3 = _ from h3]
              clear h3
              repeat (first | go_guarded | go_step)
              exact hQ _ _ (Grow.refl _) rfl rfl
            refine obls_cons (fun f w' hR hH Q hQ => ?_) ?_
            · skip
              obtain ⟨h6, h3, -⟩ := hH
              simp only [view, List.foldl, Act.put, List.setIfInBounds_toArray, List.set_cons_zero, List.set_cons_succ]
              rw [show f 6 = _ from h6]
              rw [show f 3 = _ from h3]
              clear h6 h3
              repeat (first | go_guarded | go_step)
              exact hQ _ _ (Grow.refl _) rfl rfl
            refine obls_cons (fun f w' hR hH Q hQ => ?_) ?_
            · skip
              obtain ⟨h7, h3, -⟩ := hH
              simp only [view, List.foldl, Act.put, List.setIfInBounds_toArray, List.set_cons_zero, List.set_cons_succ]
              rw [show f 7 = _ from h7]
              rw [show f 3 = _ from h3]
              clear h7 h3
              repeat (first | go_guarded | go_step)
              exact hQ _ _ (Grow.refl _) rfl rfl
            refine obls_cons (fun f w' hR hH Q hQ => ?_) ?_
            · skip
              obtain ⟨h5, h8, h3, -⟩ := hH
              simp only [view, List.foldl, Act.put, List.setIfInBounds_toArray, List.set_cons_zero, List.set_cons_succ]
              rw [show f 5 = _ from h5]
              rw [show f 8 = _ from h8]
              rw [show f 3 = _ from h3]
              clear h5 h8 h3
              repeat (first | go_guarded | go_step)
              exact hQ _ _ (Grow.refl _) rfl rfl
            refine obls_cons (fun f w' hR hH Q hQ => ?_) ?_
            · skip
              obtain ⟨h3, h9, -⟩ := hH
              simp only [view, List.foldl, Act.put, List.setIfInBounds_toArray, List.set_cons_zero, List.set_cons_succ]
              rw [show f 3 = _ from h3]
              rw [show f 9 = _ from h9]
              clear h3 h9
              repeat (first | go_guarded | go_step)
              exact hQ _ _ (Grow.refl _) rfl rfl
            refine obls_cons (fun f w' hR hH Q hQ => ?_) ?_
            · skip
              obtain ⟨h10, -⟩ := hH
              simp only [view, List.foldl, Act.put, List.setIfInBounds_toArray, List.set_cons_zero, List.set_cons_succ]
              rw [show f 10 = _ from h10]
              clear h10
              repeat (first | go_guarded | go_step)
              exact hQ _ _ (Grow.refl _) rfl rfl
            refine obls_cons (fun f w' hR hH Q hQ => ?_) ?_
            · skip
              obtain ⟨h11, -⟩ := hH
              simp only [view, List.foldl, Act.put, List.setIfInBounds_toArray, List.set_cons_zero, List.set_cons_succ]
              rw [show f 11 = _ from h11]
              clear h11
              have HO4 := HO.out
              refine load_blk rfl _ _ rfl g8 rfl _ _ _ (D8.out.grow (HGR.out.trans hR)) undB rfl (by rw [infoB]; simp [u64s] <;> omega) ?_
              exact hQ _ _ (Grow.refl _) rfl rfl
            refine obls_cons (fun f w' hR hH Q hQ => ?_) ?_
            · skip
              obtain ⟨h11, -⟩ := hH
              simp only [view, List.foldl, Act.put, List.setIfInBounds_toArray, List.set_cons_zero, List.set_cons_succ]
              rw [show f 11 = _ from h11]
              clear h11
              refine load_blk rfl _ _ rfl g rfl _ _ _ (D5.out.grow (HGR.out.trans hR)) undB rfl (by rw [infoB, RA.out]; rfl) ?_
              exact hQ _ _ (Grow.refl _) rfl rfl
            refine obls_cons (fun f w' hR hH Q hQ => ?_) ?_
            · skip
              obtain ⟨h12, h13, h11, -⟩ := hH
              simp only [view, List.foldl, Act.put, List.setIfInBounds_toArray, List.set_cons_zero, List.set_cons_succ]
              rw [show f 12 = _ from h12]
              rw [show f 13 = _ from h13]
              rw [show f 11 = _ from h11]
              clear h12 h13 h11
              go_wp2_with (go_at_call 43; refine (R3.out _).mono ?_; rintro e w1 ⟨rfl, hg1⟩)
              exact hQ _ _ hg1 rfl rfl
            refine obls_cons (fun f w' hR hH Q hQ => ?_) ?_
            · skip
              obtain ⟨h11, -⟩ := hH
              simp only [view, List.foldl, Act.put, List.setIfInBounds_toArray, List.set_cons_zero, List.set_cons_succ]
              rw [show f 11 = _ from h11]
              clear h11
              have HZ4 := HZ.out
              refine load_blk rfl _ _ rfl g10 rfl _ _ _ (D10.out.grow (HGR.out.trans hR)) undB rfl (by rw [infoB]; simp [u64s] <;> omega) ?_
              exact hQ _ _ (Grow.refl _) rfl rfl
            refine obls_cons (fun f w' hR hH Q hQ => ?_) ?_
            · skip
              obtain ⟨h14, h15, h11, -⟩ := hH
              simp only [view, List.foldl, Act.put, List.setIfInBounds_toArray, List.set_cons_zero, List.set_cons_succ]
              rw [show f 14 = _ from h14]
              rw [show f 15 = _ from h15]
              rw [show f 11 = _ from h11]
              clear h14 h15 h11
              repeat (first | go_guarded | go_step)
              exact hQ _ _ (Grow.refl _) rfl rfl
            refine obls_cons (fun f w' hR hH Q hQ => ?_) ?_
            · skip
              obtain ⟨h11, h16, -⟩ := hH
              simp only [view, List.foldl, Act.put, List.setIfInBounds_toArray, List.set_cons_zero, List.set_cons_succ]
              rw [show f 11 = _ from h11]
              rw [show f 16 = _ from h16]
              clear h11 h16
              repeat (first | go_guarded | go_step)
              exact hQ _ _ (Grow.refl _) rfl rfl
            refine obls_cons (fun f w' hR hH Q hQ => ?_) ?_
            · skip
              obtain ⟨h17, -⟩ := hH
              simp only [view, List.foldl, Act.put, List.setIfInBounds_toArray, List.set_cons_zero, List.set_cons_succ]
              rw [show f 17 = _ from h17]
              clear h17
              repeat (first | go_guarded | go_step)
              exact hQ _ _ (Grow.refl _) rfl rfl
            refine obls_cons (fun f w' hR hH Q hQ => ?_) ?_
            · skip
              obtain ⟨h18, -⟩ := hH
              simp only [view, List.foldl, Act.put, List.setIfInBounds_toArray, List.set_cons_zero, List.set_cons_succ]
              rw [show f 18 = _ from h18]
              clear h18
              have HZ4 := HZ.out
              refine load_blk rfl _ _ rfl g10 rfl _ _ _ (D10.out.grow (HGR.out.trans hR)) undB rfl (by rw [infoB]; simp [u64s] <;> omega) ?_
              exact hQ _ _ (Grow.refl _) rfl rfl
            refine obls_cons (fun f w' hR hH Q hQ => ?_) ?_
            · skip
              obtain ⟨h19, h18, -⟩ := hH
              simp only [view, List.foldl, Act.put, List.setIfInBounds_toArray, List.set_cons_zero, List.set_cons_succ]
              rw [show f 19 = _ from h19]
              rw [show f 18 = _ from h18]
              clear h19 h18
              go_wp2_with (go_at_call 41; refine (N3.out _).mono ?_; rintro e w1 ⟨rfl, hg1⟩)
              exact hQ _ _ hg1 rfl rfl
            refine obls_cons (fun f w' hR hH Q hQ => ?_) ?_
            · skip
              obtain ⟨h18, -⟩ := hH
              simp only [view, List.foldl, Act.put, List.setIfInBounds_toArray, List.set_cons_zero, List.set_cons_succ]
              rw [show f 18 = _ from h18]
              clear h18
              have HO4 := HO.out
              refine load_blk rfl _ _ rfl g8 rfl _ _ _ (D8.out.grow (HGR.out.trans hR)) undB rfl (by rw [infoB]; simp [u64s] <;> omega) ?_
              exact hQ _ _ (Grow.refl _) rfl rfl
            refine obls_cons (fun f w' hR hH Q hQ => ?_) ?_
            · skip
              obtain ⟨h21, h18, -⟩ := hH
              simp only [view, List.foldl, Act.put, List.setIfInBounds_toArray, List.set_cons_zero, List.set_cons_succ]
              rw [show f 21 = _ from h21]
              rw [show f 18 = _ from h18]
              clear h21 h18
              go_wp2_with (go_at_call 41; refine (N1.out _).mono ?_; rintro e w1 ⟨rfl, hg1⟩)
              exact hQ _ _ hg1 rfl rfl
            refine obls_cons (fun f w' hR hH Q hQ => ?_) ?_
            · skip
              obtain ⟨h18, -⟩ := hH
              simp only [view, List.foldl, Act.put, List.setIfInBounds_toArray, List.set_cons_zero, List.set_cons_succ]
              rw [show f 18 = _ from h18]
              clear h18
              refine load_blk rfl _ _ rfl g rfl _ _ _ (D5.out.grow (HGR.out.trans hR)) undB rfl (by rw [infoB, RA.out]; rfl) ?_
              exact hQ _ _ (Grow.refl _) rfl rfl
            refine obls_cons (fun f w' hR hH Q hQ => ?_) ?_
            · skip
              obtain ⟨h23, h18, -⟩ := hH
              simp only [view, List.foldl, Act.put, List.setIfInBounds_toArray, List.set_cons_zero, List.set_cons_succ]
              rw [show f 23 = _ from h23]
              rw [show f 18 = _ from h18]
              clear h23 h18
              go_wp2_with (go_at_call 41; refine (N2.out _).mono ?_; rintro e w1 ⟨rfl, hg1⟩)
              exact hQ _ _ hg1 rfl rfl
            refine obls_cons (fun f w' hR hH Q hQ => ?_) ?_
            · skip
              obtain ⟨h22, h24, h18, -⟩ := hH
              simp only [view, List.foldl, Act.put, List.setIfInBounds_toArray, List.set_cons_zero, List.set_cons_succ]
              rw [show f 22 = _ from h22]
              rw [show f 24 = _ from h24]
              rw [show f 18 = _ from h18]
              clear h22 h24 h18
              repeat (first | go_guarded | go_step)
              exact hQ _ _ (Grow.refl _) rfl rfl
            refine obls_cons (fun f w' hR hH Q hQ => ?_) ?_
            · skip
              obtain ⟨h20, h25, h18, -⟩ := hH
              simp only [view, List.foldl, Act.put, List.setIfInBounds_toArray, List.set_cons_zero, List.set_cons_succ]
              rw [show f 20 = _ from h20]
              rw [show f 25 = _ from h25]
              rw [show f 18 = _ from h18]
              clear h20 h25 h18
              repeat (first | go_guarded | go_step)
              exact hQ _ _ (Grow.refl _) rfl rfl
            refine obls_cons (fun f w' hR hH Q hQ => ?_) ?_
            · skip
              obtain ⟨h18, h26, -⟩ := hH
              simp only [view, List.foldl, Act.put, List.setIfInBounds_toArray, List.set_cons_zero, List.set_cons_succ]
              rw [show f 18 = _ from h18]
              rw [show f 26 = _ from h26]
              clear h18 h26
              repeat (first | go_guarded | go_step)
              exact hQ _ _ (Grow.refl _) rfl rfl
            refine obls_cons (fun f w' hR hH Q hQ => ?_) ?_
            · skip
              obtain ⟨h27, -⟩ := hH
              simp only [view, List.foldl, Act.put, List.setIfInBounds_toArray, List.set_cons_zero, List.set_cons_succ]
              rw [show f 27 = _ from h27]
              clear h27
              repeat (first | go_guarded | go_step)
              exact hQ _ _ (Grow.refl _) rfl rfl
            refine obls_cons (fun f w' hR hH Q hQ => ?_) ?_
            · skip
              obtain ⟨h28, -⟩ := hH
              simp only [view, List.foldl, Act.put, List.setIfInBounds_toArray, List.set_cons_zero, List.set_cons_succ]
              rw [show f 28 = _ from h28]
              clear h28
              go_wp2_with (go_at_call 34; refine (works_any _).mono ?_; rintro e w1 ⟨rfl, hg1⟩)
              exact hQ _ _ hg1 rfl rfl
            refine obls_cons (fun f w' hR hH Q hQ => ?_) ?_
            · skip
              obtain ⟨h28, h29, -⟩ := hH
              simp only [view, List.foldl, Act.put, List.setIfInBounds_toArray, List.set_cons_zero, List.set_cons_succ]
              rw [show f 28 = _ from h28]
              rw [show f 29 = _ from h29]
              clear h28 h29
              repeat (first | go_guarded | go_step)
              exact hQ _ _ (Grow.refl _) rfl rfl
            refine obls_cons (fun f w' hR hH Q hQ => ?_) ?_
            · skip
              obtain ⟨h30, -⟩ := hH
              simp only [view, List.foldl, Act.put, List.setIfInBounds_toArray, List.set_cons_zero, List.set_cons_succ]
              rw [show f 30 = _ from h30]
              clear h30
              repeat (first | go_guarded | go_step)
              exact hQ _ _ (Grow.refl _) rfl rfl
            exact obls_nil
          case mono => exact ⟨Mono.veq _, Mono.veq _, Mono.veq _, Mono.veq _, Mono.veq _, Mono.veq _, Mono.veq _, Mono.veq _, Mono.veq _, Mono.veq _, Mono.veq _, Mono.veq _, Mono.veq _, Mono.veq _, Mono.veq _, Mono.veq _, Mono.veq _, Mono.veq _, Mono.veq _, Mono.veq _, Mono.veq _, Mono.veq _, Mono.veq _, Mono.veq _, Mono.veq _, Mono.veq _, Mono.veq _, Mono.veq _, Mono.veq _, Mono.veq _, Mono.veq _, Mono.veq _, trivial⟩
          case tail =>
            intro f w' hR hH
            simp only [view, List.zipIdx, List.foldl, Act.put, List.setIfInBounds_toArray, List.set_cons_zero, List.set_cons_succ, List.drop_succ_cons, List.drop_zero]
            obtain ⟨-, -, -, -, -, -, -, -, -, -, -, -, -, -, -, -, -, -, -, -, -, -, -, -, -, -, -, -, -, -, -, q31, -⟩ := hH
            rw [show f 31 = _ from q31]
            clear q31
            generalize f 0 = x0
            generalize f 1 = x1
            generalize f 2 = x2
            generalize f 3 = x3
            generalize f 4 = x4
            generalize f 5 = x5
            generalize f 6 = x6
            generalize f 7 = x7
            generalize f 8 = x8
            generalize f 9 = x9
            generalize f 10 = x10
            generalize f 11 = x11
            generalize f 12 = x12
            generalize f 13 = x13
            generalize f 14 = x14
            generalize f 15 = x15
            generalize f 16 = x16
            generalize f 17 = x17
            generalize f 18 = x18
            generalize f 19 = x19
            generalize f 20 = x20
            generalize f 21 = x21
            generalize f 22 = x22
            generalize f 23 = x23
            generalize f 24 = x24
            generalize f 25 = x25
            generalize f 26 = x26
            generalize f 27 = x27
            generalize f 28 = x28
            generalize f 29 = x29
            generalize f 30 = x30
            go_wp2_with fail
            go_ret
            exact ⟨rfl, (HGW5.out.trans HGR.out).trans hR⟩
end Go.Proofs.Ytgpcijpadelcfaa.blmL
