/- The statements of the hints: the walks of the laws. -/
import Derived.Test.YtgpcijpadelcfaaBlmR2
import Derived.Test.YtgpcijpadelcfaaPar
namespace Go.Proofs.Ytgpcijpadelcfaa.blmL
open Go Go.RowKit Go.Par Go.Kit Go.Proofs.Ytgpcijpadelcfaa.btW Go.Proofs.Ytgpcijpadelcfaa.blmW

theorem ones_pos {ws : List (BitVec 64)} (hl : ws.length = 4) {p : Nat × Nat} (h : Blm.has ws p = true) : 1 ≤ Blm.ones ws := by
  rw [Blm.ones_range hl]
  have hb := Blm.has_iff.1 h (Blm.pl p 1) (by simp [Blm.at_])
  exact List.countP_pos_iff.2 ⟨Blm.pl p 1, List.mem_range.2 (Blm.pl_lt _ _), hb⟩
theorem has_zero (p : Nat × Nat) : Blm.has (Blm.of []) p = false := by
  show Blm.has Blm.zero4 p = false
  simp [Blm.has, Blm.zero_bit]
theorem pids_new (w : World) (p : Nat × Nat) (h1 : p.1 < 256) (h2 : p.2 < 65536) {cs : Array Value} (t : TypeId) {g : Nat} (hg : g = w.heap.size) (hc : cs = (pc [p]).toArray) : Pids (w.alloc (.cells cs t)) (some ⟨g, 0, none⟩) 1 [p] := by
  subst hg; subst hc
  refine ⟨rfl, Row.new w (pc [p]) t (0, 0), fun q hq => ?_⟩
  simp only [List.mem_singleton] at hq
  subst hq; exact ⟨h1, h2⟩
theorem pids_nil (w : World) : Pids w none 0 [] := ⟨rfl, Row.nil _ _, fun p hp => by simp at hp⟩

set_option maxRecDepth 100000 in
set_option maxHeartbeats 1000000 in
theorem works_any (w : World) : Calls Try.prog 34 #[] w fun e w' => e = .returned (.bool true) ∧ Grow w w' := by
  obtain ⟨V, hV⟩ : ∃ V, V = Blm.of [(1, 1)] := ⟨_, rfl⟩
  have hl : V.length = 4 := by rw [hV]; exact Blm.of_len _
  have hh : Blm.has V (1, 1) = true := by rw [hV]; exact Blm.has_of (by simp)
  have hn1 := ones_pos hl hh
  have hn2 : Blm.ones V ≤ 3 := by rw [hV]; exact Blm.ones_of _
  have hOf := fun (A : Option Addr) (w : World) (hp : Pids w A 1 [(1, 1)]) => of_any A 1 1 _ w hp (by decide)
  rw [← hV] at hOf
  have hH := has_any V hl 1 1 (by decide) (by decide)
  rw [hh] at hH
  have hN := ones_any' V hl
  obtain ⟨Z, hZ⟩ : ∃ Z, Z = Blm.of [] := ⟨_, rfl⟩
  have hZl : Z.length = 4 := by rw [hZ]; rfl
  have hOf0 := fun (w : World) => of_any none 0 0 _ w (pids_nil w) (by decide)
  rw [← hZ] at hOf0
  have hH0 := has_any Z hZl 1 1 (by decide) (by decide)
  rw [hZ, has_zero, ← hZ] at hH0
  obtain ⟨m, hm⟩ : ∃ m, m = Blm.ones V := ⟨_, rfl⟩
  rw [← hm] at hn1 hn2 hN
  have d1 : decide ((1 : Int) ≤ (m : Int)) = true := decide_eq_true (by omega)
  have d2 : decide ((m : Int) ≤ 3) = true := decide_eq_true (by omega)
  have d3 : decide (1 ≤ m) = true := decide_eq_true (by omega)
  have d4 : decide (m ≤ 3) = true := decide_eq_true (by omega)
  have HOF := Lib.hid hOf
  have HH := Lib.hid hH
  have HN := Lib.hid hN
  have HOF0 := Lib.hid hOf0
  have HH0 := Lib.hid hH0
  have HL := Lib.hid hl
  clear hV hh hOf hH hN hZ hZl hOf0 hH0 hm
  obtain ⟨g, hg⟩ : ∃ g, g = w.heap.size := ⟨_, rfl⟩
  have HG := Lib.hid hg
  clear hg
  go_enter Try.func34, Try.ntmps34
  go_wp2_with fail
  refine (HOF.out _ _ (pids_new _ (1, 1) (by decide) (by decide) _ (by simp) rfl)).mono ?_
  rintro e w1 ⟨rfl, hg1⟩
  have b1 : Blk w1 w.heap.size 49 [.int .u8 1, .int .u16 1] := ((Blk.new _ _ _ _ rfl rfl).grow (Grow.alloc _ _)).grow hg1
  have HG1 := Lib.hid (((Grow.alloc _ _).trans (Grow.alloc _ _)).trans hg1 : Grow w w1)
  rw [← HG.out] at b1 ⊢
  have B1 := Lib.hid b1
  have hgs := hg1.size
  clear hg1 b1
  have HL4 := HL.out
  obtain ⟨g2, hg2⟩ : ∃ g2, g2 = w1.heap.size := ⟨_, rfl⟩
  have HG2 := Lib.hid hg2
  clear hg2
  go_wp2_with (refine store_blk rfl _ _ _ rfl w1.heap.size (u64s V) rfl rfl _ zeros4 (Blk.new _ _ _ _ rfl rfl) (by rw [infoB]; simp [u64s] <;> omega) (by simp [u64s, zeros4] <;> omega) (all_u64s V) ?_)
  rw [← HG2.out]
  have B2 := Lib.hid ((Blk.new w1 47 #[.int .u64 0, .int .u64 0, .int .u64 0, .int .u64 0] zeros4 rfl HG2.out).setRow (u64s V))
  have B1' := Lib.hid ((B1.out.grow (Grow.alloc w1 (.cells #[.int .u64 0, .int .u64 0, .int .u64 0, .int .u64 0] 47))).farRow (k := g2) (by have := B1.out.lt; have := HG2.out; omega) (u64s V).toArray)
  have HGW := Lib.hid (Grow.setRow ((HG1.out).trans (Grow.alloc w1 (.cells #[.int .u64 0, .int .u64 0, .int .u64 0, .int .u64 0] 47))) (g := g2) (by have := HG1.out.size; have := HG2.out; omega) (u64s V).toArray)
  clear HL4
  apply (fun (v0 v1 v2 v3 v4 v5 v6 v7 v8 v9 v10 v11 v12 v13 v14 v15 v16 v17 v18 v19 : Value) mono obl tail => wp_region_par (R := Grow) (Φ := phi [veq v0, veq v1, veq v2, veq v3, veq v4, veq v5, veq v6, veq v7, veq v8, veq v9, veq v10, veq v11, veq v12, veq v13, veq v14, veq v15, veq v16, veq v17, veq v18, veq v19]) (m := 20) (dls := [[], [], [(7, 0), (8, 1)], [(9, 2)], [(10, 3)], [(11, 4)], [(11, 4)], [(12, 5), (13, 6), (11, 4)], [(11, 4), (14, 7)], [(15, 8)], [(16, 9)], [(17, 10), (16, 9)], [(18, 11), (16, 9)], [(16, 9), (19, 12)], [(20, 13)], [(21, 14)], [(22, 15), (21, 14)], [(23, 16), (21, 14)], [(21, 14), (24, 17)], [(25, 18)]]) (ds := [7, 8, 9, 10, 11, 12, 13, 14, 15, 16, 17, 18, 19, 20, 21, 22, 23, 24, 25, 0]) (by kernel_rfl) (by kernel_rfl) (by decide) rfl (Grow.drew _) (fun _ _ _ => Grow.trans) (mono_phi mono) obl tail)
  case obl =>
    refine obls_cons (fun f w' hR hH Q hQ => ?_) ?_
    · skip
      simp only [view, List.foldl]
      go_wp2_with (go_at_call 39; refine (HOF0.out _).mono ?_; rintro e w1 ⟨rfl, hg1⟩)
      exact hQ _ _ hg1 rfl rfl
    refine obls_cons (fun f w' hR hH Q hQ => ?_) ?_
    · skip
      simp only [view, List.foldl]
      have c0 := (B1'.out.grow hR).cell (i := 0) rfl
      have c1 := (B1'.out.grow hR).cell (i := 1) rfl
      repeat (first | go_guarded | go_step)
      exact hQ _ _ (Grow.refl _) rfl rfl
    refine obls_cons (fun f w' hR hH Q hQ => ?_) ?_
    · skip
      obtain ⟨h0, h1, -⟩ := hH
      simp only [view, List.foldl, Act.put, List.setIfInBounds_toArray, List.set_cons_zero, List.set_cons_succ]
      rw [show f 0 = _ from h0]
      rw [show f 1 = _ from h1]
      clear h0 h1
      go_wp2_with (go_at_call 37; refine (HH0.out _).mono ?_; rintro e w1 ⟨rfl, hg1⟩)
      exact hQ _ _ hg1 rfl rfl
    refine obls_cons (fun f w' hR hH Q hQ => ?_) ?_
    · skip
      obtain ⟨h2, -⟩ := hH
      simp only [view, List.foldl, Act.put, List.setIfInBounds_toArray, List.set_cons_zero, List.set_cons_succ]
      rw [show f 2 = _ from h2]
      clear h2
      repeat (first | go_guarded | go_step)
      exact hQ _ _ (Grow.refl _) rfl rfl
    refine obls_cons (fun f w' hR hH Q hQ => ?_) ?_
    · skip
      obtain ⟨h3, -⟩ := hH
      simp only [view, List.foldl, Act.put, List.setIfInBounds_toArray, List.set_cons_zero, List.set_cons_succ]
      rw [show f 3 = _ from h3]
      clear h3
      repeat (first | go_guarded | go_step)
      exact hQ _ _ (Grow.refl _) rfl rfl
    refine obls_cons (fun f w' hR hH Q hQ => ?_) ?_
    · skip
      obtain ⟨h4, -⟩ := hH
      simp only [view, List.foldl, Act.put, List.setIfInBounds_toArray, List.set_cons_zero, List.set_cons_succ]
      rw [show f 4 = _ from h4]
      clear h4
      have HL4 := HL.out
      refine load_blk rfl _ _ rfl g2 rfl _ _ _ (B2.out.grow hR) undB rfl (by rw [infoB]; simp [u64s] <;> omega) ?_
      exact hQ _ _ (Grow.refl _) rfl rfl
    refine obls_cons (fun f w' hR hH Q hQ => ?_) ?_
    · skip
      obtain ⟨h4, -⟩ := hH
      simp only [view, List.foldl, Act.put, List.setIfInBounds_toArray, List.set_cons_zero, List.set_cons_succ]
      rw [show f 4 = _ from h4]
      clear h4
      have c0 := (B1'.out.grow hR).cell (i := 0) rfl
      have c1 := (B1'.out.grow hR).cell (i := 1) rfl
      repeat (first | go_guarded | go_step)
      exact hQ _ _ (Grow.refl _) rfl rfl
    refine obls_cons (fun f w' hR hH Q hQ => ?_) ?_
    · skip
      obtain ⟨h5, h6, h4, -⟩ := hH
      simp only [view, List.foldl, Act.put, List.setIfInBounds_toArray, List.set_cons_zero, List.set_cons_succ]
      rw [show f 5 = _ from h5]
      rw [show f 6 = _ from h6]
      rw [show f 4 = _ from h4]
      clear h5 h6 h4
      go_wp2_with (go_at_call 37; refine (HH.out _).mono ?_; rintro e w1 ⟨rfl, hg1⟩)
      exact hQ _ _ hg1 rfl rfl
    refine obls_cons (fun f w' hR hH Q hQ => ?_) ?_
    · skip
      obtain ⟨h4, h7, -⟩ := hH
      simp only [view, List.foldl, Act.put, List.setIfInBounds_toArray, List.set_cons_zero, List.set_cons_succ]
      rw [show f 4 = _ from h4]
      rw [show f 7 = _ from h7]
      clear h4 h7
      repeat (first | go_guarded | go_step)
      exact hQ _ _ (Grow.refl _) rfl rfl
    refine obls_cons (fun f w' hR hH Q hQ => ?_) ?_
    · skip
      obtain ⟨h8, -⟩ := hH
      simp only [view, List.foldl, Act.put, List.setIfInBounds_toArray, List.set_cons_zero, List.set_cons_succ]
      rw [show f 8 = _ from h8]
      clear h8
      repeat (first | go_guarded | go_step)
      exact hQ _ _ (Grow.refl _) rfl rfl
    refine obls_cons (fun f w' hR hH Q hQ => ?_) ?_
    · skip
      obtain ⟨h9, -⟩ := hH
      simp only [view, List.foldl, Act.put, List.setIfInBounds_toArray, List.set_cons_zero, List.set_cons_succ]
      rw [show f 9 = _ from h9]
      clear h9
      have HL4 := HL.out
      refine load_blk rfl _ _ rfl g2 rfl _ _ _ (B2.out.grow hR) undB rfl (by rw [infoB]; simp [u64s] <;> omega) ?_
      exact hQ _ _ (Grow.refl _) rfl rfl
    refine obls_cons (fun f w' hR hH Q hQ => ?_) ?_
    · skip
      obtain ⟨h10, h9, -⟩ := hH
      simp only [view, List.foldl, Act.put, List.setIfInBounds_toArray, List.set_cons_zero, List.set_cons_succ]
      rw [show f 10 = _ from h10]
      rw [show f 9 = _ from h9]
      clear h10 h9
      go_wp2_with (go_at_call 41; refine (HN.out _).mono ?_; rintro e w1 ⟨rfl, hg1⟩)
      exact hQ _ _ hg1 rfl rfl
    refine obls_cons (fun f w' hR hH Q hQ => ?_) ?_
    · skip
      obtain ⟨h11, h9, -⟩ := hH
      simp only [view, List.foldl, Act.put, List.setIfInBounds_toArray, List.set_cons_zero, List.set_cons_succ]
      rw [show f 11 = _ from h11]
      rw [show f 9 = _ from h9]
      clear h11 h9
      repeat (first | go_guarded | go_step)
      exact hQ _ _ (Grow.refl _) rfl rfl
    refine obls_cons (fun f w' hR hH Q hQ => ?_) ?_
    · skip
      obtain ⟨h9, h12, -⟩ := hH
      simp only [view, List.foldl, Act.put, List.setIfInBounds_toArray, List.set_cons_zero, List.set_cons_succ]
      rw [show f 9 = _ from h9]
      rw [show f 12 = _ from h12]
      clear h9 h12
      repeat (first | go_guarded | go_step)
      exact hQ _ _ (Grow.refl _) rfl rfl
    refine obls_cons (fun f w' hR hH Q hQ => ?_) ?_
    · skip
      obtain ⟨h13, -⟩ := hH
      simp only [view, List.foldl, Act.put, List.setIfInBounds_toArray, List.set_cons_zero, List.set_cons_succ]
      rw [show f 13 = _ from h13]
      clear h13
      repeat (first | go_guarded | go_step)
      exact hQ _ _ (Grow.refl _) rfl rfl
    refine obls_cons (fun f w' hR hH Q hQ => ?_) ?_
    · skip
      obtain ⟨h14, -⟩ := hH
      simp only [view, List.foldl, Act.put, List.setIfInBounds_toArray, List.set_cons_zero, List.set_cons_succ]
      rw [show f 14 = _ from h14]
      clear h14
      have HL4 := HL.out
      refine load_blk rfl _ _ rfl g2 rfl _ _ _ (B2.out.grow hR) undB rfl (by rw [infoB]; simp [u64s] <;> omega) ?_
      exact hQ _ _ (Grow.refl _) rfl rfl
    refine obls_cons (fun f w' hR hH Q hQ => ?_) ?_
    · skip
      obtain ⟨h15, h14, -⟩ := hH
      simp only [view, List.foldl, Act.put, List.setIfInBounds_toArray, List.set_cons_zero, List.set_cons_succ]
      rw [show f 15 = _ from h15]
      rw [show f 14 = _ from h14]
      clear h15 h14
      go_wp2_with (go_at_call 41; refine (HN.out _).mono ?_; rintro e w1 ⟨rfl, hg1⟩)
      exact hQ _ _ hg1 rfl rfl
    refine obls_cons (fun f w' hR hH Q hQ => ?_) ?_
    · skip
      obtain ⟨h16, h14, -⟩ := hH
      simp only [view, List.foldl, Act.put, List.setIfInBounds_toArray, List.set_cons_zero, List.set_cons_succ]
      rw [show f 16 = _ from h16]
      rw [show f 14 = _ from h14]
      clear h16 h14
      repeat (first | go_guarded | go_step)
      exact hQ _ _ (Grow.refl _) rfl rfl
    refine obls_cons (fun f w' hR hH Q hQ => ?_) ?_
    · skip
      obtain ⟨h14, h17, -⟩ := hH
      simp only [view, List.foldl, Act.put, List.setIfInBounds_toArray, List.set_cons_zero, List.set_cons_succ]
      rw [show f 14 = _ from h14]
      rw [show f 17 = _ from h17]
      clear h14 h17
      repeat (first | go_guarded | go_step)
      exact hQ _ _ (Grow.refl _) rfl rfl
    refine obls_cons (fun f w' hR hH Q hQ => ?_) ?_
    · skip
      obtain ⟨h18, -⟩ := hH
      simp only [view, List.foldl, Act.put, List.setIfInBounds_toArray, List.set_cons_zero, List.set_cons_succ]
      rw [show f 18 = _ from h18]
      clear h18
      repeat (first | go_guarded | go_step)
      exact hQ _ _ (Grow.refl _) rfl rfl
    exact obls_nil
  case mono => exact ⟨Mono.veq _, Mono.veq _, Mono.veq _, Mono.veq _, Mono.veq _, Mono.veq _, Mono.veq _, Mono.veq _, Mono.veq _, Mono.veq _, Mono.veq _, Mono.veq _, Mono.veq _, Mono.veq _, Mono.veq _, Mono.veq _, Mono.veq _, Mono.veq _, Mono.veq _, Mono.veq _, trivial⟩
  case tail =>
    intro f w' hR hH
    simp only [view, List.zipIdx, List.foldl, Act.put, List.setIfInBounds_toArray, List.set_cons_zero, List.set_cons_succ, List.drop_succ_cons, List.drop_zero]
    obtain ⟨-, -, -, -, -, -, -, -, -, -, -, -, -, -, -, -, -, -, -, q19, -⟩ := hH
    rw [show f 19 = _ from q19]
    clear q19
    generalize f 0 = x0
    generalize f 1 = x1
    generalize f 2 = x2
    generalize f 3 = x3
    generalize f 4 = x4
    generalize f 5 = x5
    generalize f 6 = x6
    generalize f 7 = x7
    generalize f 8 = x8
    generalize f 9 = x9
    generalize f 10 = x10
    generalize f 11 = x11
    generalize f 12 = x12
    generalize f 13 = x13
    generalize f 14 = x14
    generalize f 15 = x15
    generalize f 16 = x16
    generalize f 17 = x17
    generalize f 18 = x18
    go_wp2_with fail
    go_ret
    exact ⟨rfl, HGW.out.trans hR⟩

theorem beq_self (V : List (BitVec 64)) : (V == V) = true := by simp
theorem eql_self {V : List (BitVec 64)} (h : V.length = 4) (w : World) : (Op.equalIn 10000 47 (.agg (u64s V).toArray) (.agg (u64s V).toArray)).run Try.prog w = .ok true w := by
  rw [eql_words h h, beq_self]

set_option maxRecDepth 100000 in
set_option maxHeartbeats 1000000 in
theorem says_walk (ws : List (BitVec 64)) (hl : ws.length = 4) (a s : Nat) (ha : a < 256) (hs : s < 65536) (A : Option Addr) (n c : Nat) (l : List (Nat × Nat)) (w : World) (hp : Pids w A n l) (hc : n ≤ c) (hm : c ≤ maxLen) :
    Calls Try.prog 10 #[bv ws, .agg #[.int .u8 (a : Int), .int .u16 (s : Int)], .slice A n c] w fun e w' => e = .returned (.bool true) ∧ Grow w w' := by
  have hput := put_any ws hl a s ha hs
  have hput2 := ref_put_any ws hl a s ha hs
  have hhas := has_any ws hl a s ha hs
  have hhas2 := ref_has_any ws hl a s ha hs
  have hof := fun (w : World) (hp : Pids w A n l) => of_any A n c l w hp (by omega)
  have hof2 := fun (w : World) (hp : Pids w A n l) => ref_of_any A n c l w hp (by omega)
  have hon := ones_any' ws hl
  have hon2 := ref_ones_any' ws hl
  have hpl : (Blm.put ws (a, s)).length = 4 := by rw [Blm.put_len]; exact hl
  have hol := Blm.of_len l
  obtain ⟨V, hV⟩ : ∃ V, V = Blm.put ws (a, s) := ⟨_, rfl⟩
  obtain ⟨O, hO⟩ : ∃ O, O = Blm.of l := ⟨_, rfl⟩
  obtain ⟨r, hr⟩ : ∃ r, r = Blm.has ws (a, s) := ⟨_, rfl⟩
  obtain ⟨m, hmm⟩ : ∃ m, m = Blm.ones ws := ⟨_, rfl⟩
  rw [← hV] at hput hput2 hpl
  rw [← hO] at hof hof2 hol
  rw [← hr] at hhas hhas2
  rw [← hmm] at hon hon2
  have e1 := eql_self hpl
  have e2 := eql_self hol
  have H1 := Lib.hid hput
  have H2 := Lib.hid hput2
  have H3 := Lib.hid hhas
  have H4 := Lib.hid hhas2
  have H5 := Lib.hid hof
  have H6 := Lib.hid hof2
  have H7 := Lib.hid hon
  have H8 := Lib.hid hon2
  have H9 := Lib.hid hp
  have HB : Hid (∀ w : World, ∀ g, g = w.heap.size → Blk (w.alloc (.cells (u64s ws).toArray 47)) g 47 (u64s ws)) := Lib.hid fun w g hg => Blk.new w _ _ _ rfl hg
  clear hV hO hr hmm hput hput2 hhas hhas2 hof hof2 hon hon2 hpl hol hp
  unfold maxLen at hm
  obtain ⟨x0, x1, x2, x3, ra⟩ := len4 hl
  subst ra
  clear hl
  obtain ⟨g, hg⟩ : ∃ g, g = w.heap.size := ⟨_, rfl⟩
  have HG := Lib.hid hg
  clear hg
  by_cases hn : 60 < n
  · go_enter Try.func10, Try.ntmps10
    go_wp2_with (go_at_call 34; refine (works_any _).mono ?_; rintro e w' ⟨rfl, hg⟩)
    go_ret
    exact ⟨rfl, ((Grow.alloc _ _).trans (Grow.alloc _ _)).trans hg⟩
  · go_enter Try.func10, Try.ntmps10
    go_wp2_with fail
    rw [← HG.out]
    have B1 := Lib.hid ((HB.out w g HG.out).grow (Grow.alloc _ (.cells #[.int .u8 (a : Int), .int .u16 (s : Int)] 49)))
    have B2 : Hid (Blk ((w.alloc (.cells (u64s [x0, x1, x2, x3]).toArray 47)).alloc (.cells #[.int .u8 (a : Int), .int .u16 (s : Int)] 49)) (g + 1) 49 [.int .u8 (a : Int), .int .u16 (s : Int)]) := Lib.hid (Blk.new _ _ _ _ rfl (by rw [HG.out]; simp))
    have HGW := Lib.hid ((Grow.alloc w (.cells (u64s [x0, x1, x2, x3]).toArray 47)).trans (Grow.alloc _ (.cells #[.int .u8 (a : Int), .int .u16 (s : Int)] 49)))
    apply (fun (v0 v1 v2 v3 v4 v5 v6 v7 v8 v9 v10 v11 v12 v13 v14 v15 v16 v17 v18 v19 v20 v21 v22 v23 v24 v25 v26 v27 v28 v29 v30 v31 v32 v33 : Value) mono obl tail => wp_region_par (R := Grow) (Φ := phi [veq v0, veq v1, veq v2, veq v3, veq v4, veq v5, veq v6, veq v7, veq v8, veq v9, veq v10, veq v11, veq v12, veq v13, veq v14, veq v15, veq v16, veq v17, veq v18, veq v19, veq v20, veq v21, veq v22, veq v23, veq v24, veq v25, veq v26, veq v27, veq v28, veq v29, veq v30, veq v31, veq v32, veq v33]) (m := 34) (dls := [[], [], [(11, 0), (12, 1)], [], [], [(14, 3), (15, 4)], [(13, 2), (16, 5)], [(17, 6)], [(18, 7)], [(18, 7)], [(19, 8), (20, 9), (18, 7)], [(18, 7)], [(18, 7)], [(22, 11), (23, 12), (18, 7)], [(21, 10), (24, 13), (18, 7)], [(18, 7), (25, 14)], [(26, 15)], [(27, 16)], [(28, 17), (27, 16)], [(27, 16)], [(30, 19), (27, 16)], [(29, 18), (31, 20), (27, 16)], [(27, 16), (32, 21)], [(33, 22)], [(34, 23)], [(35, 24), (34, 23)], [(34, 23)], [(37, 26), (34, 23)], [(36, 25), (38, 27), (34, 23)], [(34, 23), (39, 28)], [(40, 29)], [(41, 30)], [(41, 30), (42, 31)], [(43, 32)]]) (ds := [11, 12, 13, 14, 15, 16, 17, 18, 19, 20, 21, 22, 23, 24, 25, 26, 27, 28, 29, 30, 31, 32, 33, 34, 35, 36, 37, 38, 39, 40, 41, 42, 43, 6]) (by kernel_rfl) (by kernel_rfl) (by decide) rfl (Grow.drew _) (fun _ _ _ => Grow.trans) (mono_phi mono) obl tail)
    case obl =>
      refine obls_cons (fun f w' hR hH Q hQ => ?_) ?_
      · skip
        simp only [view, List.foldl]
        go_wp2_with (refine load_blk rfl _ _ rfl g rfl _ _ _ (B1.out.grow hR) undB rfl (by rw [infoB]; rfl) ?_)
        exact hQ _ _ (Grow.refl _) rfl rfl
      refine obls_cons (fun f w' hR hH Q hQ => ?_) ?_
      · skip
        simp only [view, List.foldl]
        have c0 := (B2.out.grow hR).cell (i := 0) rfl
        have c1 := (B2.out.grow hR).cell (i := 1) rfl
        repeat (first | go_guarded | go_step)
        exact hQ _ _ (Grow.refl _) rfl rfl
      refine obls_cons (fun f w' hR hH Q hQ => ?_) ?_
      · skip
        obtain ⟨h0, h1, -⟩ := hH
        simp only [view, List.foldl, Act.put, List.setIfInBounds_toArray, List.set_cons_zero, List.set_cons_succ]
        rw [show f 0 = _ from h0]
        rw [show f 1 = _ from h1]
        clear h0 h1
        go_wp2_with (go_at_call 35; refine (H1.out _).mono ?_; rintro e w1 ⟨rfl, hg1⟩)
        exact hQ _ _ hg1 rfl rfl
      refine obls_cons (fun f w' hR hH Q hQ => ?_) ?_
      · skip
        simp only [view, List.foldl]
        go_wp2_with (refine load_blk rfl _ _ rfl g rfl _ _ _ (B1.out.grow hR) undB rfl (by rw [infoB]; rfl) ?_)
        exact hQ _ _ (Grow.refl _) rfl rfl
      refine obls_cons (fun f w' hR hH Q hQ => ?_) ?_
      · skip
        simp only [view, List.foldl]
        have c0 := (B2.out.grow hR).cell (i := 0) rfl
        have c1 := (B2.out.grow hR).cell (i := 1) rfl
        repeat (first | go_guarded | go_step)
        exact hQ _ _ (Grow.refl _) rfl rfl
      refine obls_cons (fun f w' hR hH Q hQ => ?_) ?_
      · skip
        obtain ⟨h3, h4, -⟩ := hH
        simp only [view, List.foldl, Act.put, List.setIfInBounds_toArray, List.set_cons_zero, List.set_cons_succ]
        rw [show f 3 = _ from h3]
        rw [show f 4 = _ from h4]
        clear h3 h4
        go_wp2_with (go_at_call 36; refine (H2.out _).mono ?_; rintro e w1 ⟨rfl, hg1⟩)
        exact hQ _ _ hg1 rfl rfl
      refine obls_cons (fun f w' hR hH Q hQ => ?_) ?_
      · skip
        obtain ⟨h2, h5, -⟩ := hH
        simp only [view, List.foldl, Act.put, List.setIfInBounds_toArray, List.set_cons_zero, List.set_cons_succ]
        rw [show f 2 = _ from h2]
        rw [show f 5 = _ from h5]
        clear h2 h5
        repeat (first | go_guarded | go_step)
        exact hQ _ _ (Grow.refl _) rfl rfl
      refine obls_cons (fun f w' hR hH Q hQ => ?_) ?_
      · skip
        obtain ⟨h6, -⟩ := hH
        simp only [view, List.foldl, Act.put, List.setIfInBounds_toArray, List.set_cons_zero, List.set_cons_succ]
        rw [show f 6 = _ from h6]
        clear h6
        repeat (first | go_guarded | go_step)
        exact hQ _ _ (Grow.refl _) rfl rfl
      refine obls_cons (fun f w' hR hH Q hQ => ?_) ?_
      · skip
        obtain ⟨h7, -⟩ := hH
        simp only [view, List.foldl, Act.put, List.setIfInBounds_toArray, List.set_cons_zero, List.set_cons_succ]
        rw [show f 7 = _ from h7]
        clear h7
        refine load_blk rfl _ _ rfl g rfl _ _ _ (B1.out.grow hR) undB rfl (by rw [infoB]; rfl) ?_
        exact hQ _ _ (Grow.refl _) rfl rfl
      refine obls_cons (fun f w' hR hH Q hQ => ?_) ?_
      · skip
        obtain ⟨h7, -⟩ := hH
        simp only [view, List.foldl, Act.put, List.setIfInBounds_toArray, List.set_cons_zero, List.set_cons_succ]
        rw [show f 7 = _ from h7]
        clear h7
        have c0 := (B2.out.grow hR).cell (i := 0) rfl
        have c1 := (B2.out.grow hR).cell (i := 1) rfl
        repeat (first | go_guarded | go_step)
        exact hQ _ _ (Grow.refl _) rfl rfl
      refine obls_cons (fun f w' hR hH Q hQ => ?_) ?_
      · skip
        obtain ⟨h8, h9, h7, -⟩ := hH
        simp only [view, List.foldl, Act.put, List.setIfInBounds_toArray, List.set_cons_zero, List.set_cons_succ]
        rw [show f 8 = _ from h8]
        rw [show f 9 = _ from h9]
        rw [show f 7 = _ from h7]
        clear h8 h9 h7
        go_wp2_with (go_at_call 37; refine (H3.out _).mono ?_; rintro e w1 ⟨rfl, hg1⟩)
        exact hQ _ _ hg1 rfl rfl
      refine obls_cons (fun f w' hR hH Q hQ => ?_) ?_
      · skip
        obtain ⟨h7, -⟩ := hH
        simp only [view, List.foldl, Act.put, List.setIfInBounds_toArray, List.set_cons_zero, List.set_cons_succ]
        rw [show f 7 = _ from h7]
        clear h7
        refine load_blk rfl _ _ rfl g rfl _ _ _ (B1.out.grow hR) undB rfl (by rw [infoB]; rfl) ?_
        exact hQ _ _ (Grow.refl _) rfl rfl
      refine obls_cons (fun f w' hR hH Q hQ => ?_) ?_
      · skip
        obtain ⟨h7, -⟩ := hH
        simp only [view, List.foldl, Act.put, List.setIfInBounds_toArray, List.set_cons_zero, List.set_cons_succ]
        rw [show f 7 = _ from h7]
        clear h7
        have c0 := (B2.out.grow hR).cell (i := 0) rfl
        have c1 := (B2.out.grow hR).cell (i := 1) rfl
        repeat (first | go_guarded | go_step)
        exact hQ _ _ (Grow.refl _) rfl rfl
      refine obls_cons (fun f w' hR hH Q hQ => ?_) ?_
      · skip
        obtain ⟨h11, h12, h7, -⟩ := hH
        simp only [view, List.foldl, Act.put, List.setIfInBounds_toArray, List.set_cons_zero, List.set_cons_succ]
        rw [show f 11 = _ from h11]
        rw [show f 12 = _ from h12]
        rw [show f 7 = _ from h7]
        clear h11 h12 h7
        go_wp2_with (go_at_call 38; refine (H4.out _).mono ?_; rintro e w1 ⟨rfl, hg1⟩)
        exact hQ _ _ hg1 rfl rfl
      refine obls_cons (fun f w' hR hH Q hQ => ?_) ?_
      · skip
        obtain ⟨h10, h13, h7, -⟩ := hH
        simp only [view, List.foldl, Act.put, List.setIfInBounds_toArray, List.set_cons_zero, List.set_cons_succ]
        rw [show f 10 = _ from h10]
        rw [show f 13 = _ from h13]
        rw [show f 7 = _ from h7]
        clear h10 h13 h7
        repeat (first | go_guarded | go_step)
        exact hQ _ _ (Grow.refl _) rfl rfl
      refine obls_cons (fun f w' hR hH Q hQ => ?_) ?_
      · skip
        obtain ⟨h7, h14, -⟩ := hH
        simp only [view, List.foldl, Act.put, List.setIfInBounds_toArray, List.set_cons_zero, List.set_cons_succ]
        rw [show f 7 = _ from h7]
        rw [show f 14 = _ from h14]
        clear h7 h14
        repeat (first | go_guarded | go_step)
        exact hQ _ _ (Grow.refl _) rfl rfl
      refine obls_cons (fun f w' hR hH Q hQ => ?_) ?_
      · skip
        obtain ⟨h15, -⟩ := hH
        simp only [view, List.foldl, Act.put, List.setIfInBounds_toArray, List.set_cons_zero, List.set_cons_succ]
        rw [show f 15 = _ from h15]
        clear h15
        repeat (first | go_guarded | go_step)
        exact hQ _ _ (Grow.refl _) rfl rfl
      refine obls_cons (fun f w' hR hH Q hQ => ?_) ?_
      · skip
        obtain ⟨h16, -⟩ := hH
        simp only [view, List.foldl, Act.put, List.setIfInBounds_toArray, List.set_cons_zero, List.set_cons_succ]
        rw [show f 16 = _ from h16]
        clear h16
        repeat (first | go_guarded | go_step)
        exact hQ _ _ (Grow.refl _) rfl rfl
      refine obls_cons (fun f w' hR hH Q hQ => ?_) ?_
      · skip
        obtain ⟨h17, h16, -⟩ := hH
        simp only [view, List.foldl, Act.put, List.setIfInBounds_toArray, List.set_cons_zero, List.set_cons_succ]
        rw [show f 17 = _ from h17]
        rw [show f 16 = _ from h16]
        clear h17 h16
        go_wp2_with (go_at_call 39; refine (H5.out _ (H9.out.grow (HGW.out.trans hR))).mono ?_; rintro e w1 ⟨rfl, hg1⟩)
        exact hQ _ _ hg1 rfl rfl
      refine obls_cons (fun f w' hR hH Q hQ => ?_) ?_
      · skip
        obtain ⟨h16, -⟩ := hH
        simp only [view, List.foldl, Act.put, List.setIfInBounds_toArray, List.set_cons_zero, List.set_cons_succ]
        rw [show f 16 = _ from h16]
        clear h16
        repeat (first | go_guarded | go_step)
        exact hQ _ _ (Grow.refl _) rfl rfl
      refine obls_cons (fun f w' hR hH Q hQ => ?_) ?_
      · skip
        obtain ⟨h19, h16, -⟩ := hH
        simp only [view, List.foldl, Act.put, List.setIfInBounds_toArray, List.set_cons_zero, List.set_cons_succ]
        rw [show f 19 = _ from h19]
        rw [show f 16 = _ from h16]
        clear h19 h16
        go_wp2_with (go_at_call 40; refine (H6.out _ (H9.out.grow (HGW.out.trans hR))).mono ?_; rintro e w1 ⟨rfl, hg1⟩)
        exact hQ _ _ hg1 rfl rfl
      refine obls_cons (fun f w' hR hH Q hQ => ?_) ?_
      · skip
        obtain ⟨h18, h20, h16, -⟩ := hH
        simp only [view, List.foldl, Act.put, List.setIfInBounds_toArray, List.set_cons_zero, List.set_cons_succ]
        rw [show f 18 = _ from h18]
        rw [show f 20 = _ from h20]
        rw [show f 16 = _ from h16]
        clear h18 h20 h16
        repeat (first | go_guarded | go_step)
        exact hQ _ _ (Grow.refl _) rfl rfl
      refine obls_cons (fun f w' hR hH Q hQ => ?_) ?_
      · skip
        obtain ⟨h16, h21, -⟩ := hH
        simp only [view, List.foldl, Act.put, List.setIfInBounds_toArray, List.set_cons_zero, List.set_cons_succ]
        rw [show f 16 = _ from h16]
        rw [show f 21 = _ from h21]
        clear h16 h21
        repeat (first | go_guarded | go_step)
        exact hQ _ _ (Grow.refl _) rfl rfl
      refine obls_cons (fun f w' hR hH Q hQ => ?_) ?_
      · skip
        obtain ⟨h22, -⟩ := hH
        simp only [view, List.foldl, Act.put, List.setIfInBounds_toArray, List.set_cons_zero, List.set_cons_succ]
        rw [show f 22 = _ from h22]
        clear h22
        repeat (first | go_guarded | go_step)
        exact hQ _ _ (Grow.refl _) rfl rfl
      refine obls_cons (fun f w' hR hH Q hQ => ?_) ?_
      · skip
        obtain ⟨h23, -⟩ := hH
        simp only [view, List.foldl, Act.put, List.setIfInBounds_toArray, List.set_cons_zero, List.set_cons_succ]
        rw [show f 23 = _ from h23]
        clear h23
        refine load_blk rfl _ _ rfl g rfl _ _ _ (B1.out.grow hR) undB rfl (by rw [infoB]; rfl) ?_
        exact hQ _ _ (Grow.refl _) rfl rfl
      refine obls_cons (fun f w' hR hH Q hQ => ?_) ?_
      · skip
        obtain ⟨h24, h23, -⟩ := hH
        simp only [view, List.foldl, Act.put, List.setIfInBounds_toArray, List.set_cons_zero, List.set_cons_succ]
        rw [show f 24 = _ from h24]
        rw [show f 23 = _ from h23]
        clear h24 h23
        go_wp2_with (go_at_call 41; refine (H7.out _).mono ?_; rintro e w1 ⟨rfl, hg1⟩)
        exact hQ _ _ hg1 rfl rfl
      refine obls_cons (fun f w' hR hH Q hQ => ?_) ?_
      · skip
        obtain ⟨h23, -⟩ := hH
        simp only [view, List.foldl, Act.put, List.setIfInBounds_toArray, List.set_cons_zero, List.set_cons_succ]
        rw [show f 23 = _ from h23]
        clear h23
        refine load_blk rfl _ _ rfl g rfl _ _ _ (B1.out.grow hR) undB rfl (by rw [infoB]; rfl) ?_
        exact hQ _ _ (Grow.refl _) rfl rfl
      refine obls_cons (fun f w' hR hH Q hQ => ?_) ?_
      · skip
        obtain ⟨h26, h23, -⟩ := hH
        simp only [view, List.foldl, Act.put, List.setIfInBounds_toArray, List.set_cons_zero, List.set_cons_succ]
        rw [show f 26 = _ from h26]
        rw [show f 23 = _ from h23]
        clear h26 h23
        go_wp2_with (go_at_call 42; refine (H8.out _).mono ?_; rintro e w1 ⟨rfl, hg1⟩)
        exact hQ _ _ hg1 rfl rfl
      refine obls_cons (fun f w' hR hH Q hQ => ?_) ?_
      · skip
        obtain ⟨h25, h27, h23, -⟩ := hH
        simp only [view, List.foldl, Act.put, List.setIfInBounds_toArray, List.set_cons_zero, List.set_cons_succ]
        rw [show f 25 = _ from h25]
        rw [show f 27 = _ from h27]
        rw [show f 23 = _ from h23]
        clear h25 h27 h23
        repeat (first | go_guarded | go_step)
        exact hQ _ _ (Grow.refl _) rfl rfl
      refine obls_cons (fun f w' hR hH Q hQ => ?_) ?_
      · skip
        obtain ⟨h23, h28, -⟩ := hH
        simp only [view, List.foldl, Act.put, List.setIfInBounds_toArray, List.set_cons_zero, List.set_cons_succ]
        rw [show f 23 = _ from h23]
        rw [show f 28 = _ from h28]
        clear h23 h28
        repeat (first | go_guarded | go_step)
        exact hQ _ _ (Grow.refl _) rfl rfl
      refine obls_cons (fun f w' hR hH Q hQ => ?_) ?_
      · skip
        obtain ⟨h29, -⟩ := hH
        simp only [view, List.foldl, Act.put, List.setIfInBounds_toArray, List.set_cons_zero, List.set_cons_succ]
        rw [show f 29 = _ from h29]
        clear h29
        repeat (first | go_guarded | go_step)
        exact hQ _ _ (Grow.refl _) rfl rfl
      refine obls_cons (fun f w' hR hH Q hQ => ?_) ?_
      · skip
        obtain ⟨h30, -⟩ := hH
        simp only [view, List.foldl, Act.put, List.setIfInBounds_toArray, List.set_cons_zero, List.set_cons_succ]
        rw [show f 30 = _ from h30]
        clear h30
        go_wp2_with (go_at_call 34; refine (works_any _).mono ?_; rintro e w1 ⟨rfl, hg1⟩)
        exact hQ _ _ hg1 rfl rfl
      refine obls_cons (fun f w' hR hH Q hQ => ?_) ?_
      · skip
        obtain ⟨h30, h31, -⟩ := hH
        simp only [view, List.foldl, Act.put, List.setIfInBounds_toArray, List.set_cons_zero, List.set_cons_succ]
        rw [show f 30 = _ from h30]
        rw [show f 31 = _ from h31]
        clear h30 h31
        repeat (first | go_guarded | go_step)
        exact hQ _ _ (Grow.refl _) rfl rfl
      refine obls_cons (fun f w' hR hH Q hQ => ?_) ?_
      · skip
        obtain ⟨h32, -⟩ := hH
        simp only [view, List.foldl, Act.put, List.setIfInBounds_toArray, List.set_cons_zero, List.set_cons_succ]
        rw [show f 32 = _ from h32]
        clear h32
        repeat (first | go_guarded | go_step)
        exact hQ _ _ (Grow.refl _) rfl rfl
      exact obls_nil
    case mono => exact ⟨Mono.veq _, Mono.veq _, Mono.veq _, Mono.veq _, Mono.veq _, Mono.veq _, Mono.veq _, Mono.veq _, Mono.veq _, Mono.veq _, Mono.veq _, Mono.veq _, Mono.veq _, Mono.veq _, Mono.veq _, Mono.veq _, Mono.veq _, Mono.veq _, Mono.veq _, Mono.veq _, Mono.veq _, Mono.veq _, Mono.veq _, Mono.veq _, Mono.veq _, Mono.veq _, Mono.veq _, Mono.veq _, Mono.veq _, Mono.veq _, Mono.veq _, Mono.veq _, Mono.veq _, Mono.veq _, trivial⟩
    case tail =>
      intro f w' hR hH
      simp only [view, List.zipIdx, List.foldl, Act.put, List.setIfInBounds_toArray, List.set_cons_zero, List.set_cons_succ, List.drop_succ_cons, List.drop_zero]
      obtain ⟨-, -, -, -, -, -, -, -, -, -, -, -, -, -, -, -, -, -, -, -, -, -, -, -, -, -, -, -, -, -, -, -, -, q33, -⟩ := hH
      rw [show f 33 = _ from q33]
      clear q33
      generalize f 0 = x0
      generalize f 1 = x1
      generalize f 2 = x2
      generalize f 3 = x3
      generalize f 4 = x4
      generalize f 5 = x5
      generalize f 6 = x6
      generalize f 7 = x7
      generalize f 8 = x8
      generalize f 9 = x9
      generalize f 10 = x10
      generalize f 11 = x11
      generalize f 12 = x12
      generalize f 13 = x13
      generalize f 14 = x14
      generalize f 15 = x15
      generalize f 16 = x16
      generalize f 17 = x17
      generalize f 18 = x18
      generalize f 19 = x19
      generalize f 20 = x20
      generalize f 21 = x21
      generalize f 22 = x22
      generalize f 23 = x23
      generalize f 24 = x24
      generalize f 25 = x25
      generalize f 26 = x26
      generalize f 27 = x27
      generalize f 28 = x28
      generalize f 29 = x29
      generalize f 30 = x30
      generalize f 31 = x31
      generalize f 32 = x32
      go_wp2_with fail
      go_ret
      exact ⟨rfl, HGW.out.trans hR⟩

end Go.Proofs.Ytgpcijpadelcfaa.blmL
