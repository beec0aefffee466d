/- The statement MaskUnites. -/
import Derived.Test.YtjfohglkpbgkaaaMkL
import Derived.Test.YtjfohglkpbgkaaaOpen2
namespace Go.Proofs.Ytjfohglkpbgkaaa.mkL
open Go Go.RowKit Go.Par Go.Kit Go.Proofs.Ytjfohglkpbgkaaa.Mk Go.Proofs.Ytjfohglkpbgkaaa.mkW

def IsMS (N : Nat) (S : Nat → Bool) : Value → World → Prop := fun v w => ∃ g h, v = .pointer (some ⟨g, 0, none⟩) ∧ MS w g h N S
theorem IsMS.mono {N : Nat} {S : Nat → Bool} : Mono Grow (IsMS N S) := fun _ _ _ ⟨g, h, e, m⟩ hg => ⟨g, h, e, m.grow hg⟩
/-- integers, a slice of them -/
def IntSl (w : World) (v : Value) (zs : List Int) : Prop := ∃ A n c, v = .slice A n c ∧ n ≤ maxLen ∧ Row w A n (zs.map (Value.int .i64))
theorem uni_assoc (A B C : Nat → Bool) (N : Nat) (hB : ∀ j, B j = true → j < N) (hC : ∀ j, C j = true → j < N) : uni (uni A B N) C N = fun j => A j || B j || C j := by
  funext j
  unfold uni
  rcases hb : B j with _ | _
  · rcases hc : C j with _ | _
    · simp
    · have := hC j hc; simp [this]
  · have := hB j hb
    rcases hc : C j with _ | _
    · simp [this]
    · simp [this]
theorem uni_in (A B : Nat → Bool) (N : Nat) (h : ∀ j, B j = true → A j = true) : uni A B N = A := by
  funext j
  unfold uni
  rcases hb : B j with _ | _
  · simp
  · simp [h j hb]

set_option maxRecDepth 100000 in
set_option maxHeartbeats 2000000 in
theorem unites_walk (N0 : Int) (hn0 : -9223372036854775808 ≤ N0) (hn1 : N0 ≤ 9223372036854775807) (u0 u1 u2 : Value) (z0 z1 z2 : List Int) (w : World) (h0 : IntSl w u0 z0) (h1 : IntSl w u1 z1) (h2 : IntSl w u2 z2) :
    Calls Try.prog 3 #[.int .i64 N0, .agg #[u0, u1, u2]] w fun e w' => e = .returned (.bool true) ∧ Grow w w' := by
  obtain ⟨A0, n0, c0, rfl, m0, r0⟩ := h0
  obtain ⟨A1, n1, c1, rfl, m1, r1⟩ := h1
  obtain ⟨A2, n2, c2, rfl, m2, r2⟩ := h2
  obtain ⟨b0, hb0⟩ : ∃ b0, b0 = w.heap.size := ⟨_, rfl⟩
  have HE0 := Lib.hid hb0
  have HBX : Hid (Blk (w.alloc (.cells #[.slice A0 n0 c0, .slice A1 n1 c1, .slice A2 n2 c2] 23)) b0 23 [.slice A0 n0 c0, .slice A1 n1 c1, .slice A2 n2 c2]) := Lib.hid (Blk.new w _ _ _ rfl hb0)
  obtain ⟨W0, hW0⟩ : ∃ W0, W0 = w.alloc (.cells #[.slice A0 n0 c0, .slice A1 n1 c1, .slice A2 n2 c2] 23) := ⟨_, rfl⟩
  have hg0 : Grow w W0 := by rw [hW0]; exact Grow.alloc w _
  rw [← hW0] at HBX
  have HW0 := Lib.hid hW0
  have HG0 := Lib.hid hg0
  obtain ⟨N, hN⟩ : ∃ N, N = clampN N0 := ⟨_, rfl⟩
  have O0 := Lib.hid (fun W hg => of_any N0 hn0 hn1 A0 n0 c0 z0 w W r0 hg m0)
  have O1 := Lib.hid (fun W hg => of_any N0 hn0 hn1 A1 n1 c1 z1 w W r1 hg m1)
  have O2 := Lib.hid (fun W hg => of_any N0 hn0 hn1 A2 n2 c2 z2 w W r2 hg m2)
  rw [← hN] at O0 O1 O2
  obtain ⟨Sa, hSa⟩ : ∃ S, S = ofS N (z0.take (min n0 60)) := ⟨_, rfl⟩
  obtain ⟨Sb, hSb⟩ : ∃ S, S = ofS N (z1.take (min n1 60)) := ⟨_, rfl⟩
  obtain ⟨Sc, hSc⟩ : ∃ S, S = ofS N (z2.take (min n2 60)) := ⟨_, rfl⟩
  rw [← hSa] at O0
  rw [← hSb] at O1
  rw [← hSc] at O2
  clear hN hSa hSb hSc hb0 hW0 hg0 r0 r1 r2
  go_enter Try.func3, Try.ntmps3
  go_wp2_with fail
  rw [← HW0.out, ← HE0.out]
  apply (fun (v0 v1 v2 v4 v5 v6 v8 v9 v10 : Value) mono obl tail => wp_region_par (R := Grow) (Φ := phi [veq v0, veq v1, veq v2, (IsMS N Sa), veq v4, veq v5, veq v6, (IsMS N Sb), veq v8, veq v9, veq v10, (IsMS N Sc), (IsMS N Sa), (IsMS N Sb), (IsMS N Sc)]) (m := 15) (dls := [[], [], [(13, 1)], [(12, 0), (14, 2)], [], [], [(17, 5)], [(16, 4), (18, 6)], [], [], [(21, 9)], [(20, 8), (22, 10)], [(15, 3)], [(19, 7)], [(23, 11)]]) (ds := [12, 13, 14, 15, 16, 17, 18, 19, 20, 21, 22, 23, 5, 6, 7]) (by kernel_rfl) (by kernel_rfl) (by decide) rfl (Grow.drew _) (fun _ _ _ => Grow.trans) (mono_phi mono) obl tail)
  case obl =>
    refine obls_cons (fun f w' hR hH Q hQ => ?_) ?_
    · skip
      simp only [view, List.foldl]
      repeat (first | go_guarded | go_step)
      exact hQ _ _ (Grow.refl _) rfl rfl
    refine obls_cons (fun f w' hR hH Q hQ => ?_) ?_
    · skip
      simp only [view, List.foldl]
      repeat (first | go_guarded | go_step)
      exact hQ _ _ (Grow.refl _) rfl rfl
    refine obls_cons (fun f w' hR hH Q hQ => ?_) ?_
    · skip
      obtain ⟨h1, -⟩ := hH
      simp only [view, List.foldl, Act.put, List.setIfInBounds_toArray, List.set_cons_zero, List.set_cons_succ]
      rw [show f 1 = _ from h1]
      clear h1
      have q0 := (HBX.out.grow hR).cell (i := 0) rfl
      repeat (first | go_guarded | go_step)
      exact hQ _ _ (Grow.refl _) rfl rfl
    refine obls_cons (fun f w' hR hH Q hQ => ?_) ?_
    · skip
      obtain ⟨h0, h2, -⟩ := hH
      simp only [view, List.foldl, Act.put, List.setIfInBounds_toArray, List.set_cons_zero, List.set_cons_succ]
      rw [show f 0 = _ from h0]
      rw [show f 2 = _ from h2]
      clear h0 h2
      go_wp2_with (go_at_call 13; refine (O0.out w' (HG0.out.trans hR)).mono ?_; rintro e w1 ⟨g, h, rfl, m, hg⟩)
      exact hQ _ _ hg ⟨g, h, rfl, m⟩ rfl
    refine obls_cons (fun f w' hR hH Q hQ => ?_) ?_
    · skip
      simp only [view, List.foldl]
      repeat (first | go_guarded | go_step)
      exact hQ _ _ (Grow.refl _) rfl rfl
    refine obls_cons (fun f w' hR hH Q hQ => ?_) ?_
    · skip
      simp only [view, List.foldl]
      repeat (first | go_guarded | go_step)
      exact hQ _ _ (Grow.refl _) rfl rfl
    refine obls_cons (fun f w' hR hH Q hQ => ?_) ?_
    · skip
      obtain ⟨h5, -⟩ := hH
      simp only [view, List.foldl, Act.put, List.setIfInBounds_toArray, List.set_cons_zero, List.set_cons_succ]
      rw [show f 5 = _ from h5]
      clear h5
      have q1 := (HBX.out.grow hR).cell (i := 1) rfl
      repeat (first | go_guarded | go_step)
      exact hQ _ _ (Grow.refl _) rfl rfl
    refine obls_cons (fun f w' hR hH Q hQ => ?_) ?_
    · skip
      obtain ⟨h4, h6, -⟩ := hH
      simp only [view, List.foldl, Act.put, List.setIfInBounds_toArray, List.set_cons_zero, List.set_cons_succ]
      rw [show f 4 = _ from h4]
      rw [show f 6 = _ from h6]
      clear h4 h6
      go_wp2_with (go_at_call 13; refine (O1.out w' (HG0.out.trans hR)).mono ?_; rintro e w1 ⟨g, h, rfl, m, hg⟩)
      exact hQ _ _ hg ⟨g, h, rfl, m⟩ rfl
    refine obls_cons (fun f w' hR hH Q hQ => ?_) ?_
    · skip
      simp only [view, List.foldl]
      repeat (first | go_guarded | go_step)
      exact hQ _ _ (Grow.refl _) rfl rfl
    refine obls_cons (fun f w' hR hH Q hQ => ?_) ?_
    · skip
      simp only [view, List.foldl]
      repeat (first | go_guarded | go_step)
      exact hQ _ _ (Grow.refl _) rfl rfl
    refine obls_cons (fun f w' hR hH Q hQ => ?_) ?_
    · skip
      obtain ⟨h9, -⟩ := hH
      simp only [view, List.foldl, Act.put, List.setIfInBounds_toArray, List.set_cons_zero, List.set_cons_succ]
      rw [show f 9 = _ from h9]
      clear h9
      have q2 := (HBX.out.grow hR).cell (i := 2) rfl
      repeat (first | go_guarded | go_step)
      exact hQ _ _ (Grow.refl _) rfl rfl
    refine obls_cons (fun f w' hR hH Q hQ => ?_) ?_
    · skip
      obtain ⟨h8, h10, -⟩ := hH
      simp only [view, List.foldl, Act.put, List.setIfInBounds_toArray, List.set_cons_zero, List.set_cons_succ]
      rw [show f 8 = _ from h8]
      rw [show f 10 = _ from h10]
      clear h8 h10
      go_wp2_with (go_at_call 13; refine (O2.out w' (HG0.out.trans hR)).mono ?_; rintro e w1 ⟨g, h, rfl, m, hg⟩)
      exact hQ _ _ hg ⟨g, h, rfl, m⟩ rfl
    refine obls_cons (fun f w' hR hH Q hQ => ?_) ?_
    · skip
      obtain ⟨h3, -⟩ := hH
      simp only [view, List.foldl, Act.put, List.setIfInBounds_toArray, List.set_cons_zero, List.set_cons_succ]
      generalize f 3 = u3 at h3 ⊢
      replace h3 : (IsMS N Sa) u3 w' := h3
      repeat (first | go_guarded | go_step)
      exact hQ _ _ (Grow.refl _) h3 rfl
    refine obls_cons (fun f w' hR hH Q hQ => ?_) ?_
    · skip
      obtain ⟨h7, -⟩ := hH
      simp only [view, List.foldl, Act.put, List.setIfInBounds_toArray, List.set_cons_zero, List.set_cons_succ]
      generalize f 7 = u7 at h7 ⊢
      replace h7 : (IsMS N Sb) u7 w' := h7
      repeat (first | go_guarded | go_step)
      exact hQ _ _ (Grow.refl _) h7 rfl
    refine obls_cons (fun f w' hR hH Q hQ => ?_) ?_
    · skip
      obtain ⟨h11, -⟩ := hH
      simp only [view, List.foldl, Act.put, List.setIfInBounds_toArray, List.set_cons_zero, List.set_cons_succ]
      generalize f 11 = u11 at h11 ⊢
      replace h11 : (IsMS N Sc) u11 w' := h11
      repeat (first | go_guarded | go_step)
      exact hQ _ _ (Grow.refl _) h11 rfl
    exact obls_nil
  case mono => exact ⟨Mono.veq _, Mono.veq _, Mono.veq _, IsMS.mono, Mono.veq _, Mono.veq _, Mono.veq _, IsMS.mono, Mono.veq _, Mono.veq _, Mono.veq _, IsMS.mono, IsMS.mono, IsMS.mono, IsMS.mono, trivial⟩
  case tail =>
    intro f w' hR hH
    simp only [view, List.zipIdx, List.foldl, Act.put, List.setIfInBounds_toArray, List.set_cons_zero, List.set_cons_succ, List.drop_succ_cons, List.drop_zero]
    obtain ⟨-, -, -, -, -, -, -, -, -, -, -, -, q12, q13, q14, -⟩ := hH
    replace q12 : (IsMS N Sa) (f 12) w' := q12
    replace q13 : (IsMS N Sb) (f 13) w' := q13
    replace q14 : (IsMS N Sc) (f 14) w' := q14
    generalize f 0 = x0
    generalize f 1 = x1
    generalize f 2 = x2
    generalize f 3 = x3
    generalize f 4 = x4
    generalize f 5 = x5
    generalize f 6 = x6
    generalize f 7 = x7
    generalize f 8 = x8
    generalize f 9 = x9
    generalize f 10 = x10
    generalize f 11 = x11
    generalize f 12 = x12 at *
    generalize f 13 = x13 at *
    generalize f 14 = x14 at *
    obtain ⟨ga, ha, rfl, ma⟩ := q12
    obtain ⟨gb, hb, rfl, mb⟩ := q13
    obtain ⟨gc, hc, rfl, mc⟩ := q14
    have HRG := Lib.hid hR
    have HR := Lib.hid (HG0.out.trans hR)
    clear hR
    have la := ma.lt
    have lb := mb.lt
    have lc := mc.lt
    have hga := ma.good
    have hgb := mb.good
    have hgc := mc.good
    obtain ⟨s1, hs1⟩ : ∃ s, s = w'.heap.size := ⟨_, rfl⟩
    rw [← hs1] at la lb lc
    have HS1 := Lib.hid hs1
    have Ma := Lib.hid ma
    have La := Lib.hid la
    have Ga := Lib.hid hga
    have Mb := Lib.hid mb
    have Lb := Lib.hid lb
    have Gb := Lib.hid hgb
    have Mc := Lib.hid mc
    have Lc := Lib.hid lc
    have Gc := Lib.hid hgc
    have K1 := Lib.hid (copy_any w' ga ha N Sa ma)
    clear la lb lc hga hgb hgc ma mb mc hs1
    go_wp2_with fail
    refine K1.out.mono ?_
    rintro e w2 ⟨gu, hu, rfl, mu, bu1, bu2, hg2⟩
    obtain ⟨s2, hs2⟩ : ∃ s, s = w2.heap.size := ⟨_, rfl⟩
    have lu := mu.lt
    rw [← hs2] at lu
    rw [← HS1.out] at bu1 bu2
    have BU : Hid ((s1 ≤ gu ∧ gu < s2) ∧ ∀ k, hu = some k → s1 ≤ k ∧ k < s2) := Lib.hid ⟨⟨bu1, lu.1⟩, fun k hk => ⟨bu2 k hk, (lu.2 k hk).1⟩⟩
    have H12 : Hid (s1 ≤ s2) := Lib.hid (by rw [HS1.out, hs2]; exact hg2.size)
    have HS2 := Lib.hid hs2
    have MU2 := Lib.hid mu
    have GG2 := Lib.hid hg2
    have K2 := Lib.hid (copy_any w2 gc hc N Sc (Mc.out.grow hg2))
    clear lu mu hg2 hs2 bu1 bu2 K1
    go_wp2_with fail
    refine K2.out.mono ?_
    rintro e w3 ⟨gv, hv, rfl, mv, bv1, bv2, hg3⟩
    obtain ⟨s3, hs3⟩ : ∃ s, s = w3.heap.size := ⟨_, rfl⟩
    have lv := mv.lt
    rw [← hs3] at lv
    rw [← HS2.out] at bv1 bv2
    have BV : Hid ((s2 ≤ gv ∧ gv < s3) ∧ ∀ k, hv = some k → s2 ≤ k ∧ k < s3) := Lib.hid ⟨⟨bv1, lv.1⟩, fun k hk => ⟨bv2 k hk, (lv.2 k hk).1⟩⟩
    have H23 : Hid (s2 ≤ s3) := Lib.hid (by rw [HS2.out, hs3]; exact hg3.size)
    have HS3 := Lib.hid hs3
    have MV3 := Lib.hid mv
    have MU3 := Lib.hid (MU2.out.grow hg3)
    have GG3 := Lib.hid (GG2.out.trans hg3)
    have K3 := Lib.hid (copy_any w3 ga ha N Sa (Ma.out.grow GG3.out))
    clear lv mv hg3 hs3 bv1 bv2 K2
    go_wp2_with fail
    refine K3.out.mono ?_
    rintro e w4 ⟨gw, hw, rfl, mw, bw1, bw2, hg4⟩
    rw [← HS3.out] at bw1 bw2
    have BW : Hid (s3 ≤ gw ∧ ∀ k, hw = some k → s3 ≤ k) := Lib.hid ⟨bw1, bw2⟩
    have GG4 := Lib.hid (GG3.out.trans hg4)
    have SZ4 : Hid (s1 ≤ w4.heap.size) := Lib.hid (by rw [HS1.out]; exact GG4.out.size)
    have MU4 := Lib.hid (MU3.out.grow hg4)
    have MV4 := Lib.hid (MV3.out.grow hg4)
    have MW4 := Lib.hid mw
    have Ma4 := Lib.hid (Ma.out.grow GG4.out)
    have Mb4 := Lib.hid (Mb.out.grow GG4.out)
    have Mc4 := Lib.hid (Mc.out.grow GG4.out)
    clear mw hg4 bw1 bw2 K3 MU2 MU3 MV3
    have Q5 := Lib.hid (or_two (B := s1) (K := (fun k => s2 ≤ k)) MU4.out (free_of BU.out.1.1 (by have := BU.out.1; omega) (fun k hk => ⟨(BU.out.2 k hk).1, by have := BU.out.2 k hk; omega⟩)) SZ4.out Mb4.out (.inl Lb.out.1) (fun k hk => .inl (Lb.out.2 k hk).1))
    go_wp2_with fail
    refine Q5.out.mono ?_
    rintro e w5 ⟨rfl, mm, hk⟩
    have MU5 := Lib.hid mm
    have MV5 := Lib.hid (MV4.out.keep hk (.inr (show s2 ≤ _ by have := BV.out.1; have := H23.out; omega)) (fun k hk => .inr (show s2 ≤ k by have := BV.out.2 k hk; have := H23.out; omega)))
    have MW5 := Lib.hid (MW4.out.keep hk (.inr (show s2 ≤ _ by have := BW.out.1; have := H23.out; omega)) (fun k hk => .inr (show s2 ≤ k by have := BW.out.2 k hk; have := H23.out; omega)))
    have Ma5 := Lib.hid (Ma4.out.keep hk (.inl La.out.1) (fun k hk => .inl (La.out.2 k hk).1))
    have Mb5 := Lib.hid (Mb4.out.keep hk (.inl Lb.out.1) (fun k hk => .inl (Lb.out.2 k hk).1))
    have Mc5 := Lib.hid (Mc4.out.keep hk (.inl Lc.out.1) (fun k hk => .inl (Lc.out.2 k hk).1))
    have GG5 : Hid (Grow w' w5) := Lib.hid (hk.grow GG4.out HS1.out)
    have SZ5 : Hid (s1 ≤ w5.heap.size) := Lib.hid (by rw [HS1.out]; exact GG5.out.size)
    clear mm hk Q5 MU4 MV4 MW4 Ma4 Mb4 Mc4 SZ4 GG4
    have Q6 := Lib.hid (or_two (B := s1) (K := (fun k => s2 ≤ k)) MU5.out (free_of BU.out.1.1 (by have := BU.out.1; omega) (fun k hk => ⟨(BU.out.2 k hk).1, by have := BU.out.2 k hk; omega⟩)) SZ5.out Mc5.out (.inl Lc.out.1) (fun k hk => .inl (Lc.out.2 k hk).1))
    go_wp2_with fail
    refine Q6.out.mono ?_
    rintro e w6 ⟨rfl, mm, hk⟩
    have MU6 := Lib.hid mm
    have MV6 := Lib.hid (MV5.out.keep hk (.inr (show s2 ≤ _ by have := BV.out.1; have := H23.out; omega)) (fun k hk => .inr (show s2 ≤ k by have := BV.out.2 k hk; have := H23.out; omega)))
    have MW6 := Lib.hid (MW5.out.keep hk (.inr (show s2 ≤ _ by have := BW.out.1; have := H23.out; omega)) (fun k hk => .inr (show s2 ≤ k by have := BW.out.2 k hk; have := H23.out; omega)))
    have Ma6 := Lib.hid (Ma5.out.keep hk (.inl La.out.1) (fun k hk => .inl (La.out.2 k hk).1))
    have Mb6 := Lib.hid (Mb5.out.keep hk (.inl Lb.out.1) (fun k hk => .inl (Lb.out.2 k hk).1))
    have Mc6 := Lib.hid (Mc5.out.keep hk (.inl Lc.out.1) (fun k hk => .inl (Lc.out.2 k hk).1))
    have GG6 : Hid (Grow w' w6) := Lib.hid (hk.grow GG5.out HS1.out)
    have SZ6 : Hid (s1 ≤ w6.heap.size) := Lib.hid (by rw [HS1.out]; exact GG6.out.size)
    clear mm hk Q6 MU5 MV5 MW5 Ma5 Mb5 Mc5 SZ5 GG5
    have Q7 := Lib.hid (or_two (B := s1) (K := (fun k => k < s2 ∨ s3 ≤ k)) MV6.out (free_of (by have := BV.out.1; have := H12.out; omega) (by have := BV.out.1; omega) (fun k hk => ⟨by have := BV.out.2 k hk; have := H12.out; omega, by have := BV.out.2 k hk; omega⟩)) SZ6.out Mb6.out (.inl Lb.out.1) (fun k hk => .inl (Lb.out.2 k hk).1))
    go_wp2_with fail
    refine Q7.out.mono ?_
    rintro e w7 ⟨rfl, mm, hk⟩
    have MV7 := Lib.hid mm
    have MU7 := Lib.hid (MU6.out.keep hk (.inr (.inl (by have := BU.out.1; omega))) (fun k hk => .inr (.inl (by have := BU.out.2 k hk; omega))))
    have MW7 := Lib.hid (MW6.out.keep hk (.inr (.inr BW.out.1)) (fun k hk => .inr (.inr (BW.out.2 k hk))))
    have Ma7 := Lib.hid (Ma6.out.keep hk (.inl La.out.1) (fun k hk => .inl (La.out.2 k hk).1))
    have Mb7 := Lib.hid (Mb6.out.keep hk (.inl Lb.out.1) (fun k hk => .inl (Lb.out.2 k hk).1))
    have Mc7 := Lib.hid (Mc6.out.keep hk (.inl Lc.out.1) (fun k hk => .inl (Lc.out.2 k hk).1))
    have GG7 : Hid (Grow w' w7) := Lib.hid (hk.grow GG6.out HS1.out)
    have SZ7 : Hid (s1 ≤ w7.heap.size) := Lib.hid (by rw [HS1.out]; exact GG7.out.size)
    clear mm hk Q7 MU6 MV6 MW6 Ma6 Mb6 Mc6 SZ6 GG6
    have Q8 := Lib.hid (or_two (B := s1) (K := (fun k => k < s2 ∨ s3 ≤ k)) MV7.out (free_of (by have := BV.out.1; have := H12.out; omega) (by have := BV.out.1; omega) (fun k hk => ⟨by have := BV.out.2 k hk; have := H12.out; omega, by have := BV.out.2 k hk; omega⟩)) SZ7.out Ma7.out (.inl La.out.1) (fun k hk => .inl (La.out.2 k hk).1))
    go_wp2_with fail
    refine Q8.out.mono ?_
    rintro e w8 ⟨rfl, mm, hk⟩
    have MV8 := Lib.hid mm
    have MU8 := Lib.hid (MU7.out.keep hk (.inr (.inl (by have := BU.out.1; omega))) (fun k hk => .inr (.inl (by have := BU.out.2 k hk; omega))))
    have MW8 := Lib.hid (MW7.out.keep hk (.inr (.inr BW.out.1)) (fun k hk => .inr (.inr (BW.out.2 k hk))))
    have Ma8 := Lib.hid (Ma7.out.keep hk (.inl La.out.1) (fun k hk => .inl (La.out.2 k hk).1))
    have Mb8 := Lib.hid (Mb7.out.keep hk (.inl Lb.out.1) (fun k hk => .inl (Lb.out.2 k hk).1))
    have Mc8 := Lib.hid (Mc7.out.keep hk (.inl Lc.out.1) (fun k hk => .inl (Lc.out.2 k hk).1))
    have GG8 : Hid (Grow w' w8) := Lib.hid (hk.grow GG7.out HS1.out)
    have SZ8 : Hid (s1 ≤ w8.heap.size) := Lib.hid (by rw [HS1.out]; exact GG8.out.size)
    clear mm hk Q8 MU7 MV7 MW7 Ma7 Mb7 Mc7 SZ7 GG7
    have Q9 := Lib.hid (and_two (B := s1) (K := (fun k => k < s3)) MW8.out (free_of (by have := BW.out.1; have := H12.out; have := H23.out; omega) (by have := BW.out.1; omega) (fun k hk => ⟨by have := BW.out.2 k hk; have := H12.out; have := H23.out; omega, by have := BW.out.2 k hk; omega⟩)) SZ8.out Mb8.out (.inl Lb.out.1) (fun k hk => .inl (Lb.out.2 k hk).1))
    go_wp2_with fail
    refine Q9.out.mono ?_
    rintro e w9 ⟨rfl, mm, hk⟩
    have MW9 := Lib.hid mm
    have MU9 := Lib.hid (MU8.out.keep hk (.inr (show _ < s3 by have := BU.out.1; have := H23.out; omega)) (fun k hk => .inr (show k < s3 by have := BU.out.2 k hk; have := H23.out; omega)))
    have MV9 := Lib.hid (MV8.out.keep hk (.inr (show _ < s3 by have := BV.out.1; have := H23.out; omega)) (fun k hk => .inr (show k < s3 by have := BV.out.2 k hk; have := H23.out; omega)))
    have Ma9 := Lib.hid (Ma8.out.keep hk (.inl La.out.1) (fun k hk => .inl (La.out.2 k hk).1))
    have Mb9 := Lib.hid (Mb8.out.keep hk (.inl Lb.out.1) (fun k hk => .inl (Lb.out.2 k hk).1))
    have Mc9 := Lib.hid (Mc8.out.keep hk (.inl Lc.out.1) (fun k hk => .inl (Lc.out.2 k hk).1))
    have GG9 : Hid (Grow w' w9) := Lib.hid (hk.grow GG8.out HS1.out)
    have SZ9 : Hid (s1 ≤ w9.heap.size) := Lib.hid (by rw [HS1.out]; exact GG9.out.size)
    clear mm hk Q9 MU8 MV8 MW8 Ma8 Mb8 Mc8 SZ8 GG8
    have Q10 := Lib.hid (or_two (B := s1) (K := (fun k => s2 ≤ k)) MU9.out (free_of BU.out.1.1 (by have := BU.out.1; omega) (fun k hk => ⟨(BU.out.2 k hk).1, by have := BU.out.2 k hk; omega⟩)) SZ9.out Ma9.out (.inl La.out.1) (fun k hk => .inl (La.out.2 k hk).1))
    go_wp2_with fail
    refine Q10.out.mono ?_
    rintro e w10 ⟨rfl, mm, hk⟩
    have MU10 := Lib.hid mm
    have MV10 := Lib.hid (MV9.out.keep hk (.inr (show s2 ≤ _ by have := BV.out.1; have := H23.out; omega)) (fun k hk => .inr (show s2 ≤ k by have := BV.out.2 k hk; have := H23.out; omega)))
    have MW10 := Lib.hid (MW9.out.keep hk (.inr (show s2 ≤ _ by have := BW.out.1; have := H23.out; omega)) (fun k hk => .inr (show s2 ≤ k by have := BW.out.2 k hk; have := H23.out; omega)))
    have Ma10 := Lib.hid (Ma9.out.keep hk (.inl La.out.1) (fun k hk => .inl (La.out.2 k hk).1))
    have Mb10 := Lib.hid (Mb9.out.keep hk (.inl Lb.out.1) (fun k hk => .inl (Lb.out.2 k hk).1))
    have Mc10 := Lib.hid (Mc9.out.keep hk (.inl Lc.out.1) (fun k hk => .inl (Lc.out.2 k hk).1))
    have GG10 : Hid (Grow w' w10) := Lib.hid (hk.grow GG9.out HS1.out)
    have SZ10 : Hid (s1 ≤ w10.heap.size) := Lib.hid (by rw [HS1.out]; exact GG10.out.size)
    clear mm hk Q10 MU9 MV9 MW9 Ma9 Mb9 Mc9 SZ9 GG9
    have eU : uni (uni (uni (Sa) (Sb) N) (Sc) N) (Sa) N = fun j => Sa j || Sb j || Sc j := by
      rw [uni_in (uni (uni Sa Sb N) Sc N) Sa N (fun j hj => by unfold uni; simp [hj])]
      exact uni_assoc Sa Sb Sc N Gb.out.2 Gc.out.2
    have eA : diff N (uni (uni Sa Sb N) Sc N) (uni (uni (uni (Sa) (Sb) N) (Sc) N) (Sa) N) = false := by rw [uni_in (uni (uni Sa Sb N) Sc N) Sa N (fun j hj => by unfold uni; simp [hj])]; exact diff_same _ _
    have eV : uni (uni (Sc) (Sb) N) (Sa) N = fun j => Sa j || Sb j || Sc j := by
      rw [uni_assoc Sc Sb Sa N Gb.out.2 Ga.out.2]
      funext j; cases Sa j <;> cases Sb j <;> cases Sc j <;> rfl
    obtain ⟨SX, hSX⟩ : ∃ S : Nat → Bool, S = fun j => Sa j || Sb j || Sc j := ⟨_, rfl⟩
    rw [eU, ← hSX] at MU10
    rw [eV, ← hSX] at MV10
    rw [eA]
    obtain ⟨SI, hSI⟩ : ∃ S, S = int Sa Sb := ⟨_, rfl⟩
    rw [← hSI] at MW10
    have GX : ∀ j, SX j = true → j < N := MU10.out.good.2
    have GI : ∀ j, SI j = true → j < N := MW10.out.good.2
    have p1 := same_ms MU10.out MV10.out
    rw [show (allIn N SX SX && allIn N SX SX) = true by rw [allIn_of (fun j h => h)]; rfl] at p1
    have P1H := Lib.hid p1
    clear p1
    have p2 := within_ms Ma10.out MU10.out
    rw [show allIn N Sa SX = true by exact allIn_of (fun j h => by rw [hSX]; simp [h])] at p2
    have P2H := Lib.hid p2
    clear p2
    have p3 := within_ms Mb10.out MU10.out
    rw [show allIn N Sb SX = true by exact allIn_of (fun j h => by rw [hSX]; simp [h])] at p3
    have P3H := Lib.hid p3
    clear p3
    have p4 := within_ms Mc10.out MU10.out
    rw [show allIn N Sc SX = true by exact allIn_of (fun j h => by rw [hSX]; simp [h])] at p4
    have P4H := Lib.hid p4
    clear p4
    have p5 := within_ms MW10.out Ma10.out
    rw [show allIn N SI Sa = true by exact allIn_of (fun j h => by rw [hSI] at h; unfold int at h; simp only [Bool.and_eq_true] at h; exact h.1)] at p5
    have P5H := Lib.hid p5
    clear p5
    have p6 := within_ms MW10.out Mb10.out
    rw [show allIn N SI Sb = true by exact allIn_of (fun j h => by rw [hSI] at h; unfold int at h; simp only [Bool.and_eq_true] at h; exact h.2)] at p6
    have P6H := Lib.hid p6
    clear p6
    have GT := Lib.hid (HR.out.trans GG10.out)
    have cb0 := ((HBX.out.grow HRG.out).grow GG10.out).cell (i := 0) rfl
    have OX := Lib.hid (O0.out w10 GT.out)
    clear eU eV eA hSX hSI GX GI
    go_wp2_with fail
    refine P1H.out.mono ?_
    rintro e w' ⟨rfl, rfl⟩
    go_wp2_with fail
    refine P2H.out.mono ?_
    rintro e w' ⟨rfl, rfl⟩
    go_wp2_with fail
    refine P3H.out.mono ?_
    rintro e w' ⟨rfl, rfl⟩
    go_wp2_with fail
    refine P4H.out.mono ?_
    rintro e w' ⟨rfl, rfl⟩
    go_wp2_with fail
    refine P5H.out.mono ?_
    rintro e w' ⟨rfl, rfl⟩
    go_wp2_with fail
    refine P6H.out.mono ?_
    rintro e w' ⟨rfl, rfl⟩
    go_wp2_with fail
    refine OX.out.mono ?_
    rintro e w20 ⟨g9, h9, rfl, m9, hg9⟩
    have p7 := same_ms (Ma10.out.grow hg9) m9
    rw [show (allIn N Sa Sa && allIn N Sa Sa) = true by rw [allIn_of (fun j h => h)]; rfl] at p7
    have P7H := Lib.hid p7
    have GT2 := Lib.hid (GT.out.trans hg9)
    clear p7 m9 hg9
    go_wp2_with fail
    refine P7H.out.mono ?_
    rintro e w' ⟨rfl, rfl⟩
    go_wp2_with fail
    refine (works_any _).mono ?_
    rintro e w21 ⟨rfl, hg⟩
    go_wp2_with fail
    go_ret
    exact ⟨rfl, GT2.out.trans hg⟩
end Go.Proofs.Ytjfohglkpbgkaaa.mkL
