/- The statement BufReads. -/
import Derived.Test.YtfmaicjgndbffaaBufO
namespace Go.Proofs.Ytfmaicjgndbffaa.bfL
open Go Go.RowKit Go.Par Go.Kit Vi Go.Proofs.Ytfmaicjgndbffaa.cl Go.Proofs.Ytfmaicjgndbffaa.bfW

structure Ask where
  k : Nat
  most : Nat
  n : Int
def askRow (x : Ask) : List Value := [.int .u8 (x.k : Int), .int .u64 (x.most : Int), .int .i64 x.n]
structure AskOk (x : Ask) : Prop where
  k : x.k < 256
  most : x.most < 18446744073709551616
  lo : -9223372036854775808 ≤ x.n
  hi : x.n ≤ 9223372036854775807
def Asks (w : World) (A : Option Addr) (n : Nat) (xs : List Ask) : Prop := Recs 3 askRow w A n xs ∧ ∀ x ∈ xs, AskOk x
theorem Asks.at_ {w : World} {A : Option Addr} {n : Nat} {xs : List Ask} (h : Asks w A n xs) {k : Nat} (hk : k < n) :
    ∃ b off x, A = some ⟨b, off, none⟩ ∧ AskOk x ∧ w.cell? ⟨b, off + k * 3, none⟩ = some (.int .u8 (x.k : Int)) ∧ w.cell? ⟨b, off + k * 3 + 1, none⟩ = some (.int .u64 (x.most : Int)) ∧ w.cell? ⟨b, off + k * 3 + 2, none⟩ = some (.int .i64 x.n) := by
  obtain ⟨b, off, x, e, hx, hc⟩ := h.1.at_ (by decide) hk
  exact ⟨b, off, x, e, h.2 x (List.mem_of_getElem? hx), hc 0 _ rfl, hc 1 _ rfl, hc 2 _ rfl⟩

/-- both readers -/
structure RX (w : World) (g gx : Nat) (L : List UInt8) (e : Nat) (L' : List UInt8) (e' : Nat) (wr : World) : Prop where
  r : Rdr TR wr w.heap.size (fun i => i = gx) g L e
  x : Rdr TX wr w.heap.size (fun i => i = g) gx L' e'
  g : Grow w wr
theorem RX.grow {w w1 w2 : World} {g gx e e' : Nat} {L L' : List UInt8} (h : RX w g gx L e L' e' w1) (hg : Grow w1 w2) : RX w g gx L e L' e' w2 := ⟨h.r.grow hg, h.x.grow hg, h.g.trans hg⟩
/-- the phases of a round's region: none has read, the one, both -/
def Ph (w : World) (g gx : Nat) (L : List UInt8) (e : Nat) (L1 : List UInt8) (e1 : Nat) (b : Nat) (wr : World) : Prop :=
  Grow w wr ∧ (b = 0 → RX w g gx L e L e wr) ∧ (b = 1 → RX w g gx L1 e1 L e wr) ∧ (b = 2 → RX w g gx L1 e1 L1 e1 wr)

set_option maxRecDepth 100000 in
set_option maxHeartbeats 4000000 in
theorem reads_walk (A : Option Addr) (n c : Nat) (l : List UInt8) (A2 : Option Addr) (n2 c2 : Nat) (xs : List Ask) (w : World) (hb : Bytes w A n l) (hc : n ≤ c) (hm : c ≤ maxLen) (ha : Asks w A2 n2 xs) :
    Calls Try.prog 8 #[.slice A n c, .slice A2 n2 c2] w fun e w' => e = .returned (.bool true) ∧ Grow w w' := by
  have HW0 := Lib.hid (works_any w)
  by_cases hn : n ≤ 1000
  · by_cases hn2 : n2 ≤ 60
    · have hAB : 0 < n → ∀ ad, A = some ad → ad.block < w.heap.size := fun h => Row.block hb h
      have HO := Lib.hid (open_any w w.heap.size (fun _ => False) (Nat.le_refl _) (fun _ h => h.elim) A n c l hb hc hm hAB)
      have HB := Lib.hid hb
      have HA := Lib.hid ha
      have HAB := Lib.hid hAB
      clear hb ha hAB
      go_enter Try.func8, Try.ntmps8
      go_wp2_with fail
      refine HO.out.mono ?_
      rintro e w1 ⟨rfl, hr, hg⟩
      have hlt := hr.lt
      have H1 : Hid (RX w w.heap.size w1.heap.size l 0 l 0 (w1.alloc (.cells #[.slice A n c, .int .i64 0] TX))) := Lib.hid
        ⟨(hr.to (K2 := fun i => i = w1.heap.size) (by omega)).grow (Grow.alloc _ _), ⟨A, n, c, Blk.new _ _ _ _ rfl rfl, hc, hm, (HB.out.grow hg).grow (Grow.alloc _ _), HAB.out, by omega, by omega⟩, hg.trans (Grow.alloc _ _)⟩
      obtain ⟨g, hg0⟩ : ∃ g, g = w.heap.size := ⟨_, rfl⟩
      obtain ⟨gx, hgx⟩ : ∃ gx, gx = w1.heap.size := ⟨_, rfl⟩
      have HE0 := Lib.hid hg0
      have HE1 := Lib.hid hgx
      clear hr hg hlt hg0 hgx HO
      go_wp2_with fail
      rw [← HE0.out, ← HE1.out] at H1
      rw [← HE0.out, ← HE1.out]
      go_loopw [7] (fun i wr => ∃ (k : Nat) (L : List UInt8) (e : Nat), k ≤ n2 ∧ i = .int .i64 (k : Int) ∧ RX w g gx L e L e wr) (fun i _ => n2 - (intOf i).toNat)
      case atStart => exact ⟨0, l, 0, by omega, rfl, H1.out⟩
      case round =>
        obtain ⟨k, L, e, hk, rfl, hrx⟩ := hrel
        clear H1
        by_cases hlt : k < n2
        · obtain ⟨b, off, x, rfl, ok, d0, d1, d2⟩ := HA.out.at_ hlt
          have c0 := hrx.g.cell d0
          have HRX := Lib.hid hrx
          have hk256 := ok.k
          have hlo := ok.lo
          have hhi := ok.hi
          have D1 := Lib.hid d1
          have D2 := Lib.hid d2
          clear hrx ok d0 d1 d2

          by_cases h0 : x.k = 0
          · have t0 : ((x.k : Int) == 0) = true := beq_iff_eq.2 (by omega)
            obtain ⟨v1, L1, e1, hst⟩ : ∃ a b c, rnum L e x.most = (a, b, c) := ⟨_, _, _, rfl⟩
            have HST := Lib.hid hst
            clear hst h0
            go_wp2_with fail
            apply (fun (v0 v1 v2 v3 v4 v5 v6 v7 v8 v9 v10 v11 v12 v13 v14 v15 : Value) mono draw obl tail => wp_region_piv (I := Ph w g gx L e L1 e1) (G := Grow) (Rp := (fun _ _ => True)) (Φ := phi2 [veq2 v0, veq2 v1, veq2 v2, veq2 v3, veq2 v4, veq2 v5, veq2 v6, veq2 v7, veq2 v8, veq2 v9, veq2 v10, veq2 v11, veq2 v12, veq2 v13, veq2 v14, veq2 v15]) (m := 16) (ps := [6, 13]) (qs := [(0, 0, false), (0, 0, false), (0, 0, false), (0, 0, false), (0, 0, false), (0, 0, false), (0, 0, true), (0, 1, false), (0, 1, false), (0, 1, false), (0, 1, false), (0, 1, false), (0, 1, false), (1, 1, true), (2, 2, false), (2, 2, false)]) (dls := [[], [], [], [(52, 1), (53, 2)], [(54, 3)], [(55, 4)], [(51, 0), (56, 5)], [], [], [], [(59, 8), (60, 9)], [(61, 10)], [(62, 11)], [(58, 7), (63, 12)], [(57, 6), (64, 13)], [(65, 14)]]) (ds := [51, 52, 53, 54, 55, 56, 57, 58, 59, 60, 61, 62, 63, 64, 65, 8]) (by kernel_rfl) (by kernel_rfl) (by kernel_rfl) (by decide) rfl rfl draw (mono2_phi mono) (piv2_phi mono) obl tail)
            case obl =>
              refine obls2_cons (fun b hb1 hb2 f w' hI hH Q hQ => ?_) ?_
              · skip
                obtain rfl : b = 0 := by omega
                clear hb1 hb2
                simp only [view, List.foldl]
                repeat (first | go_guarded | go_step)
                exact hQ _ _ hI (Grow.refl _) rfl rfl
              refine obls2_cons (fun b hb1 hb2 f w' hI hH Q hQ => ?_) ?_
              · skip
                obtain rfl : b = 0 := by omega
                clear hb1 hb2
                simp only [view, List.foldl]
                repeat (first | go_guarded | go_step)
                exact hQ _ _ hI (Grow.refl _) rfl rfl
              refine obls2_cons (fun b hb1 hb2 f w' hI hH Q hQ => ?_) ?_
              · skip
                obtain rfl : b = 0 := by omega
                clear hb1 hb2
                simp only [view, List.foldl]
                repeat (first | go_guarded | go_step)
                exact hQ _ _ hI (Grow.refl _) rfl rfl
              refine obls2_cons (fun b hb1 hb2 f w' hI hH Q hQ => ?_) ?_
              · skip
                obtain rfl : b = 0 := by omega
                clear hb1 hb2
                obtain ⟨h1, h2, -⟩ := hH
                simp only [view, List.foldl, Act.put, List.setIfInBounds_toArray, List.set_cons_zero, List.set_cons_succ]
                rw [show f 1 = _ from h1]
                rw [show f 2 = _ from h2]
                clear h1 h2
                repeat (first | go_guarded | go_step)
                exact hQ _ _ hI (Grow.refl _) rfl rfl
              refine obls2_cons (fun b hb1 hb2 f w' hI hH Q hQ => ?_) ?_
              · skip
                obtain rfl : b = 0 := by omega
                clear hb1 hb2
                obtain ⟨h3, -⟩ := hH
                simp only [view, List.foldl, Act.put, List.setIfInBounds_toArray, List.set_cons_zero, List.set_cons_succ]
                rw [show f 3 = _ from h3]
                clear h3
                repeat (first | go_guarded | go_step)
                exact hQ _ _ hI (Grow.refl _) rfl rfl
              refine obls2_cons (fun b hb1 hb2 f w' hI hH Q hQ => ?_) ?_
              · skip
                obtain rfl : b = 0 := by omega
                clear hb1 hb2
                obtain ⟨h4, -⟩ := hH
                simp only [view, List.foldl, Act.put, List.setIfInBounds_toArray, List.set_cons_zero, List.set_cons_succ]
                rw [show f 4 = _ from h4]
                clear h4
                have c1 := hI.1.cell D1.out
                repeat (first | go_guarded | go_step)
                exact hQ _ _ hI (Grow.refl _) rfl rfl
              refine oblsP_cons (fun f w' hI hH Q hQ => ?_) ?_
              · skip
                obtain ⟨h0, h5, -⟩ := hH
                simp only [view, List.foldl, Act.put, List.setIfInBounds_toArray, List.set_cons_zero, List.set_cons_succ]
                rw [show f 0 = _ from h0]
                rw [show f 5 = _ from h5]
                clear h0 h5
                have hnum := num_any w' _ _ g L e (hI.2.1 rfl).r x.most
                rw [HST.out] at hnum
                have HNUM := Lib.hid hnum
                have HI := Lib.hid hI
                clear hnum hI
                go_wp2_with (go_at_call 28; refine HNUM.out.mono ?_; rintro e w4 ⟨rfl, hr4, hk4⟩)
                exact hQ _ _ ⟨hk4.grow HI.out.1 rfl, fun h => absurd h (by decide), fun _ => ⟨hr4, (HI.out.2.1 rfl).x.keep hk4 rfl, hk4.grow HI.out.1 rfl⟩, fun h => absurd h (by decide)⟩ trivial rfl rfl
              refine obls2_cons (fun b hb1 hb2 f w' hI hH Q hQ => ?_) ?_
              · skip
                simp only [view, List.foldl]
                repeat (first | go_guarded | go_step)
                exact hQ _ _ hI (Grow.refl _) rfl rfl
              refine obls2_cons (fun b hb1 hb2 f w' hI hH Q hQ => ?_) ?_
              · skip
                simp only [view, List.foldl]
                repeat (first | go_guarded | go_step)
                exact hQ _ _ hI (Grow.refl _) rfl rfl
              refine obls2_cons (fun b hb1 hb2 f w' hI hH Q hQ => ?_) ?_
              · skip
                simp only [view, List.foldl]
                repeat (first | go_guarded | go_step)
                exact hQ _ _ hI (Grow.refl _) rfl rfl
              refine obls2_cons (fun b hb1 hb2 f w' hI hH Q hQ => ?_) ?_
              · skip
                obtain ⟨h8, h9, -⟩ := hH
                simp only [view, List.foldl, Act.put, List.setIfInBounds_toArray, List.set_cons_zero, List.set_cons_succ]
                rw [show f 8 = _ from h8]
                rw [show f 9 = _ from h9]
                clear h8 h9
                repeat (first | go_guarded | go_step)
                exact hQ _ _ hI (Grow.refl _) rfl rfl
              refine obls2_cons (fun b hb1 hb2 f w' hI hH Q hQ => ?_) ?_
              · skip
                obtain ⟨h10, -⟩ := hH
                simp only [view, List.foldl, Act.put, List.setIfInBounds_toArray, List.set_cons_zero, List.set_cons_succ]
                rw [show f 10 = _ from h10]
                clear h10
                repeat (first | go_guarded | go_step)
                exact hQ _ _ hI (Grow.refl _) rfl rfl
              refine obls2_cons (fun b hb1 hb2 f w' hI hH Q hQ => ?_) ?_
              · skip
                obtain ⟨h11, -⟩ := hH
                simp only [view, List.foldl, Act.put, List.setIfInBounds_toArray, List.set_cons_zero, List.set_cons_succ]
                rw [show f 11 = _ from h11]
                clear h11
                have c1 := hI.1.cell D1.out
                repeat (first | go_guarded | go_step)
                exact hQ _ _ hI (Grow.refl _) rfl rfl
              refine oblsP_cons (fun f w' hI hH Q hQ => ?_) ?_
              · skip
                obtain ⟨h7, h12, -⟩ := hH
                simp only [view, List.foldl, Act.put, List.setIfInBounds_toArray, List.set_cons_zero, List.set_cons_succ]
                rw [show f 7 = _ from h7]
                rw [show f 12 = _ from h12]
                clear h7 h12
                have hnum := ref_num_any w' _ _ gx L e (hI.2.2.1 rfl).x x.most
                rw [HST.out] at hnum
                have HNUM := Lib.hid hnum
                have HI := Lib.hid hI
                clear hnum hI
                go_wp2_with (go_at_call 29; refine HNUM.out.mono ?_; rintro e w4 ⟨rfl, hr4, hk4⟩)
                exact hQ _ _ ⟨hk4.grow HI.out.1 rfl, fun h => absurd h (by decide), fun h => absurd h (by decide), fun _ => ⟨(HI.out.2.2.1 rfl).r.keep hk4 rfl, hr4, hk4.grow HI.out.1 rfl⟩⟩ trivial rfl rfl
              refine obls2_cons (fun b hb1 hb2 f w' hI hH Q hQ => ?_) ?_
              · skip
                obtain rfl : b = 2 := by omega
                clear hb1 hb2
                obtain ⟨h6, h13, -⟩ := hH
                simp only [view, List.foldl, Act.put, List.setIfInBounds_toArray, List.set_cons_zero, List.set_cons_succ]
                rw [show f 6 = _ from h6]
                rw [show f 13 = _ from h13]
                clear h6 h13
                repeat (first | go_guarded | go_step)
                exact hQ _ _ hI (Grow.refl _) rfl rfl
              refine obls2_cons (fun b hb1 hb2 f w' hI hH Q hQ => ?_) ?_
              · skip
                obtain rfl : b = 2 := by omega
                clear hb1 hb2
                obtain ⟨h14, -⟩ := hH
                simp only [view, List.foldl, Act.put, List.setIfInBounds_toArray, List.set_cons_zero, List.set_cons_succ]
                rw [show f 14 = _ from h14]
                clear h14
                repeat (first | go_guarded | go_step)
                exact hQ _ _ hI (Grow.refl _) rfl rfl
              exact obls2_nil
            case draw =>
              exact ⟨HRX.out.g.trans (Grow.drew _), fun _ => HRX.out.grow (Grow.drew _), fun h => absurd h (by decide), fun h => absurd h (by decide)⟩
            case mono => exact ⟨Mono2.veq _, Mono2.veq _, Mono2.veq _, Mono2.veq _, Mono2.veq _, Mono2.veq _, Mono2.veq _, Mono2.veq _, Mono2.veq _, Mono2.veq _, Mono2.veq _, Mono2.veq _, Mono2.veq _, Mono2.veq _, Mono2.veq _, Mono2.veq _, trivial⟩
            case tail =>
              intro f w' hI hH
              simp only [view, List.zipIdx, List.foldl, Act.put, List.setIfInBounds_toArray, List.set_cons_zero, List.set_cons_succ, List.drop_succ_cons, List.drop_nil]
              obtain ⟨-, -, -, -, -, -, -, -, -, -, -, -, -, -, -, q15, -⟩ := hH
              rw [show f 15 = _ from q15]
              clear q15
              generalize f 0 = x0
              generalize f 1 = x1
              generalize f 2 = x2
              generalize f 3 = x3
              generalize f 4 = x4
              generalize f 5 = x5
              generalize f 6 = x6
              generalize f 7 = x7
              generalize f 8 = x8
              generalize f 9 = x9
              generalize f 10 = x10
              generalize f 11 = x11
              generalize f 12 = x12
              generalize f 13 = x13
              generalize f 14 = x14
              have HR2 := Lib.hid (hI.2.2.2 rfl)
              clear hI HRX
              obtain ⟨A', n', c', hx1, hx2, hx3, hx4, hx5⟩ := HR2.out.x
              have hxl := hx4.len
              subst hxl
              have cx0 := hx1.cell (i := 0) rfl
              have cx1 := hx1.cell (i := 1) rfl
              have CX0 := Lib.hid cx0
              have CX1 := Lib.hid cx1
              clear hx1 hx2 hx3 hx4 hx5 cx0 cx1
              go_wp2_with fail
              apply (fun (v0 v1 v2 v3 v4 v5 v6 v7 v8 v9 v10 v11 v12 v13 v14 v15 v16 v17 v18 v19 v20 v21 v22 v23 v24 v25 v26 v27 : Value) mono obl tail => wp_region_par (R := Grow) (Φ := phi [veq v0, veq v1, veq v2, veq v3, veq v4, veq v5, veq v6, veq v7, veq v8, veq v9, veq v10, veq v11, veq v12, veq v13, veq v14, veq v15, veq v16, veq v17, veq v18, veq v19, veq v20, veq v21, veq v22, veq v23, veq v24, veq v25, veq v26, veq v27]) (m := 28) (dls := [[], [(85, 0)], [(86, 1)], [(87, 2)], [(88, 3), (87, 2)], [(87, 2)], [(90, 5), (87, 2)], [(91, 6), (87, 2)], [(92, 7), (87, 2)], [(93, 8), (87, 2)], [(89, 4), (94, 9), (87, 2)], [(87, 2), (95, 10)], [(96, 11)], [(97, 12)], [(98, 13), (97, 12)], [(97, 12)], [(100, 15), (97, 12)], [(101, 16), (97, 12)], [(102, 17), (97, 12)], [(99, 14), (103, 18), (97, 12)], [(97, 12), (104, 19)], [(105, 20)], [(106, 21)], [(107, 22), (106, 21)], [(106, 21)], [(109, 24), (106, 21)], [(108, 23), (110, 25), (106, 21)], [(106, 21), (111, 26)]]) (ds := [85, 86, 87, 88, 89, 90, 91, 92, 93, 94, 95, 96, 97, 98, 99, 100, 101, 102, 103, 104, 105, 106, 107, 108, 109, 110, 111, 112]) (by kernel_rfl) (by kernel_rfl) (by decide) rfl (Grow.drew _) (fun _ _ _ => Grow.trans) (mono_phi mono) obl tail)
              case obl =>
                refine obls_cons (fun f w' hR hH Q hQ => ?_) ?_
                · skip
                  simp only [view, List.foldl]
                  repeat (first | go_guarded | go_step)
                  exact hQ _ _ (Grow.refl _) rfl rfl
                refine obls_cons (fun f w' hR hH Q hQ => ?_) ?_
                · skip
                  obtain ⟨h0, -⟩ := hH
                  simp only [view, List.foldl, Act.put, List.setIfInBounds_toArray, List.set_cons_zero, List.set_cons_succ]
                  rw [show f 0 = _ from h0]
                  clear h0
                  repeat (first | go_guarded | go_step)
                  exact hQ _ _ (Grow.refl _) rfl rfl
                refine obls_cons (fun f w' hR hH Q hQ => ?_) ?_
                · skip
                  obtain ⟨h1, -⟩ := hH
                  simp only [view, List.foldl, Act.put, List.setIfInBounds_toArray, List.set_cons_zero, List.set_cons_succ]
                  rw [show f 1 = _ from h1]
                  clear h1
                  repeat (first | go_guarded | go_step)
                  exact hQ _ _ (Grow.refl _) rfl rfl
                refine obls_cons (fun f w' hR hH Q hQ => ?_) ?_
                · skip
                  obtain ⟨h2, -⟩ := hH
                  simp only [view, List.foldl, Act.put, List.setIfInBounds_toArray, List.set_cons_zero, List.set_cons_succ]
                  rw [show f 2 = _ from h2]
                  clear h2
                  repeat (first | go_guarded | go_step)
                  exact hQ _ _ (Grow.refl _) rfl rfl
                refine obls_cons (fun f w' hR hH Q hQ => ?_) ?_
                · skip
                  obtain ⟨h3, h2, -⟩ := hH
                  simp only [view, List.foldl, Act.put, List.setIfInBounds_toArray, List.set_cons_zero, List.set_cons_succ]
                  rw [show f 3 = _ from h3]
                  rw [show f 2 = _ from h2]
                  clear h3 h2
                  go_wp2_with (go_at_call 34; refine (left_any w' _ _ g L1 e1 (HR2.out.r.grow hR)).mono ?_; rintro e w1 ⟨rfl, rfl⟩)
                  exact hQ _ _ (Grow.refl _) rfl rfl
                refine obls_cons (fun f w' hR hH Q hQ => ?_) ?_
                · skip
                  obtain ⟨h2, -⟩ := hH
                  simp only [view, List.foldl, Act.put, List.setIfInBounds_toArray, List.set_cons_zero, List.set_cons_succ]
                  rw [show f 2 = _ from h2]
                  clear h2
                  repeat (first | go_guarded | go_step)
                  exact hQ _ _ (Grow.refl _) rfl rfl
                refine obls_cons (fun f w' hR hH Q hQ => ?_) ?_
                · skip
                  obtain ⟨h5, h2, -⟩ := hH
                  simp only [view, List.foldl, Act.put, List.setIfInBounds_toArray, List.set_cons_zero, List.set_cons_succ]
                  rw [show f 5 = _ from h5]
                  rw [show f 2 = _ from h2]
                  clear h5 h2
                  repeat (first | go_guarded | go_step)
                  exact hQ _ _ (Grow.refl _) rfl rfl
                refine obls_cons (fun f w' hR hH Q hQ => ?_) ?_
                · skip
                  obtain ⟨h6, h2, -⟩ := hH
                  simp only [view, List.foldl, Act.put, List.setIfInBounds_toArray, List.set_cons_zero, List.set_cons_succ]
                  rw [show f 6 = _ from h6]
                  rw [show f 2 = _ from h2]
                  clear h6 h2
                  repeat (first | go_guarded | go_step)
                  exact hQ _ _ (Grow.refl _) rfl rfl
                refine obls_cons (fun f w' hR hH Q hQ => ?_) ?_
                · skip
                  obtain ⟨h7, h2, -⟩ := hH
                  simp only [view, List.foldl, Act.put, List.setIfInBounds_toArray, List.set_cons_zero, List.set_cons_succ]
                  rw [show f 7 = _ from h7]
                  rw [show f 2 = _ from h2]
                  clear h7 h2
                  have c0 := hR.cell CX0.out
                  repeat (first | go_guarded | go_step)
                  exact hQ _ _ (Grow.refl _) rfl rfl
                refine obls_cons (fun f w' hR hH Q hQ => ?_) ?_
                · skip
                  obtain ⟨h8, h2, -⟩ := hH
                  simp only [view, List.foldl, Act.put, List.setIfInBounds_toArray, List.set_cons_zero, List.set_cons_succ]
                  rw [show f 8 = _ from h8]
                  rw [show f 2 = _ from h2]
                  clear h8 h2
                  repeat (first | go_guarded | go_step)
                  exact hQ _ _ (Grow.refl _) rfl rfl
                refine obls_cons (fun f w' hR hH Q hQ => ?_) ?_
                · skip
                  obtain ⟨h4, h9, h2, -⟩ := hH
                  simp only [view, List.foldl, Act.put, List.setIfInBounds_toArray, List.set_cons_zero, List.set_cons_succ]
                  rw [show f 4 = _ from h4]
                  rw [show f 9 = _ from h9]
                  rw [show f 2 = _ from h2]
                  clear h4 h9 h2
                  repeat (first | go_guarded | go_step)
                  exact hQ _ _ (Grow.refl _) rfl rfl
                refine obls_cons (fun f w' hR hH Q hQ => ?_) ?_
                · skip
                  obtain ⟨h2, h10, -⟩ := hH
                  simp only [view, List.foldl, Act.put, List.setIfInBounds_toArray, List.set_cons_zero, List.set_cons_succ]
                  rw [show f 2 = _ from h2]
                  rw [show f 10 = _ from h10]
                  clear h2 h10
                  repeat (first | go_guarded | go_step)
                  exact hQ _ _ (Grow.refl _) rfl rfl
                refine obls_cons (fun f w' hR hH Q hQ => ?_) ?_
                · skip
                  obtain ⟨h11, -⟩ := hH
                  simp only [view, List.foldl, Act.put, List.setIfInBounds_toArray, List.set_cons_zero, List.set_cons_succ]
                  rw [show f 11 = _ from h11]
                  clear h11
                  repeat (first | go_guarded | go_step)
                  exact hQ _ _ (Grow.refl _) rfl rfl
                refine obls_cons (fun f w' hR hH Q hQ => ?_) ?_
                · skip
                  obtain ⟨h12, -⟩ := hH
                  simp only [view, List.foldl, Act.put, List.setIfInBounds_toArray, List.set_cons_zero, List.set_cons_succ]
                  rw [show f 12 = _ from h12]
                  clear h12
                  repeat (first | go_guarded | go_step)
                  exact hQ _ _ (Grow.refl _) rfl rfl
                refine obls_cons (fun f w' hR hH Q hQ => ?_) ?_
                · skip
                  obtain ⟨h13, h12, -⟩ := hH
                  simp only [view, List.foldl, Act.put, List.setIfInBounds_toArray, List.set_cons_zero, List.set_cons_succ]
                  rw [show f 13 = _ from h13]
                  rw [show f 12 = _ from h12]
                  clear h13 h12
                  go_wp2_with (go_at_call 35; refine (err_any w' _ _ g L1 e1 (HR2.out.r.grow hR)).mono ?_; rintro e w1 ⟨rfl, rfl⟩)
                  exact hQ _ _ (Grow.refl _) rfl rfl
                refine obls_cons (fun f w' hR hH Q hQ => ?_) ?_
                · skip
                  obtain ⟨h12, -⟩ := hH
                  simp only [view, List.foldl, Act.put, List.setIfInBounds_toArray, List.set_cons_zero, List.set_cons_succ]
                  rw [show f 12 = _ from h12]
                  clear h12
                  repeat (first | go_guarded | go_step)
                  exact hQ _ _ (Grow.refl _) rfl rfl
                refine obls_cons (fun f w' hR hH Q hQ => ?_) ?_
                · skip
                  obtain ⟨h15, h12, -⟩ := hH
                  simp only [view, List.foldl, Act.put, List.setIfInBounds_toArray, List.set_cons_zero, List.set_cons_succ]
                  rw [show f 15 = _ from h15]
                  rw [show f 12 = _ from h12]
                  clear h15 h12
                  repeat (first | go_guarded | go_step)
                  exact hQ _ _ (Grow.refl _) rfl rfl
                refine obls_cons (fun f w' hR hH Q hQ => ?_) ?_
                · skip
                  obtain ⟨h16, h12, -⟩ := hH
                  simp only [view, List.foldl, Act.put, List.setIfInBounds_toArray, List.set_cons_zero, List.set_cons_succ]
                  rw [show f 16 = _ from h16]
                  rw [show f 12 = _ from h12]
                  clear h16 h12
                  repeat (first | go_guarded | go_step)
                  exact hQ _ _ (Grow.refl _) rfl rfl
                refine obls_cons (fun f w' hR hH Q hQ => ?_) ?_
                · skip
                  obtain ⟨h17, h12, -⟩ := hH
                  simp only [view, List.foldl, Act.put, List.setIfInBounds_toArray, List.set_cons_zero, List.set_cons_succ]
                  rw [show f 17 = _ from h17]
                  rw [show f 12 = _ from h12]
                  clear h17 h12
                  have c1 := hR.cell CX1.out
                  repeat (first | go_guarded | go_step)
                  exact hQ _ _ (Grow.refl _) rfl rfl
                refine obls_cons (fun f w' hR hH Q hQ => ?_) ?_
                · skip
                  obtain ⟨h14, h18, h12, -⟩ := hH
                  simp only [view, List.foldl, Act.put, List.setIfInBounds_toArray, List.set_cons_zero, List.set_cons_succ]
                  rw [show f 14 = _ from h14]
                  rw [show f 18 = _ from h18]
                  rw [show f 12 = _ from h12]
                  clear h14 h18 h12
                  repeat (first | go_guarded | go_step)
                  exact hQ _ _ (Grow.refl _) rfl rfl
                refine obls_cons (fun f w' hR hH Q hQ => ?_) ?_
                · skip
                  obtain ⟨h12, h19, -⟩ := hH
                  simp only [view, List.foldl, Act.put, List.setIfInBounds_toArray, List.set_cons_zero, List.set_cons_succ]
                  rw [show f 12 = _ from h12]
                  rw [show f 19 = _ from h19]
                  clear h12 h19
                  repeat (first | go_guarded | go_step)
                  exact hQ _ _ (Grow.refl _) rfl rfl
                refine obls_cons (fun f w' hR hH Q hQ => ?_) ?_
                · skip
                  obtain ⟨h20, -⟩ := hH
                  simp only [view, List.foldl, Act.put, List.setIfInBounds_toArray, List.set_cons_zero, List.set_cons_succ]
                  rw [show f 20 = _ from h20]
                  clear h20
                  repeat (first | go_guarded | go_step)
                  exact hQ _ _ (Grow.refl _) rfl rfl
                refine obls_cons (fun f w' hR hH Q hQ => ?_) ?_
                · skip
                  obtain ⟨h21, -⟩ := hH
                  simp only [view, List.foldl, Act.put, List.setIfInBounds_toArray, List.set_cons_zero, List.set_cons_succ]
                  rw [show f 21 = _ from h21]
                  clear h21
                  repeat (first | go_guarded | go_step)
                  exact hQ _ _ (Grow.refl _) rfl rfl
                refine obls_cons (fun f w' hR hH Q hQ => ?_) ?_
                · skip
                  obtain ⟨h22, h21, -⟩ := hH
                  simp only [view, List.foldl, Act.put, List.setIfInBounds_toArray, List.set_cons_zero, List.set_cons_succ]
                  rw [show f 22 = _ from h22]
                  rw [show f 21 = _ from h21]
                  clear h22 h21
                  go_wp2_with (go_at_call 36; refine (end_any w' _ _ g L1 e1 (HR2.out.r.grow hR)).mono ?_; rintro e w1 ⟨rfl, rfl⟩)
                  exact hQ _ _ (Grow.refl _) rfl rfl
                refine obls_cons (fun f w' hR hH Q hQ => ?_) ?_
                · skip
                  obtain ⟨h21, -⟩ := hH
                  simp only [view, List.foldl, Act.put, List.setIfInBounds_toArray, List.set_cons_zero, List.set_cons_succ]
                  rw [show f 21 = _ from h21]
                  clear h21
                  repeat (first | go_guarded | go_step)
                  exact hQ _ _ (Grow.refl _) rfl rfl
                refine obls_cons (fun f w' hR hH Q hQ => ?_) ?_
                · skip
                  obtain ⟨h24, h21, -⟩ := hH
                  simp only [view, List.foldl, Act.put, List.setIfInBounds_toArray, List.set_cons_zero, List.set_cons_succ]
                  rw [show f 24 = _ from h24]
                  rw [show f 21 = _ from h21]
                  clear h24 h21
                  go_wp2_with (go_at_call 37; refine (ref_end_any w' _ _ gx L1 e1 (HR2.out.x.grow hR)).mono ?_; rintro e w1 ⟨rfl, rfl⟩)
                  exact hQ _ _ (Grow.refl _) rfl rfl
                refine obls_cons (fun f w' hR hH Q hQ => ?_) ?_
                · skip
                  obtain ⟨h23, h25, h21, -⟩ := hH
                  simp only [view, List.foldl, Act.put, List.setIfInBounds_toArray, List.set_cons_zero, List.set_cons_succ]
                  rw [show f 23 = _ from h23]
                  rw [show f 25 = _ from h25]
                  rw [show f 21 = _ from h21]
                  clear h23 h25 h21
                  repeat (first | go_guarded | go_step)
                  exact hQ _ _ (Grow.refl _) rfl rfl
                refine obls_cons (fun f w' hR hH Q hQ => ?_) ?_
                · skip
                  obtain ⟨h21, h26, -⟩ := hH
                  simp only [view, List.foldl, Act.put, List.setIfInBounds_toArray, List.set_cons_zero, List.set_cons_succ]
                  rw [show f 21 = _ from h21]
                  rw [show f 26 = _ from h26]
                  clear h21 h26
                  repeat (first | go_guarded | go_step)
                  exact hQ _ _ (Grow.refl _) rfl rfl
                exact obls_nil
              case mono => exact ⟨Mono.veq _, Mono.veq _, Mono.veq _, Mono.veq _, Mono.veq _, Mono.veq _, Mono.veq _, Mono.veq _, Mono.veq _, Mono.veq _, Mono.veq _, Mono.veq _, Mono.veq _, Mono.veq _, Mono.veq _, Mono.veq _, Mono.veq _, Mono.veq _, Mono.veq _, Mono.veq _, Mono.veq _, Mono.veq _, Mono.veq _, Mono.veq _, Mono.veq _, Mono.veq _, Mono.veq _, Mono.veq _, trivial⟩
              case tail =>
                intro f w' hR hH
                simp only [view, List.zipIdx, List.foldl, Act.put, List.setIfInBounds_toArray, List.set_cons_zero, List.set_cons_succ, List.drop_succ_cons, List.drop_zero]
                obtain ⟨-, -, -, -, -, -, -, -, -, -, -, -, -, -, -, -, -, -, -, -, -, -, -, -, -, -, -, q27, -⟩ := hH
                rw [show f 27 = _ from q27]
                clear q27
                generalize f 0 = x0
                generalize f 1 = x1
                generalize f 2 = x2
                generalize f 3 = x3
                generalize f 4 = x4
                generalize f 5 = x5
                generalize f 6 = x6
                generalize f 7 = x7
                generalize f 8 = x8
                generalize f 9 = x9
                generalize f 10 = x10
                generalize f 11 = x11
                generalize f 12 = x12
                generalize f 13 = x13
                generalize f 14 = x14
                generalize f 15 = x15
                generalize f 16 = x16
                generalize f 17 = x17
                generalize f 18 = x18
                generalize f 19 = x19
                generalize f 20 = x20
                generalize f 21 = x21
                generalize f 22 = x22
                generalize f 23 = x23
                generalize f 24 = x24
                generalize f 25 = x25
                generalize f 26 = x26
                have HR3 := Lib.hid (HR2.out.grow hR)
                clear hR HR2
                go_wp2_with fail
                go_roundw
                case rel => exact ⟨k + 1, L1, e1, by omega, by go_num, HR3.out⟩
                case measure => simp [intOf] <;> omega
          · skip
            by_cases h1 : x.k = 1
            · have t0 : ((x.k : Int) == 0) = false := beq_false_of_ne (by omega)
              have t1 : ((x.k : Int) == 1) = true := beq_iff_eq.2 (by omega)
              obtain ⟨v1, L1, e1, hst⟩ : ∃ a b c, rbyte L e (x.most % 256) = (a, b, c) := ⟨_, _, _, rfl⟩
              have HST := Lib.hid hst
              clear hst h0 h1
              go_wp2_with fail
              apply (fun (v0 v1 v2 v3 v4 v5 v6 v7 v8 v9 v10 v11 v12 v13 v14 v15 v16 v17 : Value) mono draw obl tail => wp_region_piv (I := Ph w g gx L e L1 e1) (G := Grow) (Rp := (fun _ _ => True)) (Φ := phi2 [veq2 v0, veq2 v1, veq2 v2, veq2 v3, veq2 v4, veq2 v5, veq2 v6, veq2 v7, veq2 v8, veq2 v9, veq2 v10, veq2 v11, veq2 v12, veq2 v13, veq2 v14, veq2 v15, veq2 v16, veq2 v17]) (m := 18) (ps := [7, 15]) (qs := [(0, 0, false), (0, 0, false), (0, 0, false), (0, 0, false), (0, 0, false), (0, 0, false), (0, 0, false), (0, 0, true), (0, 1, false), (0, 1, false), (0, 1, false), (0, 1, false), (0, 1, false), (0, 1, false), (0, 1, false), (1, 1, true), (2, 2, false), (2, 2, false)]) (dls := [[], [], [], [(69, 1), (70, 2)], [(71, 3)], [(72, 4)], [(73, 5)], [(68, 0), (74, 6)], [], [], [], [(77, 9), (78, 10)], [(79, 11)], [(80, 12)], [(81, 13)], [(76, 8), (82, 14)], [(75, 7), (83, 15)], [(84, 16)]]) (ds := [68, 69, 70, 71, 72, 73, 74, 75, 76, 77, 78, 79, 80, 81, 82, 83, 84, 8]) (by kernel_rfl) (by kernel_rfl) (by kernel_rfl) (by decide) rfl rfl draw (mono2_phi mono) (piv2_phi mono) obl tail)
              case obl =>
                refine obls2_cons (fun b hb1 hb2 f w' hI hH Q hQ => ?_) ?_
                · skip
                  obtain rfl : b = 0 := by omega
                  clear hb1 hb2
                  simp only [view, List.foldl]
                  repeat (first | go_guarded | go_step)
                  exact hQ _ _ hI (Grow.refl _) rfl rfl
                refine obls2_cons (fun b hb1 hb2 f w' hI hH Q hQ => ?_) ?_
                · skip
                  obtain rfl : b = 0 := by omega
                  clear hb1 hb2
                  simp only [view, List.foldl]
                  repeat (first | go_guarded | go_step)
                  exact hQ _ _ hI (Grow.refl _) rfl rfl
                refine obls2_cons (fun b hb1 hb2 f w' hI hH Q hQ => ?_) ?_
                · skip
                  obtain rfl : b = 0 := by omega
                  clear hb1 hb2
                  simp only [view, List.foldl]
                  repeat (first | go_guarded | go_step)
                  exact hQ _ _ hI (Grow.refl _) rfl rfl
                refine obls2_cons (fun b hb1 hb2 f w' hI hH Q hQ => ?_) ?_
                · skip
                  obtain rfl : b = 0 := by omega
                  clear hb1 hb2
                  obtain ⟨h1, h2, -⟩ := hH
                  simp only [view, List.foldl, Act.put, List.setIfInBounds_toArray, List.set_cons_zero, List.set_cons_succ]
                  rw [show f 1 = _ from h1]
                  rw [show f 2 = _ from h2]
                  clear h1 h2
                  repeat (first | go_guarded | go_step)
                  exact hQ _ _ hI (Grow.refl _) rfl rfl
                refine obls2_cons (fun b hb1 hb2 f w' hI hH Q hQ => ?_) ?_
                · skip
                  obtain rfl : b = 0 := by omega
                  clear hb1 hb2
                  obtain ⟨h3, -⟩ := hH
                  simp only [view, List.foldl, Act.put, List.setIfInBounds_toArray, List.set_cons_zero, List.set_cons_succ]
                  rw [show f 3 = _ from h3]
                  clear h3
                  repeat (first | go_guarded | go_step)
                  exact hQ _ _ hI (Grow.refl _) rfl rfl
                refine obls2_cons (fun b hb1 hb2 f w' hI hH Q hQ => ?_) ?_
                · skip
                  obtain rfl : b = 0 := by omega
                  clear hb1 hb2
                  obtain ⟨h4, -⟩ := hH
                  simp only [view, List.foldl, Act.put, List.setIfInBounds_toArray, List.set_cons_zero, List.set_cons_succ]
                  rw [show f 4 = _ from h4]
                  clear h4
                  have c1 := hI.1.cell D1.out
                  repeat (first | go_guarded | go_step)
                  exact hQ _ _ hI (Grow.refl _) rfl rfl
                refine obls2_cons (fun b hb1 hb2 f w' hI hH Q hQ => ?_) ?_
                · skip
                  obtain rfl : b = 0 := by omega
                  clear hb1 hb2
                  obtain ⟨h5, -⟩ := hH
                  simp only [view, List.foldl, Act.put, List.setIfInBounds_toArray, List.set_cons_zero, List.set_cons_succ]
                  rw [show f 5 = _ from h5]
                  clear h5
                  repeat (first | go_guarded | go_step)
                  exact hQ _ _ hI (Grow.refl _) rfl rfl
                refine oblsP_cons (fun f w' hI hH Q hQ => ?_) ?_
                · skip
                  obtain ⟨h0, h6, -⟩ := hH
                  simp only [view, List.foldl, Act.put, List.setIfInBounds_toArray, List.set_cons_zero, List.set_cons_succ]
                  rw [show f 0 = _ from h0]
                  rw [show f 6 = _ from h6]
                  clear h0 h6
                  have hnum := byte_any w' _ _ g L e (hI.2.1 rfl).r (x.most % 256)
                  rw [HST.out] at hnum
                  rw [show (((x.most % 256 : Nat)) : Int) = (x.most : Int) % 256 by omega] at hnum
                  have HNUM := Lib.hid hnum
                  have HI := Lib.hid hI
                  clear hnum hI
                  go_wp2_with (go_at_call 30; refine HNUM.out.mono ?_; rintro e w4 ⟨rfl, hr4, hk4⟩)
                  exact hQ _ _ ⟨hk4.grow HI.out.1 rfl, fun h => absurd h (by decide), fun _ => ⟨hr4, (HI.out.2.1 rfl).x.keep hk4 rfl, hk4.grow HI.out.1 rfl⟩, fun h => absurd h (by decide)⟩ trivial rfl rfl
                refine obls2_cons (fun b hb1 hb2 f w' hI hH Q hQ => ?_) ?_
                · skip
                  simp only [view, List.foldl]
                  repeat (first | go_guarded | go_step)
                  exact hQ _ _ hI (Grow.refl _) rfl rfl
                refine obls2_cons (fun b hb1 hb2 f w' hI hH Q hQ => ?_) ?_
                · skip
                  simp only [view, List.foldl]
                  repeat (first | go_guarded | go_step)
                  exact hQ _ _ hI (Grow.refl _) rfl rfl
                refine obls2_cons (fun b hb1 hb2 f w' hI hH Q hQ => ?_) ?_
                · skip
                  simp only [view, List.foldl]
                  repeat (first | go_guarded | go_step)
                  exact hQ _ _ hI (Grow.refl _) rfl rfl
                refine obls2_cons (fun b hb1 hb2 f w' hI hH Q hQ => ?_) ?_
                · skip
                  obtain ⟨h9, h10, -⟩ := hH
                  simp only [view, List.foldl, Act.put, List.setIfInBounds_toArray, List.set_cons_zero, List.set_cons_succ]
                  rw [show f 9 = _ from h9]
                  rw [show f 10 = _ from h10]
                  clear h9 h10
                  repeat (first | go_guarded | go_step)
                  exact hQ _ _ hI (Grow.refl _) rfl rfl
                refine obls2_cons (fun b hb1 hb2 f w' hI hH Q hQ => ?_) ?_
                · skip
                  obtain ⟨h11, -⟩ := hH
                  simp only [view, List.foldl, Act.put, List.setIfInBounds_toArray, List.set_cons_zero, List.set_cons_succ]
                  rw [show f 11 = _ from h11]
                  clear h11
                  repeat (first | go_guarded | go_step)
                  exact hQ _ _ hI (Grow.refl _) rfl rfl
                refine obls2_cons (fun b hb1 hb2 f w' hI hH Q hQ => ?_) ?_
                · skip
                  obtain ⟨h12, -⟩ := hH
                  simp only [view, List.foldl, Act.put, List.setIfInBounds_toArray, List.set_cons_zero, List.set_cons_succ]
                  rw [show f 12 = _ from h12]
                  clear h12
                  have c1 := hI.1.cell D1.out
                  repeat (first | go_guarded | go_step)
                  exact hQ _ _ hI (Grow.refl _) rfl rfl
                refine obls2_cons (fun b hb1 hb2 f w' hI hH Q hQ => ?_) ?_
                · skip
                  obtain ⟨h13, -⟩ := hH
                  simp only [view, List.foldl, Act.put, List.setIfInBounds_toArray, List.set_cons_zero, List.set_cons_succ]
                  rw [show f 13 = _ from h13]
                  clear h13
                  repeat (first | go_guarded | go_step)
                  exact hQ _ _ hI (Grow.refl _) rfl rfl
                refine oblsP_cons (fun f w' hI hH Q hQ => ?_) ?_
                · skip
                  obtain ⟨h8, h14, -⟩ := hH
                  simp only [view, List.foldl, Act.put, List.setIfInBounds_toArray, List.set_cons_zero, List.set_cons_succ]
                  rw [show f 8 = _ from h8]
                  rw [show f 14 = _ from h14]
                  clear h8 h14
                  have hnum := ref_byte_any w' _ _ gx L e (hI.2.2.1 rfl).x (x.most % 256)
                  rw [HST.out] at hnum
                  rw [show (((x.most % 256 : Nat)) : Int) = (x.most : Int) % 256 by omega] at hnum
                  have HNUM := Lib.hid hnum
                  have HI := Lib.hid hI
                  clear hnum hI
                  go_wp2_with (go_at_call 31; refine HNUM.out.mono ?_; rintro e w4 ⟨rfl, hr4, hk4⟩)
                  exact hQ _ _ ⟨hk4.grow HI.out.1 rfl, fun h => absurd h (by decide), fun h => absurd h (by decide), fun _ => ⟨(HI.out.2.2.1 rfl).r.keep hk4 rfl, hr4, hk4.grow HI.out.1 rfl⟩⟩ trivial rfl rfl
                refine obls2_cons (fun b hb1 hb2 f w' hI hH Q hQ => ?_) ?_
                · skip
                  obtain rfl : b = 2 := by omega
                  clear hb1 hb2
                  obtain ⟨h7, h15, -⟩ := hH
                  simp only [view, List.foldl, Act.put, List.setIfInBounds_toArray, List.set_cons_zero, List.set_cons_succ]
                  rw [show f 7 = _ from h7]
                  rw [show f 15 = _ from h15]
                  clear h7 h15
                  repeat (first | go_guarded | go_step)
                  exact hQ _ _ hI (Grow.refl _) rfl rfl
                refine obls2_cons (fun b hb1 hb2 f w' hI hH Q hQ => ?_) ?_
                · skip
                  obtain rfl : b = 2 := by omega
                  clear hb1 hb2
                  obtain ⟨h16, -⟩ := hH
                  simp only [view, List.foldl, Act.put, List.setIfInBounds_toArray, List.set_cons_zero, List.set_cons_succ]
                  rw [show f 16 = _ from h16]
                  clear h16
                  repeat (first | go_guarded | go_step)
                  exact hQ _ _ hI (Grow.refl _) rfl rfl
                exact obls2_nil
              case draw =>
                exact ⟨HRX.out.g.trans (Grow.drew _), fun _ => HRX.out.grow (Grow.drew _), fun h => absurd h (by decide), fun h => absurd h (by decide)⟩
              case mono => exact ⟨Mono2.veq _, Mono2.veq _, Mono2.veq _, Mono2.veq _, Mono2.veq _, Mono2.veq _, Mono2.veq _, Mono2.veq _, Mono2.veq _, Mono2.veq _, Mono2.veq _, Mono2.veq _, Mono2.veq _, Mono2.veq _, Mono2.veq _, Mono2.veq _, Mono2.veq _, Mono2.veq _, trivial⟩
              case tail =>
                intro f w' hI hH
                simp only [view, List.zipIdx, List.foldl, Act.put, List.setIfInBounds_toArray, List.set_cons_zero, List.set_cons_succ, List.drop_succ_cons, List.drop_nil]
                obtain ⟨-, -, -, -, -, -, -, -, -, -, -, -, -, -, -, -, -, q17, -⟩ := hH
                rw [show f 17 = _ from q17]
                clear q17
                generalize f 0 = x0
                generalize f 1 = x1
                generalize f 2 = x2
                generalize f 3 = x3
                generalize f 4 = x4
                generalize f 5 = x5
                generalize f 6 = x6
                generalize f 7 = x7
                generalize f 8 = x8
                generalize f 9 = x9
                generalize f 10 = x10
                generalize f 11 = x11
                generalize f 12 = x12
                generalize f 13 = x13
                generalize f 14 = x14
                generalize f 15 = x15
                generalize f 16 = x16
                have HR2 := Lib.hid (hI.2.2.2 rfl)
                clear hI HRX
                obtain ⟨A', n', c', hx1, hx2, hx3, hx4, hx5⟩ := HR2.out.x
                have hxl := hx4.len
                subst hxl
                have cx0 := hx1.cell (i := 0) rfl
                have cx1 := hx1.cell (i := 1) rfl
                have CX0 := Lib.hid cx0
                have CX1 := Lib.hid cx1
                clear hx1 hx2 hx3 hx4 hx5 cx0 cx1
                go_wp2_with fail
                apply (fun (v0 v1 v2 v3 v4 v5 v6 v7 v8 v9 v10 v11 v12 v13 v14 v15 v16 v17 v18 v19 v20 v21 v22 v23 v24 v25 v26 v27 : Value) mono obl tail => wp_region_par (R := Grow) (Φ := phi [veq v0, veq v1, veq v2, veq v3, veq v4, veq v5, veq v6, veq v7, veq v8, veq v9, veq v10, veq v11, veq v12, veq v13, veq v14, veq v15, veq v16, veq v17, veq v18, veq v19, veq v20, veq v21, veq v22, veq v23, veq v24, veq v25, veq v26, veq v27]) (m := 28) (dls := [[], [(85, 0)], [(86, 1)], [(87, 2)], [(88, 3), (87, 2)], [(87, 2)], [(90, 5), (87, 2)], [(91, 6), (87, 2)], [(92, 7), (87, 2)], [(93, 8), (87, 2)], [(89, 4), (94, 9), (87, 2)], [(87, 2), (95, 10)], [(96, 11)], [(97, 12)], [(98, 13), (97, 12)], [(97, 12)], [(100, 15), (97, 12)], [(101, 16), (97, 12)], [(102, 17), (97, 12)], [(99, 14), (103, 18), (97, 12)], [(97, 12), (104, 19)], [(105, 20)], [(106, 21)], [(107, 22), (106, 21)], [(106, 21)], [(109, 24), (106, 21)], [(108, 23), (110, 25), (106, 21)], [(106, 21), (111, 26)]]) (ds := [85, 86, 87, 88, 89, 90, 91, 92, 93, 94, 95, 96, 97, 98, 99, 100, 101, 102, 103, 104, 105, 106, 107, 108, 109, 110, 111, 112]) (by kernel_rfl) (by kernel_rfl) (by decide) rfl (Grow.drew _) (fun _ _ _ => Grow.trans) (mono_phi mono) obl tail)
                case obl =>
                  refine obls_cons (fun f w' hR hH Q hQ => ?_) ?_
                  · skip
                    simp only [view, List.foldl]
                    repeat (first | go_guarded | go_step)
                    exact hQ _ _ (Grow.refl _) rfl rfl
                  refine obls_cons (fun f w' hR hH Q hQ => ?_) ?_
                  · skip
                    obtain ⟨h0, -⟩ := hH
                    simp only [view, List.foldl, Act.put, List.setIfInBounds_toArray, List.set_cons_zero, List.set_cons_succ]
                    rw [show f 0 = _ from h0]
                    clear h0
                    repeat (first | go_guarded | go_step)
                    exact hQ _ _ (Grow.refl _) rfl rfl
                  refine obls_cons (fun f w' hR hH Q hQ => ?_) ?_
                  · skip
                    obtain ⟨h1, -⟩ := hH
                    simp only [view, List.foldl, Act.put, List.setIfInBounds_toArray, List.set_cons_zero, List.set_cons_succ]
                    rw [show f 1 = _ from h1]
                    clear h1
                    repeat (first | go_guarded | go_step)
                    exact hQ _ _ (Grow.refl _) rfl rfl
                  refine obls_cons (fun f w' hR hH Q hQ => ?_) ?_
                  · skip
                    obtain ⟨h2, -⟩ := hH
                    simp only [view, List.foldl, Act.put, List.setIfInBounds_toArray, List.set_cons_zero, List.set_cons_succ]
                    rw [show f 2 = _ from h2]
                    clear h2
                    repeat (first | go_guarded | go_step)
                    exact hQ _ _ (Grow.refl _) rfl rfl
                  refine obls_cons (fun f w' hR hH Q hQ => ?_) ?_
                  · skip
                    obtain ⟨h3, h2, -⟩ := hH
                    simp only [view, List.foldl, Act.put, List.setIfInBounds_toArray, List.set_cons_zero, List.set_cons_succ]
                    rw [show f 3 = _ from h3]
                    rw [show f 2 = _ from h2]
                    clear h3 h2
                    go_wp2_with (go_at_call 34; refine (left_any w' _ _ g L1 e1 (HR2.out.r.grow hR)).mono ?_; rintro e w1 ⟨rfl, rfl⟩)
                    exact hQ _ _ (Grow.refl _) rfl rfl
                  refine obls_cons (fun f w' hR hH Q hQ => ?_) ?_
                  · skip
                    obtain ⟨h2, -⟩ := hH
                    simp only [view, List.foldl, Act.put, List.setIfInBounds_toArray, List.set_cons_zero, List.set_cons_succ]
                    rw [show f 2 = _ from h2]
                    clear h2
                    repeat (first | go_guarded | go_step)
                    exact hQ _ _ (Grow.refl _) rfl rfl
                  refine obls_cons (fun f w' hR hH Q hQ => ?_) ?_
                  · skip
                    obtain ⟨h5, h2, -⟩ := hH
                    simp only [view, List.foldl, Act.put, List.setIfInBounds_toArray, List.set_cons_zero, List.set_cons_succ]
                    rw [show f 5 = _ from h5]
                    rw [show f 2 = _ from h2]
                    clear h5 h2
                    repeat (first | go_guarded | go_step)
                    exact hQ _ _ (Grow.refl _) rfl rfl
                  refine obls_cons (fun f w' hR hH Q hQ => ?_) ?_
                  · skip
                    obtain ⟨h6, h2, -⟩ := hH
                    simp only [view, List.foldl, Act.put, List.setIfInBounds_toArray, List.set_cons_zero, List.set_cons_succ]
                    rw [show f 6 = _ from h6]
                    rw [show f 2 = _ from h2]
                    clear h6 h2
                    repeat (first | go_guarded | go_step)
                    exact hQ _ _ (Grow.refl _) rfl rfl
                  refine obls_cons (fun f w' hR hH Q hQ => ?_) ?_
                  · skip
                    obtain ⟨h7, h2, -⟩ := hH
                    simp only [view, List.foldl, Act.put, List.setIfInBounds_toArray, List.set_cons_zero, List.set_cons_succ]
                    rw [show f 7 = _ from h7]
                    rw [show f 2 = _ from h2]
                    clear h7 h2
                    have c0 := hR.cell CX0.out
                    repeat (first | go_guarded | go_step)
                    exact hQ _ _ (Grow.refl _) rfl rfl
                  refine obls_cons (fun f w' hR hH Q hQ => ?_) ?_
                  · skip
                    obtain ⟨h8, h2, -⟩ := hH
                    simp only [view, List.foldl, Act.put, List.setIfInBounds_toArray, List.set_cons_zero, List.set_cons_succ]
                    rw [show f 8 = _ from h8]
                    rw [show f 2 = _ from h2]
                    clear h8 h2
                    repeat (first | go_guarded | go_step)
                    exact hQ _ _ (Grow.refl _) rfl rfl
                  refine obls_cons (fun f w' hR hH Q hQ => ?_) ?_
                  · skip
                    obtain ⟨h4, h9, h2, -⟩ := hH
                    simp only [view, List.foldl, Act.put, List.setIfInBounds_toArray, List.set_cons_zero, List.set_cons_succ]
                    rw [show f 4 = _ from h4]
                    rw [show f 9 = _ from h9]
                    rw [show f 2 = _ from h2]
                    clear h4 h9 h2
                    repeat (first | go_guarded | go_step)
                    exact hQ _ _ (Grow.refl _) rfl rfl
                  refine obls_cons (fun f w' hR hH Q hQ => ?_) ?_
                  · skip
                    obtain ⟨h2, h10, -⟩ := hH
                    simp only [view, List.foldl, Act.put, List.setIfInBounds_toArray, List.set_cons_zero, List.set_cons_succ]
                    rw [show f 2 = _ from h2]
                    rw [show f 10 = _ from h10]
                    clear h2 h10
                    repeat (first | go_guarded | go_step)
                    exact hQ _ _ (Grow.refl _) rfl rfl
                  refine obls_cons (fun f w' hR hH Q hQ => ?_) ?_
                  · skip
                    obtain ⟨h11, -⟩ := hH
                    simp only [view, List.foldl, Act.put, List.setIfInBounds_toArray, List.set_cons_zero, List.set_cons_succ]
                    rw [show f 11 = _ from h11]
                    clear h11
                    repeat (first | go_guarded | go_step)
                    exact hQ _ _ (Grow.refl _) rfl rfl
                  refine obls_cons (fun f w' hR hH Q hQ => ?_) ?_
                  · skip
                    obtain ⟨h12, -⟩ := hH
                    simp only [view, List.foldl, Act.put, List.setIfInBounds_toArray, List.set_cons_zero, List.set_cons_succ]
                    rw [show f 12 = _ from h12]
                    clear h12
                    repeat (first | go_guarded | go_step)
                    exact hQ _ _ (Grow.refl _) rfl rfl
                  refine obls_cons (fun f w' hR hH Q hQ => ?_) ?_
                  · skip
                    obtain ⟨h13, h12, -⟩ := hH
                    simp only [view, List.foldl, Act.put, List.setIfInBounds_toArray, List.set_cons_zero, List.set_cons_succ]
                    rw [show f 13 = _ from h13]
                    rw [show f 12 = _ from h12]
                    clear h13 h12
                    go_wp2_with (go_at_call 35; refine (err_any w' _ _ g L1 e1 (HR2.out.r.grow hR)).mono ?_; rintro e w1 ⟨rfl, rfl⟩)
                    exact hQ _ _ (Grow.refl _) rfl rfl
                  refine obls_cons (fun f w' hR hH Q hQ => ?_) ?_
                  · skip
                    obtain ⟨h12, -⟩ := hH
                    simp only [view, List.foldl, Act.put, List.setIfInBounds_toArray, List.set_cons_zero, List.set_cons_succ]
                    rw [show f 12 = _ from h12]
                    clear h12
                    repeat (first | go_guarded | go_step)
                    exact hQ _ _ (Grow.refl _) rfl rfl
                  refine obls_cons (fun f w' hR hH Q hQ => ?_) ?_
                  · skip
                    obtain ⟨h15, h12, -⟩ := hH
                    simp only [view, List.foldl, Act.put, List.setIfInBounds_toArray, List.set_cons_zero, List.set_cons_succ]
                    rw [show f 15 = _ from h15]
                    rw [show f 12 = _ from h12]
                    clear h15 h12
                    repeat (first | go_guarded | go_step)
                    exact hQ _ _ (Grow.refl _) rfl rfl
                  refine obls_cons (fun f w' hR hH Q hQ => ?_) ?_
                  · skip
                    obtain ⟨h16, h12, -⟩ := hH
                    simp only [view, List.foldl, Act.put, List.setIfInBounds_toArray, List.set_cons_zero, List.set_cons_succ]
                    rw [show f 16 = _ from h16]
                    rw [show f 12 = _ from h12]
                    clear h16 h12
                    repeat (first | go_guarded | go_step)
                    exact hQ _ _ (Grow.refl _) rfl rfl
                  refine obls_cons (fun f w' hR hH Q hQ => ?_) ?_
                  · skip
                    obtain ⟨h17, h12, -⟩ := hH
                    simp only [view, List.foldl, Act.put, List.setIfInBounds_toArray, List.set_cons_zero, List.set_cons_succ]
                    rw [show f 17 = _ from h17]
                    rw [show f 12 = _ from h12]
                    clear h17 h12
                    have c1 := hR.cell CX1.out
                    repeat (first | go_guarded | go_step)
                    exact hQ _ _ (Grow.refl _) rfl rfl
                  refine obls_cons (fun f w' hR hH Q hQ => ?_) ?_
                  · skip
                    obtain ⟨h14, h18, h12, -⟩ := hH
                    simp only [view, List.foldl, Act.put, List.setIfInBounds_toArray, List.set_cons_zero, List.set_cons_succ]
                    rw [show f 14 = _ from h14]
                    rw [show f 18 = _ from h18]
                    rw [show f 12 = _ from h12]
                    clear h14 h18 h12
                    repeat (first | go_guarded | go_step)
                    exact hQ _ _ (Grow.refl _) rfl rfl
                  refine obls_cons (fun f w' hR hH Q hQ => ?_) ?_
                  · skip
                    obtain ⟨h12, h19, -⟩ := hH
                    simp only [view, List.foldl, Act.put, List.setIfInBounds_toArray, List.set_cons_zero, List.set_cons_succ]
                    rw [show f 12 = _ from h12]
                    rw [show f 19 = _ from h19]
                    clear h12 h19
                    repeat (first | go_guarded | go_step)
                    exact hQ _ _ (Grow.refl _) rfl rfl
                  refine obls_cons (fun f w' hR hH Q hQ => ?_) ?_
                  · skip
                    obtain ⟨h20, -⟩ := hH
                    simp only [view, List.foldl, Act.put, List.setIfInBounds_toArray, List.set_cons_zero, List.set_cons_succ]
                    rw [show f 20 = _ from h20]
                    clear h20
                    repeat (first | go_guarded | go_step)
                    exact hQ _ _ (Grow.refl _) rfl rfl
                  refine obls_cons (fun f w' hR hH Q hQ => ?_) ?_
                  · skip
                    obtain ⟨h21, -⟩ := hH
                    simp only [view, List.foldl, Act.put, List.setIfInBounds_toArray, List.set_cons_zero, List.set_cons_succ]
                    rw [show f 21 = _ from h21]
                    clear h21
                    repeat (first | go_guarded | go_step)
                    exact hQ _ _ (Grow.refl _) rfl rfl
                  refine obls_cons (fun f w' hR hH Q hQ => ?_) ?_
                  · skip
                    obtain ⟨h22, h21, -⟩ := hH
                    simp only [view, List.foldl, Act.put, List.setIfInBounds_toArray, List.set_cons_zero, List.set_cons_succ]
                    rw [show f 22 = _ from h22]
                    rw [show f 21 = _ from h21]
                    clear h22 h21
                    go_wp2_with (go_at_call 36; refine (end_any w' _ _ g L1 e1 (HR2.out.r.grow hR)).mono ?_; rintro e w1 ⟨rfl, rfl⟩)
                    exact hQ _ _ (Grow.refl _) rfl rfl
                  refine obls_cons (fun f w' hR hH Q hQ => ?_) ?_
                  · skip
                    obtain ⟨h21, -⟩ := hH
                    simp only [view, List.foldl, Act.put, List.setIfInBounds_toArray, List.set_cons_zero, List.set_cons_succ]
                    rw [show f 21 = _ from h21]
                    clear h21
                    repeat (first | go_guarded | go_step)
                    exact hQ _ _ (Grow.refl _) rfl rfl
                  refine obls_cons (fun f w' hR hH Q hQ => ?_) ?_
                  · skip
                    obtain ⟨h24, h21, -⟩ := hH
                    simp only [view, List.foldl, Act.put, List.setIfInBounds_toArray, List.set_cons_zero, List.set_cons_succ]
                    rw [show f 24 = _ from h24]
                    rw [show f 21 = _ from h21]
                    clear h24 h21
                    go_wp2_with (go_at_call 37; refine (ref_end_any w' _ _ gx L1 e1 (HR2.out.x.grow hR)).mono ?_; rintro e w1 ⟨rfl, rfl⟩)
                    exact hQ _ _ (Grow.refl _) rfl rfl
                  refine obls_cons (fun f w' hR hH Q hQ => ?_) ?_
                  · skip
                    obtain ⟨h23, h25, h21, -⟩ := hH
                    simp only [view, List.foldl, Act.put, List.setIfInBounds_toArray, List.set_cons_zero, List.set_cons_succ]
                    rw [show f 23 = _ from h23]
                    rw [show f 25 = _ from h25]
                    rw [show f 21 = _ from h21]
                    clear h23 h25 h21
                    repeat (first | go_guarded | go_step)
                    exact hQ _ _ (Grow.refl _) rfl rfl
                  refine obls_cons (fun f w' hR hH Q hQ => ?_) ?_
                  · skip
                    obtain ⟨h21, h26, -⟩ := hH
                    simp only [view, List.foldl, Act.put, List.setIfInBounds_toArray, List.set_cons_zero, List.set_cons_succ]
                    rw [show f 21 = _ from h21]
                    rw [show f 26 = _ from h26]
                    clear h21 h26
                    repeat (first | go_guarded | go_step)
                    exact hQ _ _ (Grow.refl _) rfl rfl
                  exact obls_nil
                case mono => exact ⟨Mono.veq _, Mono.veq _, Mono.veq _, Mono.veq _, Mono.veq _, Mono.veq _, Mono.veq _, Mono.veq _, Mono.veq _, Mono.veq _, Mono.veq _, Mono.veq _, Mono.veq _, Mono.veq _, Mono.veq _, Mono.veq _, Mono.veq _, Mono.veq _, Mono.veq _, Mono.veq _, Mono.veq _, Mono.veq _, Mono.veq _, Mono.veq _, Mono.veq _, Mono.veq _, Mono.veq _, Mono.veq _, trivial⟩
                case tail =>
                  intro f w' hR hH
                  simp only [view, List.zipIdx, List.foldl, Act.put, List.setIfInBounds_toArray, List.set_cons_zero, List.set_cons_succ, List.drop_succ_cons, List.drop_zero]
                  obtain ⟨-, -, -, -, -, -, -, -, -, -, -, -, -, -, -, -, -, -, -, -, -, -, -, -, -, -, -, q27, -⟩ := hH
                  rw [show f 27 = _ from q27]
                  clear q27
                  generalize f 0 = x0
                  generalize f 1 = x1
                  generalize f 2 = x2
                  generalize f 3 = x3
                  generalize f 4 = x4
                  generalize f 5 = x5
                  generalize f 6 = x6
                  generalize f 7 = x7
                  generalize f 8 = x8
                  generalize f 9 = x9
                  generalize f 10 = x10
                  generalize f 11 = x11
                  generalize f 12 = x12
                  generalize f 13 = x13
                  generalize f 14 = x14
                  generalize f 15 = x15
                  generalize f 16 = x16
                  generalize f 17 = x17
                  generalize f 18 = x18
                  generalize f 19 = x19
                  generalize f 20 = x20
                  generalize f 21 = x21
                  generalize f 22 = x22
                  generalize f 23 = x23
                  generalize f 24 = x24
                  generalize f 25 = x25
                  generalize f 26 = x26
                  have HR3 := Lib.hid (HR2.out.grow hR)
                  clear hR HR2
                  go_wp2_with fail
                  go_roundw
                  case rel => exact ⟨k + 1, L1, e1, by omega, by go_num, HR3.out⟩
                  case measure => simp [intOf] <;> omega
            · skip
              have t0 : ((x.k : Int) == 0) = false := beq_false_of_ne (by omega)
              have t1 : ((x.k : Int) == 1) = false := beq_false_of_ne (by omega)
              obtain ⟨v1, L1, e1, hst⟩ : ∃ a b c, rtext L e x.n = (a, b, c) := ⟨_, _, _, rfl⟩
              have HST := Lib.hid hst
              clear hst h0 h1
              go_wp2_with fail
              apply (fun (v0 v1 v2 v3 v4 v5 v6 v7 v8 v9 v10 v11 v12 v13 v14 v15 : Value) mono draw obl tail => wp_region_piv (I := Ph w g gx L e L1 e1) (G := Grow) (Rp := (fun _ _ => True)) (Φ := phi2 [veq2 v0, veq2 v1, veq2 v2, veq2 v3, veq2 v4, veq2 v5, veq2 v6, veq2 v7, veq2 v8, veq2 v9, veq2 v10, veq2 v11, veq2 v12, veq2 v13, veq2 v14, veq2 v15]) (m := 16) (ps := [6, 13]) (qs := [(0, 0, false), (0, 0, false), (0, 0, false), (0, 0, false), (0, 0, false), (0, 0, false), (0, 0, true), (0, 1, false), (0, 1, false), (0, 1, false), (0, 1, false), (0, 1, false), (0, 1, false), (1, 1, true), (2, 2, false), (2, 2, false)]) (dls := [[], [], [], [(35, 1), (36, 2)], [(37, 3)], [(38, 4)], [(34, 0), (39, 5)], [], [], [], [(42, 8), (43, 9)], [(44, 10)], [(45, 11)], [(41, 7), (46, 12)], [(40, 6), (47, 13)], [(48, 14)]]) (ds := [34, 35, 36, 37, 38, 39, 40, 41, 42, 43, 44, 45, 46, 47, 48, 8]) (by kernel_rfl) (by kernel_rfl) (by kernel_rfl) (by decide) rfl rfl draw (mono2_phi mono) (piv2_phi mono) obl tail)
              case obl =>
                refine obls2_cons (fun b hb1 hb2 f w' hI hH Q hQ => ?_) ?_
                · skip
                  obtain rfl : b = 0 := by omega
                  clear hb1 hb2
                  simp only [view, List.foldl]
                  repeat (first | go_guarded | go_step)
                  exact hQ _ _ hI (Grow.refl _) rfl rfl
                refine obls2_cons (fun b hb1 hb2 f w' hI hH Q hQ => ?_) ?_
                · skip
                  obtain rfl : b = 0 := by omega
                  clear hb1 hb2
                  simp only [view, List.foldl]
                  repeat (first | go_guarded | go_step)
                  exact hQ _ _ hI (Grow.refl _) rfl rfl
                refine obls2_cons (fun b hb1 hb2 f w' hI hH Q hQ => ?_) ?_
                · skip
                  obtain rfl : b = 0 := by omega
                  clear hb1 hb2
                  simp only [view, List.foldl]
                  repeat (first | go_guarded | go_step)
                  exact hQ _ _ hI (Grow.refl _) rfl rfl
                refine obls2_cons (fun b hb1 hb2 f w' hI hH Q hQ => ?_) ?_
                · skip
                  obtain rfl : b = 0 := by omega
                  clear hb1 hb2
                  obtain ⟨h1, h2, -⟩ := hH
                  simp only [view, List.foldl, Act.put, List.setIfInBounds_toArray, List.set_cons_zero, List.set_cons_succ]
                  rw [show f 1 = _ from h1]
                  rw [show f 2 = _ from h2]
                  clear h1 h2
                  repeat (first | go_guarded | go_step)
                  exact hQ _ _ hI (Grow.refl _) rfl rfl
                refine obls2_cons (fun b hb1 hb2 f w' hI hH Q hQ => ?_) ?_
                · skip
                  obtain rfl : b = 0 := by omega
                  clear hb1 hb2
                  obtain ⟨h3, -⟩ := hH
                  simp only [view, List.foldl, Act.put, List.setIfInBounds_toArray, List.set_cons_zero, List.set_cons_succ]
                  rw [show f 3 = _ from h3]
                  clear h3
                  repeat (first | go_guarded | go_step)
                  exact hQ _ _ hI (Grow.refl _) rfl rfl
                refine obls2_cons (fun b hb1 hb2 f w' hI hH Q hQ => ?_) ?_
                · skip
                  obtain rfl : b = 0 := by omega
                  clear hb1 hb2
                  obtain ⟨h4, -⟩ := hH
                  simp only [view, List.foldl, Act.put, List.setIfInBounds_toArray, List.set_cons_zero, List.set_cons_succ]
                  rw [show f 4 = _ from h4]
                  clear h4
                  have c1 := hI.1.cell D2.out
                  repeat (first | go_guarded | go_step)
                  exact hQ _ _ hI (Grow.refl _) rfl rfl
                refine oblsP_cons (fun f w' hI hH Q hQ => ?_) ?_
                · skip
                  obtain ⟨h0, h5, -⟩ := hH
                  simp only [view, List.foldl, Act.put, List.setIfInBounds_toArray, List.set_cons_zero, List.set_cons_succ]
                  rw [show f 0 = _ from h0]
                  rw [show f 5 = _ from h5]
                  clear h0 h5
                  have hnum := text_any w' _ _ g L e (hI.2.1 rfl).r x.n hhi
                  rw [HST.out] at hnum
                  have HNUM := Lib.hid hnum
                  have HI := Lib.hid hI
                  clear hnum hI
                  go_wp2_with (go_at_call 32; refine HNUM.out.mono ?_; rintro e w4 ⟨rfl, hr4, hk4⟩)
                  exact hQ _ _ ⟨hk4.grow HI.out.1 rfl, fun h => absurd h (by decide), fun _ => ⟨hr4, (HI.out.2.1 rfl).x.keep hk4 rfl, hk4.grow HI.out.1 rfl⟩, fun h => absurd h (by decide)⟩ trivial rfl rfl
                refine obls2_cons (fun b hb1 hb2 f w' hI hH Q hQ => ?_) ?_
                · skip
                  simp only [view, List.foldl]
                  repeat (first | go_guarded | go_step)
                  exact hQ _ _ hI (Grow.refl _) rfl rfl
                refine obls2_cons (fun b hb1 hb2 f w' hI hH Q hQ => ?_) ?_
                · skip
                  simp only [view, List.foldl]
                  repeat (first | go_guarded | go_step)
                  exact hQ _ _ hI (Grow.refl _) rfl rfl
                refine obls2_cons (fun b hb1 hb2 f w' hI hH Q hQ => ?_) ?_
                · skip
                  simp only [view, List.foldl]
                  repeat (first | go_guarded | go_step)
                  exact hQ _ _ hI (Grow.refl _) rfl rfl
                refine obls2_cons (fun b hb1 hb2 f w' hI hH Q hQ => ?_) ?_
                · skip
                  obtain ⟨h8, h9, -⟩ := hH
                  simp only [view, List.foldl, Act.put, List.setIfInBounds_toArray, List.set_cons_zero, List.set_cons_succ]
                  rw [show f 8 = _ from h8]
                  rw [show f 9 = _ from h9]
                  clear h8 h9
                  repeat (first | go_guarded | go_step)
                  exact hQ _ _ hI (Grow.refl _) rfl rfl
                refine obls2_cons (fun b hb1 hb2 f w' hI hH Q hQ => ?_) ?_
                · skip
                  obtain ⟨h10, -⟩ := hH
                  simp only [view, List.foldl, Act.put, List.setIfInBounds_toArray, List.set_cons_zero, List.set_cons_succ]
                  rw [show f 10 = _ from h10]
                  clear h10
                  repeat (first | go_guarded | go_step)
                  exact hQ _ _ hI (Grow.refl _) rfl rfl
                refine obls2_cons (fun b hb1 hb2 f w' hI hH Q hQ => ?_) ?_
                · skip
                  obtain ⟨h11, -⟩ := hH
                  simp only [view, List.foldl, Act.put, List.setIfInBounds_toArray, List.set_cons_zero, List.set_cons_succ]
                  rw [show f 11 = _ from h11]
                  clear h11
                  have c1 := hI.1.cell D2.out
                  repeat (first | go_guarded | go_step)
                  exact hQ _ _ hI (Grow.refl _) rfl rfl
                refine oblsP_cons (fun f w' hI hH Q hQ => ?_) ?_
                · skip
                  obtain ⟨h7, h12, -⟩ := hH
                  simp only [view, List.foldl, Act.put, List.setIfInBounds_toArray, List.set_cons_zero, List.set_cons_succ]
                  rw [show f 7 = _ from h7]
                  rw [show f 12 = _ from h12]
                  clear h7 h12
                  have hnum := ref_text_any w' _ _ gx L e (hI.2.2.1 rfl).x x.n hhi
                  rw [HST.out] at hnum
                  have HNUM := Lib.hid hnum
                  have HI := Lib.hid hI
                  clear hnum hI
                  go_wp2_with (go_at_call 33; refine HNUM.out.mono ?_; rintro e w4 ⟨rfl, hr4, hk4⟩)
                  exact hQ _ _ ⟨hk4.grow HI.out.1 rfl, fun h => absurd h (by decide), fun h => absurd h (by decide), fun _ => ⟨(HI.out.2.2.1 rfl).r.keep hk4 rfl, hr4, hk4.grow HI.out.1 rfl⟩⟩ trivial rfl rfl
                refine obls2_cons (fun b hb1 hb2 f w' hI hH Q hQ => ?_) ?_
                · skip
                  obtain rfl : b = 2 := by omega
                  clear hb1 hb2
                  obtain ⟨h6, h13, -⟩ := hH
                  simp only [view, List.foldl, Act.put, List.setIfInBounds_toArray, List.set_cons_zero, List.set_cons_succ]
                  rw [show f 6 = _ from h6]
                  rw [show f 13 = _ from h13]
                  clear h6 h13
                  repeat (first | go_guarded | go_step)
                  exact hQ _ _ hI (Grow.refl _) rfl rfl
                refine obls2_cons (fun b hb1 hb2 f w' hI hH Q hQ => ?_) ?_
                · skip
                  obtain rfl : b = 2 := by omega
                  clear hb1 hb2
                  obtain ⟨h14, -⟩ := hH
                  simp only [view, List.foldl, Act.put, List.setIfInBounds_toArray, List.set_cons_zero, List.set_cons_succ]
                  rw [show f 14 = _ from h14]
                  clear h14
                  repeat (first | go_guarded | go_step)
                  exact hQ _ _ hI (Grow.refl _) rfl rfl
                exact obls2_nil
              case draw =>
                exact ⟨HRX.out.g.trans (Grow.drew _), fun _ => HRX.out.grow (Grow.drew _), fun h => absurd h (by decide), fun h => absurd h (by decide)⟩
              case mono => exact ⟨Mono2.veq _, Mono2.veq _, Mono2.veq _, Mono2.veq _, Mono2.veq _, Mono2.veq _, Mono2.veq _, Mono2.veq _, Mono2.veq _, Mono2.veq _, Mono2.veq _, Mono2.veq _, Mono2.veq _, Mono2.veq _, Mono2.veq _, Mono2.veq _, trivial⟩
              case tail =>
                intro f w' hI hH
                simp only [view, List.zipIdx, List.foldl, Act.put, List.setIfInBounds_toArray, List.set_cons_zero, List.set_cons_succ, List.drop_succ_cons, List.drop_nil]
                obtain ⟨-, -, -, -, -, -, -, -, -, -, -, -, -, -, -, q15, -⟩ := hH
                rw [show f 15 = _ from q15]
                clear q15
                generalize f 0 = x0
                generalize f 1 = x1
                generalize f 2 = x2
                generalize f 3 = x3
                generalize f 4 = x4
                generalize f 5 = x5
                generalize f 6 = x6
                generalize f 7 = x7
                generalize f 8 = x8
                generalize f 9 = x9
                generalize f 10 = x10
                generalize f 11 = x11
                generalize f 12 = x12
                generalize f 13 = x13
                generalize f 14 = x14
                have HR2 := Lib.hid (hI.2.2.2 rfl)
                clear hI HRX
                obtain ⟨A', n', c', hx1, hx2, hx3, hx4, hx5⟩ := HR2.out.x
                have hxl := hx4.len
                subst hxl
                have cx0 := hx1.cell (i := 0) rfl
                have cx1 := hx1.cell (i := 1) rfl
                have CX0 := Lib.hid cx0
                have CX1 := Lib.hid cx1
                clear hx1 hx2 hx3 hx4 hx5 cx0 cx1
                go_wp2_with fail
                apply (fun (v0 v1 v2 v3 v4 v5 v6 v7 v8 v9 v10 v11 v12 v13 v14 v15 v16 v17 v18 v19 v20 v21 v22 v23 v24 v25 v26 v27 : Value) mono obl tail => wp_region_par (R := Grow) (Φ := phi [veq v0, veq v1, veq v2, veq v3, veq v4, veq v5, veq v6, veq v7, veq v8, veq v9, veq v10, veq v11, veq v12, veq v13, veq v14, veq v15, veq v16, veq v17, veq v18, veq v19, veq v20, veq v21, veq v22, veq v23, veq v24, veq v25, veq v26, veq v27]) (m := 28) (dls := [[], [(85, 0)], [(86, 1)], [(87, 2)], [(88, 3), (87, 2)], [(87, 2)], [(90, 5), (87, 2)], [(91, 6), (87, 2)], [(92, 7), (87, 2)], [(93, 8), (87, 2)], [(89, 4), (94, 9), (87, 2)], [(87, 2), (95, 10)], [(96, 11)], [(97, 12)], [(98, 13), (97, 12)], [(97, 12)], [(100, 15), (97, 12)], [(101, 16), (97, 12)], [(102, 17), (97, 12)], [(99, 14), (103, 18), (97, 12)], [(97, 12), (104, 19)], [(105, 20)], [(106, 21)], [(107, 22), (106, 21)], [(106, 21)], [(109, 24), (106, 21)], [(108, 23), (110, 25), (106, 21)], [(106, 21), (111, 26)]]) (ds := [85, 86, 87, 88, 89, 90, 91, 92, 93, 94, 95, 96, 97, 98, 99, 100, 101, 102, 103, 104, 105, 106, 107, 108, 109, 110, 111, 112]) (by kernel_rfl) (by kernel_rfl) (by decide) rfl (Grow.drew _) (fun _ _ _ => Grow.trans) (mono_phi mono) obl tail)
                case obl =>
                  refine obls_cons (fun f w' hR hH Q hQ => ?_) ?_
                  · skip
                    simp only [view, List.foldl]
                    repeat (first | go_guarded | go_step)
                    exact hQ _ _ (Grow.refl _) rfl rfl
                  refine obls_cons (fun f w' hR hH Q hQ => ?_) ?_
                  · skip
                    obtain ⟨h0, -⟩ := hH
                    simp only [view, List.foldl, Act.put, List.setIfInBounds_toArray, List.set_cons_zero, List.set_cons_succ]
                    rw [show f 0 = _ from h0]
                    clear h0
                    repeat (first | go_guarded | go_step)
                    exact hQ _ _ (Grow.refl _) rfl rfl
                  refine obls_cons (fun f w' hR hH Q hQ => ?_) ?_
                  · skip
                    obtain ⟨h1, -⟩ := hH
                    simp only [view, List.foldl, Act.put, List.setIfInBounds_toArray, List.set_cons_zero, List.set_cons_succ]
                    rw [show f 1 = _ from h1]
                    clear h1
                    repeat (first | go_guarded | go_step)
                    exact hQ _ _ (Grow.refl _) rfl rfl
                  refine obls_cons (fun f w' hR hH Q hQ => ?_) ?_
                  · skip
                    obtain ⟨h2, -⟩ := hH
                    simp only [view, List.foldl, Act.put, List.setIfInBounds_toArray, List.set_cons_zero, List.set_cons_succ]
                    rw [show f 2 = _ from h2]
                    clear h2
                    repeat (first | go_guarded | go_step)
                    exact hQ _ _ (Grow.refl _) rfl rfl
                  refine obls_cons (fun f w' hR hH Q hQ => ?_) ?_
                  · skip
                    obtain ⟨h3, h2, -⟩ := hH
                    simp only [view, List.foldl, Act.put, List.setIfInBounds_toArray, List.set_cons_zero, List.set_cons_succ]
                    rw [show f 3 = _ from h3]
                    rw [show f 2 = _ from h2]
                    clear h3 h2
                    go_wp2_with (go_at_call 34; refine (left_any w' _ _ g L1 e1 (HR2.out.r.grow hR)).mono ?_; rintro e w1 ⟨rfl, rfl⟩)
                    exact hQ _ _ (Grow.refl _) rfl rfl
                  refine obls_cons (fun f w' hR hH Q hQ => ?_) ?_
                  · skip
                    obtain ⟨h2, -⟩ := hH
                    simp only [view, List.foldl, Act.put, List.setIfInBounds_toArray, List.set_cons_zero, List.set_cons_succ]
                    rw [show f 2 = _ from h2]
                    clear h2
                    repeat (first | go_guarded | go_step)
                    exact hQ _ _ (Grow.refl _) rfl rfl
                  refine obls_cons (fun f w' hR hH Q hQ => ?_) ?_
                  · skip
                    obtain ⟨h5, h2, -⟩ := hH
                    simp only [view, List.foldl, Act.put, List.setIfInBounds_toArray, List.set_cons_zero, List.set_cons_succ]
                    rw [show f 5 = _ from h5]
                    rw [show f 2 = _ from h2]
                    clear h5 h2
                    repeat (first | go_guarded | go_step)
                    exact hQ _ _ (Grow.refl _) rfl rfl
                  refine obls_cons (fun f w' hR hH Q hQ => ?_) ?_
                  · skip
                    obtain ⟨h6, h2, -⟩ := hH
                    simp only [view, List.foldl, Act.put, List.setIfInBounds_toArray, List.set_cons_zero, List.set_cons_succ]
                    rw [show f 6 = _ from h6]
                    rw [show f 2 = _ from h2]
                    clear h6 h2
                    repeat (first | go_guarded | go_step)
                    exact hQ _ _ (Grow.refl _) rfl rfl
                  refine obls_cons (fun f w' hR hH Q hQ => ?_) ?_
                  · skip
                    obtain ⟨h7, h2, -⟩ := hH
                    simp only [view, List.foldl, Act.put, List.setIfInBounds_toArray, List.set_cons_zero, List.set_cons_succ]
                    rw [show f 7 = _ from h7]
                    rw [show f 2 = _ from h2]
                    clear h7 h2
                    have c0 := hR.cell CX0.out
                    repeat (first | go_guarded | go_step)
                    exact hQ _ _ (Grow.refl _) rfl rfl
                  refine obls_cons (fun f w' hR hH Q hQ => ?_) ?_
                  · skip
                    obtain ⟨h8, h2, -⟩ := hH
                    simp only [view, List.foldl, Act.put, List.setIfInBounds_toArray, List.set_cons_zero, List.set_cons_succ]
                    rw [show f 8 = _ from h8]
                    rw [show f 2 = _ from h2]
                    clear h8 h2
                    repeat (first | go_guarded | go_step)
                    exact hQ _ _ (Grow.refl _) rfl rfl
                  refine obls_cons (fun f w' hR hH Q hQ => ?_) ?_
                  · skip
                    obtain ⟨h4, h9, h2, -⟩ := hH
                    simp only [view, List.foldl, Act.put, List.setIfInBounds_toArray, List.set_cons_zero, List.set_cons_succ]
                    rw [show f 4 = _ from h4]
                    rw [show f 9 = _ from h9]
                    rw [show f 2 = _ from h2]
                    clear h4 h9 h2
                    repeat (first | go_guarded | go_step)
                    exact hQ _ _ (Grow.refl _) rfl rfl
                  refine obls_cons (fun f w' hR hH Q hQ => ?_) ?_
                  · skip
                    obtain ⟨h2, h10, -⟩ := hH
                    simp only [view, List.foldl, Act.put, List.setIfInBounds_toArray, List.set_cons_zero, List.set_cons_succ]
                    rw [show f 2 = _ from h2]
                    rw [show f 10 = _ from h10]
                    clear h2 h10
                    repeat (first | go_guarded | go_step)
                    exact hQ _ _ (Grow.refl _) rfl rfl
                  refine obls_cons (fun f w' hR hH Q hQ => ?_) ?_
                  · skip
                    obtain ⟨h11, -⟩ := hH
                    simp only [view, List.foldl, Act.put, List.setIfInBounds_toArray, List.set_cons_zero, List.set_cons_succ]
                    rw [show f 11 = _ from h11]
                    clear h11
                    repeat (first | go_guarded | go_step)
                    exact hQ _ _ (Grow.refl _) rfl rfl
                  refine obls_cons (fun f w' hR hH Q hQ => ?_) ?_
                  · skip
                    obtain ⟨h12, -⟩ := hH
                    simp only [view, List.foldl, Act.put, List.setIfInBounds_toArray, List.set_cons_zero, List.set_cons_succ]
                    rw [show f 12 = _ from h12]
                    clear h12
                    repeat (first | go_guarded | go_step)
                    exact hQ _ _ (Grow.refl _) rfl rfl
                  refine obls_cons (fun f w' hR hH Q hQ => ?_) ?_
                  · skip
                    obtain ⟨h13, h12, -⟩ := hH
                    simp only [view, List.foldl, Act.put, List.setIfInBounds_toArray, List.set_cons_zero, List.set_cons_succ]
                    rw [show f 13 = _ from h13]
                    rw [show f 12 = _ from h12]
                    clear h13 h12
                    go_wp2_with (go_at_call 35; refine (err_any w' _ _ g L1 e1 (HR2.out.r.grow hR)).mono ?_; rintro e w1 ⟨rfl, rfl⟩)
                    exact hQ _ _ (Grow.refl _) rfl rfl
                  refine obls_cons (fun f w' hR hH Q hQ => ?_) ?_
                  · skip
                    obtain ⟨h12, -⟩ := hH
                    simp only [view, List.foldl, Act.put, List.setIfInBounds_toArray, List.set_cons_zero, List.set_cons_succ]
                    rw [show f 12 = _ from h12]
                    clear h12
                    repeat (first | go_guarded | go_step)
                    exact hQ _ _ (Grow.refl _) rfl rfl
                  refine obls_cons (fun f w' hR hH Q hQ => ?_) ?_
                  · skip
                    obtain ⟨h15, h12, -⟩ := hH
                    simp only [view, List.foldl, Act.put, List.setIfInBounds_toArray, List.set_cons_zero, List.set_cons_succ]
                    rw [show f 15 = _ from h15]
                    rw [show f 12 = _ from h12]
                    clear h15 h12
                    repeat (first | go_guarded | go_step)
                    exact hQ _ _ (Grow.refl _) rfl rfl
                  refine obls_cons (fun f w' hR hH Q hQ => ?_) ?_
                  · skip
                    obtain ⟨h16, h12, -⟩ := hH
                    simp only [view, List.foldl, Act.put, List.setIfInBounds_toArray, List.set_cons_zero, List.set_cons_succ]
                    rw [show f 16 = _ from h16]
                    rw [show f 12 = _ from h12]
                    clear h16 h12
                    repeat (first | go_guarded | go_step)
                    exact hQ _ _ (Grow.refl _) rfl rfl
                  refine obls_cons (fun f w' hR hH Q hQ => ?_) ?_
                  · skip
                    obtain ⟨h17, h12, -⟩ := hH
                    simp only [view, List.foldl, Act.put, List.setIfInBounds_toArray, List.set_cons_zero, List.set_cons_succ]
                    rw [show f 17 = _ from h17]
                    rw [show f 12 = _ from h12]
                    clear h17 h12
                    have c1 := hR.cell CX1.out
                    repeat (first | go_guarded | go_step)
                    exact hQ _ _ (Grow.refl _) rfl rfl
                  refine obls_cons (fun f w' hR hH Q hQ => ?_) ?_
                  · skip
                    obtain ⟨h14, h18, h12, -⟩ := hH
                    simp only [view, List.foldl, Act.put, List.setIfInBounds_toArray, List.set_cons_zero, List.set_cons_succ]
                    rw [show f 14 = _ from h14]
                    rw [show f 18 = _ from h18]
                    rw [show f 12 = _ from h12]
                    clear h14 h18 h12
                    repeat (first | go_guarded | go_step)
                    exact hQ _ _ (Grow.refl _) rfl rfl
                  refine obls_cons (fun f w' hR hH Q hQ => ?_) ?_
                  · skip
                    obtain ⟨h12, h19, -⟩ := hH
                    simp only [view, List.foldl, Act.put, List.setIfInBounds_toArray, List.set_cons_zero, List.set_cons_succ]
                    rw [show f 12 = _ from h12]
                    rw [show f 19 = _ from h19]
                    clear h12 h19
                    repeat (first | go_guarded | go_step)
                    exact hQ _ _ (Grow.refl _) rfl rfl
                  refine obls_cons (fun f w' hR hH Q hQ => ?_) ?_
                  · skip
                    obtain ⟨h20, -⟩ := hH
                    simp only [view, List.foldl, Act.put, List.setIfInBounds_toArray, List.set_cons_zero, List.set_cons_succ]
                    rw [show f 20 = _ from h20]
                    clear h20
                    repeat (first | go_guarded | go_step)
                    exact hQ _ _ (Grow.refl _) rfl rfl
                  refine obls_cons (fun f w' hR hH Q hQ => ?_) ?_
                  · skip
                    obtain ⟨h21, -⟩ := hH
                    simp only [view, List.foldl, Act.put, List.setIfInBounds_toArray, List.set_cons_zero, List.set_cons_succ]
                    rw [show f 21 = _ from h21]
                    clear h21
                    repeat (first | go_guarded | go_step)
                    exact hQ _ _ (Grow.refl _) rfl rfl
                  refine obls_cons (fun f w' hR hH Q hQ => ?_) ?_
                  · skip
                    obtain ⟨h22, h21, -⟩ := hH
                    simp only [view, List.foldl, Act.put, List.setIfInBounds_toArray, List.set_cons_zero, List.set_cons_succ]
                    rw [show f 22 = _ from h22]
                    rw [show f 21 = _ from h21]
                    clear h22 h21
                    go_wp2_with (go_at_call 36; refine (end_any w' _ _ g L1 e1 (HR2.out.r.grow hR)).mono ?_; rintro e w1 ⟨rfl, rfl⟩)
                    exact hQ _ _ (Grow.refl _) rfl rfl
                  refine obls_cons (fun f w' hR hH Q hQ => ?_) ?_
                  · skip
                    obtain ⟨h21, -⟩ := hH
                    simp only [view, List.foldl, Act.put, List.setIfInBounds_toArray, List.set_cons_zero, List.set_cons_succ]
                    rw [show f 21 = _ from h21]
                    clear h21
                    repeat (first | go_guarded | go_step)
                    exact hQ _ _ (Grow.refl _) rfl rfl
                  refine obls_cons (fun f w' hR hH Q hQ => ?_) ?_
                  · skip
                    obtain ⟨h24, h21, -⟩ := hH
                    simp only [view, List.foldl, Act.put, List.setIfInBounds_toArray, List.set_cons_zero, List.set_cons_succ]
                    rw [show f 24 = _ from h24]
                    rw [show f 21 = _ from h21]
                    clear h24 h21
                    go_wp2_with (go_at_call 37; refine (ref_end_any w' _ _ gx L1 e1 (HR2.out.x.grow hR)).mono ?_; rintro e w1 ⟨rfl, rfl⟩)
                    exact hQ _ _ (Grow.refl _) rfl rfl
                  refine obls_cons (fun f w' hR hH Q hQ => ?_) ?_
                  · skip
                    obtain ⟨h23, h25, h21, -⟩ := hH
                    simp only [view, List.foldl, Act.put, List.setIfInBounds_toArray, List.set_cons_zero, List.set_cons_succ]
                    rw [show f 23 = _ from h23]
                    rw [show f 25 = _ from h25]
                    rw [show f 21 = _ from h21]
                    clear h23 h25 h21
                    repeat (first | go_guarded | go_step)
                    exact hQ _ _ (Grow.refl _) rfl rfl
                  refine obls_cons (fun f w' hR hH Q hQ => ?_) ?_
                  · skip
                    obtain ⟨h21, h26, -⟩ := hH
                    simp only [view, List.foldl, Act.put, List.setIfInBounds_toArray, List.set_cons_zero, List.set_cons_succ]
                    rw [show f 21 = _ from h21]
                    rw [show f 26 = _ from h26]
                    clear h21 h26
                    repeat (first | go_guarded | go_step)
                    exact hQ _ _ (Grow.refl _) rfl rfl
                  exact obls_nil
                case mono => exact ⟨Mono.veq _, Mono.veq _, Mono.veq _, Mono.veq _, Mono.veq _, Mono.veq _, Mono.veq _, Mono.veq _, Mono.veq _, Mono.veq _, Mono.veq _, Mono.veq _, Mono.veq _, Mono.veq _, Mono.veq _, Mono.veq _, Mono.veq _, Mono.veq _, Mono.veq _, Mono.veq _, Mono.veq _, Mono.veq _, Mono.veq _, Mono.veq _, Mono.veq _, Mono.veq _, Mono.veq _, Mono.veq _, trivial⟩
                case tail =>
                  intro f w' hR hH
                  simp only [view, List.zipIdx, List.foldl, Act.put, List.setIfInBounds_toArray, List.set_cons_zero, List.set_cons_succ, List.drop_succ_cons, List.drop_zero]
                  obtain ⟨-, -, -, -, -, -, -, -, -, -, -, -, -, -, -, -, -, -, -, -, -, -, -, -, -, -, -, q27, -⟩ := hH
                  rw [show f 27 = _ from q27]
                  clear q27
                  generalize f 0 = x0
                  generalize f 1 = x1
                  generalize f 2 = x2
                  generalize f 3 = x3
                  generalize f 4 = x4
                  generalize f 5 = x5
                  generalize f 6 = x6
                  generalize f 7 = x7
                  generalize f 8 = x8
                  generalize f 9 = x9
                  generalize f 10 = x10
                  generalize f 11 = x11
                  generalize f 12 = x12
                  generalize f 13 = x13
                  generalize f 14 = x14
                  generalize f 15 = x15
                  generalize f 16 = x16
                  generalize f 17 = x17
                  generalize f 18 = x18
                  generalize f 19 = x19
                  generalize f 20 = x20
                  generalize f 21 = x21
                  generalize f 22 = x22
                  generalize f 23 = x23
                  generalize f 24 = x24
                  generalize f 25 = x25
                  generalize f 26 = x26
                  have HR3 := Lib.hid (HR2.out.grow hR)
                  clear hR HR2
                  go_wp2_with fail
                  go_roundw
                  case rel => exact ⟨k + 1, L1, e1, by omega, by go_num, HR3.out⟩
                  case measure => simp [intOf] <;> omega
        · obtain rfl : k = n2 := by omega
          have HE1 := Lib.hid (end_any wr _ _ g L e hrx.r)
          have HE2 := Lib.hid (ref_end_any wr _ _ gx L e hrx.x)
          have HG := Lib.hid hrx.g
          have HW := Lib.hid (works_any wr)
          clear hrx
          go_wp2_with fail
          refine HE1.out.mono ?_
          rintro e w' ⟨rfl, rfl⟩
          go_wp2_with fail
          refine HE2.out.mono ?_
          rintro e w' ⟨rfl, rfl⟩
          go_wp2_with fail
          refine HW.out.mono ?_
          rintro e w' ⟨rfl, hg⟩
          go_wp2_with fail
          go_ret
          exact ⟨rfl, HG.out.trans hg⟩
    · have d1 : decide ((60 : Int) < (n2 : Int)) = true := decide_eq_true (by omega)
      go_enter Try.func8, Try.ntmps8
      go_wp2_with fail
      refine HW0.out.mono ?_
      rintro e w' ⟨rfl, hg⟩
      go_wp2_with fail
      go_ret
      exact ⟨rfl, hg⟩
  · have d1 : decide ((1000 : Int) < (n : Int)) = true := decide_eq_true (by omega)
    go_enter Try.func8, Try.ntmps8
    go_wp2_with fail
    refine HW0.out.mono ?_
    rintro e w' ⟨rfl, hg⟩
    go_wp2_with fail
    go_ret
    exact ⟨rfl, hg⟩
end Go.Proofs.Ytfmaicjgndbffaa.bfL
