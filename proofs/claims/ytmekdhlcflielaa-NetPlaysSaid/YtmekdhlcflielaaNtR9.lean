/- The law's told, as one plain step (printed by gen_told.py). -/
import Derived.Test.YtmekdhlcflielaaNtR8
namespace Go.Proofs.Ytmekdhlcflielaa.ntL
open Go Go.RowKit Go.Par Go.Kit Go.Proofs.Ytmekdhlcflielaa.mpA Go.Proofs.Ytmekdhlcflielaa.cl Go.Proofs.Ytmekdhlcflielaa.nt

/-- an act, by the document: what is under way, what is cut, the error, what was taken -/
def toldS (n : Nat) (cs : List (Nat × Nat)) (ps : List Pk) (x : Act) : List Pk × List (Nat × Nat) × Nat × Pk :=
  if x.k = 0 then ((sendS n ps x.a x.b x.l).1, cs, (sendS n ps x.a x.b x.l).2, zpk) else
  if x.k = 1 then ((rtakeS n cs ps x.K).1, cs, (rtakeS n cs ps x.K).2.1, (rtakeS n cs ps x.K).2.2) else
  if x.k = 2 then ((dropS ps x.K).1, cs, (dropS ps x.K).2, zpk) else
  if x.k = 3 then ((twiceS ps x.K).1, cs, (twiceS ps x.K).2, zpk) else
  if x.k = 4 then ((spoilS ps x.K x.at_ x.m).1, cs, (spoilS ps x.K x.at_ x.m).2, zpk) else
  if x.k = 5 then (ps, if pairB n x.a x.b = true then cs ++ [(x.a, x.b)] else cs, if pairB n x.a x.b = true then 0 else 1, zpk) else
  if x.k = 6 then (ps, [], 0, zpk) else (ps, cs, 0, zpk)
abbrev TA' : TypeId := 46
theorem boxes4 (w : World) (l1 l2 l3 l4 : List Value) (t1 t2 t3 t4 : TypeId) : ∃ W, W = (((w.alloc (.cells l1.toArray t1)).alloc (.cells l2.toArray t2)).alloc (.cells l3.toArray t3)).alloc (.cells l4.toArray t4) ∧ Grow w W ∧ Blk W w.heap.size t1 l1 ∧ Blk W (w.heap.size + 1) t2 l2 ∧ Blk W (w.heap.size + 1 + 1) t3 l3 ∧ Blk W (w.heap.size + 1 + 1 + 1) t4 l4 :=
  ⟨_, rfl, (((Grow.alloc _ _).trans (Grow.alloc _ _)).trans (Grow.alloc _ _)).trans (Grow.alloc _ _), (Blk.new w _ _ _ rfl rfl).grow (((Grow.alloc _ _).trans (Grow.alloc _ _)).trans (Grow.alloc _ _)), (Blk.new _ _ _ _ rfl (by simp)).grow ((Grow.alloc _ _).trans (Grow.alloc _ _)), (Blk.new _ _ _ _ rfl (by simp)).grow (Grow.alloc _ _), Blk.new _ _ _ _ rfl (by simp)⟩
/-- behind the kinds: the net, the error, the packet in their boxes -/
def JTd (w : World) (g4 g6 g7 g9 n : Nat) (T : List Pk × List (Nat × Nat) × Nat × Pk) (f : Nat → Value) (w' : World) : Prop :=
  ∃ A1 l1 c1 A2 l2 c2, f 8 = .int .i64 (T.2.2.1 : Int) ∧ Blk w' g7 TR [.int .i64 (n : Int), .slice A1 l1 c1, .slice A2 l2 c2] ∧ Blk w' g9 TP (rrow T.2.2.2) ∧ Blk w' g4 TR zR ∧ Blk w' g6 TP zP ∧
    RefN w' (.slice A1 l1 c1) (.slice A2 l2 c2) T.1 T.2.1 ∧ OffN (.slice A1 l1 c1) (.slice A2 l2 c2) g6 ∧ Grow w w'
/-- while the packet is read, the net's box is stored -/
def PhQ (w0 : World) (g4 g9 : Nat) (cs x : List Value) (b : Nat) (w' : World) : Prop := Blk w' g9 TP cs ∧ (b = 0 → Grow w0 w') ∧ (b = 1 → ∃ w9, Grow w0 w9 ∧ Grow (w9.setRow g4 x.toArray) w')
theorem PhQ.start {w0 w' : World} {g4 g9 : Nat} {cs x : List Value} (h1 : Blk w' g9 TP cs) (h2 : Grow w0 w') : PhQ w0 g4 g9 cs x 0 w' := ⟨h1, fun _ => h2, fun h => absurd h (by decide)⟩
theorem PhQ.next {w0 w' : World} {g4 g9 : Nat} {cs x : List Value} (h : PhQ w0 g4 g9 cs x 0 w') (hne : g9 ≠ g4) : PhQ w0 g4 g9 cs x 1 (w'.setRow g4 x.toArray) := ⟨h.1.farRow hne _, fun e => absurd e (by decide), fun _ => ⟨w', h.2.1 rfl, Grow.refl _⟩⟩
theorem JTd.net {w W3 w5 : World} {g4 g6 g7 n : Nat} {o : List Value} {B1 B2 : Option Addr} {m1 d1 m2 d2 : Nat} {ps' : List Pk} {cs' : List (Nat × Nat)} {err : Nat} {f : Nat → Value} {x0 : Int} {A1 A2 : Option Addr} {a1 c1 a2 c2 : Nat}
    (hb7 : Blk W3 g7 TR [.int .i64 x0, .slice A1 a1 c1, .slice A2 a2 c2]) (hb9 : Blk W3 (g7 + 1) TP o) (hb4 : Blk W3 g4 TR zR) (hb6 : Blk W3 g6 TP zP) (hg : Grow w W3) (hg5 : Grow W3 w5) (hs : w.heap.size ≤ g7) (h47 : g4 ≠ g7) (h67 : g6 ≠ g7)
    (hr : RefN w5 (.slice B1 m1 d1) (.slice B2 m2 d2) ps' cs') (ho : OffN (.slice B1 m1 d1) (.slice B2 m2 d2) g6) (hf : f 8 = .int .i64 (err : Int)) (p : Pk) (hp : o = rrow p) :
    JTd w g4 g6 g7 (g7 + 1) n (ps', cs', err, p) f (w5.setRow g7 [.int .i64 (n : Int), .slice B1 m1 d1, .slice B2 m2 d2].toArray) :=
  ⟨B1, m1, d1, B2, m2, d2, hf, (hb7.grow hg5).setRow _, (by rw [← hp]; exact (hb9.grow hg5).farRow (by omega) _), (hb4.grow hg5).farRow h47 _, (hb6.grow hg5).farRow h67 _, hr.away (hb7.grow hg5) _, ho, Grow.setRow (hg.trans hg5) hs _⟩
set_option maxRecDepth 100000 in
set_option maxHeartbeats 16000000 in
theorem told_any (w : World) (n : Nat) (vl vc : Value) (ps : List Pk) (cs : List (Nat × Nat)) (h : RefN w vl vc ps cs) (hl4 : ps.length ≤ 4096) (hm4 : cs.length ≤ 4096) (hps : ∀ p ∈ ps, p.fr ≤ 255 ∧ p.to ≤ 255 ∧ p.b.length ≤ 1000) (x : Act) (hx : x.ok) (A : Option Addr) (ln c : Nat) (hsl : Bytes w A ln x.l) :
    Calls Try.prog 17 #[.agg #[.int .i64 (n : Int), vl, vc], .agg (actRow (.slice A ln c) x).toArray] w fun e w' => (∃ A1 l1 c1 A2 l2 c2, e = .returned (.tuple #[.agg #[.int .i64 (n : Int), .slice A1 l1 c1, .slice A2 l2 c2], .int .i64 ((toldS n cs ps x).2.2.1 : Int), .agg (rrow (toldS n cs ps x).2.2.2).toArray]) ∧ RefN w' (.slice A1 l1 c1) (.slice A2 l2 c2) (toldS n cs ps x).1 (toldS n cs ps x).2.1) ∧ Grow w w' := by
  obtain ⟨A1, c1, rfl, -⟩ := h.l
  obtain ⟨A2, c2, rfl, -⟩ := h.c
  obtain ⟨W1, hW1, hg1, b2, b3, b4, b6⟩ := boxes4 w [.int .i64 (n : Int), .slice A1 ps.length c1, .slice A2 cs.length c2] (actRow (.slice A ln c) x) zR zP TR TA' TR TP
  have hs1 : W1.heap.size = w.heap.size + 1 + 1 + 1 + 1 := by rw [hW1]; simp
  obtain ⟨W2, hW2, hg2, b7, b9⟩ := boxes2 W1 zR zP TR TP
  obtain ⟨W3, hW3⟩ : ∃ W, W = (W2.setRow W1.heap.size #[.int .i64 (n : Int), .slice A1 ps.length c1, .slice A2 cs.length c2]).setRow (W1.heap.size + 1) zP.toArray := ⟨_, rfl⟩
  have hg3 : Grow W1 W3 := by rw [hW3]; exact Grow.setRow (Grow.setRow hg2 (Nat.le_refl _) _) (by omega) _
  have b73 : Blk W3 W1.heap.size TR [.int .i64 (n : Int), .slice A1 ps.length c1, .slice A2 cs.length c2] := by rw [hW3]; exact (b7.setRow [.int .i64 (n : Int), .slice A1 ps.length c1, .slice A2 cs.length c2]).farRow (by omega) _
  have b93 : Blk W3 (W1.heap.size + 1) TP zP := by rw [hW3]; exact (b9.farRow (by omega) _).setRow zP
  have hrow : actRow (.slice A ln c) x = [.int .u8 (x.k : Int), .int .u8 (x.a : Int), .int .u8 (x.b : Int), .int .i64 x.K, .int .i64 x.at_, .int .u32 (x.m.toNat : Int), .slice A ln c] := rfl
  rw [hrow] at b3 hW1 ⊢
  have x0 := b2.cell (i := 0) rfl
  have x1 := b2.cell (i := 1) rfl
  have x2 := b2.cell (i := 2) rfl
  obtain ⟨l, hl⟩ : ∃ l, l = ps.length := ⟨_, rfl⟩
  obtain ⟨m, hm⟩ : ∃ l, l = cs.length := ⟨_, rfl⟩
  have HN := Lib.hid h
  have HL4 := Lib.hid (And.intro hl4 hm4)
  have HPS := Lib.hid hps
  have HX := Lib.hid hx
  have HSL := Lib.hid hsl
  rw [← hl] at HN hW1 hW3 b73 b2 x1 ⊢
  rw [← hm] at HN hW1 hW3 b73 b2 x2 ⊢
  have b23 := b2.grow hg3
  have b33 := b3.grow hg3
  have b43 := b4.grow hg3
  have b63 := b6.grow hg3
  have y0 := b23.cell (i := 0) rfl
  have y1 := b23.cell (i := 1) rfl
  have y2 := b23.cell (i := 2) rfl
  have a0 := b33.cell (i := 0) rfl
  have a1 := b33.cell (i := 1) rfl
  have a2 := b33.cell (i := 2) rfl
  have a3 := b33.cell (i := 3) rfl
  have a4 := b33.cell (i := 4) rfl
  have a5 := b33.cell (i := 5) rfl
  have a6 := b33.cell (i := 6) rfl
  have HG3 := Lib.hid (hg1.trans hg3)
  have HW1 := Lib.hid hW1
  have HW2 := Lib.hid hW2
  have HW3 := Lib.hid hW3
  have HB7 := Lib.hid b7
  have HB9 := Lib.hid b9
  have HB73 := Lib.hid b73
  have HB93 := Lib.hid b93
  have HB43 := Lib.hid b43
  have HB63 := Lib.hid b63
  have HS := Lib.hid hs1
  have HS3 := Lib.hid hg3.size
  clear h hm hl hW1 hW2 hW3 hg1 hg2 hg3 b2 b3 b4 b6 b7 b9 b73 b93 b23 b33 b43 b63 hs1 hl4 hm4 hps hx hsl hrow
  obtain ⟨T, hT⟩ : ∃ T, T = toldS n cs ps x := ⟨_, rfl⟩
  rw [← hT]
  have HT := Lib.hid hT
  clear hT
  obtain ⟨g7, hg7⟩ : ∃ g, g = W1.heap.size := ⟨_, rfl⟩
  have HSG : Hid (w.heap.size + 1 + 1 + 1 + 1 = g7 ∧ g7 + 2 ≤ W3.heap.size) := Lib.hid ⟨by rw [hg7]; exact HS.out.symm, by
    have := HB93.out.lt; omega⟩
  rw [← hg7] at HB7 HB9 HB73 HB93 HW3
  have HG7 := Lib.hid hg7
  clear hg7
  go_enter Try.func17, Try.ntmps17
  try dsimp only
  repeat (first | with_reducible (refine wp_region_cut (k := 1) ?_) | go_values | go_guarded | go_step | go_upon | go_back)
  rw [← HW1.out]
  unfold Cut
  repeat (first | with_reducible (refine wp_region_cut (k := 2) ?_) | (rw [← HW2.out, ← HG7.out]; refine store_blk rfl _ _ _ rfl g7 [.int .i64 (n : Int), .slice A1 l c1, .slice A2 m c2] rfl rfl _ _ HB7.out (by rw [sizeR]; rfl) rfl rfl ?_) | (refine store_blk rfl _ _ _ rfl (g7 + 1) zP rfl rfl _ _ (HB9.out.farRow (by omega) _) (by rw [sizeP]; rfl) rfl rfl ?_; rw [← HW3.out]) | go_values | go_guarded | go_step | go_upon | go_back)
  unfold Cut
  clear x0 x1 x2
  have hek : ∀ q : Nat, ((x.k : Int) == (q : Int)) = decide (x.k = q) := fun q => by rw [Bool.eq_iff_iff, beq_iff_eq, decide_eq_true_eq]; omega
  have hek2 : ∀ q : Nat, (x.k == q) = decide (x.k = q) := fun q => by rw [Bool.eq_iff_iff, beq_iff_eq, decide_eq_true_eq]
  have HEK := Lib.hid hek
  have HEK2 := Lib.hid hek2
  clear hek hek2

  repeat (first | with_reducible (refine wp_block_cut (k := 0) ?_) | go_values | go_guarded | go_step | go_upon | go_back)
  refine wp_cut [none, none, none, none, none, none, none, none, some 8, none, none, none, none, none, some 14, some 15, some 16, some 17, some 18, some 19, some 20, some 21, some 22, some 23, some 24, some 25, some 26, some 27, some 28, some 29, some 30, some 31, some 32, some 33, some 34, some 35, some 36, some 37, some 38, some 39, some 40, some 41, some 42, some 43, some 44, some 45, some 46, some 47, some 48, some 49, some 50, some 51, some 52, some 53, some 54, some 55, some 56, some 57, some 58, some 59, some 60, some 61, some 62, some 63, some 64, some 65, some 66, some 67, some 68, some 69, some 70, some 71, some 72, some 73, some 74, some 75, some 76, some 77, some 78, some 79, some 80, some 81, some 82, some 83, none, none, none] (JTd w (w.heap.size + 1 + 1) (w.heap.size + 1 + 1 + 1) g7 (g7 + 1) n T) ?cutA ?cutB
  case cutB =>
    intro f w' A hA hJ
    replace hA : A = ⟨#[_, _, _, _, _, _, _, _, f 8, _, _, _, _, _, f 14, f 15, f 16, f 17, f 18, f 19, f 20, f 21, f 22, f 23, f 24, f 25, f 26, f 27, f 28, f 29, f 30, f 31, f 32, f 33, f 34, f 35, f 36, f 37, f 38, f 39, f 40, f 41, f 42, f 43, f 44, f 45, f 46, f 47, f 48, f 49, f 50, f 51, f 52, f 53, f 54, f 55, f 56, f 57, f 58, f 59, f 60, f 61, f 62, f 63, f 64, f 65, f 66, f 67, f 68, f 69, f 70, f 71, f 72, f 73, f 74, f 75, f 76, f 77, f 78, f 79, f 80, f 81, f 82, f 83, _, _, _], _⟩ := hA
    subst hA
    obtain ⟨B1, m1, d1, B2, m2, d2, e8, h7, h9, h4, h6, hr, ho, hg⟩ := hJ
    rw [e8]
    obtain ⟨W6, hW6⟩ : ∃ W, W = w' := ⟨_, rfl⟩
    rw [← hW6] at h7 h9 h4 h6 hr hg ⊢
    clear hW6 e8 a0 a1 a2 a3 a4 a5 a6 y0 y1 y2
    have H7 := Lib.hid h7
    have H9 := Lib.hid h9
    have H4 := Lib.hid h4
    have H6 := Lib.hid h6
    have HR := Lib.hid hr
    have HO := Lib.hid ho
    have HG := Lib.hid hg
    have hdr : PhQ W6 (w.heap.size + 1 + 1) (g7 + 1) (rrow T.2.2.2) [.int .i64 (n : Int), .slice B1 m1 d1, .slice B2 m2 d2] 0 W6.drew := PhQ.start (h9.grow (Grow.drew _)) (Grow.drew _)
    clear h7 h9 h4 h6 hr ho hg
    go_wp2_with fail
    apply (fun (v0 v1 v2 v4 : Value) mono draw obl tail => wp_region_piv (I := PhQ W6 (w.heap.size + 1 + 1) (g7 + 1) (rrow T.2.2.2) [.int .i64 (n : Int), .slice B1 m1 d1, .slice B2 m2 d2]) (G := Grow) (Rp := (fun _ _ _ => True)) (Φ := phi2 [veq2 v0, veq2 v1, veq2 v2, (veq2 undef), veq2 v4]) (m := 5) (ps := [3]) (qs := [(0, 0, false), (0, 1, false), (0, 1, false), (0, 0, true), (1, 1, false)]) (dls := [[], [], [], [(84, 0)], [(85, 1)]]) (ds := [84, 85, 86, 91, 5]) (by kernel_rfl) (by kernel_rfl) (by kernel_rfl) (by decide) rfl rfl draw (mono2_phi mono) (piv2_phi mono) obl tail)
    case obl =>
      refine obls2_cons (fun b hb1 hb2 f w' hI hH Q hQ => ?_) ?_
      · skip
        obtain rfl : b = 0 := by omega
        clear hb1 hb2
        clear hH
        refine wpList_view ?_; show wpList _ _ _ [_] ⟨#[_, _, _, _, _, _, _, _, _, _, _, _, _, _, _, _, _, _, _, _, _, _, _, _, _, _, _, _, _, _, _, _, _, _, _, _, _, _, _, _, _, _, _, _, _, _, _, _, _, _, _, _, _, _, _, _, _, _, _, _, _, _, _, _, _, _, _, _, _, _, _, _, _, _, _, _, _, _, _, _, _, _, _, _, _, _, _], _⟩ _
        have y0 := (H7.out.grow (hI.2.1 rfl)).cell (i := 0) rfl
        have y1 := (H7.out.grow (hI.2.1 rfl)).cell (i := 1) rfl
        have y2 := (H7.out.grow (hI.2.1 rfl)).cell (i := 2) rfl
        repeat (first | go_guarded | go_step)
        exact hQ _ _ hI (Grow.refl _) rfl rfl
      refine obls2_cons (fun b hb1 hb2 f w' hI hH Q hQ => ?_) ?_
      · skip
        clear hH
        refine wpList_view ?_; show wpList _ _ _ [_] ⟨#[_, _, _, _, _, _, _, _, _, _, _, _, _, _, _, _, _, _, _, _, _, _, _, _, _, _, _, _, _, _, _, _, _, _, _, _, _, _, _, _, _, _, _, _, _, _, _, _, _, _, _, _, _, _, _, _, _, _, _, _, _, _, _, _, _, _, _, _, _, _, _, _, _, _, _, _, _, _, _, _, _, _, _, _, _, _, _], _⟩ _
        repeat (first | go_guarded | go_step)
        exact hQ _ _ hI (Grow.refl _) rfl rfl
      refine obls2_cons (fun b hb1 hb2 f w' hI hH Q hQ => ?_) ?_
      · skip
        clear hH
        refine wpList_view ?_; show wpList _ _ _ [_] ⟨#[_, _, _, _, _, _, _, _, _, _, _, _, _, _, _, _, _, _, _, _, _, _, _, _, _, _, _, _, _, _, _, _, _, _, _, _, _, _, _, _, _, _, _, _, _, _, _, _, _, _, _, _, _, _, _, _, _, _, _, _, _, _, _, _, _, _, _, _, _, _, _, _, _, _, _, _, _, _, _, _, _, _, _, _, _, _, _], _⟩ _
        have y0 := hI.1.cell (i := 0) rfl
        have y1 := hI.1.cell (i := 1) rfl
        have y2 := hI.1.cell (i := 2) rfl
        have y3 := hI.1.cell (i := 3) rfl
        repeat (first | go_guarded | go_step)
        exact hQ _ _ hI (Grow.refl _) rfl rfl
      refine oblsP_cons (fun f w' hI hH Q hQ => ?_) ?_
      · skip
        have h0 := hH.get 0 (84, 0) rfl
        clear hH
        refine wpList_view ?_; show wpList _ _ _ [_] ⟨#[_, _, _, _, _, _, _, _, _, _, _, _, _, _, _, _, _, _, _, _, _, _, _, _, _, _, _, _, _, _, _, _, _, _, _, _, _, _, _, _, _, _, _, _, _, _, _, _, _, _, _, _, _, _, _, _, _, _, _, _, _, _, _, _, _, _, _, _, _, _, _, _, _, _, _, _, _, _, _, _, _, _, _, _, f 0, _, _], _⟩ _
        rw [show f 0 = _ from h0]
        clear h0
        have hb := H4.out.grow (hI.2.1 rfl)
        have HI := Lib.hid hI
        clear hI
        go_wp2_with (refine store_blk rfl _ _ _ rfl (w.heap.size + 1 + 1) [.int .i64 (n : Int), .slice B1 m1 d1, .slice B2 m2 d2] rfl rfl _ _ hb (by rw [sizeR]; rfl) rfl rfl ?_)
        exact hQ _ _ (HI.out.next (by have := HSG.out.1; omega)) trivial rfl rfl
      refine obls2_cons (fun b hb1 hb2 f w' hI hH Q hQ => ?_) ?_
      · skip
        obtain rfl : b = 1 := by omega
        clear hb1 hb2
        have h1 := hH.get 0 (85, 1) rfl
        clear hH
        refine wpList_view ?_; show wpList _ _ _ [_] ⟨#[_, _, _, _, _, _, _, _, _, _, _, _, _, _, _, _, _, _, _, _, _, _, _, _, _, _, _, _, _, _, _, _, _, _, _, _, _, _, _, _, _, _, _, _, _, _, _, _, _, _, _, _, _, _, _, _, _, _, _, _, _, _, _, _, _, _, _, _, _, _, _, _, _, _, _, _, _, _, _, _, _, _, _, _, _, f 1, _], _⟩ _
        rw [show f 1 = _ from h1]
        clear h1
        repeat (first | go_guarded | go_step)
        exact hQ _ _ hI (Grow.refl _) rfl rfl
      exact obls2_nil
    case draw =>
      exact hdr
    case mono => exact ⟨Mono2.veq _, Mono2.veq _, Mono2.veq _, Mono2.veq _, Mono2.veq _, trivial⟩
    case tail =>
      intro f w' hI hH
      have q2 := hH.get 2 (86, 2) rfl
      have q4 := hH.get 4 (5, 4) rfl
      clear hH
      refine wpList_merge (idx := [none, none, none, none, none, some 4, none, none, none, none, none, none, none, none, none, none, none, none, none, none, none, none, none, none, none, none, none, none, none, none, none, none, none, none, none, none, none, none, none, none, none, none, none, none, none, none, none, none, none, none, none, none, none, none, none, none, none, none, none, none, none, none, none, none, none, none, none, none, none, none, none, none, none, none, none, none, none, none, none, none, none, none, none, none, some 0, some 1, some 2]) (by kernel_rfl) ?_; show wpList _ _ _ [_] ⟨#[_, _, _, _, _, f 4, _, _, _, _, _, _, _, _, _, _, _, _, _, _, _, _, _, _, _, _, _, _, _, _, _, _, _, _, _, _, _, _, _, _, _, _, _, _, _, _, _, _, _, _, _, _, _, _, _, _, _, _, _, _, _, _, _, _, _, _, _, _, _, _, _, _, _, _, _, _, _, _, _, _, _, _, _, _, f 0, f 1, f 2], _⟩ _
      rw [show f 2 = _ from q2]
      rw [show f 4 = _ from q4]
      clear q2 q4
      obtain ⟨w9, hg9, hg10⟩ := hI.2.2 rfl
      have hg69 := Grow.setRow (HG.out.trans hg9) (g := w.heap.size + 1 + 1) (by omega) [.int .i64 (n : Int), .slice B1 m1 d1, .slice B2 m2 d2].toArray
      have HR7 := Lib.hid (((HR.out.grow hg9).away (H4.out.grow hg9) [.int .i64 (n : Int), .slice B1 m1 d1, .slice B2 m2 d2].toArray).grow hg10)
      have HG7' := Lib.hid (hg69.trans hg10)
      have HB4' := Lib.hid (((H4.out.grow hg9).setRow [.int .i64 (n : Int), .slice B1 m1 d1, .slice B2 m2 d2]).grow hg10)
      have HB6' := Lib.hid (((H6.out.grow hg9).farRow (by omega) [.int .i64 (n : Int), .slice B1 m1 d1, .slice B2 m2 d2].toArray).grow hg10)
      clear hI hg9 hg10 hg69
      go_wp2_with (refine store_blk rfl _ _ _ rfl (w.heap.size + 1 + 1 + 1) (rrow T.2.2.2) rfl rfl _ _ HB6'.out (by rw [sizeP]; rfl) rfl rfl ?_)
      refine ret_btb rfl (w.heap.size + 1 + 1) (w.heap.size + 1 + 1 + 1) _ _ [.int .i64 (n : Int), .slice B1 m1 d1, .slice B2 m2 d2] (rrow T.2.2.2) _ _ (.int .i64 (T.2.2.1 : Int)) rfl (HB4'.out.farRow (by omega) _) undR rfl (by rw [sizeR]; rfl) rfl (HB6'.out.setRow _) undP rfl (by rw [sizeP]; rfl) rfl rfl ?_
      have hg := Grow.setRow HG7'.out (g := w.heap.size + 1 + 1 + 1) (by omega) (rrow T.2.2.2).toArray
      exact ⟨⟨_, _, _, _, _, _, rfl, HR7.out.awayOff HO.out _⟩, hg⟩
  by_cases k0 : x.k = 0
  · obtain rfl : T = ((sendS n ps x.a x.b x.l).1, cs, (sendS n ps x.a x.b x.l).2, zpk) := by rw [HT.out]; unfold toldS;  rw [if_pos k0]
    have t0 : ((x.k : Int) == 0) = true := (HEK.out 0).trans (decide_eq_true k0)
    have u0 : (x.k == 0) = true := (HEK2.out 0).trans (decide_eq_true k0)
    have cst := conv_str (P := Try.prog) Try.underlying26 Try.underlying5 Try.underlying9 (HSL.out.grow HG3.out) c
    have HC := Lib.hid (rsend_any W3 n _ _ ps cs (HN.out.grow HG3.out) x.a x.b x.l HX.out.a HX.out.b)
    clear HT k0
    go_wp2_with fail
    refine HC.out.mono ?_
    rintro e w5 ⟨⟨B1, m1, d1, B2, m2, d2, rfl, hr, ho⟩, hg5⟩
    have hb7 := HB73.out.grow hg5
    go_wp2_with (first | (refine store_blk rfl _ _ _ rfl g7 [.int .i64 (n : Int), .slice B1 m1 d1, .slice B2 m2 d2] rfl rfl _ _ hb7 (by rw [sizeR]; rfl) rfl rfl ?_))
    exact CutEnd.mk rfl (JTd.net HB73.out HB93.out HB43.out HB63.out HG3.out hg5 (by have := HSG.out.1; omega) (by have := HSG.out.1; omega) (by have := HSG.out.1; omega) hr (ho _ (by have := HSG.out; omega) (HN.out.off (by omega))) rfl zpk rfl)
  by_cases k1 : x.k = 1
  · obtain ⟨⟨tk1, tk2, tk3⟩, htk⟩ : ∃ t, t = rtakeS n cs ps x.K := ⟨_, rfl⟩
    obtain rfl : T = (tk1, cs, tk2, tk3) := by rw [HT.out]; unfold toldS; rw [if_neg k0]; rw [if_pos k1]; rw [← htk]
    have t0 : ((x.k : Int) == 0) = false := (HEK.out 0).trans (decide_eq_false k0)
    have u0 : (x.k == 0) = false := (HEK2.out 0).trans (decide_eq_false k0)
    have t1 : ((x.k : Int) == 1) = true := (HEK.out 1).trans (decide_eq_true k1)
    have u1 : (x.k == 1) = true := (HEK2.out 1).trans (decide_eq_true k1)
    have hc := rtake_any W3 n _ _ ps cs (HN.out.grow HG3.out) HL4.out.1 (fun p hp => ⟨(HPS.out p hp).1, (HPS.out p hp).2.1⟩) x.K
    rw [← htk] at hc
    have HC := Lib.hid hc
    clear hc htk
    clear HT k0 k1
    go_wp2_with fail
    refine HC.out.mono ?_
    rintro e w5 ⟨⟨B1, m1, d1, B2, m2, d2, rfl, hr, ho⟩, hg5⟩
    have hb7 := HB73.out.grow hg5
    have hb9 := (HB93.out.grow hg5).farRow (show g7 + 1 ≠ g7 by omega) [.int .i64 (n : Int), .slice B1 m1 d1, .slice B2 m2 d2].toArray
    go_wp2_with (first | (refine store_blk rfl _ _ _ rfl g7 [.int .i64 (n : Int), .slice B1 m1 d1, .slice B2 m2 d2] rfl rfl _ _ hb7 (by rw [sizeR]; rfl) rfl rfl ?_) | (refine store_blk rfl _ _ _ rfl (g7 + 1) (rrow tk3) rfl rfl _ _ hb9 (by rw [sizeP]; rfl) rfl rfl ?_))
    exact CutEnd.mk rfl ⟨_, _, _, _, _, _, rfl, (hb7.setRow _).farRow (by omega) _, hb9.setRow _, ((HB43.out.grow hg5).farRow (by have := HSG.out.1; omega) _).farRow (by have := HSG.out.1; omega) _, ((HB63.out.grow hg5).farRow (by have := HSG.out.1; omega) _).farRow (by have := HSG.out.1; omega) _, (hr.away hb7 _).awayOff (ho (g7 + 1) (by have := HSG.out.2; omega) (HN.out.off (by have := HSG.out.1; omega))) _, (ho _ (by have := HSG.out; omega) (HN.out.off (by omega))), Grow.setRow (Grow.setRow (HG3.out.trans hg5) (by have := HSG.out.1; omega) _) (by have := HSG.out.1; omega) _⟩
  by_cases k2 : x.k = 2
  · obtain rfl : T = ((dropS ps x.K).1, cs, (dropS ps x.K).2, zpk) := by rw [HT.out]; unfold toldS; rw [if_neg k0]; rw [if_neg k1]; rw [if_pos k2]
    have t0 : ((x.k : Int) == 0) = false := (HEK.out 0).trans (decide_eq_false k0)
    have u0 : (x.k == 0) = false := (HEK2.out 0).trans (decide_eq_false k0)
    have t1 : ((x.k : Int) == 1) = false := (HEK.out 1).trans (decide_eq_false k1)
    have u1 : (x.k == 1) = false := (HEK2.out 1).trans (decide_eq_false k1)
    have t2 : ((x.k : Int) == 2) = true := (HEK.out 2).trans (decide_eq_true k2)
    have u2 : (x.k == 2) = true := (HEK2.out 2).trans (decide_eq_true k2)
    have HC := Lib.hid (rdrop_any W3 n _ _ ps cs (HN.out.grow HG3.out) HL4.out.1 x.K)
    clear HT k0 k1 k2
    go_wp2_with fail
    refine HC.out.mono ?_
    rintro e w5 ⟨⟨B1, m1, d1, B2, m2, d2, rfl, hr, ho⟩, hg5⟩
    have hb7 := HB73.out.grow hg5
    go_wp2_with (first | (refine store_blk rfl _ _ _ rfl g7 [.int .i64 (n : Int), .slice B1 m1 d1, .slice B2 m2 d2] rfl rfl _ _ hb7 (by rw [sizeR]; rfl) rfl rfl ?_))
    exact CutEnd.mk rfl (JTd.net HB73.out HB93.out HB43.out HB63.out HG3.out hg5 (by have := HSG.out.1; omega) (by have := HSG.out.1; omega) (by have := HSG.out.1; omega) hr (ho _ (by have := HSG.out; omega) (HN.out.off (by omega))) rfl zpk rfl)
  by_cases k3 : x.k = 3
  · obtain rfl : T = ((twiceS ps x.K).1, cs, (twiceS ps x.K).2, zpk) := by rw [HT.out]; unfold toldS; rw [if_neg k0]; rw [if_neg k1]; rw [if_neg k2]; rw [if_pos k3]
    have t0 : ((x.k : Int) == 0) = false := (HEK.out 0).trans (decide_eq_false k0)
    have u0 : (x.k == 0) = false := (HEK2.out 0).trans (decide_eq_false k0)
    have t1 : ((x.k : Int) == 1) = false := (HEK.out 1).trans (decide_eq_false k1)
    have u1 : (x.k == 1) = false := (HEK2.out 1).trans (decide_eq_false k1)
    have t2 : ((x.k : Int) == 2) = false := (HEK.out 2).trans (decide_eq_false k2)
    have u2 : (x.k == 2) = false := (HEK2.out 2).trans (decide_eq_false k2)
    have t3 : ((x.k : Int) == 3) = true := (HEK.out 3).trans (decide_eq_true k3)
    have u3 : (x.k == 3) = true := (HEK2.out 3).trans (decide_eq_true k3)
    have HC := Lib.hid (rtwice_any W3 n _ _ ps cs (HN.out.grow HG3.out) HL4.out.1 x.K)
    clear HT k0 k1 k2 k3
    go_wp2_with fail
    refine HC.out.mono ?_
    rintro e w5 ⟨⟨B1, m1, d1, B2, m2, d2, rfl, hr, ho⟩, hg5⟩
    have hb7 := HB73.out.grow hg5
    go_wp2_with (first | (refine store_blk rfl _ _ _ rfl g7 [.int .i64 (n : Int), .slice B1 m1 d1, .slice B2 m2 d2] rfl rfl _ _ hb7 (by rw [sizeR]; rfl) rfl rfl ?_))
    exact CutEnd.mk rfl (JTd.net HB73.out HB93.out HB43.out HB63.out HG3.out hg5 (by have := HSG.out.1; omega) (by have := HSG.out.1; omega) (by have := HSG.out.1; omega) hr (ho _ (by have := HSG.out; omega) (HN.out.off (by omega))) rfl zpk rfl)
  by_cases k4 : x.k = 4
  · obtain rfl : T = ((spoilS ps x.K x.at_ x.m).1, cs, (spoilS ps x.K x.at_ x.m).2, zpk) := by rw [HT.out]; unfold toldS; rw [if_neg k0]; rw [if_neg k1]; rw [if_neg k2]; rw [if_neg k3]; rw [if_pos k4]
    have t0 : ((x.k : Int) == 0) = false := (HEK.out 0).trans (decide_eq_false k0)
    have u0 : (x.k == 0) = false := (HEK2.out 0).trans (decide_eq_false k0)
    have t1 : ((x.k : Int) == 1) = false := (HEK.out 1).trans (decide_eq_false k1)
    have u1 : (x.k == 1) = false := (HEK2.out 1).trans (decide_eq_false k1)
    have t2 : ((x.k : Int) == 2) = false := (HEK.out 2).trans (decide_eq_false k2)
    have u2 : (x.k == 2) = false := (HEK2.out 2).trans (decide_eq_false k2)
    have t3 : ((x.k : Int) == 3) = false := (HEK.out 3).trans (decide_eq_false k3)
    have u3 : (x.k == 3) = false := (HEK2.out 3).trans (decide_eq_false k3)
    have t4 : ((x.k : Int) == 4) = true := (HEK.out 4).trans (decide_eq_true k4)
    have u4 : (x.k == 4) = true := (HEK2.out 4).trans (decide_eq_true k4)
    have HC := Lib.hid (rspoil_any W3 n _ _ ps cs (HN.out.grow HG3.out) HL4.out.1 (fun p hp => (HPS.out p hp).2.2) x.K x.at_ x.m HX.out.lo2 HX.out.hi2)
    clear HT k0 k1 k2 k3 k4
    go_wp2_with fail
    refine HC.out.mono ?_
    rintro e w5 ⟨⟨B1, m1, d1, B2, m2, d2, rfl, hr, ho⟩, hg5⟩
    have hb7 := HB73.out.grow hg5
    go_wp2_with (first | (refine store_blk rfl _ _ _ rfl g7 [.int .i64 (n : Int), .slice B1 m1 d1, .slice B2 m2 d2] rfl rfl _ _ hb7 (by rw [sizeR]; rfl) rfl rfl ?_))
    exact CutEnd.mk rfl (JTd.net HB73.out HB93.out HB43.out HB63.out HG3.out hg5 (by have := HSG.out.1; omega) (by have := HSG.out.1; omega) (by have := HSG.out.1; omega) hr (ho _ (by have := HSG.out; omega) (HN.out.off (by omega))) rfl zpk rfl)
  by_cases k5 : x.k = 5
  · obtain ⟨c5, hc5⟩ : ∃ q, q = (if pairB n x.a x.b = true then cs ++ [(x.a, x.b)] else cs) := ⟨_, rfl⟩
    obtain ⟨er, her⟩ : ∃ q, q = (if pairB n x.a x.b = true then 0 else 1) := ⟨_, rfl⟩
    obtain rfl : T = (ps, c5, er, zpk) := by rw [HT.out]; unfold toldS; rw [if_neg k0]; rw [if_neg k1]; rw [if_neg k2]; rw [if_neg k3]; rw [if_neg k4]; rw [if_pos k5]; rw [← hc5, ← her]
    have t0 : ((x.k : Int) == 0) = false := (HEK.out 0).trans (decide_eq_false k0)
    have u0 : (x.k == 0) = false := (HEK2.out 0).trans (decide_eq_false k0)
    have t1 : ((x.k : Int) == 1) = false := (HEK.out 1).trans (decide_eq_false k1)
    have u1 : (x.k == 1) = false := (HEK2.out 1).trans (decide_eq_false k1)
    have t2 : ((x.k : Int) == 2) = false := (HEK.out 2).trans (decide_eq_false k2)
    have u2 : (x.k == 2) = false := (HEK2.out 2).trans (decide_eq_false k2)
    have t3 : ((x.k : Int) == 3) = false := (HEK.out 3).trans (decide_eq_false k3)
    have u3 : (x.k == 3) = false := (HEK2.out 3).trans (decide_eq_false k3)
    have t4 : ((x.k : Int) == 4) = false := (HEK.out 4).trans (decide_eq_false k4)
    have u4 : (x.k == 4) = false := (HEK2.out 4).trans (decide_eq_false k4)
    have t5 : ((x.k : Int) == 5) = true := (HEK.out 5).trans (decide_eq_true k5)
    have u5 : (x.k == 5) = true := (HEK2.out 5).trans (decide_eq_true k5)
    have hc := rcut_any W3 n _ _ ps cs (HN.out.grow HG3.out) HL4.out.2 x.a x.b HX.out.a HX.out.b
    rw [← hc5, ← her] at hc
    have HC := Lib.hid hc
    clear hc hc5 her
    clear HT k0 k1 k2 k3 k4 k5
    go_wp2_with fail
    refine HC.out.mono ?_
    rintro e w5 ⟨⟨B1, m1, d1, B2, m2, d2, rfl, hr, ho⟩, hg5⟩
    have hb7 := HB73.out.grow hg5
    go_wp2_with (first | (refine store_blk rfl _ _ _ rfl g7 [.int .i64 (n : Int), .slice B1 m1 d1, .slice B2 m2 d2] rfl rfl _ _ hb7 (by rw [sizeR]; rfl) rfl rfl ?_))
    exact CutEnd.mk rfl (JTd.net HB73.out HB93.out HB43.out HB63.out HG3.out hg5 (by have := HSG.out.1; omega) (by have := HSG.out.1; omega) (by have := HSG.out.1; omega) hr (ho _ (by have := HSG.out; omega) (HN.out.off (by omega))) rfl zpk rfl)
  by_cases k6 : x.k = 6
  · obtain rfl : T = (ps, [], 0, zpk) := by rw [HT.out]; unfold toldS; rw [if_neg k0]; rw [if_neg k1]; rw [if_neg k2]; rw [if_neg k3]; rw [if_neg k4]; rw [if_neg k5]; rw [if_pos k6]
    have t0 : ((x.k : Int) == 0) = false := (HEK.out 0).trans (decide_eq_false k0)
    have u0 : (x.k == 0) = false := (HEK2.out 0).trans (decide_eq_false k0)
    have t1 : ((x.k : Int) == 1) = false := (HEK.out 1).trans (decide_eq_false k1)
    have u1 : (x.k == 1) = false := (HEK2.out 1).trans (decide_eq_false k1)
    have t2 : ((x.k : Int) == 2) = false := (HEK.out 2).trans (decide_eq_false k2)
    have u2 : (x.k == 2) = false := (HEK2.out 2).trans (decide_eq_false k2)
    have t3 : ((x.k : Int) == 3) = false := (HEK.out 3).trans (decide_eq_false k3)
    have u3 : (x.k == 3) = false := (HEK2.out 3).trans (decide_eq_false k3)
    have t4 : ((x.k : Int) == 4) = false := (HEK.out 4).trans (decide_eq_false k4)
    have u4 : (x.k == 4) = false := (HEK2.out 4).trans (decide_eq_false k4)
    have t5 : ((x.k : Int) == 5) = false := (HEK.out 5).trans (decide_eq_false k5)
    have u5 : (x.k == 5) = false := (HEK2.out 5).trans (decide_eq_false k5)
    have t6 : ((x.k : Int) == 6) = true := (HEK.out 6).trans (decide_eq_true k6)
    have u6 : (x.k == 6) = true := (HEK2.out 6).trans (decide_eq_true k6)
    have HC := Lib.hid (rheal_any W3 n A1 l c1 (.slice A2 m c2))
    clear HT k0 k1 k2 k3 k4 k5 k6
    go_wp2_with fail
    refine HC.out.mono ?_
    rintro e w5 ⟨rfl, hg5⟩
    have hb7 := HB73.out.grow hg5
    go_wp2_with (first | (refine store_blk rfl _ _ _ rfl g7 [.int .i64 (n : Int), .slice A1 l c1, .slice none 0 0] rfl rfl _ _ hb7 (by rw [sizeR]; rfl) rfl rfl ?_))
    exact CutEnd.mk rfl (JTd.net HB73.out HB93.out HB43.out HB63.out HG3.out hg5 (by have := HSG.out.1; omega) (by have := HSG.out.1; omega) (by have := HSG.out.1; omega) ⟨(HN.out.grow (HG3.out.trans hg5)).l, LV.nil _ _ _⟩ ⟨(HN.out.off (by omega)).1, (LV.nil w 2 T2).off (by decide) (by omega)⟩ rfl zpk rfl)
  obtain rfl : T = (ps, cs, 0, zpk) := by rw [HT.out]; unfold toldS; rw [if_neg k0]; rw [if_neg k1]; rw [if_neg k2]; rw [if_neg k3]; rw [if_neg k4]; rw [if_neg k5]; rw [if_neg k6];
  have t0 : ((x.k : Int) == 0) = false := (HEK.out 0).trans (decide_eq_false k0)
  have u0 : (x.k == 0) = false := (HEK2.out 0).trans (decide_eq_false k0)
  have t1 : ((x.k : Int) == 1) = false := (HEK.out 1).trans (decide_eq_false k1)
  have u1 : (x.k == 1) = false := (HEK2.out 1).trans (decide_eq_false k1)
  have t2 : ((x.k : Int) == 2) = false := (HEK.out 2).trans (decide_eq_false k2)
  have u2 : (x.k == 2) = false := (HEK2.out 2).trans (decide_eq_false k2)
  have t3 : ((x.k : Int) == 3) = false := (HEK.out 3).trans (decide_eq_false k3)
  have u3 : (x.k == 3) = false := (HEK2.out 3).trans (decide_eq_false k3)
  have t4 : ((x.k : Int) == 4) = false := (HEK.out 4).trans (decide_eq_false k4)
  have u4 : (x.k == 4) = false := (HEK2.out 4).trans (decide_eq_false k4)
  have t5 : ((x.k : Int) == 5) = false := (HEK.out 5).trans (decide_eq_false k5)
  have u5 : (x.k == 5) = false := (HEK2.out 5).trans (decide_eq_false k5)
  have t6 : ((x.k : Int) == 6) = false := (HEK.out 6).trans (decide_eq_false k6)
  have u6 : (x.k == 6) = false := (HEK2.out 6).trans (decide_eq_false k6)
  clear HT k0 k1 k2 k3 k4 k5 k6
  go_wp2_with fail
  exact CutEnd.mk rfl ⟨_, _, _, _, _, _, rfl, HB73.out, HB93.out, HB43.out, HB63.out, HN.out.grow HG3.out, HN.out.off (by omega), HG3.out⟩
end Go.Proofs.Ytmekdhlcflielaa.ntL
