/- The walk of the document's union; and the law's Ints. -/
import Derived.Test.YtjfohglkpbgkaaaMkR3
namespace Go.Proofs.Ytjfohglkpbgkaaa.mkR
open Go Go.RowKit Go.Par Go.Kit Go.Proofs.Ytjfohglkpbgkaaa.Mk Go.Proofs.Ytjfohglkpbgkaaa.mkW

/-- one step of a union -/
def stepL (N : Nat) (p : List Nat × Bool) (x : Nat) : List Nat × Bool := (putL N p.1 (x : Int), p.2 || !badP N p.1 (x : Int))
def orL (N : Nat) (L L2 : List Nat) : List Nat × Bool := L2.foldl (stepL N) (L, false)
theorem putL_len (N : Nat) (L : List Nat) (i : Int) : (putL N L i).length ≤ L.length + 1 := by
  unfold putL
  split
  · omega
  · have : ∀ l : List Nat, (l.filter (fun (x : Nat) => decide ((x : Int) < i))).length + (l.filter (fun (x : Nat) => decide (i < (x : Int)))).length ≤ l.length := by
      intro l
      induction l with
      | nil => simp
      | cons a l ih =>
        simp only [List.filter_cons]
        by_cases h1 : (a : Int) < i
        · have h2 : ¬ i < (a : Int) := by omega
          simp only [h1, h2, decide_true, decide_false, if_true, List.length_cons]
          simp only [Bool.false_eq_true, if_false]
          omega
        · by_cases h2 : i < (a : Int)
          · simp only [h1, h2, decide_true, decide_false, if_true, List.length_cons]
            simp only [Bool.false_eq_true, if_false]
            omega
          · simp only [h1, h2, decide_false, List.length_cons]
            simp only [Bool.false_eq_true, if_false]
            omega
    have := this L
    simp only [List.length_append, List.length_cons, List.length_nil]
    omega
theorem fold_take {α β : Type} (f : β → α → β) (b : β) {l : List α} {k : Nat} {x : α} (h : l[k]? = some x) : (l.take (k + 1)).foldl f b = f ((l.take k).foldl f b) x := by
  rw [List.take_add_one, h, List.foldl_append]; rfl
/-- what a call that hands back a set and a word of truth hands back -/
def IsPut (N : Int) (c : Bool) (L : List Nat) : Value → Nat → World → Prop := fun u b w => ∃ v', u = .tuple #[.agg #[.int .i64 N, v'], .bool c] ∧ (b = 0 → IntsV w v' L)
def IsSet (N : Int) (L : List Nat) : Value → World → Prop := fun u w => ∃ v', u = .agg #[.int .i64 N, v'] ∧ IntsV w v' L
theorem IsPut.mono {N : Int} {c : Bool} {L : List Nat} {Rp : (Nat → Value) → World → World → Prop} {i : Nat} : Mono2 Grow Rp i (IsPut N c L) :=
  ⟨fun _ _ _ _ ⟨v', e, h⟩ hg => ⟨v', e, fun hb => (h hb).grow hg⟩, fun _ _ _ _ ⟨v', e, _⟩ _ => ⟨v', e, fun hb => absurd hb (by omega)⟩⟩
theorem IsSet.mono {N : Int} {L : List Nat} : Mono Grow (IsSet N L) := fun _ _ _ ⟨v', e, h⟩ hg => ⟨v', e, h.grow hg⟩
/-- the box of a set that is filled by the pivot -/
def BoxP (n0 : Nat) (N : Int) (L : List Nat) : Value → Nat → World → Prop := fun u b w => ∃ g, u = .pointer (some ⟨g, 0, none⟩) ∧ n0 ≤ g ∧ (b = 0 → Blk w g TX [.int .i64 0, .slice none 0 0]) ∧ (b = 1 → ∃ v', Blk w g TX [.int .i64 N, v'] ∧ IntsV w v' L)
def RpP (N : Int) (L : List Nat) (i : Nat) : (Nat → Value) → World → World → Prop := fun f _ w' => ∃ g, f i = .pointer (some ⟨g, 0, none⟩) ∧ ∃ v', Blk w' g TX [.int .i64 N, v'] ∧ IntsV w' v' L
theorem BoxP.mono {n0 : Nat} {N : Int} {L : List Nat} {i : Nat} : Mono2 Grow (RpP N L i) i (BoxP n0 N L) := by
  refine ⟨?_, ?_⟩
  · rintro v b w w' ⟨g, e, hg0, h0, h1⟩ hg
    exact ⟨g, e, hg0, fun hb => (h0 hb).grow hg, fun hb => let ⟨v', a, c⟩ := h1 hb; ⟨v', a.grow hg, c.grow hg⟩⟩
  · rintro f b w w' ⟨g, e, hg0, h0, h1⟩ ⟨g', e', v', hb', hi'⟩
    have : g = g' := by
      rw [e] at e'
      injection e' with e'; injection e' with e'; injection e'
    subst this
    refine ⟨g, e, hg0, fun hb => absurd hb (by omega), fun hb => ⟨v', hb', hi'⟩⟩
set_option maxRecDepth 100000 in
set_option maxHeartbeats 1000000 in
theorem ref_or (w : World) (N : Nat) (M : Int) (v v2 : Value) (L L2 : List Nat) (hv : IntsV w v L) (hv2 : IntsV w v2 L2) (hL : L.length + L2.length ≤ 1000000) (hN : N ≤ 65536) :
    Calls Try.prog 26 #[.agg #[.int .i64 (N : Int), v], .agg #[.int .i64 M, v2]] w fun e w' => ∃ v', e = .returned (.tuple #[.agg #[.int .i64 (N : Int), v'], .bool (orL N L L2).2]) ∧ IntsV w' v' (orL N L L2).1 ∧ Grow w w' := by
  have HV := Lib.hid hv
  clear hv
  have HV2 := Lib.hid hv2
  obtain ⟨A, c, rfl, h1, h2, h3, -⟩ := hv2
  unfold maxLen at h2
  obtain ⟨r, hr⟩ : ∃ r, r = orL N L L2 := ⟨_, rfl⟩
  rw [← hr]
  have HR := Lib.hid hr
  obtain ⟨n, hn⟩ : ∃ n, n = L2.length := ⟨_, rfl⟩
  have HN := Lib.hid hn
  rw [← hn] at h1 h3 hL HV2 ⊢
  obtain ⟨W, hW⟩ : ∃ W, W = ((w.alloc (.cells #[.int .i64 (N : Int), v] TX)).alloc (.cells #[.int .i64 M, .slice A n c] TX)).alloc (.cells #[.int .i64 0, .slice none 0 0] TX) := ⟨_, rfl⟩
  obtain ⟨b0, hb0⟩ : ∃ b0, b0 = w.heap.size := ⟨_, rfl⟩
  have hgW : Grow w W := by rw [hW]; exact ((Grow.alloc w _).trans (Grow.alloc _ _)).trans (Grow.alloc _ _)
  have hbx : Blk W b0 TX [.int .i64 (N : Int), v] := by rw [hW]; exact (Blk.new w _ _ _ rfl hb0).grow ((Grow.alloc _ _).trans (Grow.alloc _ _))
  have hby : Blk W (b0 + 1) TX [.int .i64 M, .slice A n c] := by rw [hW]; exact (Blk.new _ _ _ _ rfl (by simp [hb0])).grow (Grow.alloc _ _)
  have hbz : Blk W (b0 + 2) TX [.int .i64 0, .slice none 0 0] := by rw [hW]; exact Blk.new _ _ _ _ rfl (by simp [hb0])
  have HBX := Lib.hid hbx
  have HBY := Lib.hid hby
  have HBZ := Lib.hid hbz
  have HW := Lib.hid hW
  have HB0 := Lib.hid hb0
  have HGW := Lib.hid hgW
  clear hr h3 hn hW hb0 hgW hbx hby hbz
  go_enter Try.func26, Try.ntmps26
  go_wp2_with fail
  rw [← HW.out, ← HB0.out]
  go_loopw [6, 7] (fun c' i' wr => ∃ (k : Nat) (cb : Bool) (vc : Value) (Lc : List Nat), k ≤ n ∧ i' = .int .i64 (k : Int) ∧ c' = .bool cb ∧ (Lc, cb) = (L2.take k).foldl (stepL N) (L, false) ∧ Lc.length ≤ L.length + k ∧ Grow w wr ∧ Blk wr b0 TX [.int .i64 (N : Int), vc] ∧ Blk wr (b0 + 1) TX [.int .i64 M, .slice A n c] ∧ Blk wr (b0 + 2) TX [.int .i64 0, .slice none 0 0] ∧ IntsV wr vc Lc ∧ IntsV wr (.slice A n c) L2) (fun _ i' _ => n - (intOf i').toNat)
  case atStart => exact ⟨0, false, v, L, by omega, rfl, rfl, rfl, by omega, HGW.out, HBX.out, HBY.out, HBZ.out, HV.out.grow HGW.out, HV2.out.grow HGW.out⟩
  case round =>
    obtain ⟨k, cb, vc, Lc, hk, rfl, rfl, hfold, hlc, hg, hbx, hby, hbz, hic, hi2⟩ := hrel
    have z1 := hby.cell (i := 1) rfl
    by_cases hlt : k < n
    · have hrow : Row wr A L2.length (L2.map nv) := by
        obtain ⟨A', c', e, -, -, h, -⟩ := hi2
        injection e with e1 e2 e3
        subst e1
        exact h
      obtain ⟨b, off, x, rfl, hx, hcell⟩ := Row.nat_at hrow (k := k) (by have := HN.out; omega)
      obtain ⟨q, hq⟩ : ∃ q, q = !badP N Lc (x : Int) := ⟨_, rfl⟩
      obtain ⟨Ln, hLn⟩ : ∃ Ln, Ln = putL N Lc (x : Int) := ⟨_, rfl⟩
      have HF : Hid ((Ln, cb || q) = (L2.take (k + 1)).foldl (stepL N) (L, false)) := Lib.hid (by rw [fold_take _ _ hx, ← hfold, hLn, hq]; rfl)
      have hlen : Ln.length ≤ L.length + (k + 1) := by rw [hLn]; have := putL_len N Lc (x : Int); omega
      have HH : Hid (∀ w', Grow wr w' → Calls Try.prog 23 #[.agg #[.int .i64 (N : Int), vc], .int .i64 (x : Int)] w' fun e w2 => ∃ v', e = .returned (.tuple #[.agg #[.int .i64 (N : Int), v'], .bool q]) ∧ IntsV w2 v' Ln ∧ Grow w' w2) := Lib.hid fun w' hg' => by
        rw [hq, hLn]; exact ref_put w' N vc Lc (hic.grow hg') (x : Int) (by omega) hN
      have HBXr := Lib.hid hbx
      have HBYr := Lib.hid hby
      have HBZr := Lib.hid hbz
      have HI2 := Lib.hid hi2
      have HG := Lib.hid hg
      have HS : Hid (b0 + 2 < wr.heap.size) := Lib.hid hbz.lt
      clear hrow hx hfold hlc hg hbx hby hbz hic hi2 hq hLn
      go_wp2_with fail
      apply (fun (v0 v1 v2 v3 v4 v5 v9 v12 : Value) mono draw obl tail => wp_region_piv (I := fun _ w' => Grow wr w') (G := Grow) (Rp := RpP (N : Int) Ln 10) (Φ := phi2 [veq2 v0, veq2 v1, veq2 v2, veq2 v3, veq2 v4, veq2 v5, (IsPut (N : Int) q Ln), (IsPut (N : Int) q Ln), (from2 0 (IsSet (N : Int) Ln)), veq2 v9, (BoxP wr.heap.size (N : Int) Ln), (veq2 undef), veq2 v12]) (m := 13) (ps := [11]) (qs := [(0, 0, false), (0, 0, false), (0, 0, false), (0, 0, false), (0, 0, false), (0, 0, false), (0, 0, false), (0, 0, false), (0, 0, false), (0, 1, false), (0, 0, false), (0, 0, true), (1, 1, false)]) (dls := [[], [], [(19, 1)], [], [(20, 2), (21, 3)], [(22, 4)], [(18, 0), (23, 5)], [(24, 6)], [(17, 7)], [(17, 7)], [], [(8, 10), (25, 8)], [(26, 9)]]) (ds := [18, 19, 20, 21, 22, 23, 24, 17, 25, 26, 8, 46, 9]) (by kernel_rfl) (by kernel_rfl) (by kernel_rfl) (by decide) rfl rfl draw (mono2_phi mono) (piv2_phi mono) obl tail)
      case obl =>
        refine obls2_cons (fun b hb1 hb2 f w' hI hH Q hQ => ?_) ?_
        · skip
          obtain rfl : b = 0 := by omega
          clear hb1 hb2
          clear hH
          refine wpList_view ?_; show wpList _ _ _ [_] ⟨#[_, _, _, _, _, _, _, _, _, _, _, _, _, _, _, _, _, _, _, _, _, _, _, _, _, _, _, _, _, _, _, _, _, _], _⟩ _
          have hby2 := HBXr.out.grow hI
          go_wp2_with (refine load_blk rfl _ _ rfl b0 rfl _ _ _ hby2 undX rfl (by rw [sizeX]; rfl) ?_)
          exact hQ _ _ hI (Grow.refl _) rfl rfl
        refine obls2_cons (fun b hb1 hb2 f w' hI hH Q hQ => ?_) ?_
        · skip
          obtain rfl : b = 0 := by omega
          clear hb1 hb2
          clear hH
          refine wpList_view ?_; show wpList _ _ _ [_] ⟨#[_, _, _, _, _, _, _, _, _, _, _, _, _, _, _, _, _, _, _, _, _, _, _, _, _, _, _, _, _, _, _, _, _, _], _⟩ _
          repeat (first | go_guarded | go_step)
          exact hQ _ _ hI (Grow.refl _) rfl rfl
        refine obls2_cons (fun b hb1 hb2 f w' hI hH Q hQ => ?_) ?_
        · skip
          obtain rfl : b = 0 := by omega
          clear hb1 hb2
          have h1 := hH.get 0 (19, 1) rfl
          clear hH
          refine wpList_view ?_; show wpList _ _ _ [_] ⟨#[_, _, _, _, _, _, _, _, _, _, _, _, _, _, _, _, _, _, _, f 1, _, _, _, _, _, _, _, _, _, _, _, _, _, _], _⟩ _
          rw [show f 1 = _ from h1]
          clear h1
          have y1 := hI.cell z1
          repeat (first | go_guarded | go_step)
          exact hQ _ _ hI (Grow.refl _) rfl rfl
        refine obls2_cons (fun b hb1 hb2 f w' hI hH Q hQ => ?_) ?_
        · skip
          obtain rfl : b = 0 := by omega
          clear hb1 hb2
          clear hH
          refine wpList_view ?_; show wpList _ _ _ [_] ⟨#[_, _, _, _, _, _, _, _, _, _, _, _, _, _, _, _, _, _, _, _, _, _, _, _, _, _, _, _, _, _, _, _, _, _], _⟩ _
          repeat (first | go_guarded | go_step)
          exact hQ _ _ hI (Grow.refl _) rfl rfl
        refine obls2_cons (fun b hb1 hb2 f w' hI hH Q hQ => ?_) ?_
        · skip
          obtain rfl : b = 0 := by omega
          clear hb1 hb2
          have h2 := hH.get 0 (20, 2) rfl
          have h3 := hH.get 1 (21, 3) rfl
          clear hH
          refine wpList_view ?_; show wpList _ _ _ [_] ⟨#[_, _, _, _, _, _, _, _, _, _, _, _, _, _, _, _, _, _, _, _, f 2, f 3, _, _, _, _, _, _, _, _, _, _, _, _], _⟩ _
          rw [show f 2 = _ from h2]
          rw [show f 3 = _ from h3]
          clear h2 h3
          repeat (first | go_guarded | go_step)
          exact hQ _ _ hI (Grow.refl _) rfl rfl
        refine obls2_cons (fun b hb1 hb2 f w' hI hH Q hQ => ?_) ?_
        · skip
          obtain rfl : b = 0 := by omega
          clear hb1 hb2
          have h4 := hH.get 0 (22, 4) rfl
          clear hH
          refine wpList_view ?_; show wpList _ _ _ [_] ⟨#[_, _, _, _, _, _, _, _, _, _, _, _, _, _, _, _, _, _, _, _, _, _, f 4, _, _, _, _, _, _, _, _, _, _, _], _⟩ _
          rw [show f 4 = _ from h4]
          clear h4
          have y2 := hI.cell hcell
          repeat (first | go_guarded | go_step)
          exact hQ _ _ hI (Grow.refl _) rfl rfl
        refine obls2_cons (fun b hb1 hb2 f w' hI hH Q hQ => ?_) ?_
        · skip
          obtain rfl : b = 0 := by omega
          clear hb1 hb2
          have h0 := hH.get 0 (18, 0) rfl
          have h5 := hH.get 1 (23, 5) rfl
          clear hH
          refine wpList_view ?_; show wpList _ _ _ [_] ⟨#[_, _, _, _, _, _, _, _, _, _, _, _, _, _, _, _, _, _, f 0, _, _, _, _, f 5, _, _, _, _, _, _, _, _, _, _], _⟩ _
          rw [show f 0 = _ from h0]
          rw [show f 5 = _ from h5]
          clear h0 h5
          have HIg := Lib.hid hI
          clear hI
          go_wp2_with (go_at_call 23; refine (HH.out _ HIg.out).mono ?_; rintro e w1 ⟨v1, rfl, hi1, hg1⟩)
          exact hQ _ _ (HIg.out.trans hg1) hg1 ⟨v1, rfl, fun _ => hi1⟩ rfl
        refine obls2_cons (fun b hb1 hb2 f w' hI hH Q hQ => ?_) ?_
        · skip
          obtain rfl : b = 0 := by omega
          clear hb1 hb2
          have h6 := hH.get 0 (24, 6) rfl
          clear hH
          refine wpList_view ?_; show wpList _ _ _ [_] ⟨#[_, _, _, _, _, _, _, _, _, _, _, _, _, _, _, _, _, _, _, _, _, _, _, _, f 6, _, _, _, _, _, _, _, _, _], _⟩ _
          replace h6 : (IsPut (N : Int) q Ln) (f 6) 0 w' := h6
          obtain ⟨u6, hu6⟩ : ∃ u, u = f 6 := ⟨_, rfl⟩
          rw [← hu6]
          rw [← hu6] at h6
          clear hu6
          go_wp2_with fail
          exact hQ _ _ hI (Grow.refl _) h6 rfl
        refine obls2_cons (fun b hb1 hb2 f w' hI hH Q hQ => ?_) ?_
        · skip
          obtain rfl : b = 0 := by omega
          clear hb1 hb2
          have h7 := hH.get 0 (17, 7) rfl
          clear hH
          refine wpList_view ?_; show wpList _ _ _ [_] ⟨#[_, _, _, _, _, _, _, _, _, _, _, _, _, _, _, _, _, f 7, _, _, _, _, _, _, _, _, _, _, _, _, _, _, _, _], _⟩ _
          replace h7 : (IsPut (N : Int) q Ln) (f 7) 0 w' := h7
          obtain ⟨u7, hu7⟩ : ∃ u, u = f 7 := ⟨_, rfl⟩
          rw [← hu7]
          rw [← hu7] at h7
          clear hu7
          obtain ⟨v1, rfl, hi1⟩ := h7
          have hi2 := hi1 rfl
          clear hi1
          go_wp2_with fail
          exact hQ _ _ hI (Grow.refl _) (from2.mk ⟨v1, rfl, hi2⟩) rfl
        refine obls2_cons (fun b hb1 hb2 f w' hI hH Q hQ => ?_) ?_
        · skip
          have h7 := hH.get 0 (17, 7) rfl
          clear hH
          refine wpList_view ?_; show wpList _ _ _ [_] ⟨#[_, _, _, _, _, _, _, _, _, _, _, _, _, _, _, _, _, f 7, _, _, _, _, _, _, _, _, _, _, _, _, _, _, _, _], _⟩ _
          replace h7 : (IsPut (N : Int) q Ln) (f 7) b w' := h7
          obtain ⟨u7, hu7⟩ : ∃ u, u = f 7 := ⟨_, rfl⟩
          rw [← hu7]
          rw [← hu7] at h7
          clear hu7
          obtain ⟨v1, rfl, -⟩ := h7
          go_wp2_with fail
          exact hQ _ _ hI (Grow.refl _) rfl rfl
        refine obls2_cons (fun b hb1 hb2 f w' hI hH Q hQ => ?_) ?_
        · skip
          obtain rfl : b = 0 := by omega
          clear hb1 hb2
          clear hH
          refine wpList_view ?_; show wpList _ _ _ [_] ⟨#[_, _, _, _, _, _, _, _, _, _, _, _, _, _, _, _, _, _, _, _, _, _, _, _, _, _, _, _, _, _, _, _, _, _], _⟩ _
          have HIg := Lib.hid hI
          clear hI
          go_wp2_with fail
          exact hQ _ _ (HIg.out.trans (Grow.alloc _ _)) (Grow.alloc _ _) ⟨_, rfl, HIg.out.size, fun _ => Blk.new _ _ _ _ rfl rfl, fun h => absurd h (by decide)⟩ rfl
        refine oblsP_cons (fun f w' hI hH Q hQ => ?_) ?_
        · skip
          have h10 := hH.get 0 (8, 10) rfl
          have h8 := hH.get 1 (25, 8) rfl
          clear hH
          refine wpList_view ?_; show wpList _ _ _ [_] ⟨#[_, _, _, _, _, _, _, _, f 10, _, _, _, _, _, _, _, _, _, _, _, _, _, _, _, _, f 8, _, _, _, _, _, _, _, _], _⟩ _
          replace h10 : (BoxP wr.heap.size (N : Int) Ln) (f 10) 0 w' := h10
          obtain ⟨u10, hu10⟩ : ∃ u, u = f 10 := ⟨_, rfl⟩
          rw [← hu10]
          rw [← hu10] at h10
          have HU10 : Hid (f 10 = u10) := Lib.hid hu10.symm
          clear hu10
          replace h8 : (from2 0 (IsSet (N : Int) Ln)) (f 8) 0 w' := h8
          obtain ⟨u8, hu8⟩ : ∃ u, u = f 8 := ⟨_, rfl⟩
          rw [← hu8]
          rw [← hu8] at h8
          have HU8 : Hid (f 8 = u8) := Lib.hid hu8.symm
          clear hu8
          have HIg := Lib.hid hI
          obtain ⟨g, rfl, hg0, hgz, -⟩ := h10
          have hzb := hgz rfl
          obtain ⟨v1, rfl, hi1⟩ := h8.get
          have HI1 := Lib.hid hi1
          have HG0 := Lib.hid hg0
          obtain ⟨A8, c8, rfl, -⟩ := hi1
          clear hI hgz hg0
          go_wp2_with (refine store_blk rfl _ _ _ rfl g [.int .i64 (N : Int), (.slice A8 Ln.length c8)] rfl rfl _ _ hzb (by rw [sizeX]; rfl) rfl rfl ?_)
          have hrp : RpP (N : Int) Ln 10 f w' (w'.setRow g #[.int .i64 (N : Int), (.slice A8 Ln.length c8)]) := ⟨g, HU10.out, _, hzb.setRow [.int .i64 (N : Int), (.slice A8 Ln.length c8)], HI1.out.far hzb _⟩
          exact hQ _ _ (Grow.setRow HIg.out HG0.out _) hrp rfl rfl
        refine obls2_cons (fun b hb1 hb2 f w' hI hH Q hQ => ?_) ?_
        · skip
          obtain rfl : b = 1 := by omega
          clear hb1 hb2
          have h9 := hH.get 0 (26, 9) rfl
          clear hH
          refine wpList_view ?_; show wpList _ _ _ [_] ⟨#[_, _, _, _, _, _, _, _, _, _, _, _, _, _, _, _, _, _, _, _, _, _, _, _, _, _, f 9, _, _, _, _, _, _, _], _⟩ _
          rw [show f 9 = _ from h9]
          clear h9
          repeat (first | go_guarded | go_step)
          exact hQ _ _ hI (Grow.refl _) rfl rfl
        exact obls2_nil
      case draw =>
        exact Grow.drew _
      case mono => exact ⟨Mono2.veq _, Mono2.veq _, Mono2.veq _, Mono2.veq _, Mono2.veq _, Mono2.veq _, IsPut.mono, IsPut.mono, Mono2.from IsSet.mono, Mono2.veq _, BoxP.mono, Mono2.veq _, Mono2.veq _, trivial⟩
      case tail =>
        intro f w' hI hH
        have q10 : (BoxP wr.heap.size (N : Int) Ln) (f 10) 1 w' := hH.get 10 (8, 10) rfl
        have q12 := hH.get 12 (9, 12) rfl
        clear hH
        refine wpList_merge (idx := [none, none, none, none, none, none, none, none, some 10, some 12, none, none, none, none, none, none, none, some 7, some 0, some 1, some 2, some 3, some 4, some 5, some 6, some 8, some 9, none, none, none, none, none, none, none]) (by kernel_rfl) ?_; show wpList _ _ _ [] ⟨#[_, _, _, _, _, _, _, _, f 10, f 12, _, _, _, _, _, _, _, f 7, f 0, f 1, f 2, f 3, f 4, f 5, f 6, f 8, f 9, _, _, _, _, _, _, _], _⟩ _
        rw [show f 12 = _ from q12]
        clear q12
        generalize f 10 = x10 at *
        obtain ⟨g8, rfl, hg8, -, hp8⟩ := q10
        obtain ⟨v1, hb8, hi1⟩ := hp8 rfl
        have HI0 := Lib.hid hi1
        obtain ⟨A8, c8, rfl, -⟩ := hi1
        have HIg := Lib.hid hI
        have HI1 := Lib.hid (HI0.out.far (HBXr.out.grow hI) #[.int .i64 (N : Int), (.slice A8 Ln.length c8)])
        have hbx2 := HBXr.out.grow hI
        have HNE : Hid (b0 ≠ g8 ∧ w.heap.size ≤ b0) := Lib.hid (by have := HS.out; have := HB0.out; omega)
        clear hI hp8 hg8 z1 hcell
        cases cb <;> cases q
        · go_wp2_with (first | (refine load_blk rfl _ _ rfl g8 rfl _ _ _ hb8 undX rfl (by rw [sizeX]; rfl) ?_) | (refine store_blk rfl _ _ _ rfl b0 [.int .i64 (N : Int), (.slice A8 Ln.length c8)] rfl rfl _ _ hbx2 (by rw [sizeX]; rfl) rfl rfl ?_))
          have HBX2 := Lib.hid (hbx2.setRow [.int .i64 (N : Int), (.slice A8 Ln.length c8)])
          have HGR := Lib.hid (Grow.setRow (HG.out.trans HIg.out) HNE.out.2 #[.int .i64 (N : Int), (.slice A8 Ln.length c8)])
          have HBYR := Lib.hid ((HBYr.out.grow HIg.out).farRow (k := b0) (by omega) #[.int .i64 (N : Int), (.slice A8 Ln.length c8)])
          have HBZR := Lib.hid ((HBZr.out.grow HIg.out).farRow (k := b0) (by omega) #[.int .i64 (N : Int), (.slice A8 Ln.length c8)])
          have HI2R := Lib.hid ((HI2.out.grow HIg.out).far hbx2 #[.int .i64 (N : Int), (.slice A8 Ln.length c8)])
          clear hbx2 hb8
          go_roundw
          case rel => exact ⟨k + 1, _, _, Ln, by omega, by go_num, rfl, HF.out, hlen, HGR.out, HBX2.out, HBYR.out, HBZR.out, HI1.out, HI2R.out⟩
          case measure => simp [intOf] <;> omega
        · go_wp2_with (first | (refine load_blk rfl _ _ rfl g8 rfl _ _ _ hb8 undX rfl (by rw [sizeX]; rfl) ?_) | (refine store_blk rfl _ _ _ rfl b0 [.int .i64 (N : Int), (.slice A8 Ln.length c8)] rfl rfl _ _ hbx2 (by rw [sizeX]; rfl) rfl rfl ?_))
          have HBX2 := Lib.hid (hbx2.setRow [.int .i64 (N : Int), (.slice A8 Ln.length c8)])
          have HGR := Lib.hid (Grow.setRow (HG.out.trans HIg.out) HNE.out.2 #[.int .i64 (N : Int), (.slice A8 Ln.length c8)])
          have HBYR := Lib.hid ((HBYr.out.grow HIg.out).farRow (k := b0) (by omega) #[.int .i64 (N : Int), (.slice A8 Ln.length c8)])
          have HBZR := Lib.hid ((HBZr.out.grow HIg.out).farRow (k := b0) (by omega) #[.int .i64 (N : Int), (.slice A8 Ln.length c8)])
          have HI2R := Lib.hid ((HI2.out.grow HIg.out).far hbx2 #[.int .i64 (N : Int), (.slice A8 Ln.length c8)])
          clear hbx2 hb8
          go_roundw
          case rel => exact ⟨k + 1, _, _, Ln, by omega, by go_num, rfl, HF.out, hlen, HGR.out, HBX2.out, HBYR.out, HBZR.out, HI1.out, HI2R.out⟩
          case measure => simp [intOf] <;> omega
        · go_wp2_with (first | (refine load_blk rfl _ _ rfl g8 rfl _ _ _ hb8 undX rfl (by rw [sizeX]; rfl) ?_) | (refine store_blk rfl _ _ _ rfl b0 [.int .i64 (N : Int), (.slice A8 Ln.length c8)] rfl rfl _ _ hbx2 (by rw [sizeX]; rfl) rfl rfl ?_))
          have HBX2 := Lib.hid (hbx2.setRow [.int .i64 (N : Int), (.slice A8 Ln.length c8)])
          have HGR := Lib.hid (Grow.setRow (HG.out.trans HIg.out) HNE.out.2 #[.int .i64 (N : Int), (.slice A8 Ln.length c8)])
          have HBYR := Lib.hid ((HBYr.out.grow HIg.out).farRow (k := b0) (by omega) #[.int .i64 (N : Int), (.slice A8 Ln.length c8)])
          have HBZR := Lib.hid ((HBZr.out.grow HIg.out).farRow (k := b0) (by omega) #[.int .i64 (N : Int), (.slice A8 Ln.length c8)])
          have HI2R := Lib.hid ((HI2.out.grow HIg.out).far hbx2 #[.int .i64 (N : Int), (.slice A8 Ln.length c8)])
          clear hbx2 hb8
          go_roundw
          case rel => exact ⟨k + 1, _, _, Ln, by omega, by go_num, rfl, HF.out, hlen, HGR.out, HBX2.out, HBYR.out, HBZR.out, HI1.out, HI2R.out⟩
          case measure => simp [intOf] <;> omega
        · go_wp2_with (first | (refine load_blk rfl _ _ rfl g8 rfl _ _ _ hb8 undX rfl (by rw [sizeX]; rfl) ?_) | (refine store_blk rfl _ _ _ rfl b0 [.int .i64 (N : Int), (.slice A8 Ln.length c8)] rfl rfl _ _ hbx2 (by rw [sizeX]; rfl) rfl rfl ?_))
          have HBX2 := Lib.hid (hbx2.setRow [.int .i64 (N : Int), (.slice A8 Ln.length c8)])
          have HGR := Lib.hid (Grow.setRow (HG.out.trans HIg.out) HNE.out.2 #[.int .i64 (N : Int), (.slice A8 Ln.length c8)])
          have HBYR := Lib.hid ((HBYr.out.grow HIg.out).farRow (k := b0) (by omega) #[.int .i64 (N : Int), (.slice A8 Ln.length c8)])
          have HBZR := Lib.hid ((HBZr.out.grow HIg.out).farRow (k := b0) (by omega) #[.int .i64 (N : Int), (.slice A8 Ln.length c8)])
          have HI2R := Lib.hid ((HI2.out.grow HIg.out).far hbx2 #[.int .i64 (N : Int), (.slice A8 Ln.length c8)])
          clear hbx2 hb8
          go_roundw
          case rel => exact ⟨k + 1, _, _, Ln, by omega, by go_num, rfl, HF.out, hlen, HGR.out, HBX2.out, HBYR.out, HBZR.out, HI1.out, HI2R.out⟩
          case measure => simp [intOf] <;> omega
    · obtain rfl : k = n := by omega
      have e : L2.take k = L2 := List.take_of_length_le (by have := HN.out; omega)
      rw [e] at hfold
      have hr1 : r = (Lc, cb) := by rw [HR.out, hfold]; rfl
      subst hr1
      have HI1 : Hid (∀ l, IntsV (wr.setRow (b0 + 2) l) vc Lc) := Lib.hid fun l => hic.far hbz l
      have HG := Lib.hid hg
      have HNE : Hid (w.heap.size ≤ b0 + 2) := Lib.hid (by have := HB0.out; omega)
      obtain ⟨A8, c8, rfl, -⟩ := hic
      clear e hfold hg hi2 HR
      go_wp2_with (first | (refine load_blk rfl _ _ rfl b0 rfl _ _ _ hbx undX rfl (by rw [sizeX]; rfl) ?_) | (refine store_blk rfl _ _ _ rfl (b0 + 2) [.int .i64 (N : Int), .slice A8 Lc.length c8] rfl rfl _ _ hbz (by rw [sizeX]; rfl) rfl rfl ?_))
      exact ret_blk_tmp rfl (b0 + 2) _ [.int .i64 (N : Int), .slice A8 Lc.length c8] _ _ rfl (hbz.setRow [.int .i64 (N : Int), .slice A8 Lc.length c8]) undX rfl (by rw [sizeX]; rfl) rfl rfl ⟨_, rfl, HI1.out _, Grow.setRow HG.out HNE.out _⟩
end Go.Proofs.Ytjfohglkpbgkaaa.mkR
