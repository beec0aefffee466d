/- The walk of ReachTurns. -/
import Derived.Test.YtjfohglkpbgkaaaReL
import Derived.Test.YtjfohglkpbgkaaaCut
namespace Go.Proofs.Ytjfohglkpbgkaaa.reL
open Go Go.RowKit Go.Par Go.Kit Go.Proofs.Ytjfohglkpbgkaaa.Mk Go.Proofs.Ytjfohglkpbgkaaa.mkW Go.Proofs.Ytjfohglkpbgkaaa.Re Go.Proofs.Ytjfohglkpbgkaaa.reW

/-- the cells of steps as they are told -/
def isteps (L : List (Int × Int)) : List Value := (L.map prow).flatten
theorem isteps_snoc (L : List (Int × Int)) (p : Int × Int) : isteps L ++ prow p = isteps (L ++ [p]) := by simp [isteps]
theorem isteps_app (L M : List (Int × Int)) : isteps L ++ isteps M = isteps (L ++ M) := by simp [isteps]
theorem isteps_one (L : List (Int × Int)) : ∀ u ∈ isteps L, u.oneCell' = true := by
  intro u hu
  obtain ⟨r, hr, hu⟩ := List.mem_flatten.1 hu
  obtain ⟨p, _, rfl⟩ := List.mem_map.1 hr
  simp only [prow, List.mem_cons, List.not_mem_nil, or_false] at hu
  rcases hu with rfl | rfl <;> rfl
theorem isteps_len (L : List (Int × Int)) : (isteps L).length = L.length * 2 := by
  induction L with
  | nil => rfl
  | cons p L ih => simp only [isteps, List.map_cons, List.flatten_cons, List.length_append] at ih ⊢; rw [ih]; simp [prow]; omega
theorem isteps_take (L : List (Int × Int)) : ∀ m, (isteps L).take (m * 2) = isteps (L.take m) := by
  induction L with
  | nil => intro m; simp [isteps]
  | cons p L ih =>
    intro m
    cases m with
    | zero => simp [isteps]
    | succ m =>
      have := ih m
      rw [show (m + 1) * 2 = m * 2 + 1 + 1 by omega]
      simp only [isteps, List.map_cons, List.flatten_cons, List.take_succ_cons, prow, List.cons_append, List.nil_append] at this ⊢
      rw [this]
theorem recs_take {w : World} {A : Option Addr} {n m : Nat} {xs : List (Int × Int)} (h : Recs 2 prow w A n xs) (hm : m ≤ n) : Row w A (m * 2) (isteps (xs.take m)) := by
  have := h.2.2.take (show m * 2 ≤ n * 2 by omega)
  rwa [show (xs.map prow).flatten = isteps xs from rfl, isteps_take] at this
theorem recs_own {w : World} {base : Nat} {A : Option Addr} {n c k : Nat} {L : List (Int × Int)} (h : w.ownsRow base T2 2 (.slice A n c) k (isteps L)) (hk : k = L.length) : Recs 2 prow w A n L ∧ n = L.length := by
  obtain ⟨A', c', e, h1, h2, h3⟩ := own_form h
  injection e with e1 e2 e3
  subst e1; subst e2; subst hk
  exact ⟨⟨rfl, fun _ => rfl, h3⟩, rfl⟩
theorem vp_turned {n m : Nat} {xs : List (Int × Int)} : leadB (vp n (xs.reverse ++ xs.take m)) = leadB (vp n xs) := by
  refine leadB_congr fun p => ?_
  unfold vp
  simp only [List.mem_map, List.mem_filter, List.mem_append, List.mem_reverse]
  constructor
  · rintro ⟨x, ⟨h1 | h1, h2⟩, h3⟩
    · exact ⟨x, ⟨h1, h2⟩, h3⟩
    · exact ⟨x, ⟨List.mem_of_mem_take h1, h2⟩, h3⟩
  · rintro ⟨x, ⟨h1, h2⟩, h3⟩
    exact ⟨x, ⟨.inl h1, h2⟩, h3⟩
theorem drop_rev {α : Type} {xs : List α} {k : Nat} {x : α} (h : xs[k]? = some x) : (xs.drop k).reverse = (xs.drop (k + 1)).reverse ++ [x] := by
  obtain ⟨h1, h2⟩ := List.getElem?_eq_some_iff.1 h
  rw [List.drop_eq_getElem_cons h1, h2, List.reverse_cons]
/-- the steps told so far, the other way round -/
structure RT (w0 : World) (xs : List (Int × Int)) (k : Nat) (v : Value) (w : World) : Prop where
  g : Grow w0 w
  own : w.ownsRow w0.heap.size T2 2 v (xs.drop k).reverse.length (isteps (xs.drop k).reverse)
theorem RT.step {w0 w w1 w2 : World} {xs : List (Int × Int)} {k : Nat} {v v1 : Value} {x : Int × Int} (h : RT w0 xs (k + 1) v w) (hx : xs[k]? = some x) (hg : Grow w w1) (hgb : w1.grownBy w2 v.ownBlock)
    (ho : w2.ownsRow w0.heap.size T2 2 v1 ((xs.drop (k + 1)).reverse.length + 1) (isteps (xs.drop (k + 1)).reverse ++ prow x)) : RT w0 xs k v1 w2 := by
  refine ⟨grow_by (h.g.trans hg) hgb (own_base h.own), ?_⟩
  rw [drop_rev hx, List.length_append, ← isteps_snoc]
  exact ho
set_option linter.unusedSimpArgs false in
set_option maxRecDepth 100000 in
set_option maxHeartbeats 8000000 in
theorem turns_walk (n0 : Int) (A : Option Addr) (len c : Nat) (xs : List (Int × Int)) (w : World) (hr : Recs 2 prow w A len xs) (hc : len ≤ c) (hx : ∀ x ∈ xs, PairOk x)
    (y0 : Int) (p0 : 0 ≤ y0) (r0 : y0 ≤ 255) (hn64 : -9223372036854775808 ≤ n0) :
    Calls Try.prog 7 #[.int .i64 n0, .slice A len c, .int .u8 y0] w fun e w' => e = .returned (.bool true) ∧ Grow w w' := by
  have HWK := Lib.hid (works_any w)
  by_cases h20 : 20 < n0
  · skip
    have t2 : decide (20 < n0) = true := decide_eq_true h20
    clear h20 hr hx p0 r0 hn64
    go_enter Try.func7, Try.ntmps7
    go_wp2_with fail
    refine HWK.out.mono ?_
    rintro e w1 ⟨rfl, hg1⟩
    go_wp2_with fail
    go_ret
    exact ⟨rfl, hg1⟩
  · have t2 : decide (20 < n0) = false := decide_eq_false h20
    by_cases h60 : 60 < len
    · skip
      have t3 : decide (60 < len) = true := decide_eq_true h60
      have t4 : decide ((60 : Int) < (len : Int)) = true := decide_eq_true (by omega)
      clear h20 h60 hr hx p0 r0 hn64
      go_enter Try.func7, Try.ntmps7
      go_wp2_with fail
      refine HWK.out.mono ?_
      rintro e w1 ⟨rfl, hg1⟩
      go_wp2_with fail
      go_ret
      exact ⟨rfl, hg1⟩
    · have t3 : decide (60 < len) = false := decide_eq_false h60
      have t4 : decide ((60 : Int) < (len : Int)) = false := decide_eq_false (by omega)
      have hl60 : len ≤ 60 := by omega
      have hn20 : n0 ≤ 20 := by omega
      obtain ⟨n, hn⟩ : ∃ n, n = clampN n0 := ⟨_, rfl⟩
      obtain ⟨m, hm, hml⟩ : ∃ m : Nat, y0 % ((len : Int) + 1) = m ∧ m ≤ len := ⟨(y0 % ((len : Int) + 1)).toNat, by have := Int.emod_nonneg y0 (show (len : Int) + 1 ≠ 0 by omega); omega, by have := Int.emod_nonneg y0 (show (len : Int) + 1 ≠ 0 by omega); have := Int.emod_lt_of_pos y0 (show 0 < (len : Int) + 1 by omega); omega⟩
      have hof := fun w' (hg : Grow w w') => reW.of_any w' n0 A len c xs (hr.grow hg) (by omega) hx
      have HN := Lib.hid hn
      rw [← hn] at hof
      obtain ⟨R, hR⟩ : ∃ R, R = leadB (vp n xs) := ⟨_, rfl⟩
      rw [← hR] at hof
      have HOF := Lib.hid hof
      have HX := Lib.hid hx
      have HR := Lib.hid hr
      have HRR := Lib.hid hR
      have HM := Lib.hid hm
      have hs1 := slice_hi (P := Try.prog) Try.underlying54 i2 A len c m (by omega)
      have HXL := Lib.hid hr.1
      have HN64 := Lib.hid hn64
      have HML := Lib.hid hml
      have HP0 := Lib.hid p0
      clear h20 h60 hr hx hof hR hm hn hn64 hml
      go_enter Try.func7, Try.ntmps7
      go_wp2_with fail
      go_loopw [7, 8] (fun v0 i' wr => ∃ (k : Nat) (v : Value), k ≤ len ∧ i' = .int .i64 ((k : Int) - 1) ∧ v = v0 ∧ RT w xs k v wr) (fun _ i' _ => (intOf i' + 1).toNat)
      case atStart => exact ⟨len, _, by omega, rfl, rfl, Grow.refl _, by rw [List.drop_eq_nil_of_le (by rw [HXL.out]; exact Nat.le_refl _)]; exact World.ownsRow_nil _ _ _ _⟩
      case round =>
        obtain ⟨k, v, hkl, rfl, rfl, rt⟩ := hrel
        have HRT := Lib.hid rt
        cases k with
        | succ k =>
          rw [show (((k + 1 : Nat) : Int)) - 1 = (k : Int) by omega]
          obtain ⟨b, off, x, rfl, hxk, hcell⟩ := HR.out.at_ (by decide) (show k < len by omega)
          obtain ⟨x1, x2⟩ := x
          have HXK := Lib.hid hxk
          have hcl : ∀ j v, [Value.int .i64 x1, Value.int .i64 x2][j]? = some v → wr.cell? ⟨b, off + k * 2 + j, none⟩ = some v := fun j v hv => rt.g.cell (hcell j v hv)
          have HCL := Lib.hid hcl
          have t9 : decide ((0 : Int) ≤ (k : Int)) = true := decide_eq_true (by omega)
          clear hxk hcell hcl rt
          have HLK : Hid ((xs.drop (k + 1)).reverse.length ≤ 60) := Lib.hid (by rw [List.length_reverse, List.length_drop]; have := HXL.out; omega)
          go_wp2_with (first
            | (refine load_cells rfl _ _ rfl b (off + k * 2) rfl [.int .i64 x1, .int .i64 x2] _ HCL.out und2 rfl (by rw [size2]; rfl) ?_)
            | (refine wpList_append_row rfl _ _ _ rfl w.heap.size T2 _ _ 2 16 Try.underlying54 i2 i2z i2s i2b rfl (by decide) _ (xs.drop (k + 1)).reverse.length (isteps (xs.drop (k + 1)).reverse) rfl (own_grow HRT.out.own (Grow.alloc _ _)) (some ⟨wr.heap.size, 0, none⟩) 1 1 (prow (x1, x2)) rfl (Row.new _ (prow (x1, x2)) T2 (0, 0)) (by simp [prow, Value.oneCell']) (by have := HLK.out; unfold maxLen; omega) (by have := HLK.out; omega) (Nat.le_trans HRT.out.g.size (by simp)) ?_; intro v1 w1 hown1 hgb1 _))
          go_roundw
          case rel => exact ⟨k, v1, by omega, rfl, rfl, HRT.out.step HXK.out (Grow.alloc _ _) hgb1 hown1⟩
          case measure => simp [intOf] <;> omega
        | zero =>
          have t9 : decide ((0 : Int) ≤ ((0 : Nat) : Int) - 1) = false := decide_eq_false (by omega)
          have hrt := HRT.out
          have e1 : (xs.drop 0).reverse.length = len := by rw [List.length_reverse, List.drop_zero, HXL.out]
          obtain ⟨A2, c2, e2, -⟩ := own_form hrt.own
          have hs2 := HM.out
          have HO : Hid (wr.ownsRow w.heap.size T2 2 v len (isteps xs.reverse)) := Lib.hid (by have := hrt.own; rw [e1, List.drop_zero] at this; exact this)
          have HGr : Hid (Grow w wr) := Lib.hid hrt.g
          have HTK : Hid (Row wr A (m * 2) (isteps (xs.take m))) := Lib.hid (recs_take (HR.out.grow hrt.g) HML.out)
          clear hrt e1 e2 rt HRT
          go_wp2_with (refine wpList_append_row rfl _ _ _ rfl w.heap.size T2 _ _ 2 16 Try.underlying54 i2 i2z i2s i2b rfl (by decide) v len (isteps xs.reverse) rfl HO.out A m c (isteps (xs.take m)) rfl HTK.out (isteps_one _) (by have := HML.out; unfold maxLen; omega) (by have := HML.out; omega) HGr.out.size ?_; intro v3 w3 hown3 hgb3 _)
          have HG3 : Hid (Grow w w3) := Lib.hid (grow_by HGr.out hgb3 (own_base HO.out))
          rw [isteps_app] at hown3
          obtain ⟨A3, c3, rfl, hc3, -, -⟩ := own_form hown3
          obtain ⟨hrc, -⟩ := recs_own hown3 (by rw [List.length_append, List.length_reverse, List.length_take, HXL.out]; have := HML.out; omega)
          have HRC := Lib.hid hrc
          have hof3 := HOF.out w3 HG3.out
          have HOF3 := Lib.hid hof3
          clear hown3 hgb3 hc3 hrc hof3 HO HTK
          refine HOF3.out.mono ?_
          rintro e w4 ⟨gr, rfl, hrel, hg4⟩
          have HREL := Lib.hid hrel
          have HG4 := Lib.hid hg4
          have hof4 := reW.of_any w4 n0 A3 (len + m) c3 _ (HRC.out.grow hg4) (by have := HML.out; omega) (fun x hx => by
            rcases List.mem_append.1 hx with hx | hx
            · exact HX.out x (List.mem_reverse.1 hx)
            · exact HX.out x (List.mem_of_mem_take hx))
          rw [← HN.out, vp_turned, ← HRR.out] at hof4
          have HOF4 := Lib.hid hof4
          clear hrel hg4 hof4 HOF3
          go_wp2_with fail
          refine HOF4.out.mono ?_
          rintro e w5 ⟨gs, rfl, hrel, hg5⟩
          have HRELS := Lib.hid hrel
          have HG5 : Hid (Grow w w5) := Lib.hid (HG3.out.trans (HG4.out.trans hg5))
          have HRELR := Lib.hid (HREL.out.grow hg5)
          have KH : Hid (∀ (w' : World) (i j : Int), Grow w5 w' → i64ok i → Calls Try.prog 41 #[.pointer (some ⟨gr, 0, none⟩), .int .i64 i, .int .i64 j] w' fun e w2 => e = .returned (.bool (leadI R i j)) ∧ w' = w2) := Lib.hid fun w' i j hg hi => hasr_any w' gr n R (HRELR.out.grow hg) i j hi.1 hi.2
          have KS : Hid (∀ (w' : World) (i j : Int), Grow w5 w' → i64ok i → Calls Try.prog 41 #[.pointer (some ⟨gs, 0, none⟩), .int .i64 i, .int .i64 j] w' fun e w2 => e = .returned (.bool (leadI R i j)) ∧ w' = w2) := Lib.hid fun w' i j hg hi => hasr_any w' gs n R (HRELS.out.grow hg) i j hi.1 hi.2
          have AH : Hid (∀ (w' : World) (i j : Int), Grow w5 w' → i64ok i → i64ok j → Calls Try.prog 46 #[.pointer (some ⟨gr, 0, none⟩), .int .i64 i, .int .i64 j] w' fun e w2 => e = .returned (.bool (alikeI n R i j)) ∧ w' = w2) := Lib.hid fun w' i j hg hi hj => alike_any w' gr n R (HRELR.out.grow hg) i j hi.1 hi.2 hj.1 hj.2
          have AS : Hid (∀ (w' : World) (i j : Int), Grow w5 w' → i64ok i → i64ok j → Calls Try.prog 46 #[.pointer (some ⟨gs, 0, none⟩), .int .i64 i, .int .i64 j] w' fun e w2 => e = .returned (.bool (alikeI n R i j)) ∧ w' = w2) := Lib.hid fun w' i j hg hi hj => alike_any w' gs n R (HRELS.out.grow hg) i j hi.1 hi.2 hj.1 hj.2
          clear hrel hg5 HOF4 HOF HREL HRELS HRELR HWK
          go_wp2_with fail
          go_loopw [11] (fun i' wr => ∃ (k : Nat), k ≤ 20 ∧ i' = .int .i64 (k : Int) ∧ w5 = wr) (fun i' _ => 20 - (intOf i').toNat)
          case atStart => exact ⟨0, by omega, rfl, rfl⟩
          case round =>
            obtain ⟨k, hk20, rfl, rfl⟩ := hrel
            have HKI : Hid (i64ok (k : Int)) := Lib.hid ⟨by omega, by omega⟩
            by_cases hlt : (k : Int) < n0
            · have t5 : decide ((k : Int) < n0) = true := decide_eq_true hlt
              have HLTk := Lib.hid hlt
              clear hlt
              go_wp2_with fail
              go_loopw [12] (fun i' wr => ∃ (m : Nat), m ≤ 20 ∧ i' = .int .i64 (m : Int) ∧ w5 = wr) (fun i' _ => 20 - (intOf i').toNat)
              case atStart => exact ⟨0, by omega, rfl, rfl⟩
              case round =>
                obtain ⟨j, hj20, rfl, rfl⟩ := hrel
                have HJI : Hid (i64ok (j : Int)) := Lib.hid ⟨by omega, by omega⟩
                by_cases hlt2 : (j : Int) < n0
                · have t6 : decide ((j : Int) < n0) = true := decide_eq_true hlt2
                  have HLTj := Lib.hid hlt2
                  obtain ⟨q, hq⟩ : ∃ q, q = leadI R (k : Int) (j : Int) := ⟨_, rfl⟩
                  obtain ⟨p, hp⟩ : ∃ p, p = alikeI n R (k : Int) (j : Int) := ⟨_, rfl⟩
                  have a1 := KH.out w5 (k : Int) (j : Int) (Grow.refl _) HKI.out
                  have a2 := KS.out w5 (k : Int) (j : Int) (Grow.refl _) HKI.out
                  have a3 := AH.out w5 (k : Int) (j : Int) (Grow.refl _) HKI.out HJI.out
                  have a4 := AS.out w5 (k : Int) (j : Int) (Grow.refl _) HKI.out HJI.out
                  rw [← hq] at a1 a2
                  rw [← hp] at a3 a4
                  have B1 := Lib.hid a1
                  have B2 := Lib.hid a2
                  have B3 := Lib.hid a3
                  have B4 := Lib.hid a4
                  have hqq : (q != q) = false := bne_self_eq_false q
                  have hpp : (p != p) = false := bne_self_eq_false p
                  clear hq hp a1 a2 a3 a4 hlt2
                  go_wp2_with fail
                  refine B1.out.mono ?_
                  rintro e w6 ⟨rfl, rfl⟩
                  go_wp2_with fail
                  refine B2.out.mono ?_
                  rintro e w6 ⟨rfl, rfl⟩
                  go_wp2_with fail
                  refine B3.out.mono ?_
                  rintro e w6 ⟨rfl, rfl⟩
                  go_wp2_with fail
                  refine B4.out.mono ?_
                  rintro e w6 ⟨rfl, rfl⟩
                  go_wp2_with fail
                  go_roundw
                  case rel => exact ⟨j + 1, by have := HLTj.out; omega, by go_num, trivial⟩
                  case measure => have := HLTj.out; simp [intOf] <;> omega
                · have t6 : decide ((j : Int) < n0) = false := decide_eq_false hlt2
                  clear hlt2
                  go_wp2_with fail
                  go_roundw
                  case rel => exact ⟨k + 1, by have := HLTk.out; omega, by go_num, trivial⟩
                  case measure => have := HLTk.out; simp [intOf] <;> omega
            · have t5 : decide ((k : Int) < n0) = false := decide_eq_false hlt
              clear hlt
              have HWK := Lib.hid (works_any w5)
              go_wp2_with fail
              refine HWK.out.mono ?_
              rintro e w1 ⟨rfl, hg1⟩
              go_wp2_with fail
              go_ret
              exact ⟨rfl, HG5.out.trans hg1⟩
end Go.Proofs.Ytjfohglkpbgkaaa.reL
