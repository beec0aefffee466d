/- The walks of the document's bits, further: moved, turned, Mix, Zig. -/
import Derived.Test.YtgpcijpadelcfaaBtR2
namespace Go.Proofs.Ytgpcijpadelcfaa.btW
open Go Go.RowKit Go.Par Go.Kit

def movedAt (l : List Bool) (n : Int) (i : Nat) : Bool := if 0 ≤ (i : Int) - n ∧ (i : Int) - n < 64 then (l[((i : Int) - n).toNat]?).getD false else false
def movedL (l : List Bool) (n : Int) : List Bool := (List.range 64).map (movedAt l n)
def turnedL (a b : List Bool) : List Bool := List.zipWith (fun x y => x != y) a b
theorem movedL_len (l : List Bool) (n : Int) : (movedL l n).length = 64 := by simp [movedL]
theorem moved_snoc (l : List Bool) (n : Int) (k : Nat) (h : k < 64) : (movedL l n).take (k + 1) = (movedL l n).take k ++ [movedAt l n k] := by
  rw [List.take_succ_eq_append_getElem (by rw [movedL_len]; exact h)]
  congr 2
  simp [movedL]
theorem turned_snoc (a b : List Bool) (k : Nat) {x y : Bool} (h1 : a[k]? = some x) (h2 : b[k]? = some y) : (turnedL a b).take (k + 1) = (turnedL a b).take k ++ [x != y] := by
  have h : (turnedL a b)[k]? = some (x != y) := by simp [turnedL, List.getElem?_zipWith, h1, h2]
  rw [List.take_succ_eq_append_getElem (List.getElem?_eq_some_iff.1 h).1, (List.getElem?_eq_some_iff.1 h).2]
theorem moved_up (x : BitVec 64) (k : Nat) : turnedL (Bt.bitsOf x) (movedL (Bt.bitsOf x) (k : Int)) = Bt.bitsOf (Bt.up k x) := by
  apply List.ext_getElem?
  intro i
  by_cases hi : i < 64
  · rw [Bt.bitsOf_at _ _ hi]
    simp only [turnedL, List.getElem?_zipWith, Bt.bitsOf_at x i hi, movedL, List.getElem?_map, List.getElem?_range hi, Option.map_some]
    congr 1
    unfold Bt.up movedAt
    rw [BitVec.getLsbD_xor, BitVec.getLsbD_shiftLeft]
    by_cases hk : k ≤ i
    · have e : ((i : Int) - (k : Int)).toNat = i - k := by omega
      rw [if_pos (by omega), e, Bt.bitsOf_at x _ (by omega)]
      simp [hi, show ¬ i < k by omega]
    · rw [if_neg (by omega)]
      simp [show i < k by omega]
  · rw [List.getElem?_eq_none (by simp [turnedL, movedL, Bt.bitsOf_len]; omega), List.getElem?_eq_none (by rw [Bt.bitsOf_len]; omega)]
theorem moved_dn (x : BitVec 64) (k : Nat) : turnedL (Bt.bitsOf x) (movedL (Bt.bitsOf x) (-(k : Int))) = Bt.bitsOf (Bt.dn k x) := by
  apply List.ext_getElem?
  intro i
  by_cases hi : i < 64
  · rw [Bt.bitsOf_at _ _ hi]
    simp only [turnedL, List.getElem?_zipWith, Bt.bitsOf_at x i hi, movedL, List.getElem?_map, List.getElem?_range hi, Option.map_some]
    congr 1
    unfold Bt.dn movedAt
    rw [BitVec.getLsbD_xor, BitVec.getLsbD_ushiftRight]
    by_cases hk : i + k < 64
    · have e : ((i : Int) - -(k : Int)).toNat = k + i := by omega
      rw [if_pos (by omega), e, Bt.bitsOf_at x _ (by omega)]
      try simp
    · rw [if_neg (by omega), BitVec.getLsbD_of_ge x (k + i) (by omega)]
      try simp
  · rw [List.getElem?_eq_none (by simp [turnedL, movedL, Bt.bitsOf_len]; omega), List.getElem?_eq_none (by rw [Bt.bitsOf_len]; omega)]

set_option maxHeartbeats 400000 in
theorem ref_moved_any (A : Option Addr) (c : Nat) (l : List Bool) (n : Int) (w : World) (hb : Bools w A 64 l) (hn1 : -100 ≤ n) (hn2 : n ≤ 100) :
    Calls Try.prog 63 #[.slice A 64 c, .int .i64 n] w fun e w' => ∃ v, e = .returned v ∧ OwnBools w' w.heap.size 4 v (movedL l n) ∧ Grow w w' := by
  go_enter Try.func63, Try.ntmps63
  go_wp2_with fail
  go_loopw [5, 6] (fun v i wr => ∃ k : Nat, k ≤ 64 ∧ i = .int .i64 k ∧ wr.ownsRow w.heap.size 4 1 v k (bools ((movedL l n).take k)) ∧ Grow w wr) (fun _ i _ => 64 - (intOf i).toNat)
  case atStart => exact ⟨0, by omega, rfl, by simpa [bools] using World.ownsRow_nil _ _ _ _, Grow.refl _⟩
  case round =>
    obtain ⟨k, hk, rfl, hown, hg⟩ := hrel
    by_cases hlt : k < 64
    · have hsn := moved_snoc l n k hlt
      have hsz := hg.size
      have HG := Lib.hid hg
      by_cases hin : 0 ≤ (k : Int) - n ∧ (k : Int) - n < 64
      · obtain ⟨j, hj⟩ : ∃ j : Nat, (k : Int) - n = j := ⟨((k : Int) - n).toNat, by omega⟩
        have hj64 : j < 64 := by omega
        obtain ⟨b, off, x, rfl, hx, hcell⟩ := (hb.grow hg).at_ (k := j) hj64
        have hm : movedAt l n k = x := by
          unfold movedAt
          rw [if_pos hin, hj]
          simp [hx]
        rw [hm] at hsn
        have HS := Lib.hid hsn
        have d1 : decide ((0 : Int) ≤ (j : Int)) = true := decide_eq_true (by omega)
        have d2 : decide ((j : Int) < 64) = true := decide_eq_true (by omega)
        clear hsn hm hx hin hg
        go_wp2_with (at_builtin; refine append_fresh 1 Try.underlying83 ib ibz ibs ibb rfl rfl _ _ rfl w.heap.size _ _ _ hown rfl rfl rfl ?_ ?_ ?_ ?_; (unfold maxLen; omega); omega; exact hsz; intro v1 w2 hown1 hgb1 hh1)
        go_roundw
        case rel =>
          refine ⟨k + 1, by omega, by go_num, ?_, grow_by (HG.out.trans (Grow.alloc wr _)) hgb1 (own_base hown)⟩
          rw [HS.out, ← bools_snoc]; exact hown1
        case measure => simp [intOf] <;> omega
      · have hm : movedAt l n k = false := by unfold movedAt; rw [if_neg hin]
        rw [hm] at hsn
        have HS := Lib.hid hsn
        obtain ⟨z, hz⟩ : ∃ z : Int, (k : Int) - n = z := ⟨_, rfl⟩
        have hz1 : z < 0 ∨ (0 ≤ z ∧ 64 ≤ z) := by omega
        clear hsn hm hin hg
        rcases hz1 with h0 | ⟨h0, h1⟩
        · have d1 : decide ((0 : Int) ≤ z) = false := decide_eq_false (by omega)
          go_wp2_with (at_builtin; refine append_fresh 1 Try.underlying83 ib ibz ibs ibb rfl rfl _ _ rfl w.heap.size _ _ _ hown rfl rfl rfl ?_ ?_ ?_ ?_; (unfold maxLen; omega); omega; exact hsz; intro v1 w2 hown1 hgb1 hh1)
          go_roundw
          case rel =>
            refine ⟨k + 1, by omega, by go_num, ?_, grow_by (HG.out.trans (Grow.alloc wr _)) hgb1 (own_base hown)⟩
            rw [HS.out, ← bools_snoc]; exact hown1
          case measure => simp [intOf] <;> omega
        · have d1 : decide ((0 : Int) ≤ z) = true := decide_eq_true h0
          have d2 : decide (z < 64) = false := decide_eq_false (by omega)
          go_wp2_with (at_builtin; refine append_fresh 1 Try.underlying83 ib ibz ibs ibb rfl rfl _ _ rfl w.heap.size _ _ _ hown rfl rfl rfl ?_ ?_ ?_ ?_; (unfold maxLen; omega); omega; exact hsz; intro v1 w2 hown1 hgb1 hh1)
          go_roundw
          case rel =>
            refine ⟨k + 1, by omega, by go_num, ?_, grow_by (HG.out.trans (Grow.alloc wr _)) hgb1 (own_base hown)⟩
            rw [HS.out, ← bools_snoc]; exact hown1
          case measure => simp [intOf] <;> omega
    · obtain rfl : k = 64 := by omega
      have h64 : (movedL l n).take 64 = movedL l n := List.take_of_length_le (by rw [movedL_len]; omega)
      rw [h64] at hown
      go_wp2_with fail
      go_ret
      refine ⟨_, rfl, ?_, hg⟩
      unfold OwnBools
      rw [movedL_len]
      exact hown

/-- the one-cell slice that append takes -/
def OneB (b : Bool) : Value → World → Prop := fun u w => ∃ g, u = .slice (some ⟨g, 0, none⟩) 1 1 ∧ Row w (some ⟨g, 0, none⟩) 1 [.bool b]
theorem OneB.mono {b : Bool} : Mono Grow (OneB b) := fun _ _ _ ⟨g, e, h⟩ hg => ⟨g, e, h.grow hg⟩

set_option maxRecDepth 100000 in
set_option maxHeartbeats 1000000 in
theorem ref_turned_any (A : Option Addr) (c : Nat) (l : List Bool) (A2 : Option Addr) (c2 : Nat) (l2 : List Bool) (w : World) (hb : Bools w A 64 l) (hb2 : Bools w A2 64 l2) :
    Calls Try.prog 62 #[.slice A 64 c, .slice A2 64 c2] w fun e w' => ∃ v, e = .returned v ∧ OwnBools w' w.heap.size 4 v (turnedL l l2) ∧ Grow w w' := by
  have hl1 := Lib.hid hb.len
  have hl2 := Lib.hid hb2.len
  go_enter Try.func62, Try.ntmps62
  go_wp2_with fail
  go_loopw [5, 6] (fun v i wr => ∃ k : Nat, k ≤ 64 ∧ i = .int .i64 k ∧ wr.ownsRow w.heap.size 4 1 v k (bools ((turnedL l l2).take k)) ∧ Grow w wr) (fun _ i _ => 64 - (intOf i).toNat)
  case atStart => exact ⟨0, by omega, rfl, by simpa [bools] using World.ownsRow_nil _ _ _ _, Grow.refl _⟩
  case round =>
    obtain ⟨k, hk, rfl, hown, hg⟩ := hrel
    by_cases hlt : k < 64
    · obtain ⟨b, off, x, rfl, hx, hcell⟩ := (hb.grow hg).at_ (k := k) hlt
      obtain ⟨b2, off2, y, rfl, hy, hcell2⟩ := (hb2.grow hg).at_ (k := k) hlt
      have HS := Lib.hid (turned_snoc l l2 k hx hy)
      have hsz := hg.size
      have HG := Lib.hid hg
      clear hx hy hg
      go_wp2_with fail
      apply (fun (v0 v1 v2 v3 v4 v5 v6 v7 v8 v9 : Value) mono obl tail => wp_region_par (R := Grow) (Φ := phi [veq v0, veq v1, veq v2, veq v3, veq v4, veq v5, veq v6, veq v7, veq v8, veq v9, (OneB (x != y))]) (m := 11) (dls := [[], [], [], [(12, 1), (13, 2)], [(14, 3)], [], [], [(16, 5), (17, 6)], [(18, 7)], [(15, 4), (19, 8)], [(20, 9)]]) (ds := [11, 12, 13, 14, 15, 16, 17, 18, 19, 20, 21]) (by kernel_rfl) (by kernel_rfl) (by decide) rfl (Grow.drew _) (fun _ _ _ => Grow.trans) (mono_phi mono) obl tail)
      case obl =>
        refine obls_cons (fun f w' hR hH Q hQ => ?_) ?_
        · skip
          have c1 := hR.cell hcell
          have c2 := hR.cell hcell2
          simp only [view, List.foldl]
          repeat (first | go_guarded | go_step)
          exact hQ _ _ (Grow.refl _) rfl rfl
        refine obls_cons (fun f w' hR hH Q hQ => ?_) ?_
        · skip
          have c1 := hR.cell hcell
          have c2 := hR.cell hcell2
          simp only [view, List.foldl]
          repeat (first | go_guarded | go_step)
          exact hQ _ _ (Grow.refl _) rfl rfl
        refine obls_cons (fun f w' hR hH Q hQ => ?_) ?_
        · skip
          have c1 := hR.cell hcell
          have c2 := hR.cell hcell2
          simp only [view, List.foldl]
          repeat (first | go_guarded | go_step)
          exact hQ _ _ (Grow.refl _) rfl rfl
        refine obls_cons (fun f w' hR hH Q hQ => ?_) ?_
        · skip
          have c1 := hR.cell hcell
          have c2 := hR.cell hcell2
          obtain ⟨h1, h2, -⟩ := hH
          simp only [view, List.foldl, Act.put, List.setIfInBounds_toArray, List.set_cons_zero, List.set_cons_succ]
          rw [show f 1 = _ from h1]
          rw [show f 2 = _ from h2]
          clear h1 h2
          repeat (first | go_guarded | go_step)
          exact hQ _ _ (Grow.refl _) rfl rfl
        refine obls_cons (fun f w' hR hH Q hQ => ?_) ?_
        · skip
          have c1 := hR.cell hcell
          have c2 := hR.cell hcell2
          obtain ⟨h3, -⟩ := hH
          simp only [view, List.foldl, Act.put, List.setIfInBounds_toArray, List.set_cons_zero, List.set_cons_succ]
          rw [show f 3 = _ from h3]
          clear h3
          repeat (first | go_guarded | go_step)
          exact hQ _ _ (Grow.refl _) rfl rfl
        refine obls_cons (fun f w' hR hH Q hQ => ?_) ?_
        · skip
          have c1 := hR.cell hcell
          have c2 := hR.cell hcell2
          simp only [view, List.foldl]
          repeat (first | go_guarded | go_step)
          exact hQ _ _ (Grow.refl _) rfl rfl
        refine obls_cons (fun f w' hR hH Q hQ => ?_) ?_
        · skip
          have c1 := hR.cell hcell
          have c2 := hR.cell hcell2
          simp only [view, List.foldl]
          repeat (first | go_guarded | go_step)
          exact hQ _ _ (Grow.refl _) rfl rfl
        refine obls_cons (fun f w' hR hH Q hQ => ?_) ?_
        · skip
          have c1 := hR.cell hcell
          have c2 := hR.cell hcell2
          obtain ⟨h5, h6, -⟩ := hH
          simp only [view, List.foldl, Act.put, List.setIfInBounds_toArray, List.set_cons_zero, List.set_cons_succ]
          rw [show f 5 = _ from h5]
          rw [show f 6 = _ from h6]
          clear h5 h6
          repeat (first | go_guarded | go_step)
          exact hQ _ _ (Grow.refl _) rfl rfl
        refine obls_cons (fun f w' hR hH Q hQ => ?_) ?_
        · skip
          have c1 := hR.cell hcell
          have c2 := hR.cell hcell2
          obtain ⟨h7, -⟩ := hH
          simp only [view, List.foldl, Act.put, List.setIfInBounds_toArray, List.set_cons_zero, List.set_cons_succ]
          rw [show f 7 = _ from h7]
          clear h7
          repeat (first | go_guarded | go_step)
          exact hQ _ _ (Grow.refl _) rfl rfl
        refine obls_cons (fun f w' hR hH Q hQ => ?_) ?_
        · skip
          have c1 := hR.cell hcell
          have c2 := hR.cell hcell2
          obtain ⟨h4, h8, -⟩ := hH
          simp only [view, List.foldl, Act.put, List.setIfInBounds_toArray, List.set_cons_zero, List.set_cons_succ]
          rw [show f 4 = _ from h4]
          rw [show f 8 = _ from h8]
          clear h4 h8
          repeat (first | go_guarded | go_step)
          exact hQ _ _ (Grow.refl _) rfl rfl
        refine obls_cons (fun f w' hR hH Q hQ => ?_) ?_
        · skip
          have c1 := hR.cell hcell
          have c2 := hR.cell hcell2
          obtain ⟨h9, -⟩ := hH
          simp only [view, List.foldl, Act.put, List.setIfInBounds_toArray, List.set_cons_zero, List.set_cons_succ]
          rw [show f 9 = _ from h9]
          clear h9
          repeat (first | go_guarded | go_step)
          exact hQ _ _ (Grow.alloc _ _) ⟨_, rfl, Row.new _ [.bool (x != y)] _ _⟩ rfl
        exact obls_nil
      case mono => exact ⟨Mono.veq _, Mono.veq _, Mono.veq _, Mono.veq _, Mono.veq _, Mono.veq _, Mono.veq _, Mono.veq _, Mono.veq _, Mono.veq _, OneB.mono, trivial⟩
      case tail =>
        intro f w' hR hH
        simp only [view, List.zipIdx, List.foldl, Act.put, List.setIfInBounds_toArray, List.set_cons_zero, List.set_cons_succ, List.drop_succ_cons, List.drop_zero]
        obtain ⟨q0, -, -, -, -, -, -, -, -, -, q10, -⟩ := hH
        rw [show f 0 = _ from q0]
        replace q10 : (OneB (x != y)) (f 10) w' := q10
        clear q0
        generalize f 1 = x1
        generalize f 2 = x2
        generalize f 3 = x3
        generalize f 4 = x4
        generalize f 5 = x5
        generalize f 6 = x6
        generalize f 7 = x7
        generalize f 8 = x8
        generalize f 9 = x9
        generalize f 10 = x10 at *
        obtain ⟨g, hu, hrow⟩ := q10
        rw [hu]
        have hown' := own_grow hown hR
        have hsz' := hR.size
        go_wp2_with (at_builtin; refine wpList_append_row rfl _ _ 83 rfl w.heap.size 4 _ (.bool false) 1 1 Try.underlying83 ib ibz ibs ibb rfl (by decide) _ _ _ rfl hown' _ 1 1 [.bool (x != y)] rfl ?_ ?_ ?_ ?_ ?_ ?_; (rw [Nat.mul_one]; exact hrow); (intro q hq; simp only [List.mem_singleton] at hq; rw [hq]; rfl); (unfold maxLen; omega); omega; omega; intro v1 w2 hown1 hgb1 hh1)
        go_roundw
        case rel =>
          refine ⟨k + 1, by omega, by go_num, ?_, grow_by (HG.out.trans hR) hgb1 (own_base hown)⟩
          rw [HS.out, ← bools_snoc]; exact hown1
        case measure => simp [intOf] <;> omega
    · obtain rfl : k = 64 := by omega
      have hll : (turnedL l l2).length = 64 := by simp [turnedL, hl1.out, hl2.out]
      have h64 : (turnedL l l2).take 64 = turnedL l l2 := List.take_of_length_le (by omega)
      rw [h64] at hown
      go_wp2_with fail
      go_ret
      refine ⟨_, rfl, ?_, hg⟩
      unfold OwnBools
      rw [hll]
      exact hown
end Go.Proofs.Ytgpcijpadelcfaa.btW
