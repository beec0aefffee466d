/- BlockFork's walk (printed by gen_bkg.py). -/
import Derived.Test.YtbcifodifadoiaaBkF
namespace Go.Proofs.Ytbcifodifadoiaa.bk
open Go Go.RowKit Go.Par Go.Kit Go.Proofs.Ytbcifodifadoiaa.Bk Go.Proofs.Ytbcifodifadoiaa.reW Go.Proofs.Ytbcifodifadoiaa.mkW Go.Proofs.Ytbcifodifadoiaa.Re

theorem slice_bothS {P : Program} {t e : TypeId} {i : TypeInfo} {S : Nat} (ht : P.underlying t = some (.slice e)) (hi : P.info? e = some i) (hs : i.size = S) (A : Option Addr) (n c k m : Nat) (hk : k ≤ m) (hm : m ≤ c) (w : World) :
    (Instr.slice t (.slice A n c) (some (.int .i64 (k : Int))) (some (.int .i64 (m : Int))) none).run P w = .ok (.slice (Kit.cutS A c k S) (m - k) (c - k)) w := by
  simp [Instr.slice, run_underlying ht, Instr.sliceBounds, run_sliceBound, sizeOf, typeInfo, hi, hs, hk, hm, Kit.cutS]
theorem drop_cells : ∀ (k : Nat) (qs : List (T × Value)), ((qs.drop k).map qcells).flatten = ((qs.map qcells).flatten).drop (k * 3)
  | 0, qs => by simp
  | k + 1, [] => by simp
  | k + 1, q :: qs => by
    rw [List.drop_succ_cons, drop_cells k qs, List.map_cons, List.flatten_cons, List.drop_append]
    have h3 : (qcells q).length = 3 := rfl
    have h4 : (qcells q).drop ((k + 1) * 3) = [] := List.drop_eq_nil_of_le (by rw [h3]; omega)
    rw [h4, h3, List.nil_append]
    congr 1
    omega
/-- one block of some, as a slice of its own -/
theorem TsV.one {w : World} {P : Nat → Prop} {A : Option Addr} {n c : Nat} {ts : List T} (h : TsV w P (.slice A n c) ts) {k : Nat} {t : T} (ht : ts[k]? = some t) : TsV w P (.slice (Kit.cutS A c k 3) 1 (c - k)) [t] := by
  obtain ⟨A', c', qs, e, hq, h1, h2, h3, h4, h5⟩ := h.form
  injection e with e1 e2 e3
  subst e1; subst e2; subst e3
  have hk : k < ts.length := (List.getElem?_eq_some_iff.1 ht).1
  have hkq : k < qs.length := by rw [h3.1]; exact hk
  have hqk : qs[k].1 = t := by
    rw [hq, List.getElem?_map, List.getElem?_eq_getElem hkq] at ht
    exact Option.some.inj ht
  have hdrop := drop_cells k qs
  have hrow := Row.cutS h3.2.2 (k := k) (c := c) (by omega) h1
  rw [← hdrop] at hrow
  have hrow1 := hrow.take (k := 1 * 3) (by omega)
  have e2 : ((qs.drop k).map qcells).flatten.take (1 * 3) = ([qs[k]].map qcells).flatten := by
    rw [List.drop_eq_getElem_cons hkq, List.map_cons, List.flatten_cons]
    rfl
  rw [e2] at hrow1
  refine .mk _ 1 (c - k) [qs[k]] [t] (by rw [List.map_cons, hqk]; rfl) (by omega) (by omega) ⟨rfl, h3.2.1, hrow1⟩ (fun _ ad had => ?_) fun q hq2 => ?_
  · unfold Kit.cutS at had
    split at had
    · exact h4 (by omega) ad had
    · cases hA : A with
      | none => rw [hA] at had; cases had
      | some a0 =>
        rw [hA] at had
        injection had with had
        have h9 := h4 (by omega) a0 hA
        rw [← had]
        have e9 : (a0.add (k * 3)).block = a0.block := by unfold Addr.add; split <;> rfl
        rw [e9]
        exact h9
  · rw [List.mem_singleton.1 hq2]
    exact h5 _ (List.getElem_mem hkq)
/-- steps of the call's own -/
def OwnP (w : World) (base : Nat) (v : Value) (n : Nat) (xs : List (Int × Int)) : Prop := w.ownsRow base T2 2 v n (xs.map prow).flatten ∧ xs.length = n
theorem OwnP.recs {w : World} {base : Nat} {v : Value} {n : Nat} {xs : List (Int × Int)} (h : OwnP w base v n xs) : ∃ A c, v = .slice A n c ∧ Go.Kit.Recs 2 prow w A n xs := by
  obtain ⟨A, c, e, _, _, h3⟩ := own_form h.1
  exact ⟨A, c, e, h.2, fun _ => rfl, h3⟩
theorem OwnP.next {w : World} {base : Nat} {v : Value} {n : Nat} {xs : List (Int × Int)} {p : Int × Int} (hn : xs.length = n) (h : w.ownsRow base T2 2 v (n + 1) ((xs.map prow).flatten ++ prow p)) : OwnP w base v (n + 1) (xs ++ [p]) :=
  ⟨by rw [List.map_append, List.flatten_append]; simpa using h, by rw [List.length_append, hn]; rfl⟩
theorem rowA_succ (k : Nat) : rowA (k + 1) = rowA k ++ [((k : Int) + 1, (k : Int) + 2)] := by unfold rowA; rw [List.range_succ, List.map_append]; rfl
theorem rowB_succ (a k : Nat) : rowB a (k + 1) = rowB a k ++ [((a : Int) + 1 + (k : Int), (a : Int) + 2 + (k : Int))] := by unfold rowB; rw [List.range_succ, List.map_append]; rfl
theorem infoP2 : (Try.prog.info? T2).isSome = true := by kernel_rfl
theorem iP2 : Try.prog.info? T2 = some ((Try.prog.info? T2).get infoP2) := by simp
theorem iP2s : ((Try.prog.info? T2).get infoP2).size = 2 := by kernel_rfl
theorem iP2z : ((Try.prog.info? T2).get infoP2).zero = some (.agg #[.int .i64 0, .int .i64 0]) := by kernel_rfl
theorem iP2b : ((Try.prog.info? T2).get infoP2).bytes = 16 := by kernel_rfl
theorem one2 {x y : Int} : ∀ u ∈ [Value.int .i64 x, .int .i64 y], Value.oneCell' u = true := by
  intro u hu
  simp only [List.mem_cons, List.not_mem_nil, or_false] at hu
  rcases hu with rfl | rfl <;> rfl
theorem own_lit2 {w : World} {base g n : Nat} {xs : List (Int × Int)} (h : Blk w g T2 (xs.map prow).flatten) (hb : base ≤ g) (hl : xs.length = n) (hf : ((xs.map prow).flatten).length = n * 2) (hn : n ≤ maxLen) : OwnP w base (.slice (some ⟨g, 0, none⟩) n n) n xs :=
  ⟨⟨hf, .inr ⟨g, n, _, rfl, hb, h, Nat.le_refl _, hn, by simpa using hf, List.take_of_length_le (Nat.le_of_eq hf)⟩⟩, hl⟩
theorem i64ok_small {z : Int} (h0 : 0 ≤ z) (h1 : z ≤ 100) : i64ok z := ⟨by omega, by omega⟩
theorem stp_ok {a b : Nat} (ha : a ≤ 6) (hb : b ≤ 6) : ∀ p ∈ stp a b, PairOk p := by
  intro p hp
  unfold stp at hp
  rcases List.mem_append.1 hp with hp | hp
  · rcases List.mem_append.1 hp with hp | hp
    · unfold st4 at hp
      simp only [List.mem_cons, List.not_mem_nil, or_false] at hp
      rcases hp with rfl | rfl | rfl | rfl <;> exact ⟨i64ok_small (by dsimp only; omega) (by dsimp only; omega), i64ok_small (by dsimp only; omega) (by dsimp only; omega)⟩
    · unfold rowA at hp
      obtain ⟨i, hi, rfl⟩ := List.mem_map.1 hp
      have := List.mem_range.1 hi
      exact ⟨i64ok_small (by dsimp only; omega) (by dsimp only; omega), i64ok_small (by dsimp only; omega) (by dsimp only; omega)⟩
  · unfold rowB at hp
    obtain ⟨i, hi, rfl⟩ := List.mem_map.1 hp
    have := List.mem_range.1 hi
    exact ⟨i64ok_small (by dsimp only; omega) (by dsimp only; omega), i64ok_small (by dsimp only; omega) (by dsimp only; omega)⟩
theorem stp_ok2 {a b : Nat} (ha : a ≤ 6) (hb : b ≤ 6) : ∀ p ∈ stp a b ++ [(1, (a : Int) + 1)], PairOk p := by
  intro p hp
  rcases List.mem_append.1 hp with hp | hp
  · exact stp_ok ha hb p hp
  · rw [List.mem_singleton.1 hp]
    exact ⟨i64ok_small (by dsimp only; omega) (by dsimp only; omega), i64ok_small (by dsimp only; omega) (by dsimp only; omega)⟩
theorem iv_nv (L : List Nat) : (L.map fun (n : Nat) => (n : Int)).map iv = L.map nv := by rw [List.map_map]; rfl
/-- an order, as numbers -/
theorem nums_of_order {w : World} {v : Value} {n : Nat} {R : Nat → Nat → Bool} (hv : Go.Proofs.Ytbcifodifadoiaa.mkR.IntsV w v (To.orderN n R)) (hi : To.Inv n R (To.orderN n R) ∧ (To.orderN n R).length = n) (hn : n ≤ 14) :
    ∃ A c, v = .slice A (To.orderN n R).length c ∧ Nums w A n c ((To.orderN n R).map fun (n : Nat) => (n : Int)) ∧ (To.orderN n R).length = n := by
  obtain ⟨A, c, rfl, h1, h2, h3, -⟩ := hv
  refine ⟨A, c, rfl, ⟨?_, by rw [← hi.2]; exact h1, h2, fun z hz => ?_⟩, hi.2⟩
  · rw [iv_nv]
    rw [hi.2] at h3
    exact h3
  · obtain ⟨m, hm, rfl⟩ := List.mem_map.1 hz
    have := hi.1.lt m hm
    exact i64ok_small (by omega) (by omega)
set_option maxRecDepth 100000 in
set_option maxHeartbeats 2000000 in
theorem fork_walk (w : World) (x y : Nat) (hx : x ≤ 255) (hy : y ≤ 255) :
    Calls Try.prog 5 #[.int .u8 (x : Int), .int .u8 (y : Int)] w fun e w' => e = .returned (.bool true) ∧ Grow w w' := by
  obtain ⟨a, ha⟩ : ∃ a, a = 1 + x % 6 := ⟨_, rfl⟩
  obtain ⟨b, hb⟩ : ∃ b, b = 1 + y % 6 := ⟨_, rfl⟩
  have ha6 : 1 ≤ a ∧ a ≤ 6 := by omega
  have hb6 : 1 ≤ b ∧ b ≤ 6 := by omega
  have HA := Lib.hid ha
  have HB := Lib.hid hb
  clear ha hb
  go_enter Try.func5, Try.ntmps5
  try dsimp only
  repeat (first | with_reducible (refine wp_region_cut (k := 2) ?_) | go_values | go_guarded | go_step | go_upon | go_back)
  rw [show (1 + (x : Int) % 6) = (a : Int) by rw [HA.out]; omega, show (1 + (y : Int) % 6) = (b : Int) by rw [HB.out]; omega]
  unfold Cut
  obtain ⟨W0, hW0⟩ : ∃ W, W = w.alloc (.cells #[.int .i64 0, .int .i64 1, .int .i64 0, .int .i64 ((a : Int) + 1), .int .i64 (a : Int), .int .i64 ((a : Int) + (b : Int) + 1), .int .i64 ((a : Int) + (b : Int)), .int .i64 ((a : Int) + (b : Int) + 1)] T2) := ⟨_, rfl⟩
  obtain ⟨g0, hg0⟩ : ∃ g0, g0 = w.heap.size := ⟨_, rfl⟩
  have hG0 : Grow w W0 := by rw [hW0]; exact Grow.alloc _ _
  have ho0 : OwnP W0 w.heap.size (.slice (some ⟨g0, 0, none⟩) 4 4) 4 (st4 a b ++ rowA 0) := by
    have hb : Blk W0 g0 T2 ((st4 a b ++ rowA 0).map prow).flatten := by rw [hW0]; exact Blk.new _ _ _ _ rfl hg0
    exact own_lit2 hb (Nat.le_of_eq hg0.symm) rfl rfl (by decide)
  have HW0 := Lib.hid hW0
  have HG0 := Lib.hid hG0
  have HO0 := Lib.hid ho0
  have Hg0 := Lib.hid hg0
  obtain ⟨ha1, ha9⟩ := ha6
  obtain ⟨hb1, hb9⟩ := hb6
  clear hW0 hG0 ho0 hg0 HA HB
  repeat (first | with_reducible (refine wp_region_cut (k := 4) ?_) | go_values | go_guarded | go_step | go_upon | go_back)
  rw [show ((a : Int) + (b : Int) + 2 - 1) = (a : Int) + (b : Int) + 1 by omega, ← HW0.out, ← Hg0.out]
  unfold Cut
  go_wp2_with fail
  go_loopw [8, 9] (fun s' i' wr => ∃ (k m : Nat) (v : Value), m = 4 + k ∧ k + 1 ≤ a ∧ i' = .int .i64 ((k : Int) + 1) ∧ v = s' ∧ OwnP wr w.heap.size v m (st4 a b ++ rowA k) ∧ Grow w wr) (fun _ i' _ => a - (intOf i').toNat)
  case atStart => exact ⟨0, 4, _, rfl, by omega, rfl, rfl, HO0.out, HG0.out⟩
  case round =>
    clear HO0
    obtain ⟨k, m, v, hm, hk, rfl, rfl, ho, hg⟩ := hrel
    by_cases hlt : k + 1 < a
    · have t1 : decide ((k : Int) + 1 < (a : Int)) = true := decide_eq_true (by omega)
      have t1' : decide (k + 1 < a) = true := decide_eq_true hlt
      obtain ⟨Av, cv, rfl, -⟩ := ho.recs
      have HO := Lib.hid ho
      have HG := Lib.hid hg
      have HM := Lib.hid hm
      have HK := Lib.hid hlt
      have hk9 : k ≤ 6 := by omega
      have hm9 : m ≤ 20 := by omega
      clear ho hg hm hk hlt
      go_wp2_with (at_builtin; refine wpList_append_row rfl _ _ _ rfl w.heap.size T2 _ _ 2 16 Try.underlying22 iP2 iP2z iP2s iP2b rfl (by decide) (.slice Av m cv) m ((st4 a b ++ rowA k).map prow).flatten rfl (own_grow HO.out.1 (Grow.alloc wr (.cells #[.int .i64 ((k : Int) + 1), .int .i64 ((k : Int) + 1 + 1)] T2))) (some ⟨wr.heap.size, 0, none⟩) 1 1 [.int .i64 ((k : Int) + 1), .int .i64 ((k : Int) + 1 + 1)] rfl (Row.new wr [.int .i64 ((k : Int) + 1), .int .i64 ((k : Int) + 1 + 1)] T2 (0, 0)) one2 (by unfold maxLen; omega) (by omega) (Nat.le_trans HG.out.size (Grow.alloc wr (.cells #[.int .i64 ((k : Int) + 1), .int .i64 ((k : Int) + 1 + 1)] T2)).size) ?_; intro v1 w1 hown1 hgb1 hnb1; obtain ⟨Aw, cw, rfl, -, -, -⟩ := own_form hown1)
      have hgr := grow_by (HG.out.trans (Grow.alloc wr (.cells #[.int .i64 ((k : Int) + 1), .int .i64 ((k : Int) + 1 + 1)] T2))) hgb1 (own_base HO.out.1)
      have hop : OwnP w1 w.heap.size (.slice Aw (m + 1) cw) (m + 1) (st4 a b ++ rowA (k + 1)) := by
        rw [rowA_succ, ← List.append_assoc]
        rw [show (k : Int) + 1 + 1 = (k : Int) + 2 by omega] at hown1
        exact OwnP.next HO.out.2 hown1
      have HOP := Lib.hid hop
      have HGR := Lib.hid hgr
      clear hown1 hgb1 hnb1 hgr hop
      go_roundw
      case rel => exact ⟨k + 1, m + 1, _, by have := HM.out; omega, by have := HK.out; omega, by go_num, rfl, HOP.out, HGR.out⟩
      case measure => have := HK.out; simp [intOf] <;> omega
    · obtain rfl : k = a - 1 := by omega
      have t1 : decide (((a - 1 : Nat) : Int) + 1 < (a : Int)) = false := decide_eq_false (by omega)
      have t1' : decide (a - 1 + 1 < a) = false := decide_eq_false hlt
      have hi1 : ((a - 1 : Nat) : Int) + 1 = (a : Int) := by omega
      rw [hi1] at t1 ⊢
      have ho2 : OwnP wr w.heap.size v m (st4 a b ++ rowA (a - 1) ++ rowB a 0) := by
        have : rowB a 0 = [] := rfl
        rw [this, List.append_nil]; exact ho
      have HO := Lib.hid ho2
      have HG := Lib.hid hg
      have HM := Lib.hid hm
      clear ho ho2 hg hm hk hlt hi1
      go_wp2_with fail
      go_loopw [8, 10] (fun s' i' wr => ∃ (k m : Nat) (v : Value), m = a + 3 + k ∧ k + 1 ≤ b ∧ i' = .int .i64 ((a : Int) + 1 + (k : Int)) ∧ v = s' ∧ OwnP wr w.heap.size v m (st4 a b ++ rowA (a - 1) ++ rowB a k) ∧ Grow w wr) (fun _ i' _ => a + b - (intOf i').toNat)
      case atStart => exact ⟨0, m, v, by have := HM.out; omega, by omega, by simp, rfl, HO.out, HG.out⟩
      case round =>
        clear HO HG HM
        obtain ⟨k, m, v, hm, hk, rfl, rfl, ho, hg⟩ := hrel
        by_cases hlt : k + 1 < b
        · have t1 : decide ((a : Int) + 1 + (k : Int) < (a : Int) + (b : Int)) = true := decide_eq_true (by omega)
          obtain ⟨Av, cv, rfl, -⟩ := ho.recs
          have HO := Lib.hid ho
          have HG := Lib.hid hg
          have HM := Lib.hid hm
          have HK := Lib.hid hlt
          have hk9 : k ≤ 6 := by omega
          have hm9 : m ≤ 20 := by omega
          clear ho hg hm hk hlt
          go_wp2_with (at_builtin; refine wpList_append_row rfl _ _ _ rfl w.heap.size T2 _ _ 2 16 Try.underlying22 iP2 iP2z iP2s iP2b rfl (by decide) (.slice Av m cv) m ((st4 a b ++ rowA (a - 1) ++ rowB a k).map prow).flatten rfl (own_grow HO.out.1 (Grow.alloc wr (.cells #[.int .i64 ((a : Int) + 1 + (k : Int)), .int .i64 ((a : Int) + 1 + (k : Int) + 1)] T2))) (some ⟨wr.heap.size, 0, none⟩) 1 1 [.int .i64 ((a : Int) + 1 + (k : Int)), .int .i64 ((a : Int) + 1 + (k : Int) + 1)] rfl (Row.new wr [.int .i64 ((a : Int) + 1 + (k : Int)), .int .i64 ((a : Int) + 1 + (k : Int) + 1)] T2 (0, 0)) one2 (by unfold maxLen; omega) (by omega) (Nat.le_trans HG.out.size (Grow.alloc wr (.cells #[.int .i64 ((a : Int) + 1 + (k : Int)), .int .i64 ((a : Int) + 1 + (k : Int) + 1)] T2)).size) ?_; intro v1 w1 hown1 hgb1 hnb1; obtain ⟨Aw, cw, rfl, -, -, -⟩ := own_form hown1)
          have hgr := grow_by (HG.out.trans (Grow.alloc wr (.cells #[.int .i64 ((a : Int) + 1 + (k : Int)), .int .i64 ((a : Int) + 1 + (k : Int) + 1)] T2))) hgb1 (own_base HO.out.1)
          have hop : OwnP w1 w.heap.size (.slice Aw (m + 1) cw) (m + 1) (st4 a b ++ rowA (a - 1) ++ rowB a (k + 1)) := by
            rw [rowB_succ, ← List.append_assoc]
            rw [show (a : Int) + 1 + (k : Int) + 1 = (a : Int) + 2 + (k : Int) by omega] at hown1
            exact OwnP.next HO.out.2 hown1
          have HOP := Lib.hid hop
          have HGR := Lib.hid hgr
          clear hown1 hgb1 hnb1 hgr hop
          go_roundw
          case rel => exact ⟨k + 1, m + 1, _, by have := HM.out; omega, by have := HK.out; omega, by go_num, rfl, HOP.out, HGR.out⟩
          case measure => have := HK.out; simp [intOf] <;> omega
        · obtain rfl : k = b - 1 := by omega
          have t1 : decide ((a : Int) + 1 + ((b - 1 : Nat) : Int) < (a : Int) + (b : Int)) = false := decide_eq_false (by omega)
          have ho2 : OwnP wr w.heap.size v m (stp a b) := ho
          obtain ⟨Av, cv, rfl, hrc⟩ := ho2.recs
          have hm9 : m ≤ 20 := by omega
          have hof := reW.of_any wr ((a : Int) + (b : Int) + 2) Av m cv (stp a b) hrc (by omega) (stp_ok ha9 hb9)
          rw [show clampN ((a : Int) + (b : Int) + 2) = a + b + 2 by unfold clampN; omega] at hof
          have hbr : toW.Bd (a + b + 2) (rel1 a b) := fun i j h => ⟨reL.lead_lt1 i j h, reL.lead_lt i j h⟩
          have hbr2 : toW.Bd (a + b + 2) (rel2 a b) := fun i j h => ⟨reL.lead_lt1 i j h, reL.lead_lt i j h⟩
          have htr : Tr (rel1 a b) := leadB_tr _
          have htr2 : Tr (rel2 a b) := leadB_tr _
          have hc1 := chk1_at ⟨ha1, ha9⟩ ⟨hb1, hb9⟩
          have hc2 := chk2_at ⟨ha1, ha9⟩ ⟨hb1, hb9⟩
          have hr2 : leadB (vp (a + b + 2) (stp a b ++ [(1, (a : Int) + 1)])) = rel2 a b := rfl
          have hr1 : leadB (vp (a + b + 2) (stp a b)) = rel1 a b := rfl
          rw [hr1] at hof
          obtain ⟨R1, hR1⟩ : ∃ R, R = rel1 a b := ⟨_, rfl⟩
          obtain ⟨R2, hR2⟩ : ∃ R, R = rel2 a b := ⟨_, rfl⟩
          obtain ⟨n, hn⟩ : ∃ n, n = a + b + 2 := ⟨_, rfl⟩
          rw [← hR1] at hof hbr htr hc1
          rw [← hR2] at hbr2 htr2 hc2 hr2
          rw [← hn] at hof hbr hbr2 hc1 hc2 hr2
          have hnI : (a : Int) + (b : Int) + 2 = (n : Int) := by omega
          rw [hnI] at hof ⊢
          have HOF := Lib.hid hof
          have HBR := Lib.hid hbr
          have HBR2 := Lib.hid hbr2
          have HTR := Lib.hid htr
          have HTR2 := Lib.hid htr2
          have HC1 := Lib.hid hc1
          have HC2 := Lib.hid hc2
          have HR2 := Lib.hid hr2
          have HNI := Lib.hid hnI
          have HNN := Lib.hid hn
          have HO := Lib.hid ho2
          have HG := Lib.hid hg
          have hn14 : n ≤ 14 := by omega
          clear hof hbr hbr2 htr htr2 hc1 hc2 hr2 hr1 hR1 hR2 hnI hn ho ho2 hg hrc hm hk hlt
          go_wp2_with fail
          refine HOF.out.mono ?_
          rintro e w2 ⟨gr, rfl, hrel, hg2⟩
          have HRL := Lib.hid hrel
          have HG2 := Lib.hid (HG.out.trans hg2)
          have HG2' := Lib.hid hg2
          have HORD := Lib.hid (toW.order_any w2 gr n R1 hrel HBR.out HTR.out)
          clear hrel hg2 t1
          go_wp2_with fail
          refine HORD.out.mono ?_
          rintro e w3 ⟨v3, rfl, hv3, hg3⟩
          obtain ⟨A3, c3, rfl, hnm, hlen3⟩ := nums_of_order hv3 (To.order_inv (n := n) HTR.out) hn14
          rw [hlen3]
          have hbo := bk.of_any gr n R1 n w3 (HRL.out.grow hg3) A3 n c3 _ hnm (Nat.le_refl _) (by omega)
          obtain ⟨ts, hts⟩ : ∃ ts, ts = blk n R1 := ⟨_, rfl⟩
          rw [show blocksF (aheadI R1) (nearI R1) n ((To.orderN n R1).map fun (n : Nat) => (n : Int)) = ts from hts.symm] at hbo
          have HBO := Lib.hid hbo
          have HG3 := Lib.hid (HG2.out.trans hg3)
          have HG3' := Lib.hid (HG2'.out.trans hg3)
          have hck : chk1 a b ts = true := by rw [hts]; exact HC1.out
          have HCK := Lib.hid hck
          clear hv3 hg3 hnm hlen3 hbo hts hck
          go_wp2_with fail
          refine HBO.out.mono ?_
          rintro e w4 ⟨u, rfl, htv, hg4⟩
          have hck := HCK.out
          unfold chk1 at hck
          rw [Bool.and_eq_true, beq_iff_eq] at hck
          obtain ⟨z0, s0, z1, kA, zA, sA, kB, zB, sB, k2, s2, hts, hsA, hsB⟩ := chkT_get hck.1
          have hodd := odd_any htv w4 (Grow.refl _) (by rw [hck.2]; decide)
          rw [hck.2] at hodd
          obtain ⟨A4, c4, qs, hu, hqs, -, -, hrec, -, hsub⟩ := htv.form
          rw [hts] at hqs
          match qs, hqs with
          | [(t0, u0), (t1, u1), (t2, u2)], hqs =>
            injection hqs with e0 hqs
            injection hqs with e1 hqs
            injection hqs with e2 _
            have hl3 : ts.length = 3 := by rw [hts]; rfl
            rw [hl3] at hrec hu
            obtain ⟨bb, off, eA, hc⟩ := hrec.2.2.2 (by decide)
            subst eA
            subst hu
            have z0' : w4.cell? ⟨bb, off, none⟩ = some (.int .i64 1) := by have := hc 0 _ rfl; rw [← e0] at this; exact this
            have z1' : w4.cell? ⟨bb, off + 3, none⟩ = some (.int .i64 2) := by have := hc 3 _ rfl; rw [← e1] at this; exact this
            have z2' : w4.cell? ⟨bb, off + 3 + 2, none⟩ = some u1 := hc 5 _ rfl
            have z3' : w4.cell? ⟨bb, off + 6 + 1, none⟩ = some (.int .i64 ((a : Int) + (b : Int) + 1)) := by have := hc 7 _ rfl; rw [← e2] at this; exact this
            have hs1 := hsub (t1, u1) (by simp)
            obtain ⟨A5, c5, qs5, hu5, hq5, -, -, hrec5, -, hsub5⟩ := hs1.form
            rw [← e1] at hu5 hq5 hrec5
            rw [show (T.mk 2 z1 [.mk kA zA sA, .mk kB zB sB]).subs = [.mk kA zA sA, .mk kB zB sB] from rfl] at hu5 hq5 hrec5
            match qs5, hq5 with
            | [(tA, uA), (tB, uB)], hq5 =>
              injection hq5 with eA hq5
              injection hq5 with eB _
              dsimp only at hu5
              rw [show ([T.mk kA zA sA, .mk kB zB sB]).length = 2 from rfl] at hu5 hrec5
              subst hu5
              obtain ⟨b5, off5, eA5, hc5⟩ := hrec5.2.2.2 (by decide)
              subst eA5
              obtain ⟨A6, c6, qs6, hu6, -⟩ := (hsub5 (tA, uA) (by simp)).form
              obtain ⟨A7, c7, qs7, hu7, -⟩ := (hsub5 (tB, uB) (by simp)).form
              rw [← eA] at hu6
              rw [← eB] at hu7
              rw [show (T.mk kA zA sA).subs = sA from rfl, hsA] at hu6
              rw [show (T.mk kB zB sB).subs = sB from rfl, hsB] at hu7
              dsimp only at hu6 hu7
              subst hu6
              subst hu7
              have y0 : w4.cell? ⟨b5, off5 + 2, none⟩ = some (.slice A6 a c6) := hc5 2 _ rfl
              have y1 : w4.cell? ⟨b5, off5 + 3 + 2, none⟩ = some (.slice A7 b c7) := hc5 5 _ rfl
              have HODD := Lib.hid hodd
              have HG4 := Lib.hid (HG3.out.trans hg4)
              have HG4' := Lib.hid (HG3'.out.trans hg4)
              have q1 : ((n : Int) - 1) = (a : Int) + (b : Int) + 1 := by have := HNI.out; omega
              have eq1 : (((a : Int) + (b : Int) + 1) == ((a : Int) + (b : Int) + 1)) = true := beq_self_eq_true _
              have eq2 : ((a : Int) == (a : Int)) = true := beq_self_eq_true _
              have eq3 : ((b : Int) == (b : Int)) = true := beq_self_eq_true _
              have ne1 : (((a : Int) + (b : Int) + 1) != ((a : Int) + (b : Int) + 1)) = false := by unfold bne; rw [eq1]; rfl
              have ne1' : (((a : Int) + (b : Int) + 1) != ((n : Int) - 1)) = false := by rw [q1]; exact ne1
              have ne2 : ((a : Int) != (a : Int)) = false := by unfold bne; rw [eq2]; rfl
              have ne3 : ((b : Int) != (b : Int)) = false := by unfold bne; rw [eq3]; rfl
              have eq1' : (((a : Int) + (b : Int) + 1) == ((n : Int) - 1)) = true := by rw [q1]; exact eq1
              clear hodd e0 e1 e2 eA eB hc hc5 hrec hrec5 hsub hsub5 hs1 htv hg4 hck hts hsA hsB hl3 q1
              go_wp2_with fail
              refine HODD.out.mono ?_
              rintro e w5 ⟨rfl, hg5⟩
              have HG5 := Lib.hid (HG4.out.trans hg5)
              have HG5' := Lib.hid (HG4'.out.trans hg5)
              clear hg5 z0' z1' z2' z3' y0 y1 eq1 eq2 eq3 ne1 ne1' ne2 ne3 eq1'
              go_wp2_with (at_builtin; refine wpList_append_row rfl _ _ _ rfl w.heap.size T2 _ _ 2 16 Try.underlying22 iP2 iP2z iP2s iP2b rfl (by decide) (.slice Av m cv) m ((stp a b).map prow).flatten rfl (own_grow HO.out.1 (HG5'.out.trans (Grow.alloc w5 (.cells #[.int .i64 1, .int .i64 ((a : Int) + 1)] T2)))) (some ⟨w5.heap.size, 0, none⟩) 1 1 [.int .i64 1, .int .i64 ((a : Int) + 1)] rfl (Row.new w5 [.int .i64 1, .int .i64 ((a : Int) + 1)] T2 (0, 0)) one2 (by unfold maxLen; omega) (by omega) (Nat.le_trans HG5.out.size (Grow.alloc w5 (.cells #[.int .i64 1, .int .i64 ((a : Int) + 1)] T2)).size) ?_; intro v1 w6 hown1 hgb1 hnb1; obtain ⟨Aw, cw, rfl, -, -, -⟩ := own_form hown1)
              have hgr := grow_by (HG5.out.trans (Grow.alloc w5 (.cells #[.int .i64 1, .int .i64 ((a : Int) + 1)] T2))) hgb1 (own_base HO.out.1)
              have hop : OwnP w6 w.heap.size (.slice Aw (m + 1) cw) (m + 1) (stp a b ++ [(1, (a : Int) + 1)]) := OwnP.next HO.out.2 hown1
              obtain ⟨Aw', cw', ew, hrc⟩ := hop.recs
              injection ew with ew1 _ ew3
              subst ew1; subst ew3
              have hof2 := reW.of_any w6 (n : Int) Aw (m + 1) cw _ hrc (by omega) (stp_ok2 ha9 hb9)
              rw [show clampN (n : Int) = n by unfold clampN; omega, HR2.out] at hof2
              have HOF2 := Lib.hid hof2
              have HG6 := Lib.hid hgr
              clear hown1 hgb1 hnb1 hgr hop hrc hof2
              refine HOF2.out.mono ?_
              rintro e w7 ⟨gr2, rfl, hrel2, hg7⟩
              have HRL2 := Lib.hid hrel2
              have HG7 := Lib.hid (HG6.out.trans hg7)
              have HORD2 := Lib.hid (toW.order_any w7 gr2 n R2 hrel2 HBR2.out HTR2.out)
              clear hrel2 hg7
              go_wp2_with fail
              refine HORD2.out.mono ?_
              rintro e w8 ⟨v8, rfl, hv8, hg8⟩
              obtain ⟨A8, c8, rfl, hnm8, hlen8⟩ := nums_of_order hv8 (To.order_inv (n := n) HTR2.out) hn14
              rw [hlen8]
              have hbo2 := bk.of_any gr2 n R2 n w8 (HRL2.out.grow hg8) A8 n c8 _ hnm8 (Nat.le_refl _) (by omega)
              obtain ⟨ts2, hts2⟩ : ∃ ts, ts = blk n R2 := ⟨_, rfl⟩
              have hbl2 : (thingsL ts2).length = n := by
                rw [hts2]
                unfold blk
                rw [blocks_len (nearI_symm R2) (by rw [hnm8.len]; exact Nat.le_refl _)]
                exact hnm8.len
              rw [show blocksF (aheadI R2) (nearI R2) n ((To.orderN n R2).map fun (n : Nat) => (n : Int)) = ts2 from hts2.symm] at hbo2
              have hck2 : chk2 a b ts2 = true := by rw [hts2]; exact HC2.out
              unfold chk2 at hck2
              rw [Bool.and_eq_true, decide_eq_true_eq, List.all_eq_true] at hck2
              have HBO2 := Lib.hid hbo2
              have HG8 := Lib.hid (HG7.out.trans hg8)
              have HCK2 := Lib.hid hck2
              have HBL2 := Lib.hid hbl2
              clear hv8 hg8 hnm8 hlen8 hbo2 hts2 hck2 hbl2
              go_wp2_with fail
              refine HBO2.out.mono ?_
              rintro e w9 ⟨u9, rfl, htv, hg9⟩
              obtain ⟨A9, c9, qs9, rfl, hqs9, hc9, hm9', hrec9, -, -⟩ := htv.form
              obtain ⟨nb, hnb⟩ : ∃ nb, nb = ts2.length := ⟨_, rfl⟩
              rw [← hnb] at htv hrec9 hc9 ⊢
              unfold maxLen at hm9'
              have hnb9 : nb ≤ 9223372036854775807 := by omega
              have hc99 : nb ≤ c9 := hc9
              have hc98 : c9 ≤ 9223372036854775807 := hm9'
              have HTV := Lib.hid htv
              have HREC := Lib.hid hrec9
              have HQS := Lib.hid hqs9
              have HNB := Lib.hid hnb
              have HG9 := Lib.hid (HG8.out.trans hg9)
              clear htv hg9 hqs9 hc9 hm9' hrec9 hnb
              go_wp2_with fail
              go_loopw [15] (fun j' wr => ∃ j : Nat, j ≤ nb ∧ j' = .int .i64 (j : Int) ∧ Grow w9 wr) (fun j' _ => nb - (intOf j').toNat)
              case atStart => exact ⟨0, by omega, rfl, Grow.refl _⟩
              case round =>
                obtain ⟨j, hj, rfl, hg⟩ := hrel
                have HGj := Lib.hid hg
                by_cases hlj : j < nb
                · have tj : decide (j < nb) = true := decide_eq_true hlj
                  have tj' : decide ((j : Int) < (nb : Int)) = true := decide_eq_true (by omega)
                  obtain ⟨bq, offq, q, eA9, hq, hcq⟩ := HREC.out.at_ (by decide) hlj
                  obtain ⟨t, ut⟩ := q
                  have c0 := hg.cell (hcq 0 _ rfl)
                  dsimp only at c0
                  rw [Nat.add_zero] at c0
                  have htj : ts2[j]? = some t := by rw [HQS.out, List.getElem?_map, hq]; rfl
                  have hck := HCK2.out.1 t (List.mem_of_getElem? htj)
                  rw [Bool.not_eq_true'] at hck
                  obtain ⟨kd, hkd⟩ : ∃ kd, kd = t.kind := ⟨_, rfl⟩
                  rw [← hkd] at c0 hck
                  have hone := HTV.out.one htj
                  have hlq : (thingsL [t]).length ≤ 1000000 := by
                    have h1 := things_take ts2 (j + 1)
                    rw [takeS htj, thingsL_app, List.length_append, HBL2.out] at h1
                    omega
                  have HTH := Lib.hid (fun w' hg' => things_any hone w' hg' hlq)
                  have hs9 := slice_bothS (P := Try.prog) Try.underlying30 iB iBs A9 nb c9 j (j + 1) (by omega) (by omega)
                  rw [show j + 1 - j = 1 by omega] at hs9
                  simp only [Int.natCast_add, show ((1 : Nat) : Int) = 1 from rfl] at hs9
                  obtain ⟨Aj, hAj⟩ : ∃ Aj, Aj = Kit.cutS A9 c9 j 3 := ⟨_, rfl⟩
                  obtain ⟨cj, hcj⟩ : ∃ cj, cj = c9 - j := ⟨_, rfl⟩
                  rw [← hAj, ← hcj] at hs9 HTH
                  obtain ⟨lq, hlqe⟩ : ∃ lq, lq = (thingsL [t]).length := ⟨_, rfl⟩
                  rw [← hlqe] at hck
                  have HLQ := Lib.hid hlqe
                  have HJ := Lib.hid hlj
                  have hj9 : j < nb := hlj
                  subst eA9
                  clear hj hlj hq hcq htj hkd hone hlq hAj hcj hg hlqe
                  by_cases hk2 : kd = 2
                  · have s1 : (kd == 2) = true := by rw [hk2]; rfl
                    rw [s1, Bool.true_and] at hck
                    have s2 : ((lq : Int) == (a : Int) + (b : Int)) = false := beq_false_of_ne fun e => by
                      have : lq = a + b := by omega
                      rw [this] at hck
                      rw [beq_self_eq_true] at hck
                      cases hck
                    have HTH2 := Lib.hid (HTH.out wr HGj.out)
                    clear hck hk2
                    go_wp2_with fail
                    refine HTH2.out.mono ?_
                    rintro e w10 ⟨v10, rfl, ho10, hg10⟩
                    obtain ⟨A10, c10, rfl, -, -, -⟩ := ho10.form
                    rw [← HLQ.out]
                    have HG10 := Lib.hid (HGj.out.trans hg10)
                    clear ho10 hg10
                    go_wp2_with fail
                    clear s1 s2 c0 hs9
                    go_roundw
                    case rel => exact ⟨j + 1, by have := HJ.out; omega, by go_num, HG10.out⟩
                    case measure => have := HJ.out; simp [intOf] <;> omega
                  · have s1 : (kd == 2) = false := beq_false_of_ne hk2
                    clear hck hk2
                    go_wp2_with fail
                    clear s1 c0 hs9
                    go_roundw
                    case rel => exact ⟨j + 1, by have := HJ.out; omega, by go_num, HGj.out⟩
                    case measure => have := HJ.out; simp [intOf] <;> omega
                · obtain rfl : j = nb := by omega
                  have tj : decide (j < j) = false := decide_eq_false hlj
                  have h3 : 3 ≤ j := by rw [HNB.out]; exact HCK2.out.2
                  have t3 : decide (3 ≤ j) = true := decide_eq_true h3
                  have t3' : decide ((3 : Int) ≤ (j : Int)) = true := decide_eq_true (by omega)
                  have HGE := Lib.hid (HG9.out.trans hg)
                  clear hj hlj hg h3
                  go_wp2_with fail
                  refine (works_any wr).mono ?_
                  rintro e w11 ⟨rfl, hg11⟩
                  have HG11 := Lib.hid (HGE.out.trans hg11)
                  clear hg11
                  go_wp2_with fail
                  go_ret
                  exact ⟨rfl, HG11.out⟩
end Go.Proofs.Ytbcifodifadoiaa.bk
