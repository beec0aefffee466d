/- The document's Texts: are two lists of texts the same? -/
import Derived.Test.YthclgmpjmhacdaaTgI
namespace Go.Proofs.Ythclgmpjmhacdaa.tg
open Go Go.RowKit Go.Par Go.Kit

/-- a value is a slice of these texts -/
def IsT (xs : List (List UInt8)) (v : Value) (w : World) : Prop := ∃ A c, v = .slice A xs.length c ∧ Row w A xs.length (strs xs)
theorem IsT.mono {xs : List (List UInt8)} : Mono Grow (IsT xs) := fun _ _ _ ⟨A, c, h, k⟩ hg => ⟨A, c, h, k.grow hg⟩
theorem IsT.own {w : World} {B : Nat} {e : TypeId} {v : Value} {xs : List (List UInt8)} (h : w.ownsRow B e 1 v xs.length (strs xs)) : IsT xs v w := by
  obtain ⟨A, c, rfl, -, -, hr⟩ := own_form h
  rw [Nat.mul_one] at hr
  exact ⟨A, c, rfl, hr⟩
theorem strs_at {w : World} {A : Option Addr} {l : Nat} {xs : List (List UInt8)} (h : Row w A l (strs xs)) {k : Nat} (hk : k < l) : ∃ b off x, A = some ⟨b, off, none⟩ ∧ xs[k]? = some x ∧ w.cell? ⟨b, off + k, none⟩ = some (.string (str x)) := by
  obtain ⟨b, off, u, e, hu, hc⟩ := Row.at_ h hk
  simp only [strs, List.getElem?_map, Option.map_eq_some_iff] at hu
  obtain ⟨x, hx, rfl⟩ := hu
  exact ⟨b, off, x, e, hx, hc⟩
set_option maxRecDepth 100000 in
set_option maxHeartbeats 2000000 in
theorem texts_any (w : World) (v1 v2 : Value) (xs : List (List UInt8)) (h1 : IsT xs v1 w) (h2 : IsT xs v2 w) (hl : xs.length ≤ 1000) :
    Calls Try.prog 19 #[v1, v2] w fun e w' => e = .returned (.bool true) ∧ Grow w w' := by
  obtain ⟨A1, c1, rfl, hr1⟩ := h1
  obtain ⟨A2, c2, rfl, hr2⟩ := h2
  have HR1 := Lib.hid hr1
  have HR2 := Lib.hid hr2
  obtain ⟨l, hll⟩ : ∃ l, l = xs.length := ⟨_, rfl⟩
  rw [← hll] at HR1 HR2 hl ⊢
  have HL := Lib.hid hll
  have te3 : ((l : Int) == (l : Int)) = true := beq_self_eq_true _
  clear hr1 hr2 hll
  go_enter Try.func19, Try.ntmps19
  go_wp2_with fail
  clear te3
  go_loopw [5] (fun i' wr => ∃ k : Nat, k ≤ l ∧ i' = .int .i64 (k : Int) ∧ Hid (Grow w wr)) (fun i' _ => l - (intOf i').toNat)
  case atStart => exact ⟨0, by omega, rfl, Lib.hid (Grow.refl _)⟩
  case round =>
    obtain ⟨k, hk, rfl, HGR⟩ := hrel
    obtain ⟨wa, rfl⟩ : ∃ wa, wa = wr := ⟨_, rfl⟩
    by_cases hlt : k < l
    · have t1 : decide (k < l) = true := decide_eq_true hlt
      have t1' : decide ((k : Int) < (l : Int)) = true := decide_eq_true (by omega)
      obtain ⟨b1, off1, x, rfl, hx, y1⟩ := strs_at (HR1.out.grow HGR.out) hlt
      obtain ⟨b2, off2, x2, rfl, hx2, y2⟩ := strs_at (HR2.out.grow HGR.out) hlt
      rw [hx] at hx2
      obtain rfl := Option.some.inj hx2
      obtain ⟨q, hq⟩ : ∃ q, q = str x := ⟨_, rfl⟩
      rw [← hq] at y1 y2
      have te : (q.toList == q.toList) = true := beq_self_eq_true _
      have te2 : (q.toList != q.toList) = false := by unfold bne; rw [te]; rfl
      have HY1 := Lib.hid y1
      have HY2 := Lib.hid y2
      clear hx hq y1 y2 hx2 hk
      go_wp2_with fail
      apply (fun (v0 v1 v2 v3 v4 v5 v6 v7 v8 : Value) mono obl tail => wp_region_par (R := Grow) (Φ := phi [veq v0, veq v1, veq v2, veq v3, veq v4, veq v5, veq v6, veq v7, veq v8]) (m := 9) (dls := [[], [], [(17, 0), (18, 1)], [(19, 2)], [], [], [(21, 4), (22, 5)], [(23, 6)], [(20, 3), (24, 7)]]) (ds := [17, 18, 19, 20, 21, 22, 23, 24, 25]) (by kernel_rfl) (by kernel_rfl) (by decide) rfl (Grow.drew _) (fun _ _ _ => Grow.trans) (mono_phi mono) obl tail)
      case obl =>
        refine obls_frame (fun a1 ha => ?_)
        have hsz := rd_size (n := 26) ha rfl
        have e0 := rd_slot 0 ha rfl
        have e5 := rd_slot 5 ha rfl
        have e1 := rd_slot 1 ha rfl
        clear ha
        refine obls_cons (fun f w' hR hH Q0 hQ0 => ?_) ?_
        · skip
          have s0 := sv_off f [] e0 rfl
          refine small_v hsz [(0, _)] ⟨some 1, (Op.move (.tmp 0)), 50, "", #[], none⟩ [_, undef] 1 rfl rfl ⟨s0, trivial⟩ rfl rfl hQ0 ?_
          clear hQ0 hH s0
          intro Q hQ
          repeat go_step
          exact hQ _ _ (Grow.refl _) rfl rfl
        refine obls_cons (fun f w' hR hH Q0 hQ0 => ?_) ?_
        · skip
          have s5 := sv_off f [] e5 rfl
          refine small_v hsz [(5, _)] ⟨some 1, (Op.move (.tmp 0)), 3, "", #[], none⟩ [_, undef] 1 rfl rfl ⟨s5, trivial⟩ rfl rfl hQ0 ?_
          clear hQ0 hH s5
          intro Q hQ
          repeat go_step
          exact hQ _ _ (Grow.refl _) rfl rfl
        refine obls_cons (fun f w' hR hH Q0 hQ0 => ?_) ?_
        · skip
          have s17 := (sv_at 17 0 hsz f [(17, 0), (18, 1)] rfl).trans (show f 0 = _ from hH.get 0 (17, 0) rfl)
          have s18 := (sv_at 18 1 hsz f [(17, 0), (18, 1)] rfl).trans (show f 1 = _ from hH.get 1 (18, 1) rfl)
          refine small_v hsz [(17, _), (18, _)] ⟨some 2, (Op.indexAddr 50 (.tmp 0) (.tmp 1)), 0, "", #[], none⟩ [_, _, undef] 2 rfl rfl ⟨s17, s18, trivial⟩ rfl rfl hQ0 ?_
          clear hQ0 hH s17 s18
          intro Q hQ
          repeat go_step
          exact hQ _ _ (Grow.refl _) rfl rfl
        refine obls_cons (fun f w' hR hH Q0 hQ0 => ?_) ?_
        · skip
          have s19 := (sv_at 19 2 hsz f [(19, 2)] rfl).trans (show f 2 = _ from hH.get 0 (19, 2) rfl)
          refine small_v hsz [(19, _)] ⟨some 1, (Op.load 9 (.tmp 0)), 9, "", #[], none⟩ [_, undef] 1 rfl rfl ⟨s19, trivial⟩ rfl rfl hQ0 ?_
          clear hQ0 hH s19
          intro Q hQ
          have z1 := hR.cell HY1.out
          repeat go_step
          exact hQ _ _ (Grow.refl _) rfl rfl
        refine obls_cons (fun f w' hR hH Q0 hQ0 => ?_) ?_
        · skip
          have s1 := sv_off f [] e1 rfl
          refine small_v hsz [(1, _)] ⟨some 1, (Op.move (.tmp 0)), 50, "", #[], none⟩ [_, undef] 1 rfl rfl ⟨s1, trivial⟩ rfl rfl hQ0 ?_
          clear hQ0 hH s1
          intro Q hQ
          repeat go_step
          exact hQ _ _ (Grow.refl _) rfl rfl
        refine obls_cons (fun f w' hR hH Q0 hQ0 => ?_) ?_
        · skip
          have s5 := sv_off f [] e5 rfl
          refine small_v hsz [(5, _)] ⟨some 1, (Op.move (.tmp 0)), 3, "", #[], none⟩ [_, undef] 1 rfl rfl ⟨s5, trivial⟩ rfl rfl hQ0 ?_
          clear hQ0 hH s5
          intro Q hQ
          repeat go_step
          exact hQ _ _ (Grow.refl _) rfl rfl
        refine obls_cons (fun f w' hR hH Q0 hQ0 => ?_) ?_
        · skip
          have s21 := (sv_at 21 4 hsz f [(21, 4), (22, 5)] rfl).trans (show f 4 = _ from hH.get 0 (21, 4) rfl)
          have s22 := (sv_at 22 5 hsz f [(21, 4), (22, 5)] rfl).trans (show f 5 = _ from hH.get 1 (22, 5) rfl)
          refine small_v hsz [(21, _), (22, _)] ⟨some 2, (Op.indexAddr 50 (.tmp 0) (.tmp 1)), 0, "", #[], none⟩ [_, _, undef] 2 rfl rfl ⟨s21, s22, trivial⟩ rfl rfl hQ0 ?_
          clear hQ0 hH s21 s22
          intro Q hQ
          repeat go_step
          exact hQ _ _ (Grow.refl _) rfl rfl
        refine obls_cons (fun f w' hR hH Q0 hQ0 => ?_) ?_
        · skip
          have s23 := (sv_at 23 6 hsz f [(23, 6)] rfl).trans (show f 6 = _ from hH.get 0 (23, 6) rfl)
          refine small_v hsz [(23, _)] ⟨some 1, (Op.load 9 (.tmp 0)), 9, "", #[], none⟩ [_, undef] 1 rfl rfl ⟨s23, trivial⟩ rfl rfl hQ0 ?_
          clear hQ0 hH s23
          intro Q hQ
          have z2 := hR.cell HY2.out
          repeat go_step
          exact hQ _ _ (Grow.refl _) rfl rfl
        refine obls_cons (fun f w' hR hH Q0 hQ0 => ?_) ?_
        · skip
          have s20 := (sv_at 20 3 hsz f [(20, 3), (24, 7)] rfl).trans (show f 3 = _ from hH.get 0 (20, 3) rfl)
          have s24 := (sv_at 24 7 hsz f [(20, 3), (24, 7)] rfl).trans (show f 7 = _ from hH.get 1 (24, 7) rfl)
          refine small_v hsz [(20, _), (24, _)] ⟨some 2, (Op.binOp BinOp.neq 9 (.tmp 0) (.tmp 1) 9), 4, "", #[], none⟩ [_, _, undef] 2 rfl rfl ⟨s20, s24, trivial⟩ rfl rfl hQ0 ?_
          clear hQ0 hH s20 s24
          intro Q hQ
          repeat go_step
          exact hQ _ _ (Grow.refl _) rfl rfl
        exact obls_nil
      case mono => exact ⟨Mono.veq _, Mono.veq _, Mono.veq _, Mono.veq _, Mono.veq _, Mono.veq _, Mono.veq _, Mono.veq _, Mono.veq _, trivial⟩
      case tail =>
        intro f w' hR hH
        have q8 := hH.get 8 (25, 8) rfl
        clear hH
        refine wpList_merge (idx := [none, none, none, none, none, none, none, none, none, none, none, none, none, none, none, none, none, some 0, some 1, some 2, some 3, some 4, some 5, some 6, some 7, some 8]) (by kernel_rfl) ?_; show wpList _ _ _ [] ⟨#[_, _, _, _, _, _, _, _, _, _, _, _, _, _, _, _, _, f 0, f 1, f 2, f 3, f 4, f 5, f 6, f 7, f 8], _⟩ _
        rw [show f 8 = _ from q8]
        clear q8
        have HR := Lib.hid hR
        clear hR te te2
        go_wp2_with fail
        go_roundw
        case rel => exact ⟨k + 1, by omega, by go_num, Lib.hid (HGR.out.trans HR.out)⟩
        case measure => simp [intOf] <;> omega
    · obtain rfl : k = l := by omega
      have t1 : decide (k < k) = false := decide_eq_false hlt
      clear hk hlt
      go_wp2_with fail
      go_ret
      exact ⟨rfl, HGR.out⟩
end Go.Proofs.Ythclgmpjmhacdaa.tg
