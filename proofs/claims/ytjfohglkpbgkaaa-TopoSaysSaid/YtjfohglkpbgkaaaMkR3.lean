/- The walks of the document's sets: Within, Drop, And; and the law's Ints. -/
import Derived.Test.YtjfohglkpbgkaaaMkR2
import Derived.Test.YtjfohglkpbgkaaaPiv
namespace Go.Proofs.Ytjfohglkpbgkaaa.mkR
open Go Go.RowKit Go.Par Go.Kit Go.Proofs.Ytjfohglkpbgkaaa.Mk Go.Proofs.Ytjfohglkpbgkaaa.mkW

theorem all_yes {L : List Nat} {p : Nat → Bool} (h : ∀ (k x : Nat), L[k]? = some x → p x = true) : L.all p = true := by
  rw [List.all_eq_true]
  intro x hx
  obtain ⟨k, hk, rfl⟩ := List.getElem_of_mem hx
  exact h k _ (List.getElem?_eq_getElem hk)
theorem all_no {L : List Nat} {p : Nat → Bool} {k x : Nat} (h : L[k]? = some x) (hp : p x = false) : L.all p = false := by
  rw [List.all_eq_false]
  exact ⟨x, List.mem_of_getElem? h, by rw [hp]; decide⟩
set_option maxRecDepth 100000 in
set_option maxHeartbeats 1000000 in
theorem ref_within (w : World) (N M : Int) (v v2 : Value) (L L2 : List Nat) (hv : IntsV w v L) (hv2 : IntsV w v2 L2) :
    Calls Try.prog 36 #[.agg #[.int .i64 N, v], .agg #[.int .i64 M, v2]] w fun e w' => e = .returned (.bool (L.all fun (x : Nat) => hasB L2 (x : Int))) ∧ Grow w w' := by
  have HV2 := Lib.hid hv2
  clear hv2
  obtain ⟨A, c, rfl, h1, h2, h3, -⟩ := hv
  unfold maxLen at h2
  obtain ⟨r, hr⟩ : ∃ r, r = L.all fun (x : Nat) => hasB L2 (x : Int) := ⟨_, rfl⟩
  rw [← hr]
  have HR := Lib.hid hr
  obtain ⟨n, hn⟩ : ∃ n, n = L.length := ⟨_, rfl⟩
  have HN := Lib.hid hn
  rw [← hn] at h1 h3 ⊢
  obtain ⟨W, hW⟩ : ∃ W, W = (w.alloc (.cells #[.int .i64 N, .slice A n c] TX)).alloc (.cells #[.int .i64 M, v2] TX) := ⟨_, rfl⟩
  obtain ⟨b0, hb0⟩ : ∃ b0, b0 = w.heap.size := ⟨_, rfl⟩
  have hgW : Grow w W := by rw [hW]; exact (Grow.alloc w _).trans (Grow.alloc _ _)
  have hbx : Blk W b0 TX [.int .i64 N, .slice A n c] := by rw [hW]; exact (Blk.new w _ _ _ rfl hb0).grow (Grow.alloc _ _)
  have hby : Blk W (b0 + 1) TX [.int .i64 M, v2] := by rw [hW]; exact Blk.new _ _ _ _ rfl (by simp [hb0])
  have HROW := Lib.hid (h3.grow hgW)
  have HBX := Lib.hid hbx
  have HBY := Lib.hid hby
  have HW := Lib.hid hW
  have HB0 := Lib.hid hb0
  have HGW := Lib.hid hgW
  clear hr h3 hn hW hb0 hgW hbx hby
  go_enter Try.func36, Try.ntmps36
  go_wp2_with fail
  rw [← HW.out, ← HB0.out]
  go_loopw [5] (fun i' wr => ∃ k : Nat, k ≤ n ∧ i' = .int .i64 (k : Int) ∧ Grow W wr ∧ Hid (∀ (j x : Nat), j < k → L[j]? = some x → hasB L2 (x : Int) = true)) (fun i' _ => n - (intOf i').toNat)
  case atStart => exact ⟨0, by omega, rfl, Grow.refl _, Lib.hid fun j x h => absurd h (by omega)⟩
  case round =>
    obtain ⟨k, hk, rfl, hg, HI⟩ := hrel
    have z0 := (HBX.out.grow hg).cell (i := 0) rfl
    have z1 := (HBX.out.grow hg).cell (i := 1) rfl
    by_cases hlt : k < n
    · have hrow := HROW.out.grow hg
      rw [HN.out] at hrow
      obtain ⟨b, off, x, rfl, hx, hcell⟩ := Row.nat_at hrow (k := k) (by have := HN.out; omega)
      obtain ⟨q, hq⟩ : ∃ q, q = hasB L2 (x : Int) := ⟨_, rfl⟩
      have HH : Hid (∀ w', Grow wr w' → Calls Try.prog 29 #[.agg #[.int .i64 M, v2], .int .i64 (x : Int)] w' fun e w2 => e = .returned (.bool q) ∧ Grow w' w2) := Lib.hid fun w' hg' => by
        rw [hq]; exact ref_has w' M v2 L2 (HV2.out.grow (HGW.out.trans (hg.trans hg'))) (x : Int)
      have HBYr := Lib.hid (HBY.out.grow hg)
      have HQ := Lib.hid hq
      have HX := Lib.hid hx
      have HG := Lib.hid hg
      clear hx hrow hg hq
      go_wp2_with fail
      apply (fun (v0 v1 v2 v3 v4 v5 v6 v7 : Value) mono obl tail => wp_region_par (R := Grow) (Φ := phi [veq v0, veq v1, veq v2, veq v3, veq v4, veq v5, veq v6, veq v7]) (m := 8) (dls := [[], [], [(14, 1)], [], [(15, 2), (16, 3)], [(17, 4)], [(13, 0), (18, 5)], [(19, 6)]]) (ds := [13, 14, 15, 16, 17, 18, 19, 20]) (by kernel_rfl) (by kernel_rfl) (by decide) rfl (Grow.drew _) (fun _ _ _ => Grow.trans) (mono_phi mono) obl tail)
      case obl =>
        refine obls_cons (fun f w' hR hH Q hQ => ?_) ?_
        · skip
          clear hH
          refine wpList_view ?_; show wpList _ _ _ [_] ⟨#[_, _, _, _, _, _, _, _, _, _, _, _, _, _, _, _, _, _, _, _, _], _⟩ _
          have hby2 := HBYr.out.grow hR
          go_wp2_with (refine load_blk rfl _ _ rfl (b0 + 1) rfl _ _ _ hby2 undX rfl (by rw [sizeX]; rfl) ?_)
          exact hQ _ _ (Grow.refl _) rfl rfl
        refine obls_cons (fun f w' hR hH Q hQ => ?_) ?_
        · skip
          clear hH
          refine wpList_view ?_; show wpList _ _ _ [_] ⟨#[_, _, _, _, _, _, _, _, _, _, _, _, _, _, _, _, _, _, _, _, _], _⟩ _
          repeat (first | go_guarded | go_step)
          exact hQ _ _ (Grow.refl _) rfl rfl
        refine obls_cons (fun f w' hR hH Q hQ => ?_) ?_
        · skip
          have h1 := hH.get 0 (14, 1) rfl
          clear hH
          refine wpList_view ?_; show wpList _ _ _ [_] ⟨#[_, _, _, _, _, _, _, _, _, _, _, _, _, _, f 1, _, _, _, _, _, _], _⟩ _
          rw [show f 1 = _ from h1]
          clear h1
          have y1 := hR.cell z1
          repeat (first | go_guarded | go_step)
          exact hQ _ _ (Grow.refl _) rfl rfl
        refine obls_cons (fun f w' hR hH Q hQ => ?_) ?_
        · skip
          clear hH
          refine wpList_view ?_; show wpList _ _ _ [_] ⟨#[_, _, _, _, _, _, _, _, _, _, _, _, _, _, _, _, _, _, _, _, _], _⟩ _
          repeat (first | go_guarded | go_step)
          exact hQ _ _ (Grow.refl _) rfl rfl
        refine obls_cons (fun f w' hR hH Q hQ => ?_) ?_
        · skip
          have h2 := hH.get 0 (15, 2) rfl
          have h3 := hH.get 1 (16, 3) rfl
          clear hH
          refine wpList_view ?_; show wpList _ _ _ [_] ⟨#[_, _, _, _, _, _, _, _, _, _, _, _, _, _, _, f 2, f 3, _, _, _, _], _⟩ _
          rw [show f 2 = _ from h2]
          rw [show f 3 = _ from h3]
          clear h2 h3
          repeat (first | go_guarded | go_step)
          exact hQ _ _ (Grow.refl _) rfl rfl
        refine obls_cons (fun f w' hR hH Q hQ => ?_) ?_
        · skip
          have h4 := hH.get 0 (17, 4) rfl
          clear hH
          refine wpList_view ?_; show wpList _ _ _ [_] ⟨#[_, _, _, _, _, _, _, _, _, _, _, _, _, _, _, _, _, f 4, _, _, _], _⟩ _
          rw [show f 4 = _ from h4]
          clear h4
          have y2 := hR.cell hcell
          repeat (first | go_guarded | go_step)
          exact hQ _ _ (Grow.refl _) rfl rfl
        refine obls_cons (fun f w' hR hH Q hQ => ?_) ?_
        · skip
          have h0 := hH.get 0 (13, 0) rfl
          have h5 := hH.get 1 (18, 5) rfl
          clear hH
          refine wpList_view ?_; show wpList _ _ _ [_] ⟨#[_, _, _, _, _, _, _, _, _, _, _, _, _, f 0, _, _, _, _, f 5, _, _], _⟩ _
          rw [show f 0 = _ from h0]
          rw [show f 5 = _ from h5]
          clear h0 h5
          go_wp2_with (go_at_call 29; refine (HH.out _ hR).mono ?_; rintro e w1 ⟨rfl, hg1⟩)
          exact hQ _ _ hg1 rfl rfl
        refine obls_cons (fun f w' hR hH Q hQ => ?_) ?_
        · skip
          have h6 := hH.get 0 (19, 6) rfl
          clear hH
          refine wpList_view ?_; show wpList _ _ _ [_] ⟨#[_, _, _, _, _, _, _, _, _, _, _, _, _, _, _, _, _, _, _, f 6, _], _⟩ _
          rw [show f 6 = _ from h6]
          clear h6
          repeat (first | go_guarded | go_step)
          exact hQ _ _ (Grow.refl _) rfl rfl
        exact obls_nil
      case mono => exact ⟨Mono.veq _, Mono.veq _, Mono.veq _, Mono.veq _, Mono.veq _, Mono.veq _, Mono.veq _, Mono.veq _, trivial⟩
      case tail =>
        intro f w' hR hH
        have q7 := hH.get 7 (20, 7) rfl
        clear hH
        refine wpList_merge (idx := [none, none, none, none, none, none, none, none, none, none, none, none, none, some 0, some 1, some 2, some 3, some 4, some 5, some 6, some 7]) (by kernel_rfl) ?_; show wpList _ _ _ [] ⟨#[_, _, _, _, _, _, _, _, _, _, _, _, _, f 0, f 1, f 2, f 3, f 4, f 5, f 6, f 7], _⟩ _
        rw [show f 7 = _ from q7]
        clear q7
        have HGr := Lib.hid hR
        clear hR z0 z1 hcell
        cases q
        · have hr1 : r = false := by rw [HR.out]; exact all_no HX.out HQ.out.symm
          have HR1 := Lib.hid hr1
          clear hr1
          go_wp2_with fail
          go_ret
          exact ⟨by rw [HR1.out]; rfl, HGW.out.trans (HG.out.trans HGr.out)⟩
        · have HI2 : Hid (∀ (j x : Nat), j < k + 1 → L[j]? = some x → hasB L2 (x : Int) = true) := Lib.hid fun j y hj hy => by
            by_cases hjk : j < k
            · exact HI.out j y hjk hy
            · obtain rfl : j = k := by omega
              rw [HX.out] at hy
              obtain rfl := Option.some.inj hy
              exact HQ.out.symm
          clear HI
          go_wp2_with fail
          go_roundw
          case rel => exact ⟨k + 1, by omega, by go_num, HG.out.trans HGr.out, HI2⟩
          case measure => simp [intOf] <;> omega
    · obtain rfl : k = n := by omega
      have hr1 : r = true := by
        rw [HR.out]
        exact all_yes (fun j x hx => HI.out j x (by have := (List.getElem?_eq_some_iff.1 hx).1; have := HN.out; omega) hx)
      have HR1 := Lib.hid hr1
      have HG := Lib.hid hg
      clear hr1 HI hg
      go_wp2_with fail
      go_ret
      exact ⟨by rw [HR1.out]; rfl, HGW.out.trans HG.out⟩
def PhS (w0 wr : World) (b0 gz : Nat) (N : Int) (v z : Value) (Z : List Nat) (b : Nat) (w' : World) : Prop :=
  Blk w' b0 TX [.int .i64 N, v] ∧ Grow w0 w' ∧ (b = 0 → Grow wr w') ∧ (b = 1 → Blk w' gz TX [.int .i64 N, z] ∧ IntsV w' z Z)
set_option maxRecDepth 100000 in
set_option maxHeartbeats 1000000 in
theorem ref_drop (w : World) (N : Int) (v : Value) (L : List Nat) (hv : IntsV w v L) (i : Int) (hL : L.length ≤ 1000000) :
    Calls Try.prog 25 #[.agg #[.int .i64 N, v], .int .i64 i] w fun e w' => ∃ v', e = .returned (.tuple #[.agg #[.int .i64 N, v'], .bool (((L.filter fun (x : Nat) => !((x : Int) == i)).length : Int) != (L.length : Int))]) ∧ IntsV w' v' (L.filter fun (x : Nat) => !((x : Int) == i)) ∧ Grow w w' := by
  obtain ⟨A, c, rfl, h1, h2, h3, -⟩ := hv
  unfold maxLen at h2
  obtain ⟨p, hp⟩ : ∃ p : Nat → Bool, p = fun (x : Nat) => !((x : Int) == i) := ⟨_, rfl⟩
  rw [← hp]
  have HP : Hid (∀ x : Nat, p x = (fun (x : Nat) => !((x : Int) == i)) x) := Lib.hid fun x => by rw [hp]
  obtain ⟨Z, hZ⟩ : ∃ Z, Z = L.filter p := ⟨_, rfl⟩
  rw [← hZ]
  have HZ := Lib.hid hZ
  obtain ⟨n, hn⟩ : ∃ n, n = L.length := ⟨_, rfl⟩
  have HN := Lib.hid hn
  rw [← hn] at h1 h3 hL ⊢
  obtain ⟨W, hW⟩ : ∃ W, W = ((w.alloc (.cells #[.int .i64 N, .slice A n c] TX)).alloc (.cells #[.int .i64 0, .slice none 0 0] TX)) := ⟨_, rfl⟩
  obtain ⟨b0, hb0⟩ : ∃ b0, b0 = w.heap.size := ⟨_, rfl⟩
  have hgW : Grow w W := by rw [hW]; exact (Grow.alloc w _).trans (Grow.alloc _ _)
  have hbx : Blk W b0 TX [.int .i64 N, .slice A n c] := by rw [hW]; exact (Blk.new w _ _ _ rfl hb0).grow (Grow.alloc _ _)
  have hbz : Blk W (b0 + 1) TX [.int .i64 0, .slice none 0 0] := by rw [hW]; exact Blk.new _ _ _ _ rfl (by simp [hb0])
  have hWs : W.heap.size = b0 + 2 := by rw [hW]; simp [hb0]
  have HROW := Lib.hid (h3.grow hgW)
  have HBX := Lib.hid hbx
  have HBZ := Lib.hid hbz
  have HW := Lib.hid hW
  have HB0 := Lib.hid hb0
  have HGW := Lib.hid hgW
  have HWS := Lib.hid hWs
  clear h3 hn hW hb0 hgW hbx hbz hWs hp hZ
  go_enter Try.func25, Try.ntmps25
  go_wp2_with fail
  rw [← HW.out, ← HB0.out]
  go_loopw [6, 7] (fun v0 i' wr => ∃ (k : Nat) (vo : Value), k ≤ n ∧ i' = .int .i64 (k : Int) ∧ vo = v0 ∧ wr.ownsRow W.heap.size 3 1 vo ((L.take k).filter p).length (((L.take k).filter p).map nv) ∧ Grow W wr) (fun _ i' _ => n - (intOf i').toNat)
  case atStart => exact ⟨0, _, by omega, rfl, rfl, World.ownsRow_nil _ _ _ _, Grow.refl _⟩
  case round =>
    obtain ⟨k, vo, hk, rfl, rfl, ho, hg⟩ := hrel
    have z1 := (HBX.out.grow hg).cell (i := 1) rfl
    have z0 := (HBX.out.grow hg).cell (i := 0) rfl
    by_cases hlt : k < n
    · have hrow := HROW.out.grow hg
      rw [HN.out] at hrow
      obtain ⟨b, off, x, rfl, hx, hcell⟩ := Row.nat_at hrow (k := k) (by have := HN.out; omega)
      have hfl := fil_len (L := L) (p := p) k
      have HX := Lib.hid hx
      have HO := Lib.hid ho
      have HG := Lib.hid hg
      by_cases hxi : (x : Int) = i
      · have t1 : ((x : Int) == i) = true := beq_iff_eq.2 hxi
        have HQ : Hid (p x = false) := Lib.hid (by rw [HP.out]; simp only [t1, Bool.not_true])
        clear hxi hx hrow ho hg
        have HFN := Lib.hid (fil_no (p := p) HX.out HQ.out)
        go_wp2_with fail
        go_roundw
        case rel => exact ⟨k + 1, _, by omega, by go_num, rfl, by rw [HFN.out]; exact HO.out, HG.out⟩
        case measure => simp [intOf] <;> omega
      · have t1 : ((x : Int) == i) = false := beq_false_of_ne hxi
        have HQ : Hid (p x = true) := Lib.hid (by rw [HP.out]; simp only [t1, Bool.not_false])
        clear hxi hx hrow ho hg
        have HFY := Lib.hid (fil_yes (p := p) HX.out HQ.out)
        obtain ⟨F, hF⟩ : ∃ F, F = (L.take k).filter p := ⟨_, rfl⟩
        have hown := HO.out
        rw [← hF] at hown hfl HFY
        have hsz : W.heap.size ≤ wr.heap.size := HG.out.size
        have hl1 : F.length + 1 ≤ maxLen := by unfold maxLen; omega
        have hl2 : (F.length + 1) * 8 ≤ 140737488355328 := by omega
        clear hF HO
        go_wp2_with (at_builtin; refine append_fresh 8 Try.underlying22 iI iIz iIs iIb rfl rfl _ _ rfl W.heap.size _ _ _ hown rfl rfl rfl hl1 hl2 hsz ?_; intro v1 w3 hown1 hgb1 hh1)
        have hg3 := grow_by (HG.out.trans (Grow.alloc wr _)) hgb1 (own_base hown)
        have ho3 : w3.ownsRow W.heap.size 3 1 v1 ((L.take (k + 1)).filter p).length (((L.take (k + 1)).filter p).map nv) := by rw [HFY.out]; simpa [nv] using hown1
        have HO3 := Lib.hid ho3
        have HG3 := Lib.hid hg3
        obtain ⟨A5, c5, rfl, -, -, -⟩ := own_form hown1
        clear hown1 hgb1 hh1 hg3 ho3 hown
        go_roundw
        case rel => exact ⟨k + 1, _, by omega, by go_num, rfl, HO3.out, HG3.out⟩
        case measure => simp [intOf] <;> omega
    · obtain rfl : k = n := by omega
      have e : L.take k = L := List.take_of_length_le (by have := HN.out; omega)
      rw [e, ← HZ.out] at ho
      have hob := own_base ho
      obtain ⟨A6, c6, rfl, -, -, -⟩ := own_form ho
      have hzb := HBZ.out.grow hg
      have HZB := Lib.hid hzb
      have HIV : Hid (∀ (w' : World) l, Grow wr w' → IntsV (w'.setRow (b0 + 1) l) (.slice A6 Z.length c6) Z) := Lib.hid fun w' l hg' => IntsV.own (own_farRow (own_grow ho hg') (fun q hq => by have := hob q hq; have := HWS.out; omega) l)
      have HBXR := Lib.hid (HBX.out.grow hg)
      have HG := Lib.hid (HGW.out.trans hg)
      have HGZ : Hid (w.heap.size ≤ (b0 + 1) ∧ b0 ≠ (b0 + 1)) := Lib.hid (by have := HB0.out; omega)
      have HOB := Lib.hid hob
      clear e ho hg hob hzb
      go_wp2_with fail
      apply (fun (v0 v1 v2 v3 v4 v5 v6 v7 v8 v9 v11 : Value) mono draw obl tail => wp_region_piv (I := PhS w wr b0 (b0 + 1) N (.slice A k c) (.slice A6 Z.length c6) Z) (G := Grow) (Rp := (fun _ _ _ => True)) (Φ := phi2 [veq2 v0, veq2 v1, veq2 v2, veq2 v3, veq2 v4, veq2 v5, veq2 v6, veq2 v7, veq2 v8, veq2 v9, (veq2 undef), veq2 v11]) (m := 12) (ps := [10]) (qs := [(0, 0, false), (0, 0, false), (0, 0, false), (0, 0, false), (0, 1, false), (0, 1, false), (0, 1, false), (0, 1, false), (0, 1, false), (0, 1, false), (0, 0, true), (1, 1, false)]) (dls := [[], [(30, 0)], [], [(31, 1), (32, 2)], [], [(34, 4)], [], [(36, 6)], [(37, 7)], [(35, 5), (38, 8)], [(33, 3)], [(39, 9)]]) (ds := [30, 31, 32, 33, 34, 35, 36, 37, 38, 39, 51, 5]) (by kernel_rfl) (by kernel_rfl) (by kernel_rfl) (by decide) rfl rfl draw (mono2_phi mono) (piv2_phi mono) obl tail)
      case obl =>
        refine obls2_cons (fun b hb1 hb2 f w' hI hH Q hQ => ?_) ?_
        · skip
          obtain rfl : b = 0 := by omega
          clear hb1 hb2
          clear hH
          refine wpList_view ?_; show wpList _ _ _ [_] ⟨#[_, _, _, _, _, _, _, _, _, _, _, _, _, _, _, _, _, _, _, _, _, _, _, _, _, _, _, _, _, _, _, _, _, _, _, _, _, _, _, _], _⟩ _
          repeat (first | go_guarded | go_step)
          exact hQ _ _ hI (Grow.refl _) rfl rfl
        refine obls2_cons (fun b hb1 hb2 f w' hI hH Q hQ => ?_) ?_
        · skip
          obtain rfl : b = 0 := by omega
          clear hb1 hb2
          have h0 := hH.get 0 (30, 0) rfl
          clear hH
          refine wpList_view ?_; show wpList _ _ _ [_] ⟨#[_, _, _, _, _, _, _, _, _, _, _, _, _, _, _, _, _, _, _, _, _, _, _, _, _, _, _, _, _, _, f 0, _, _, _, _, _, _, _, _, _], _⟩ _
          rw [show f 0 = _ from h0]
          clear h0
          have y0 := hI.1.cell (i := 0) rfl
          repeat (first | go_guarded | go_step)
          exact hQ _ _ hI (Grow.refl _) rfl rfl
        refine obls2_cons (fun b hb1 hb2 f w' hI hH Q hQ => ?_) ?_
        · skip
          obtain rfl : b = 0 := by omega
          clear hb1 hb2
          clear hH
          refine wpList_view ?_; show wpList _ _ _ [_] ⟨#[_, _, _, _, _, _, _, _, _, _, _, _, _, _, _, _, _, _, _, _, _, _, _, _, _, _, _, _, _, _, _, _, _, _, _, _, _, _, _, _], _⟩ _
          repeat (first | go_guarded | go_step)
          exact hQ _ _ hI (Grow.refl _) rfl rfl
        refine obls2_cons (fun b hb1 hb2 f w' hI hH Q hQ => ?_) ?_
        · skip
          obtain rfl : b = 0 := by omega
          clear hb1 hb2
          have h1 := hH.get 0 (31, 1) rfl
          have h2 := hH.get 1 (32, 2) rfl
          clear hH
          refine wpList_view ?_; show wpList _ _ _ [_] ⟨#[_, _, _, _, _, _, _, _, _, _, _, _, _, _, _, _, _, _, _, _, _, _, _, _, _, _, _, _, _, _, _, f 1, f 2, _, _, _, _, _, _, _], _⟩ _
          rw [show f 1 = _ from h1]
          rw [show f 2 = _ from h2]
          clear h1 h2
          repeat (first | go_guarded | go_step)
          exact hQ _ _ hI (Grow.refl _) rfl rfl
        refine obls2_cons (fun b hb1 hb2 f w' hI hH Q hQ => ?_) ?_
        · skip
          clear hH
          refine wpList_view ?_; show wpList _ _ _ [_] ⟨#[_, _, _, _, _, _, _, _, _, _, _, _, _, _, _, _, _, _, _, _, _, _, _, _, _, _, _, _, _, _, _, _, _, _, _, _, _, _, _, _], _⟩ _
          repeat (first | go_guarded | go_step)
          exact hQ _ _ hI (Grow.refl _) rfl rfl
        refine obls2_cons (fun b hb1 hb2 f w' hI hH Q hQ => ?_) ?_
        · skip
          have h4 := hH.get 0 (34, 4) rfl
          clear hH
          refine wpList_view ?_; show wpList _ _ _ [_] ⟨#[_, _, _, _, _, _, _, _, _, _, _, _, _, _, _, _, _, _, _, _, _, _, _, _, _, _, _, _, _, _, _, _, _, _, f 4, _, _, _, _, _], _⟩ _
          rw [show f 4 = _ from h4]
          clear h4
          repeat (first | go_guarded | go_step)
          exact hQ _ _ hI (Grow.refl _) rfl rfl
        refine obls2_cons (fun b hb1 hb2 f w' hI hH Q hQ => ?_) ?_
        · skip
          clear hH
          refine wpList_view ?_; show wpList _ _ _ [_] ⟨#[_, _, _, _, _, _, _, _, _, _, _, _, _, _, _, _, _, _, _, _, _, _, _, _, _, _, _, _, _, _, _, _, _, _, _, _, _, _, _, _], _⟩ _
          repeat (first | go_guarded | go_step)
          exact hQ _ _ hI (Grow.refl _) rfl rfl
        refine obls2_cons (fun b hb1 hb2 f w' hI hH Q hQ => ?_) ?_
        · skip
          have h6 := hH.get 0 (36, 6) rfl
          clear hH
          refine wpList_view ?_; show wpList _ _ _ [_] ⟨#[_, _, _, _, _, _, _, _, _, _, _, _, _, _, _, _, _, _, _, _, _, _, _, _, _, _, _, _, _, _, _, _, _, _, _, _, f 6, _, _, _], _⟩ _
          rw [show f 6 = _ from h6]
          clear h6
          have y1 := hI.1.cell (i := 1) rfl
          repeat (first | go_guarded | go_step)
          exact hQ _ _ hI (Grow.refl _) rfl rfl
        refine obls2_cons (fun b hb1 hb2 f w' hI hH Q hQ => ?_) ?_
        · skip
          have h7 := hH.get 0 (37, 7) rfl
          clear hH
          refine wpList_view ?_; show wpList _ _ _ [_] ⟨#[_, _, _, _, _, _, _, _, _, _, _, _, _, _, _, _, _, _, _, _, _, _, _, _, _, _, _, _, _, _, _, _, _, _, _, _, _, f 7, _, _], _⟩ _
          rw [show f 7 = _ from h7]
          clear h7
          repeat (first | go_guarded | go_step)
          exact hQ _ _ hI (Grow.refl _) rfl rfl
        refine obls2_cons (fun b hb1 hb2 f w' hI hH Q hQ => ?_) ?_
        · skip
          have h5 := hH.get 0 (35, 5) rfl
          have h8 := hH.get 1 (38, 8) rfl
          clear hH
          refine wpList_view ?_; show wpList _ _ _ [_] ⟨#[_, _, _, _, _, _, _, _, _, _, _, _, _, _, _, _, _, _, _, _, _, _, _, _, _, _, _, _, _, _, _, _, _, _, _, f 5, _, _, f 8, _], _⟩ _
          rw [show f 5 = _ from h5]
          rw [show f 8 = _ from h8]
          clear h5 h8
          repeat (first | go_guarded | go_step)
          exact hQ _ _ hI (Grow.refl _) rfl rfl
        refine oblsP_cons (fun f w' hI hH Q hQ => ?_) ?_
        · skip
          have h3 := hH.get 0 (33, 3) rfl
          clear hH
          refine wpList_view ?_; show wpList _ _ _ [_] ⟨#[_, _, _, _, _, _, _, _, _, _, _, _, _, _, _, _, _, _, _, _, _, _, _, _, _, _, _, _, _, _, _, _, _, f 3, _, _, _, _, _, _], _⟩ _
          rw [show f 3 = _ from h3]
          clear h3
          have hzb := HZB.out.grow (hI.2.2.1 rfl)
          have HI := Lib.hid hI
          clear hI
          go_wp2_with (refine store_blk rfl _ _ _ rfl (b0 + 1) [.int .i64 N, .slice A6 Z.length c6] rfl rfl _ _ hzb (by rw [sizeX]; rfl) rfl rfl ?_)
          exact hQ _ _ ⟨HI.out.1.farRow HGZ.out.2 _, Grow.setRow HI.out.2.1 HGZ.out.1 _, fun h => absurd h (by decide), fun _ => ⟨hzb.setRow _, HIV.out _ _ (HI.out.2.2.1 rfl)⟩⟩ trivial rfl rfl
        refine obls2_cons (fun b hb1 hb2 f w' hI hH Q hQ => ?_) ?_
        · skip
          obtain rfl : b = 1 := by omega
          clear hb1 hb2
          have h9 := hH.get 0 (39, 9) rfl
          clear hH
          refine wpList_view ?_; show wpList _ _ _ [_] ⟨#[_, _, _, _, _, _, _, _, _, _, _, _, _, _, _, _, _, _, _, _, _, _, _, _, _, _, _, _, _, _, _, _, _, _, _, _, _, _, _, f 9], _⟩ _
          rw [show f 9 = _ from h9]
          clear h9
          repeat (first | go_guarded | go_step)
          exact hQ _ _ hI (Grow.refl _) rfl rfl
        exact obls2_nil
      case draw =>
        exact ⟨HBXR.out.grow (Grow.drew _), HG.out.trans (Grow.drew _), fun _ => Grow.drew _, fun h => absurd h (by decide)⟩
      case mono => exact ⟨Mono2.veq _, Mono2.veq _, Mono2.veq _, Mono2.veq _, Mono2.veq _, Mono2.veq _, Mono2.veq _, Mono2.veq _, Mono2.veq _, Mono2.veq _, Mono2.veq _, Mono2.veq _, trivial⟩
      case tail =>
        intro f w' hI hH
        have q11 := hH.get 11 (5, 11) rfl
        clear hH
        refine wpList_merge (idx := [none, none, none, none, none, some 11, none, none, none, none, none, none, none, none, none, none, none, none, none, none, none, none, none, none, none, none, none, none, none, none, some 0, some 1, some 2, some 3, some 4, some 5, some 6, some 7, some 8, some 9]) (by kernel_rfl) ?_; show wpList _ _ _ [] ⟨#[_, _, _, _, _, f 11, _, _, _, _, _, _, _, _, _, _, _, _, _, _, _, _, _, _, _, _, _, _, _, _, f 0, f 1, f 2, f 3, f 4, f 5, f 6, f 7, f 8, f 9], _⟩ _
        rw [show f 11 = _ from q11]
        clear q11
        have HI := Lib.hid hI
        clear hI z0 z1
        go_wp2_with fail
        exact ret_blk_tmp rfl (b0 + 1) _ [.int .i64 N, .slice A6 Z.length c6] _ _ rfl (HI.out.2.2.2 rfl).1 undX rfl (by rw [sizeX]; rfl) rfl rfl ⟨_, by (first | rfl | simp), (HI.out.2.2.2 rfl).2, HI.out.2.1⟩
set_option maxRecDepth 100000 in
set_option maxHeartbeats 1000000 in
theorem ref_and (w : World) (N M : Int) (v v2 : Value) (L L2 : List Nat) (hv : IntsV w v L) (hv2 : IntsV w v2 L2) (hL : L.length ≤ 1000000) :
    Calls Try.prog 27 #[.agg #[.int .i64 N, v], .agg #[.int .i64 M, v2]] w fun e w' => ∃ v', e = .returned (.tuple #[.agg #[.int .i64 N, v'], .bool (((L.filter fun (x : Nat) => hasB L2 (x : Int)).length : Int) != (L.length : Int))]) ∧ IntsV w' v' (L.filter fun (x : Nat) => hasB L2 (x : Int)) ∧ Grow w w' := by
  have HV2 := Lib.hid hv2
  clear hv2
  obtain ⟨A, c, rfl, h1, h2, h3, -⟩ := hv
  unfold maxLen at h2
  obtain ⟨p, hp⟩ : ∃ p : Nat → Bool, p = fun (x : Nat) => hasB L2 (x : Int) := ⟨_, rfl⟩
  rw [← hp]
  have HP : Hid (∀ x : Nat, p x = (fun (x : Nat) => hasB L2 (x : Int)) x) := Lib.hid fun x => by rw [hp]
  obtain ⟨Z, hZ⟩ : ∃ Z, Z = L.filter p := ⟨_, rfl⟩
  rw [← hZ]
  have HZ := Lib.hid hZ
  obtain ⟨n, hn⟩ : ∃ n, n = L.length := ⟨_, rfl⟩
  have HN := Lib.hid hn
  rw [← hn] at h1 h3 hL ⊢
  obtain ⟨W, hW⟩ : ∃ W, W = (((w.alloc (.cells #[.int .i64 N, .slice A n c] TX)).alloc (.cells #[.int .i64 M, v2] TX)).alloc (.cells #[.int .i64 0, .slice none 0 0] TX)) := ⟨_, rfl⟩
  obtain ⟨b0, hb0⟩ : ∃ b0, b0 = w.heap.size := ⟨_, rfl⟩
  have hgW : Grow w W := by rw [hW]; exact ((Grow.alloc w _).trans (Grow.alloc _ _)).trans (Grow.alloc _ _)
  have hbx : Blk W b0 TX [.int .i64 N, .slice A n c] := by rw [hW]; exact (Blk.new w _ _ _ rfl hb0).grow ((Grow.alloc _ _).trans (Grow.alloc _ _))
  have hby : Blk W (b0 + 1) TX [.int .i64 M, v2] := by rw [hW]; exact (Blk.new _ _ _ _ rfl (by simp [hb0])).grow (Grow.alloc _ _)
  have HBY := Lib.hid hby
  have hbz : Blk W (b0 + 2) TX [.int .i64 0, .slice none 0 0] := by rw [hW]; exact Blk.new _ _ _ _ rfl (by simp [hb0])
  have hWs : W.heap.size = b0 + 3 := by rw [hW]; simp [hb0]
  have HROW := Lib.hid (h3.grow hgW)
  have HBX := Lib.hid hbx
  have HBZ := Lib.hid hbz
  have HW := Lib.hid hW
  have HB0 := Lib.hid hb0
  have HGW := Lib.hid hgW
  have HWS := Lib.hid hWs
  clear h3 hn hW hb0 hgW hbx hbz hWs hp hZ hby
  go_enter Try.func27, Try.ntmps27
  go_wp2_with fail
  rw [← HW.out, ← HB0.out]
  go_loopw [6, 7] (fun v0 i' wr => ∃ (k : Nat) (vo : Value), k ≤ n ∧ i' = .int .i64 (k : Int) ∧ vo = v0 ∧ wr.ownsRow W.heap.size 3 1 vo ((L.take k).filter p).length (((L.take k).filter p).map nv) ∧ Grow W wr) (fun _ i' _ => n - (intOf i').toNat)
  case atStart => exact ⟨0, _, by omega, rfl, rfl, World.ownsRow_nil _ _ _ _, Grow.refl _⟩
  case round =>
    obtain ⟨k, vo, hk, rfl, rfl, ho, hg⟩ := hrel
    have z1 := (HBX.out.grow hg).cell (i := 1) rfl
    have z0 := (HBX.out.grow hg).cell (i := 0) rfl
    by_cases hlt : k < n
    · have hrow := HROW.out.grow hg
      rw [HN.out] at hrow
      obtain ⟨b, off, x, rfl, hx, hcell⟩ := Row.nat_at hrow (k := k) (by have := HN.out; omega)
      have hfl := fil_len (L := L) (p := p) k
      have HX := Lib.hid hx
      have HO := Lib.hid ho
      have HG := Lib.hid hg
      obtain ⟨q, hq⟩ : ∃ q, q = hasB L2 (x : Int) := ⟨_, rfl⟩
      have HH : Hid (∀ w', Grow wr w' → Calls Try.prog 29 #[.agg #[.int .i64 M, v2], .int .i64 (x : Int)] w' fun e w2 => e = .returned (.bool q) ∧ Grow w' w2) := Lib.hid fun w' hg' => by
        rw [hq]; exact ref_has w' M v2 L2 (HV2.out.grow (HGW.out.trans (hg.trans hg'))) (x : Int)
      have HBYr := Lib.hid (HBY.out.grow hg)
      have HQ : Hid (p x = q) := Lib.hid (by rw [HP.out, hq])
      have hob := own_base ho
      have HOB := Lib.hid hob
      clear hx hrow hg hq ho hob
      go_wp2_with fail
      apply (fun (v0 v1 v2 v3 v4 v5 v6 : Value) mono obl tail => wp_region_par (R := Grow) (Φ := phi [veq v0, veq v1, veq v2, veq v3, veq v4, veq v5, veq v6]) (m := 7) (dls := [[], [], [(16, 1)], [], [(17, 2), (18, 3)], [(19, 4)], [(15, 0), (20, 5)]]) (ds := [15, 16, 17, 18, 19, 20, 21]) (by kernel_rfl) (by kernel_rfl) (by decide) rfl (Grow.drew _) (fun _ _ _ => Grow.trans) (mono_phi mono) obl tail)
      case obl =>
        refine obls_cons (fun f w' hR hH Q hQ => ?_) ?_
        · skip
          clear hH
          refine wpList_view ?_; show wpList _ _ _ [_] ⟨#[_, _, _, _, _, _, _, _, _, _, _, _, _, _, _, _, _, _, _, _, _, _, _, _, _, _, _, _, _, _, _, _, _, _, _, _, _, _, _, _], _⟩ _
          have hby2 := HBYr.out.grow hR
          go_wp2_with (refine load_blk rfl _ _ rfl (b0 + 1) rfl _ _ _ hby2 undX rfl (by rw [sizeX]; rfl) ?_)
          exact hQ _ _ (Grow.refl _) rfl rfl
        refine obls_cons (fun f w' hR hH Q hQ => ?_) ?_
        · skip
          clear hH
          refine wpList_view ?_; show wpList _ _ _ [_] ⟨#[_, _, _, _, _, _, _, _, _, _, _, _, _, _, _, _, _, _, _, _, _, _, _, _, _, _, _, _, _, _, _, _, _, _, _, _, _, _, _, _], _⟩ _
          repeat (first | go_guarded | go_step)
          exact hQ _ _ (Grow.refl _) rfl rfl
        refine obls_cons (fun f w' hR hH Q hQ => ?_) ?_
        · skip
          have h1 := hH.get 0 (16, 1) rfl
          clear hH
          refine wpList_view ?_; show wpList _ _ _ [_] ⟨#[_, _, _, _, _, _, _, _, _, _, _, _, _, _, _, _, f 1, _, _, _, _, _, _, _, _, _, _, _, _, _, _, _, _, _, _, _, _, _, _, _], _⟩ _
          rw [show f 1 = _ from h1]
          clear h1
          have y1 := hR.cell z1
          repeat (first | go_guarded | go_step)
          exact hQ _ _ (Grow.refl _) rfl rfl
        refine obls_cons (fun f w' hR hH Q hQ => ?_) ?_
        · skip
          clear hH
          refine wpList_view ?_; show wpList _ _ _ [_] ⟨#[_, _, _, _, _, _, _, _, _, _, _, _, _, _, _, _, _, _, _, _, _, _, _, _, _, _, _, _, _, _, _, _, _, _, _, _, _, _, _, _], _⟩ _
          repeat (first | go_guarded | go_step)
          exact hQ _ _ (Grow.refl _) rfl rfl
        refine obls_cons (fun f w' hR hH Q hQ => ?_) ?_
        · skip
          have h2 := hH.get 0 (17, 2) rfl
          have h3 := hH.get 1 (18, 3) rfl
          clear hH
          refine wpList_view ?_; show wpList _ _ _ [_] ⟨#[_, _, _, _, _, _, _, _, _, _, _, _, _, _, _, _, _, f 2, f 3, _, _, _, _, _, _, _, _, _, _, _, _, _, _, _, _, _, _, _, _, _], _⟩ _
          rw [show f 2 = _ from h2]
          rw [show f 3 = _ from h3]
          clear h2 h3
          repeat (first | go_guarded | go_step)
          exact hQ _ _ (Grow.refl _) rfl rfl
        refine obls_cons (fun f w' hR hH Q hQ => ?_) ?_
        · skip
          have h4 := hH.get 0 (19, 4) rfl
          clear hH
          refine wpList_view ?_; show wpList _ _ _ [_] ⟨#[_, _, _, _, _, _, _, _, _, _, _, _, _, _, _, _, _, _, _, f 4, _, _, _, _, _, _, _, _, _, _, _, _, _, _, _, _, _, _, _, _], _⟩ _
          rw [show f 4 = _ from h4]
          clear h4
          have y2 := hR.cell hcell
          repeat (first | go_guarded | go_step)
          exact hQ _ _ (Grow.refl _) rfl rfl
        refine obls_cons (fun f w' hR hH Q hQ => ?_) ?_
        · skip
          have h0 := hH.get 0 (15, 0) rfl
          have h5 := hH.get 1 (20, 5) rfl
          clear hH
          refine wpList_view ?_; show wpList _ _ _ [_] ⟨#[_, _, _, _, _, _, _, _, _, _, _, _, _, _, _, f 0, _, _, _, _, f 5, _, _, _, _, _, _, _, _, _, _, _, _, _, _, _, _, _, _, _], _⟩ _
          rw [show f 0 = _ from h0]
          rw [show f 5 = _ from h5]
          clear h0 h5
          go_wp2_with (go_at_call 29; refine (HH.out _ hR).mono ?_; rintro e w1 ⟨rfl, hg1⟩)
          exact hQ _ _ hg1 rfl rfl
        exact obls_nil
      case mono => exact ⟨Mono.veq _, Mono.veq _, Mono.veq _, Mono.veq _, Mono.veq _, Mono.veq _, Mono.veq _, trivial⟩
      case tail =>
        intro f w' hR hH
        have q6 := hH.get 6 (21, 6) rfl
        clear hH
        refine wpList_merge (idx := [none, none, none, none, none, none, none, none, none, none, none, none, none, none, none, some 0, some 1, some 2, some 3, some 4, some 5, some 6, none, none, none, none, none, none, none, none, none, none, none, none, none, none, none, none, none, none]) (by kernel_rfl) ?_; show wpList _ _ _ [] ⟨#[_, _, _, _, _, _, _, _, _, _, _, _, _, _, _, f 0, f 1, f 2, f 3, f 4, f 5, f 6, _, _, _, _, _, _, _, _, _, _, _, _, _, _, _, _, _, _], _⟩ _
        rw [show f 6 = _ from q6]
        clear q6
        have HGr := Lib.hid hR
        have y1 := hR.cell z1
        have y2 := hR.cell hcell
        have hoR := own_grow HO.out hR
        have HOR := Lib.hid hoR
        clear hR z0 z1 hcell hoR
        cases q
        · skip
          have HFN := Lib.hid (fil_no (p := p) HX.out HQ.out)
          go_wp2_with fail
          go_roundw
          case rel => exact ⟨k + 1, _, by omega, by go_num, rfl, by rw [HFN.out]; exact HOR.out, HG.out.trans HGr.out⟩
          case measure => simp [intOf] <;> omega
        · skip
          have HFY := Lib.hid (fil_yes (p := p) HX.out HQ.out)
          obtain ⟨F, hF⟩ : ∃ F, F = (L.take k).filter p := ⟨_, rfl⟩
          have hown := HOR.out
          rw [← hF] at hown hfl HFY
          have hsz : W.heap.size ≤ w'.heap.size := (HG.out.trans HGr.out).size
          have hl1 : F.length + 1 ≤ maxLen := by unfold maxLen; omega
          have hl2 : (F.length + 1) * 8 ≤ 140737488355328 := by omega
          clear hF HO
          go_wp2_with (at_builtin; refine append_fresh 8 Try.underlying22 iI iIz iIs iIb rfl rfl _ _ rfl W.heap.size _ _ _ hown rfl rfl rfl hl1 hl2 hsz ?_; intro v1 w3 hown1 hgb1 hh1)
          have hg3 := grow_by (HG.out.trans (HGr.out.trans (Grow.alloc _ _))) hgb1 (own_base hown)
          have ho3 : w3.ownsRow W.heap.size 3 1 v1 ((L.take (k + 1)).filter p).length (((L.take (k + 1)).filter p).map nv) := by rw [HFY.out]; simpa [nv] using hown1
          have HO3 := Lib.hid ho3
          have HG3 := Lib.hid hg3
          obtain ⟨A5, c5, rfl, -, -, -⟩ := own_form hown1
          clear hown1 hgb1 hh1 hg3 ho3 hown
          go_roundw
          case rel => exact ⟨k + 1, _, by omega, by go_num, rfl, HO3.out, HG3.out⟩
          case measure => simp [intOf] <;> omega
    · obtain rfl : k = n := by omega
      have e : L.take k = L := List.take_of_length_le (by have := HN.out; omega)
      rw [e, ← HZ.out] at ho
      have hob := own_base ho
      obtain ⟨A6, c6, rfl, -, -, -⟩ := own_form ho
      have hzb := HBZ.out.grow hg
      have HZB := Lib.hid hzb
      have HIV : Hid (∀ (w' : World) l, Grow wr w' → IntsV (w'.setRow (b0 + 2) l) (.slice A6 Z.length c6) Z) := Lib.hid fun w' l hg' => IntsV.own (own_farRow (own_grow ho hg') (fun q hq => by have := hob q hq; have := HWS.out; omega) l)
      have HBXR := Lib.hid (HBX.out.grow hg)
      have HG := Lib.hid (HGW.out.trans hg)
      have HGZ : Hid (w.heap.size ≤ (b0 + 2) ∧ b0 ≠ (b0 + 2)) := Lib.hid (by have := HB0.out; omega)
      have HOB := Lib.hid hob
      clear e ho hg hob hzb
      go_wp2_with fail
      apply (fun (v0 v1 v2 v3 v4 v5 v6 v7 v8 v9 v11 : Value) mono draw obl tail => wp_region_piv (I := PhS w wr b0 (b0 + 2) N (.slice A k c) (.slice A6 Z.length c6) Z) (G := Grow) (Rp := (fun _ _ _ => True)) (Φ := phi2 [veq2 v0, veq2 v1, veq2 v2, veq2 v3, veq2 v4, veq2 v5, veq2 v6, veq2 v7, veq2 v8, veq2 v9, (veq2 undef), veq2 v11]) (m := 12) (ps := [10]) (qs := [(0, 0, false), (0, 0, false), (0, 0, false), (0, 0, false), (0, 1, false), (0, 1, false), (0, 1, false), (0, 1, false), (0, 1, false), (0, 1, false), (0, 0, true), (1, 1, false)]) (dls := [[], [(30, 0)], [], [(31, 1), (32, 2)], [], [(34, 4)], [], [(36, 6)], [(37, 7)], [(35, 5), (38, 8)], [(33, 3)], [(39, 9)]]) (ds := [30, 31, 32, 33, 34, 35, 36, 37, 38, 39, 51, 5]) (by kernel_rfl) (by kernel_rfl) (by kernel_rfl) (by decide) rfl rfl draw (mono2_phi mono) (piv2_phi mono) obl tail)
      case obl =>
        refine obls2_cons (fun b hb1 hb2 f w' hI hH Q hQ => ?_) ?_
        · skip
          obtain rfl : b = 0 := by omega
          clear hb1 hb2
          clear hH
          refine wpList_view ?_; show wpList _ _ _ [_] ⟨#[_, _, _, _, _, _, _, _, _, _, _, _, _, _, _, _, _, _, _, _, _, _, _, _, _, _, _, _, _, _, _, _, _, _, _, _, _, _, _, _], _⟩ _
          repeat (first | go_guarded | go_step)
          exact hQ _ _ hI (Grow.refl _) rfl rfl
        refine obls2_cons (fun b hb1 hb2 f w' hI hH Q hQ => ?_) ?_
        · skip
          obtain rfl : b = 0 := by omega
          clear hb1 hb2
          have h0 := hH.get 0 (30, 0) rfl
          clear hH
          refine wpList_view ?_; show wpList _ _ _ [_] ⟨#[_, _, _, _, _, _, _, _, _, _, _, _, _, _, _, _, _, _, _, _, _, _, _, _, _, _, _, _, _, _, f 0, _, _, _, _, _, _, _, _, _], _⟩ _
          rw [show f 0 = _ from h0]
          clear h0
          have y0 := hI.1.cell (i := 0) rfl
          repeat (first | go_guarded | go_step)
          exact hQ _ _ hI (Grow.refl _) rfl rfl
        refine obls2_cons (fun b hb1 hb2 f w' hI hH Q hQ => ?_) ?_
        · skip
          obtain rfl : b = 0 := by omega
          clear hb1 hb2
          clear hH
          refine wpList_view ?_; show wpList _ _ _ [_] ⟨#[_, _, _, _, _, _, _, _, _, _, _, _, _, _, _, _, _, _, _, _, _, _, _, _, _, _, _, _, _, _, _, _, _, _, _, _, _, _, _, _], _⟩ _
          repeat (first | go_guarded | go_step)
          exact hQ _ _ hI (Grow.refl _) rfl rfl
        refine obls2_cons (fun b hb1 hb2 f w' hI hH Q hQ => ?_) ?_
        · skip
          obtain rfl : b = 0 := by omega
          clear hb1 hb2
          have h1 := hH.get 0 (31, 1) rfl
          have h2 := hH.get 1 (32, 2) rfl
          clear hH
          refine wpList_view ?_; show wpList _ _ _ [_] ⟨#[_, _, _, _, _, _, _, _, _, _, _, _, _, _, _, _, _, _, _, _, _, _, _, _, _, _, _, _, _, _, _, f 1, f 2, _, _, _, _, _, _, _], _⟩ _
          rw [show f 1 = _ from h1]
          rw [show f 2 = _ from h2]
          clear h1 h2
          repeat (first | go_guarded | go_step)
          exact hQ _ _ hI (Grow.refl _) rfl rfl
        refine obls2_cons (fun b hb1 hb2 f w' hI hH Q hQ => ?_) ?_
        · skip
          clear hH
          refine wpList_view ?_; show wpList _ _ _ [_] ⟨#[_, _, _, _, _, _, _, _, _, _, _, _, _, _, _, _, _, _, _, _, _, _, _, _, _, _, _, _, _, _, _, _, _, _, _, _, _, _, _, _], _⟩ _
          repeat (first | go_guarded | go_step)
          exact hQ _ _ hI (Grow.refl _) rfl rfl
        refine obls2_cons (fun b hb1 hb2 f w' hI hH Q hQ => ?_) ?_
        · skip
          have h4 := hH.get 0 (34, 4) rfl
          clear hH
          refine wpList_view ?_; show wpList _ _ _ [_] ⟨#[_, _, _, _, _, _, _, _, _, _, _, _, _, _, _, _, _, _, _, _, _, _, _, _, _, _, _, _, _, _, _, _, _, _, f 4, _, _, _, _, _], _⟩ _
          rw [show f 4 = _ from h4]
          clear h4
          repeat (first | go_guarded | go_step)
          exact hQ _ _ hI (Grow.refl _) rfl rfl
        refine obls2_cons (fun b hb1 hb2 f w' hI hH Q hQ => ?_) ?_
        · skip
          clear hH
          refine wpList_view ?_; show wpList _ _ _ [_] ⟨#[_, _, _, _, _, _, _, _, _, _, _, _, _, _, _, _, _, _, _, _, _, _, _, _, _, _, _, _, _, _, _, _, _, _, _, _, _, _, _, _], _⟩ _
          repeat (first | go_guarded | go_step)
          exact hQ _ _ hI (Grow.refl _) rfl rfl
        refine obls2_cons (fun b hb1 hb2 f w' hI hH Q hQ => ?_) ?_
        · skip
          have h6 := hH.get 0 (36, 6) rfl
          clear hH
          refine wpList_view ?_; show wpList _ _ _ [_] ⟨#[_, _, _, _, _, _, _, _, _, _, _, _, _, _, _, _, _, _, _, _, _, _, _, _, _, _, _, _, _, _, _, _, _, _, _, _, f 6, _, _, _], _⟩ _
          rw [show f 6 = _ from h6]
          clear h6
          have y1 := hI.1.cell (i := 1) rfl
          repeat (first | go_guarded | go_step)
          exact hQ _ _ hI (Grow.refl _) rfl rfl
        refine obls2_cons (fun b hb1 hb2 f w' hI hH Q hQ => ?_) ?_
        · skip
          have h7 := hH.get 0 (37, 7) rfl
          clear hH
          refine wpList_view ?_; show wpList _ _ _ [_] ⟨#[_, _, _, _, _, _, _, _, _, _, _, _, _, _, _, _, _, _, _, _, _, _, _, _, _, _, _, _, _, _, _, _, _, _, _, _, _, f 7, _, _], _⟩ _
          rw [show f 7 = _ from h7]
          clear h7
          repeat (first | go_guarded | go_step)
          exact hQ _ _ hI (Grow.refl _) rfl rfl
        refine obls2_cons (fun b hb1 hb2 f w' hI hH Q hQ => ?_) ?_
        · skip
          have h5 := hH.get 0 (35, 5) rfl
          have h8 := hH.get 1 (38, 8) rfl
          clear hH
          refine wpList_view ?_; show wpList _ _ _ [_] ⟨#[_, _, _, _, _, _, _, _, _, _, _, _, _, _, _, _, _, _, _, _, _, _, _, _, _, _, _, _, _, _, _, _, _, _, _, f 5, _, _, f 8, _], _⟩ _
          rw [show f 5 = _ from h5]
          rw [show f 8 = _ from h8]
          clear h5 h8
          repeat (first | go_guarded | go_step)
          exact hQ _ _ hI (Grow.refl _) rfl rfl
        refine oblsP_cons (fun f w' hI hH Q hQ => ?_) ?_
        · skip
          have h3 := hH.get 0 (33, 3) rfl
          clear hH
          refine wpList_view ?_; show wpList _ _ _ [_] ⟨#[_, _, _, _, _, _, _, _, _, _, _, _, _, _, _, _, _, _, _, _, _, _, _, _, _, _, _, _, _, _, _, _, _, f 3, _, _, _, _, _, _], _⟩ _
          rw [show f 3 = _ from h3]
          clear h3
          have hzb := HZB.out.grow (hI.2.2.1 rfl)
          have HI := Lib.hid hI
          clear hI
          go_wp2_with (refine store_blk rfl _ _ _ rfl (b0 + 2) [.int .i64 N, .slice A6 Z.length c6] rfl rfl _ _ hzb (by rw [sizeX]; rfl) rfl rfl ?_)
          exact hQ _ _ ⟨HI.out.1.farRow HGZ.out.2 _, Grow.setRow HI.out.2.1 HGZ.out.1 _, fun h => absurd h (by decide), fun _ => ⟨hzb.setRow _, HIV.out _ _ (HI.out.2.2.1 rfl)⟩⟩ trivial rfl rfl
        refine obls2_cons (fun b hb1 hb2 f w' hI hH Q hQ => ?_) ?_
        · skip
          obtain rfl : b = 1 := by omega
          clear hb1 hb2
          have h9 := hH.get 0 (39, 9) rfl
          clear hH
          refine wpList_view ?_; show wpList _ _ _ [_] ⟨#[_, _, _, _, _, _, _, _, _, _, _, _, _, _, _, _, _, _, _, _, _, _, _, _, _, _, _, _, _, _, _, _, _, _, _, _, _, _, _, f 9], _⟩ _
          rw [show f 9 = _ from h9]
          clear h9
          repeat (first | go_guarded | go_step)
          exact hQ _ _ hI (Grow.refl _) rfl rfl
        exact obls2_nil
      case draw =>
        exact ⟨HBXR.out.grow (Grow.drew _), HG.out.trans (Grow.drew _), fun _ => Grow.drew _, fun h => absurd h (by decide)⟩
      case mono => exact ⟨Mono2.veq _, Mono2.veq _, Mono2.veq _, Mono2.veq _, Mono2.veq _, Mono2.veq _, Mono2.veq _, Mono2.veq _, Mono2.veq _, Mono2.veq _, Mono2.veq _, Mono2.veq _, trivial⟩
      case tail =>
        intro f w' hI hH
        have q11 := hH.get 11 (5, 11) rfl
        clear hH
        refine wpList_merge (idx := [none, none, none, none, none, some 11, none, none, none, none, none, none, none, none, none, none, none, none, none, none, none, none, none, none, none, none, none, none, none, none, some 0, some 1, some 2, some 3, some 4, some 5, some 6, some 7, some 8, some 9]) (by kernel_rfl) ?_; show wpList _ _ _ [] ⟨#[_, _, _, _, _, f 11, _, _, _, _, _, _, _, _, _, _, _, _, _, _, _, _, _, _, _, _, _, _, _, _, f 0, f 1, f 2, f 3, f 4, f 5, f 6, f 7, f 8, f 9], _⟩ _
        rw [show f 11 = _ from q11]
        clear q11
        have HI := Lib.hid hI
        clear hI z0 z1
        go_wp2_with fail
        exact ret_blk_tmp rfl (b0 + 2) _ [.int .i64 N, .slice A6 Z.length c6] _ _ rfl (HI.out.2.2.2 rfl).1 undX rfl (by rw [sizeX]; rfl) rfl rfl ⟨_, by (first | rfl | simp), (HI.out.2.2.2 rfl).2, HI.out.2.1⟩
end Go.Proofs.Ytjfohglkpbgkaaa.mkR
