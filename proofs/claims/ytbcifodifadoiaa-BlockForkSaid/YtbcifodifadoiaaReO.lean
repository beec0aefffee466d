/- The walk of reach.Of. -/
import Derived.Test.YtbcifodifadoiaaReP
import Derived.Test.YtbcifodifadoiaaRecG
import Derived.Test.YtbcifodifadoiaaMkL
namespace Go.Proofs.Ytbcifodifadoiaa.reW
open Go Go.RowKit Go.Par Go.Kit Go.Proofs.Ytbcifodifadoiaa.Mk Go.Proofs.Ytbcifodifadoiaa.mkW Go.Proofs.Ytbcifodifadoiaa.Re Go.Proofs.Ytbcifodifadoiaa.mkR Go.Proofs.Ytbcifodifadoiaa.mkL

abbrev T2 : TypeId := 44
theorem und2 : Try.prog.underlying T2 = some (.array 2 3) := by kernel_rfl
theorem size2 : (Try.prog.info? T2).map (·.size) = some 2 := by kernel_rfl
def prow (p : Int × Int) : List Value := [.int .i64 p.1, .int .i64 p.2]
def i64ok (z : Int) : Prop := -9223372036854775808 ≤ z ∧ z ≤ 9223372036854775807
def PairOk (p : Int × Int) : Prop := i64ok p.1 ∧ i64ok p.2
/-- a new set -/
def NewP (B n : Nat) : Value → World → Prop := fun u w => ∃ g h, u = .pointer (some ⟨g, 0, none⟩) ∧ MS w g (some h) n (fun _ => false) ∧ B ≤ g ∧ B ≤ h
theorem NewP.mono {B n : Nat} : Mono Grow (NewP B n) := fun _ _ _ ⟨g, h, e, m, h1, h2⟩ hg => ⟨g, h, e, m.grow hg, h1, h2⟩
theorem nv_snoc (fs : List Nat) (a : Nat) : fs.map nv ++ [nv a] = (fs ++ [a]).map nv := by simp
set_option maxRecDepth 100000 in
set_option maxHeartbeats 4000000 in
theorem of_any (w : World) (n0 : Int) (A : Option Addr) (len c : Nat) (xs : List (Int × Int)) (hr : Recs 2 prow w A len xs) (hlen : len ≤ 1000000) (hx : ∀ x ∈ xs, PairOk x) :
    Calls Try.prog 8 #[.int .i64 n0, .slice A len c] w fun e w' => ∃ gr, e = .returned (.pointer (some ⟨gr, 0, none⟩)) ∧ RelP w' gr (clampN n0) (leadB (vp (clampN n0) xs)) ∧ Grow w w' := by
  obtain ⟨n, hn⟩ : ∃ n, n = clampN n0 := ⟨_, rfl⟩
  rw [← hn]
  have hnl : n ≤ 65536 := by rw [hn]; exact clampN_le n0
  have hmax := fun ts t W => run_max2i (P := Try.prog) ts t n0 0 (max n0 0) rfl W
  have hmin := fun ts t W => run_min2i (P := Try.prog) ts t (max n0 0) 65536 (n : Int) (by rw [hn]; unfold clampN; omega) W
  have HR := Lib.hid hr
  have HX := Lib.hid hx
  have hxl : xs.length = len := hr.1
  have HXL := Lib.hid hxl
  generalize max n0 0 = n' at hmax hmin
  have hmm := @run_makeMap Try.prog
  obtain ⟨bm, hbm⟩ : ∃ b, b = w.heap.size := ⟨_, rfl⟩
  obtain ⟨W1, hW1⟩ : ∃ W, W = (w.alloc (.map #[] 0)).alloc (.cells #[.int .i64 (n : Int), .map (some bm)] TR) := ⟨_, rfl⟩
  have hgm : Grow w W1 := by rw [hW1]; exact (Grow.alloc _ _).trans (Grow.alloc _ _)
  have HRI : Hid (RI w (bm + 1) bm n [] (initR []) (.slice none 0 0) (fun _ => none) (fun _ => 0) (fun _ => 0) W1) := Lib.hid
    ⟨hgm, by rw [hW1]; exact Blk.new _ _ _ _ rfl (by simp [hbm]), World.ownsRow_nil _ _ _ _, ⟨0, Nat.le_refl _, by rw [hW1, hbm]; exact (MapP.made w _ _).grow (Grow.alloc _ _)⟩, ⟨fun i hi => (by cases hi), fun i hi => (by cases hi), fun _ _ => rfl, fun _ _ _ => rfl⟩⟩
  have HB : Hid (w.heap.size ≤ bm) := Lib.hid (by omega)
  have HW1 := Lib.hid hW1
  have HBM := Lib.hid hbm
  have HN := Lib.hid hnl
  clear hn hr hx hW1 hbm hgm hxl
  go_enter Try.func8, Try.ntmps8
  go_wp2_with fail
  rw [← HBM.out, ← HW1.out]
  clear hmm hmax hmin
  go_loopw [6, 22] (fun v6 i' wr => ∃ (k : Nat) (F : Int → Option Nat) (gk hk : Nat → Nat), k ≤ len ∧ i' = .int .i64 (k : Int) ∧ RI w (bm + 1) bm n (srcs (vp n (xs.take k))) (initR (vp n (xs.take k))) v6 F gk hk wr) (fun _ i' _ => len - (intOf i').toNat)
  case atStart => exact ⟨0, _, _, _, by omega, rfl, by rw [List.take_zero]; exact HRI.out⟩
  case round =>
    obtain ⟨k, F, gk, hk, hkl, rfl, ri⟩ := hrel
    by_cases hlt : k < len
    · obtain ⟨b, off, x, rfl, hx, hcell⟩ := HR.out.at_ (by decide) hlt
      obtain ⟨x1, x2⟩ := x
      have hpx := HX.out _ (List.mem_of_getElem? hx)
      have HPX := Lib.hid hpx
      have HXK := Lib.hid hx
      have HC : Hid (∀ j v, [Value.int .i64 x1, Value.int .i64 x2][j]? = some v → wr.cell? ⟨b, off + k * 2 + j, none⟩ = some v) := Lib.hid fun j v hv => ri.g.cell (hcell j v hv)
      obtain ⟨Lk, hLk⟩ : ∃ Lk, Lk = vp n (xs.take k) := ⟨_, rfl⟩
      rw [← hLk] at ri
      have HLK := Lib.hid hLk
      have HRI1 := Lib.hid ri
      obtain ⟨A6, c6, hv6, -⟩ := own_form ri.own
      obtain ⟨l6, hl6⟩ : ∃ l, l = (srcs Lk).length := ⟨_, rfl⟩
      rw [← hl6] at hv6
      have HL6 := Lib.hid hl6
      subst hv6
      obtain ⟨g8, hg8⟩ : ∃ g, g = wr.heap.size := ⟨_, rfl⟩
      have HG8 := Lib.hid hg8
      clear hx hcell hpx ri hLk hl6 hg8
      go_wp2_with (refine load_cells rfl _ _ rfl b (off + k * 2) rfl [.int .i64 x1, .int .i64 x2] _ HC.out und2 rfl (by rw [size2]; rfl) ?_)
      rw [← HG8.out]
      obtain ⟨W8, hW8⟩ : ∃ W, W = wr.alloc (.cells #[.int .i64 x1, .int .i64 x2] T2) := ⟨_, rfl⟩
      have hbx : Blk W8 g8 T2 [.int .i64 x1, .int .i64 x2] := by rw [hW8]; exact Blk.new wr T2 _ _ rfl HG8.out
      have hgx : Grow wr W8 := by rw [hW8]; exact Grow.alloc _ _
      rw [← hW8]
      have HRI8 := Lib.hid (HRI1.out.grow hgx)
      have HBX := Lib.hid hbx
      have y0 := hbx.cell (i := 0) rfl
      have y1 := hbx.cell (i := 1) rfl
      have F1 := Lib.hid (fits_any W8 x1 n)
      have F2 := Lib.hid (fits_any W8 x2 n)
      obtain ⟨f1, hf1⟩ : ∃ f, f = (decide (0 ≤ x1) && decide (x1 < (n : Int))) := ⟨_, rfl⟩
      obtain ⟨f2, hf2⟩ : ∃ f, f = (decide (0 ≤ x2) && decide (x2 < (n : Int))) := ⟨_, rfl⟩
      rw [← hf1] at F1
      rw [← hf2] at F2
      have HF1 := Lib.hid hf1
      have HF2 := Lib.hid hf2
      clear hW8 hbx hgx hf1 hf2
      cases f1
      · go_wp2_with fail
        refine F1.out.mono ?_
        rintro e w' ⟨rfl, rfl⟩
        go_wp2_with fail
        go_roundw
        case rel => exact ⟨k + 1, F, gk, hk, by omega, by go_num, by rw [vp_no HXK.out (by unfold valid; rw [← HF1.out]; rfl), ← HLK.out]; first | exact HRI8.out | (rw [HL6.out]; exact HRI8.out)⟩
        case measure => simp [intOf] <;> omega
      · cases f2
        · go_wp2_with fail
          refine F1.out.mono ?_
          rintro e w' ⟨rfl, rfl⟩
          go_wp2_with fail
          refine F2.out.mono ?_
          rintro e w' ⟨rfl, rfl⟩
          go_wp2_with fail
          go_roundw
          case rel => exact ⟨k + 1, F, gk, hk, by omega, by go_num, by rw [vp_no HXK.out (by unfold valid; rw [← HF1.out, ← HF2.out]; rfl), ← HLK.out]; first | exact HRI8.out | (rw [HL6.out]; exact HRI8.out)⟩
          case measure => simp [intOf] <;> omega
        · obtain ⟨a, rfl⟩ := Int.eq_ofNat_of_zero_le (of_decide_eq_true ((Bool.and_eq_true _ _).mp HF1.out.symm).1)
          obtain ⟨b', rfl⟩ := Int.eq_ofNat_of_zero_le (of_decide_eq_true ((Bool.and_eq_true _ _).mp HF2.out.symm).1)
          have HBN : Hid (b' < n) := Lib.hid (by have := of_decide_eq_true ((Bool.and_eq_true _ _).mp HF2.out.symm).2; omega)
          go_wp2_with fail
          refine F1.out.mono ?_
          rintro e w' ⟨rfl, rfl⟩
          go_wp2_with fail
          refine F2.out.mono ?_
          rintro e w' ⟨rfl, rfl⟩
          by_cases ha : a ∈ srcs Lk
          · obtain ⟨hFa, -⟩ := HRI8.out.st.at_ a ha
            obtain ⟨ga0, hga0⟩ : ∃ g, g = gk a := ⟨_, rfl⟩
            rw [← hga0] at hFa
            have HL8 : Hid (∀ w', Grow W8 w' → (Instr.lookup TM (.map (some bm)) (.int .i64 (a : Int)) false).run Try.prog w' = .ok (.pointer (some ⟨ga0, 0, none⟩)) w') := Lib.hid fun w' hg => by
              obtain ⟨cnt, -, hmp⟩ := HRI8.out.mp
              have := LookP.run (.inl ⟨bm, cnt, rfl, hmp.grow hg⟩) (i := (a : Int)) HPX.out.1.1 HPX.out.1.2
              rw [hFa] at this
              exact this
            have HB8' := Lib.hid HRI8.out.bx
            clear hFa hga0 y0 y1
            go_wp2_with fail
            apply (fun (v0 v1 v2 v3 v4 v5 v6 v7 : Value) mono obl tail => wp_region_par (R := Grow) (Φ := phi [veq v0, veq v1, veq v2, veq v3, veq v4, veq v5, veq v6, veq v7]) (m := 8) (dls := [[], [(38, 0)], [(39, 1)], [(40, 2)], [], [(42, 4)], [(41, 3), (43, 5)], [(44, 6)]]) (ds := [38, 39, 40, 41, 42, 43, 44, 45]) (by kernel_rfl) (by kernel_rfl) (by decide) rfl (Grow.drew _) (fun _ _ _ => Grow.trans) (mono_phi mono) obl tail)
            case obl =>
              refine obls_cons (fun f w' hR hH Q hQ => ?_) ?_
              · skip
                clear hH
                refine wpList_view ?_; show wpList _ _ _ [_] ⟨#[_, _, _, _, _, _, _, _, _, _, _, _, _, _, _, _, _, _, _, _, _, _, _, _, _, _, _, _, _, _, _, _, _, _, _, _, _, _, _, _, _, _, _, _, _, _, _, _, _, _, _, _, _, _, _, _, _, _, _, _, _, _, _, _, _, _, _, _, _, _, _, _, _, _, _, _, _, _, _, _, _, _, _, _, _, _, _, _, _, _, _, _, _, _, _, _, _, _, _, _, _, _, _, _, _, _], _⟩ _
                repeat (first | go_guarded | go_step)
                exact hQ _ _ (Grow.refl _) rfl rfl
              refine obls_cons (fun f w' hR hH Q hQ => ?_) ?_
              · skip
                have h0 := hH.get 0 (38, 0) rfl
                clear hH
                refine wpList_view ?_; show wpList _ _ _ [_] ⟨#[_, _, _, _, _, _, _, _, _, _, _, _, _, _, _, _, _, _, _, _, _, _, _, _, _, _, _, _, _, _, _, _, _, _, _, _, _, _, f 0, _, _, _, _, _, _, _, _, _, _, _, _, _, _, _, _, _, _, _, _, _, _, _, _, _, _, _, _, _, _, _, _, _, _, _, _, _, _, _, _, _, _, _, _, _, _, _, _, _, _, _, _, _, _, _, _, _, _, _, _, _, _, _, _, _, _, _], _⟩ _
                rw [show f 0 = _ from h0]
                clear h0
                repeat (first | go_guarded | go_step)
                exact hQ _ _ (Grow.refl _) rfl rfl
              refine obls_cons (fun f w' hR hH Q hQ => ?_) ?_
              · skip
                have h1 := hH.get 0 (39, 1) rfl
                clear hH
                refine wpList_view ?_; show wpList _ _ _ [_] ⟨#[_, _, _, _, _, _, _, _, _, _, _, _, _, _, _, _, _, _, _, _, _, _, _, _, _, _, _, _, _, _, _, _, _, _, _, _, _, _, _, f 1, _, _, _, _, _, _, _, _, _, _, _, _, _, _, _, _, _, _, _, _, _, _, _, _, _, _, _, _, _, _, _, _, _, _, _, _, _, _, _, _, _, _, _, _, _, _, _, _, _, _, _, _, _, _, _, _, _, _, _, _, _, _, _, _, _, _], _⟩ _
                rw [show f 1 = _ from h1]
                clear h1
                repeat (first | go_guarded | go_step)
                exact hQ _ _ (Grow.refl _) rfl rfl
              refine obls_cons (fun f w' hR hH Q hQ => ?_) ?_
              · skip
                have h2 := hH.get 0 (40, 2) rfl
                clear hH
                refine wpList_view ?_; show wpList _ _ _ [_] ⟨#[_, _, _, _, _, _, _, _, _, _, _, _, _, _, _, _, _, _, _, _, _, _, _, _, _, _, _, _, _, _, _, _, _, _, _, _, _, _, _, _, f 2, _, _, _, _, _, _, _, _, _, _, _, _, _, _, _, _, _, _, _, _, _, _, _, _, _, _, _, _, _, _, _, _, _, _, _, _, _, _, _, _, _, _, _, _, _, _, _, _, _, _, _, _, _, _, _, _, _, _, _, _, _, _, _, _, _], _⟩ _
                rw [show f 2 = _ from h2]
                clear h2
                have z1 := (HB8'.out.grow hR).cell (i := 1) rfl
                repeat (first | go_guarded | go_step)
                exact hQ _ _ (Grow.refl _) rfl rfl
              refine obls_cons (fun f w' hR hH Q hQ => ?_) ?_
              · skip
                clear hH
                refine wpList_view ?_; show wpList _ _ _ [_] ⟨#[_, _, _, _, _, _, _, _, _, _, _, _, _, _, _, _, _, _, _, _, _, _, _, _, _, _, _, _, _, _, _, _, _, _, _, _, _, _, _, _, _, _, _, _, _, _, _, _, _, _, _, _, _, _, _, _, _, _, _, _, _, _, _, _, _, _, _, _, _, _, _, _, _, _, _, _, _, _, _, _, _, _, _, _, _, _, _, _, _, _, _, _, _, _, _, _, _, _, _, _, _, _, _, _, _, _], _⟩ _
                repeat (first | go_guarded | go_step)
                exact hQ _ _ (Grow.refl _) rfl rfl
              refine obls_cons (fun f w' hR hH Q hQ => ?_) ?_
              · skip
                have h4 := hH.get 0 (42, 4) rfl
                clear hH
                refine wpList_view ?_; show wpList _ _ _ [_] ⟨#[_, _, _, _, _, _, _, _, _, _, _, _, _, _, _, _, _, _, _, _, _, _, _, _, _, _, _, _, _, _, _, _, _, _, _, _, _, _, _, _, _, _, f 4, _, _, _, _, _, _, _, _, _, _, _, _, _, _, _, _, _, _, _, _, _, _, _, _, _, _, _, _, _, _, _, _, _, _, _, _, _, _, _, _, _, _, _, _, _, _, _, _, _, _, _, _, _, _, _, _, _, _, _, _, _, _, _], _⟩ _
                rw [show f 4 = _ from h4]
                clear h4
                have z2 := (HBX.out.grow hR).cell (i := 0) rfl
                repeat (first | go_guarded | go_step)
                exact hQ _ _ (Grow.refl _) rfl rfl
              refine obls_cons (fun f w' hR hH Q hQ => ?_) ?_
              · skip
                have h3 := hH.get 0 (41, 3) rfl
                have h5 := hH.get 1 (43, 5) rfl
                clear hH
                refine wpList_view ?_; show wpList _ _ _ [_] ⟨#[_, _, _, _, _, _, _, _, _, _, _, _, _, _, _, _, _, _, _, _, _, _, _, _, _, _, _, _, _, _, _, _, _, _, _, _, _, _, _, _, _, f 3, _, f 5, _, _, _, _, _, _, _, _, _, _, _, _, _, _, _, _, _, _, _, _, _, _, _, _, _, _, _, _, _, _, _, _, _, _, _, _, _, _, _, _, _, _, _, _, _, _, _, _, _, _, _, _, _, _, _, _, _, _, _, _, _, _], _⟩ _
                rw [show f 3 = _ from h3]
                rw [show f 5 = _ from h5]
                clear h3 h5
                have z3 := HL8.out w' hR
                repeat (first | go_guarded | go_step)
                exact hQ _ _ (Grow.refl _) rfl rfl
              refine obls_cons (fun f w' hR hH Q hQ => ?_) ?_
              · skip
                have h6 := hH.get 0 (44, 6) rfl
                clear hH
                refine wpList_view ?_; show wpList _ _ _ [_] ⟨#[_, _, _, _, _, _, _, _, _, _, _, _, _, _, _, _, _, _, _, _, _, _, _, _, _, _, _, _, _, _, _, _, _, _, _, _, _, _, _, _, _, _, _, _, f 6, _, _, _, _, _, _, _, _, _, _, _, _, _, _, _, _, _, _, _, _, _, _, _, _, _, _, _, _, _, _, _, _, _, _, _, _, _, _, _, _, _, _, _, _, _, _, _, _, _, _, _, _, _, _, _, _, _, _, _, _, _], _⟩ _
                rw [show f 6 = _ from h6]
                clear h6
                repeat (first | go_guarded | go_step)
                exact hQ _ _ (Grow.refl _) rfl rfl
              exact obls_nil
            case mono => exact ⟨Mono.veq _, Mono.veq _, Mono.veq _, Mono.veq _, Mono.veq _, Mono.veq _, Mono.veq _, Mono.veq _, trivial⟩
            case tail =>
              intro f w' hR hH
              have q7 := hH.get 7 (45, 7) rfl
              clear hH
              refine wpList_merge (idx := [none, none, none, none, none, none, none, none, none, none, none, none, none, none, none, none, none, none, none, none, none, none, none, none, none, none, none, none, none, none, none, none, none, none, none, none, none, none, some 0, some 1, some 2, some 3, some 4, some 5, some 6, some 7, none, none, none, none, none, none, none, none, none, none, none, none, none, none, none, none, none, none, none, none, none, none, none, none, none, none, none, none, none, none, none, none, none, none, none, none, none, none, none, none, none, none, none, none, none, none, none, none, none, none, none, none, none, none, none, none, none, none, none, none]) (by kernel_rfl) ?_; show wpList _ _ _ [] ⟨#[_, _, _, _, _, _, _, _, _, _, _, _, _, _, _, _, _, _, _, _, _, _, _, _, _, _, _, _, _, _, _, _, _, _, _, _, _, _, f 0, f 1, f 2, f 3, f 4, f 5, f 6, f 7, _, _, _, _, _, _, _, _, _, _, _, _, _, _, _, _, _, _, _, _, _, _, _, _, _, _, _, _, _, _, _, _, _, _, _, _, _, _, _, _, _, _, _, _, _, _, _, _, _, _, _, _, _, _, _, _, _, _, _, _], _⟩ _
              rw [show f 7 = _ from q7]
              clear q7
              obtain ⟨w9, hw9⟩ : ∃ w9, w9 = w' := ⟨_, rfl⟩
              obtain ⟨v6', hv6'⟩ : ∃ v, v = Value.slice A6 l6 c6 := ⟨_, rfl⟩
              obtain ⟨gk', hgk'⟩ : ∃ g, g = gk := ⟨_, rfl⟩
              obtain ⟨hk', hhk'⟩ : ∃ g, g = hk := ⟨_, rfl⟩
              have HRI9 : Hid (RI w (bm + 1) bm n (srcs Lk) (initR Lk) (.slice A6 l6 c6) F gk' hk' w9) := Lib.hid (by rw [hw9, hgk', hhk']; exact HRI8.out.grow hR)
              have HBX9 : Hid (Blk w9 g8 T2 [.int .i64 (a : Int), .int .i64 (b' : Int)]) := Lib.hid (by rw [hw9]; exact HBX.out.grow hR)
              have HA := Lib.hid ha
              rw [← hw9]
              clear hw9 hv6' hgk' hhk' hR ha
              go_wp2_with fail
              obtain ⟨hFa, hga, hha, hma⟩ := HRI9.out.st.at_ a HA.out
              obtain ⟨ga, hgae⟩ : ∃ g, g = gk' a := ⟨_, rfl⟩
              obtain ⟨ha', hhae⟩ : ∃ g, g = hk' a := ⟨_, rfl⟩
              rw [← hgae] at hFa hga hma
              rw [← hhae] at hha hma
              have HL9 : Hid (∀ w', Grow w9 w' → (Instr.lookup TM (.map (some bm)) (.int .i64 (a : Int)) false).run Try.prog w' = .ok (.pointer (some ⟨ga, 0, none⟩)) w') := Lib.hid fun w' hg => by
                obtain ⟨cnt, -, hmp⟩ := HRI9.out.mp
                have := LookP.run (.inl ⟨bm, cnt, rfl, hmp.grow hg⟩) (i := (a : Int)) HPX.out.1.1 HPX.out.1.2
                rw [hFa] at this
                exact this
              have HPUT : Hid (∀ w', Grow w9 w' → Calls Try.prog 24 #[.pointer (some ⟨ga, 0, none⟩), .int .i64 (b' : Int)] w' fun e w2 => (∃ r, e = .returned (.bool r)) ∧ MS w2 ga (some ha') n (putS n (initR Lk a) (b' : Int)) ∧ Keep w.heap.size (fun j => j ≠ ga ∧ j ≠ ha') w' w2) := Lib.hid fun w' hg =>
                (put_any w' w.heap.size _ ga (some ha') n _ (hma.grow hg) (free_of hga (fun h => h.1 rfl) (fun k hk => by injection hk with hk; subst hk; exact ⟨hha, fun h => h.2 rfl⟩)) (b' : Int)).mono fun e w2 ⟨h1, h2⟩ => ⟨⟨_, h1⟩, h2⟩
              have HGE := Lib.hid (And.intro hgae hhae)
              have HB9 := Lib.hid HRI9.out.bx
              clear hFa hga hha hma hgae hhae
              apply (fun (v0 v1 v2 v3 v4 v5 v6 v7 v8 : Value) mono obl tail => wp_region_par (R := Grow) (Φ := phi [veq v0, veq v1, veq v2, veq v3, veq v4, veq v5, veq v6, veq v7, veq v8]) (m := 9) (dls := [[], [(59, 0)], [(60, 1)], [(61, 2)], [], [(63, 4)], [(62, 3), (64, 5)], [], [(66, 7)]]) (ds := [59, 60, 61, 62, 63, 64, 65, 66, 67]) (by kernel_rfl) (by kernel_rfl) (by decide) rfl (Grow.drew _) (fun _ _ _ => Grow.trans) (mono_phi mono) obl tail)
              case obl =>
                refine obls_cons (fun f w' hR hH Q hQ => ?_) ?_
                · skip
                  clear hH
                  refine wpList_view ?_; show wpList _ _ _ [_] ⟨#[_, _, _, _, _, _, _, _, _, _, _, _, _, _, _, _, _, _, _, _, _, _, _, _, _, _, _, _, _, _, _, _, _, _, _, _, _, _, _, _, _, _, _, _, _, _, _, _, _, _, _, _, _, _, _, _, _, _, _, _, _, _, _, _, _, _, _, _, _, _, _, _, _, _, _, _, _, _, _, _, _, _, _, _, _, _, _, _, _, _, _, _, _, _, _, _, _, _, _, _, _, _, _, _, _, _], _⟩ _
                  repeat (first | go_guarded | go_step)
                  exact hQ _ _ (Grow.refl _) rfl rfl
                refine obls_cons (fun f w' hR hH Q hQ => ?_) ?_
                · skip
                  have h0 := hH.get 0 (59, 0) rfl
                  clear hH
                  refine wpList_view ?_; show wpList _ _ _ [_] ⟨#[_, _, _, _, _, _, _, _, _, _, _, _, _, _, _, _, _, _, _, _, _, _, _, _, _, _, _, _, _, _, _, _, _, _, _, _, _, _, _, _, _, _, _, _, _, _, _, _, _, _, _, _, _, _, _, _, _, _, _, f 0, _, _, _, _, _, _, _, _, _, _, _, _, _, _, _, _, _, _, _, _, _, _, _, _, _, _, _, _, _, _, _, _, _, _, _, _, _, _, _, _, _, _, _, _, _, _], _⟩ _
                  rw [show f 0 = _ from h0]
                  clear h0
                  repeat (first | go_guarded | go_step)
                  exact hQ _ _ (Grow.refl _) rfl rfl
                refine obls_cons (fun f w' hR hH Q hQ => ?_) ?_
                · skip
                  have h1 := hH.get 0 (60, 1) rfl
                  clear hH
                  refine wpList_view ?_; show wpList _ _ _ [_] ⟨#[_, _, _, _, _, _, _, _, _, _, _, _, _, _, _, _, _, _, _, _, _, _, _, _, _, _, _, _, _, _, _, _, _, _, _, _, _, _, _, _, _, _, _, _, _, _, _, _, _, _, _, _, _, _, _, _, _, _, _, _, f 1, _, _, _, _, _, _, _, _, _, _, _, _, _, _, _, _, _, _, _, _, _, _, _, _, _, _, _, _, _, _, _, _, _, _, _, _, _, _, _, _, _, _, _, _, _], _⟩ _
                  rw [show f 1 = _ from h1]
                  clear h1
                  repeat (first | go_guarded | go_step)
                  exact hQ _ _ (Grow.refl _) rfl rfl
                refine obls_cons (fun f w' hR hH Q hQ => ?_) ?_
                · skip
                  have h2 := hH.get 0 (61, 2) rfl
                  clear hH
                  refine wpList_view ?_; show wpList _ _ _ [_] ⟨#[_, _, _, _, _, _, _, _, _, _, _, _, _, _, _, _, _, _, _, _, _, _, _, _, _, _, _, _, _, _, _, _, _, _, _, _, _, _, _, _, _, _, _, _, _, _, _, _, _, _, _, _, _, _, _, _, _, _, _, _, _, f 2, _, _, _, _, _, _, _, _, _, _, _, _, _, _, _, _, _, _, _, _, _, _, _, _, _, _, _, _, _, _, _, _, _, _, _, _, _, _, _, _, _, _, _, _], _⟩ _
                  rw [show f 2 = _ from h2]
                  clear h2
                  have z1 := (HB9.out.grow hR).cell (i := 1) rfl
                  repeat (first | go_guarded | go_step)
                  exact hQ _ _ (Grow.refl _) rfl rfl
                refine obls_cons (fun f w' hR hH Q hQ => ?_) ?_
                · skip
                  clear hH
                  refine wpList_view ?_; show wpList _ _ _ [_] ⟨#[_, _, _, _, _, _, _, _, _, _, _, _, _, _, _, _, _, _, _, _, _, _, _, _, _, _, _, _, _, _, _, _, _, _, _, _, _, _, _, _, _, _, _, _, _, _, _, _, _, _, _, _, _, _, _, _, _, _, _, _, _, _, _, _, _, _, _, _, _, _, _, _, _, _, _, _, _, _, _, _, _, _, _, _, _, _, _, _, _, _, _, _, _, _, _, _, _, _, _, _, _, _, _, _, _, _], _⟩ _
                  repeat (first | go_guarded | go_step)
                  exact hQ _ _ (Grow.refl _) rfl rfl
                refine obls_cons (fun f w' hR hH Q hQ => ?_) ?_
                · skip
                  have h4 := hH.get 0 (63, 4) rfl
                  clear hH
                  refine wpList_view ?_; show wpList _ _ _ [_] ⟨#[_, _, _, _, _, _, _, _, _, _, _, _, _, _, _, _, _, _, _, _, _, _, _, _, _, _, _, _, _, _, _, _, _, _, _, _, _, _, _, _, _, _, _, _, _, _, _, _, _, _, _, _, _, _, _, _, _, _, _, _, _, _, _, f 4, _, _, _, _, _, _, _, _, _, _, _, _, _, _, _, _, _, _, _, _, _, _, _, _, _, _, _, _, _, _, _, _, _, _, _, _, _, _, _, _, _, _], _⟩ _
                  rw [show f 4 = _ from h4]
                  clear h4
                  have z2 := (HBX9.out.grow hR).cell (i := 0) rfl
                  repeat (first | go_guarded | go_step)
                  exact hQ _ _ (Grow.refl _) rfl rfl
                refine obls_cons (fun f w' hR hH Q hQ => ?_) ?_
                · skip
                  have h3 := hH.get 0 (62, 3) rfl
                  have h5 := hH.get 1 (64, 5) rfl
                  clear hH
                  refine wpList_view ?_; show wpList _ _ _ [_] ⟨#[_, _, _, _, _, _, _, _, _, _, _, _, _, _, _, _, _, _, _, _, _, _, _, _, _, _, _, _, _, _, _, _, _, _, _, _, _, _, _, _, _, _, _, _, _, _, _, _, _, _, _, _, _, _, _, _, _, _, _, _, _, _, f 3, _, f 5, _, _, _, _, _, _, _, _, _, _, _, _, _, _, _, _, _, _, _, _, _, _, _, _, _, _, _, _, _, _, _, _, _, _, _, _, _, _, _, _, _], _⟩ _
                  rw [show f 3 = _ from h3]
                  rw [show f 5 = _ from h5]
                  clear h3 h5
                  have z3 := HL9.out w' hR
                  repeat (first | go_guarded | go_step)
                  exact hQ _ _ (Grow.refl _) rfl rfl
                refine obls_cons (fun f w' hR hH Q hQ => ?_) ?_
                · skip
                  clear hH
                  refine wpList_view ?_; show wpList _ _ _ [_] ⟨#[_, _, _, _, _, _, _, _, _, _, _, _, _, _, _, _, _, _, _, _, _, _, _, _, _, _, _, _, _, _, _, _, _, _, _, _, _, _, _, _, _, _, _, _, _, _, _, _, _, _, _, _, _, _, _, _, _, _, _, _, _, _, _, _, _, _, _, _, _, _, _, _, _, _, _, _, _, _, _, _, _, _, _, _, _, _, _, _, _, _, _, _, _, _, _, _, _, _, _, _, _, _, _, _, _, _], _⟩ _
                  repeat (first | go_guarded | go_step)
                  exact hQ _ _ (Grow.refl _) rfl rfl
                refine obls_cons (fun f w' hR hH Q hQ => ?_) ?_
                · skip
                  have h7 := hH.get 0 (66, 7) rfl
                  clear hH
                  refine wpList_view ?_; show wpList _ _ _ [_] ⟨#[_, _, _, _, _, _, _, _, _, _, _, _, _, _, _, _, _, _, _, _, _, _, _, _, _, _, _, _, _, _, _, _, _, _, _, _, _, _, _, _, _, _, _, _, _, _, _, _, _, _, _, _, _, _, _, _, _, _, _, _, _, _, _, _, _, _, f 7, _, _, _, _, _, _, _, _, _, _, _, _, _, _, _, _, _, _, _, _, _, _, _, _, _, _, _, _, _, _, _, _, _, _, _, _, _, _, _], _⟩ _
                  rw [show f 7 = _ from h7]
                  clear h7
                  have z4 := (HBX9.out.grow hR).cell (i := 1) rfl
                  repeat (first | go_guarded | go_step)
                  exact hQ _ _ (Grow.refl _) rfl rfl
                exact obls_nil
              case mono => exact ⟨Mono.veq _, Mono.veq _, Mono.veq _, Mono.veq _, Mono.veq _, Mono.veq _, Mono.veq _, Mono.veq _, Mono.veq _, trivial⟩
              case tail =>
                intro f w' hR hH
                have q6 := hH.get 6 (65, 6) rfl
                have q8 := hH.get 8 (67, 8) rfl
                clear hH
                refine wpList_merge (idx := [none, none, none, none, none, none, none, none, none, none, none, none, none, none, none, none, none, none, none, none, none, none, none, none, none, none, none, none, none, none, none, none, none, none, none, none, none, none, none, none, none, none, none, none, none, none, none, none, none, none, none, none, none, none, none, none, none, none, none, some 0, some 1, some 2, some 3, some 4, some 5, some 6, some 7, some 8, none, none, none, none, none, none, none, none, none, none, none, none, none, none, none, none, none, none, none, none, none, none, none, none, none, none, none, none, none, none, none, none, none, none, none, none, none, none]) (by kernel_rfl) ?_; show wpList _ _ _ [_] ⟨#[_, _, _, _, _, _, _, _, _, _, _, _, _, _, _, _, _, _, _, _, _, _, _, _, _, _, _, _, _, _, _, _, _, _, _, _, _, _, _, _, _, _, _, _, _, _, _, _, _, _, _, _, _, _, _, _, _, _, _, f 0, f 1, f 2, f 3, f 4, f 5, f 6, f 7, f 8, _, _, _, _, _, _, _, _, _, _, _, _, _, _, _, _, _, _, _, _, _, _, _, _, _, _, _, _, _, _, _, _, _, _, _, _, _, _], _⟩ _
                rw [show f 6 = _ from q6]
                rw [show f 8 = _ from q8]
                clear q6 q8
                have HG9 := Lib.hid hR
                have HP := Lib.hid (HPUT.out w' hR)
                clear hR
                go_wp2_with fail
                refine HP.out.mono ?_
                rintro e w2 ⟨⟨r, rfl⟩, m2, k2⟩
                have HRI2 := Lib.hid ((HRI9.out.grow HG9.out).turn (i := a) HA.out (by rw [← HGE.out.1, ← HGE.out.2]; exact k2) (by rw [← HGE.out.1, ← HGE.out.2]; exact m2))
                clear m2 k2
                go_wp2_with fail
                go_roundw
                case rel => exact ⟨k + 1, _, gk', hk', by omega, by go_num, by
                  rw [vp_yes HXK.out (by unfold valid; rw [← HF1.out, ← HF2.out]; rfl), ← HLK.out, Int.toNat_natCast, Int.toNat_natCast, initR_snoc _ _ _ HBN.out, srcs_snoc, addB_in HA.out]
                  exact HRI2.out⟩
                case measure => simp [intOf] <;> omega
          · have HL8 : Hid (∀ w', Grow W8 w' → (Instr.lookup TM (.map (some bm)) (.int .i64 (a : Int)) false).run Try.prog w' = .ok (.pointer none) w') := Lib.hid fun w' hg => by
              obtain ⟨cnt, -, hmp⟩ := HRI8.out.mp
              have := LookP.run (.inl ⟨bm, cnt, rfl, hmp.grow hg⟩) (i := (a : Int)) HPX.out.1.1 HPX.out.1.2
              rw [HRI8.out.st.none_ _ (fun i hi e => ha (by rw [show a = i by omega]; exact hi))] at this
              exact this
            have HB8' := Lib.hid HRI8.out.bx
            have HA := Lib.hid ha
            clear y0 y1 ha
            go_wp2_with fail
            apply (fun (v0 v1 v2 v3 v4 v5 v6 v7 : Value) mono obl tail => wp_region_par (R := Grow) (Φ := phi [veq v0, veq v1, veq v2, veq v3, veq v4, veq v5, veq v6, veq v7]) (m := 8) (dls := [[], [(38, 0)], [(39, 1)], [(40, 2)], [], [(42, 4)], [(41, 3), (43, 5)], [(44, 6)]]) (ds := [38, 39, 40, 41, 42, 43, 44, 45]) (by kernel_rfl) (by kernel_rfl) (by decide) rfl (Grow.drew _) (fun _ _ _ => Grow.trans) (mono_phi mono) obl tail)
            case obl =>
              refine obls_cons (fun f w' hR hH Q hQ => ?_) ?_
              · skip
                clear hH
                refine wpList_view ?_; show wpList _ _ _ [_] ⟨#[_, _, _, _, _, _, _, _, _, _, _, _, _, _, _, _, _, _, _, _, _, _, _, _, _, _, _, _, _, _, _, _, _, _, _, _, _, _, _, _, _, _, _, _, _, _, _, _, _, _, _, _, _, _, _, _, _, _, _, _, _, _, _, _, _, _, _, _, _, _, _, _, _, _, _, _, _, _, _, _, _, _, _, _, _, _, _, _, _, _, _, _, _, _, _, _, _, _, _, _, _, _, _, _, _, _], _⟩ _
                repeat (first | go_guarded | go_step)
                exact hQ _ _ (Grow.refl _) rfl rfl
              refine obls_cons (fun f w' hR hH Q hQ => ?_) ?_
              · skip
                have h0 := hH.get 0 (38, 0) rfl
                clear hH
                refine wpList_view ?_; show wpList _ _ _ [_] ⟨#[_, _, _, _, _, _, _, _, _, _, _, _, _, _, _, _, _, _, _, _, _, _, _, _, _, _, _, _, _, _, _, _, _, _, _, _, _, _, f 0, _, _, _, _, _, _, _, _, _, _, _, _, _, _, _, _, _, _, _, _, _, _, _, _, _, _, _, _, _, _, _, _, _, _, _, _, _, _, _, _, _, _, _, _, _, _, _, _, _, _, _, _, _, _, _, _, _, _, _, _, _, _, _, _, _, _, _], _⟩ _
                rw [show f 0 = _ from h0]
                clear h0
                repeat (first | go_guarded | go_step)
                exact hQ _ _ (Grow.refl _) rfl rfl
              refine obls_cons (fun f w' hR hH Q hQ => ?_) ?_
              · skip
                have h1 := hH.get 0 (39, 1) rfl
                clear hH
                refine wpList_view ?_; show wpList _ _ _ [_] ⟨#[_, _, _, _, _, _, _, _, _, _, _, _, _, _, _, _, _, _, _, _, _, _, _, _, _, _, _, _, _, _, _, _, _, _, _, _, _, _, _, f 1, _, _, _, _, _, _, _, _, _, _, _, _, _, _, _, _, _, _, _, _, _, _, _, _, _, _, _, _, _, _, _, _, _, _, _, _, _, _, _, _, _, _, _, _, _, _, _, _, _, _, _, _, _, _, _, _, _, _, _, _, _, _, _, _, _, _], _⟩ _
                rw [show f 1 = _ from h1]
                clear h1
                repeat (first | go_guarded | go_step)
                exact hQ _ _ (Grow.refl _) rfl rfl
              refine obls_cons (fun f w' hR hH Q hQ => ?_) ?_
              · skip
                have h2 := hH.get 0 (40, 2) rfl
                clear hH
                refine wpList_view ?_; show wpList _ _ _ [_] ⟨#[_, _, _, _, _, _, _, _, _, _, _, _, _, _, _, _, _, _, _, _, _, _, _, _, _, _, _, _, _, _, _, _, _, _, _, _, _, _, _, _, f 2, _, _, _, _, _, _, _, _, _, _, _, _, _, _, _, _, _, _, _, _, _, _, _, _, _, _, _, _, _, _, _, _, _, _, _, _, _, _, _, _, _, _, _, _, _, _, _, _, _, _, _, _, _, _, _, _, _, _, _, _, _, _, _, _, _], _⟩ _
                rw [show f 2 = _ from h2]
                clear h2
                have z1 := (HB8'.out.grow hR).cell (i := 1) rfl
                repeat (first | go_guarded | go_step)
                exact hQ _ _ (Grow.refl _) rfl rfl
              refine obls_cons (fun f w' hR hH Q hQ => ?_) ?_
              · skip
                clear hH
                refine wpList_view ?_; show wpList _ _ _ [_] ⟨#[_, _, _, _, _, _, _, _, _, _, _, _, _, _, _, _, _, _, _, _, _, _, _, _, _, _, _, _, _, _, _, _, _, _, _, _, _, _, _, _, _, _, _, _, _, _, _, _, _, _, _, _, _, _, _, _, _, _, _, _, _, _, _, _, _, _, _, _, _, _, _, _, _, _, _, _, _, _, _, _, _, _, _, _, _, _, _, _, _, _, _, _, _, _, _, _, _, _, _, _, _, _, _, _, _, _], _⟩ _
                repeat (first | go_guarded | go_step)
                exact hQ _ _ (Grow.refl _) rfl rfl
              refine obls_cons (fun f w' hR hH Q hQ => ?_) ?_
              · skip
                have h4 := hH.get 0 (42, 4) rfl
                clear hH
                refine wpList_view ?_; show wpList _ _ _ [_] ⟨#[_, _, _, _, _, _, _, _, _, _, _, _, _, _, _, _, _, _, _, _, _, _, _, _, _, _, _, _, _, _, _, _, _, _, _, _, _, _, _, _, _, _, f 4, _, _, _, _, _, _, _, _, _, _, _, _, _, _, _, _, _, _, _, _, _, _, _, _, _, _, _, _, _, _, _, _, _, _, _, _, _, _, _, _, _, _, _, _, _, _, _, _, _, _, _, _, _, _, _, _, _, _, _, _, _, _, _], _⟩ _
                rw [show f 4 = _ from h4]
                clear h4
                have z2 := (HBX.out.grow hR).cell (i := 0) rfl
                repeat (first | go_guarded | go_step)
                exact hQ _ _ (Grow.refl _) rfl rfl
              refine obls_cons (fun f w' hR hH Q hQ => ?_) ?_
              · skip
                have h3 := hH.get 0 (41, 3) rfl
                have h5 := hH.get 1 (43, 5) rfl
                clear hH
                refine wpList_view ?_; show wpList _ _ _ [_] ⟨#[_, _, _, _, _, _, _, _, _, _, _, _, _, _, _, _, _, _, _, _, _, _, _, _, _, _, _, _, _, _, _, _, _, _, _, _, _, _, _, _, _, f 3, _, f 5, _, _, _, _, _, _, _, _, _, _, _, _, _, _, _, _, _, _, _, _, _, _, _, _, _, _, _, _, _, _, _, _, _, _, _, _, _, _, _, _, _, _, _, _, _, _, _, _, _, _, _, _, _, _, _, _, _, _, _, _, _, _], _⟩ _
                rw [show f 3 = _ from h3]
                rw [show f 5 = _ from h5]
                clear h3 h5
                have z3 := HL8.out w' hR
                repeat (first | go_guarded | go_step)
                exact hQ _ _ (Grow.refl _) rfl rfl
              refine obls_cons (fun f w' hR hH Q hQ => ?_) ?_
              · skip
                have h6 := hH.get 0 (44, 6) rfl
                clear hH
                refine wpList_view ?_; show wpList _ _ _ [_] ⟨#[_, _, _, _, _, _, _, _, _, _, _, _, _, _, _, _, _, _, _, _, _, _, _, _, _, _, _, _, _, _, _, _, _, _, _, _, _, _, _, _, _, _, _, _, f 6, _, _, _, _, _, _, _, _, _, _, _, _, _, _, _, _, _, _, _, _, _, _, _, _, _, _, _, _, _, _, _, _, _, _, _, _, _, _, _, _, _, _, _, _, _, _, _, _, _, _, _, _, _, _, _, _, _, _, _, _, _], _⟩ _
                rw [show f 6 = _ from h6]
                clear h6
                repeat (first | go_guarded | go_step)
                exact hQ _ _ (Grow.refl _) rfl rfl
              exact obls_nil
            case mono => exact ⟨Mono.veq _, Mono.veq _, Mono.veq _, Mono.veq _, Mono.veq _, Mono.veq _, Mono.veq _, Mono.veq _, trivial⟩
            case tail =>
              intro f w' hR hH
              have q7 := hH.get 7 (45, 7) rfl
              clear hH
              refine wpList_merge (idx := [none, none, none, none, none, none, none, none, none, none, none, none, none, none, none, none, none, none, none, none, none, none, none, none, none, none, none, none, none, none, none, none, none, none, none, none, none, none, some 0, some 1, some 2, some 3, some 4, some 5, some 6, some 7, none, none, none, none, none, none, none, none, none, none, none, none, none, none, none, none, none, none, none, none, none, none, none, none, none, none, none, none, none, none, none, none, none, none, none, none, none, none, none, none, none, none, none, none, none, none, none, none, none, none, none, none, none, none, none, none, none, none, none, none]) (by kernel_rfl) ?_; show wpList _ _ _ [] ⟨#[_, _, _, _, _, _, _, _, _, _, _, _, _, _, _, _, _, _, _, _, _, _, _, _, _, _, _, _, _, _, _, _, _, _, _, _, _, _, f 0, f 1, f 2, f 3, f 4, f 5, f 6, f 7, _, _, _, _, _, _, _, _, _, _, _, _, _, _, _, _, _, _, _, _, _, _, _, _, _, _, _, _, _, _, _, _, _, _, _, _, _, _, _, _, _, _, _, _, _, _, _, _, _, _, _, _, _, _, _, _, _, _, _, _], _⟩ _
              rw [show f 7 = _ from q7]
              clear q7
              obtain ⟨w7, hw7⟩ : ∃ w7, w7 = w' := ⟨_, rfl⟩
              have HRI7 : Hid (RI w (bm + 1) bm n (srcs Lk) (initR Lk) (.slice A6 l6 c6) F gk hk w7) := Lib.hid (by rw [hw7]; exact HRI8.out.grow hR)
              have HBX7 : Hid (Blk w7 g8 T2 [.int .i64 (a : Int), .int .i64 (b' : Int)]) := Lib.hid (by rw [hw7]; exact HBX.out.grow hR)
              have HB7 := Lib.hid HRI7.out.bx
              rw [← hw7]
              clear hw7 hR
              go_wp2_with fail
              apply (fun (v0 v1 v2 v3 v4 v5 v6 : Value) mono obl tail => wp_region_par (R := Grow) (Φ := phi [veq v0, veq v1, veq v2, veq v3, veq v4, veq v5, veq v6, (NewP w7.heap.size n)]) (m := 8) (dls := [[], [(46, 0)], [(47, 1)], [(48, 2)], [], [(50, 4)], [], [(52, 6)]]) (ds := [46, 47, 48, 49, 50, 51, 52, 53]) (by kernel_rfl) (by kernel_rfl) (by decide) rfl (Grow.drew _) (fun _ _ _ => Grow.trans) (mono_phi mono) obl tail)
              case obl =>
                refine obls_cons (fun f w' hR hH Q hQ => ?_) ?_
                · skip
                  clear hH
                  refine wpList_view ?_; show wpList _ _ _ [_] ⟨#[_, _, _, _, _, _, _, _, _, _, _, _, _, _, _, _, _, _, _, _, _, _, _, _, _, _, _, _, _, _, _, _, _, _, _, _, _, _, _, _, _, _, _, _, _, _, _, _, _, _, _, _, _, _, _, _, _, _, _, _, _, _, _, _, _, _, _, _, _, _, _, _, _, _, _, _, _, _, _, _, _, _, _, _, _, _, _, _, _, _, _, _, _, _, _, _, _, _, _, _, _, _, _, _, _, _], _⟩ _
                  repeat (first | go_guarded | go_step)
                  exact hQ _ _ (Grow.refl _) rfl rfl
                refine obls_cons (fun f w' hR hH Q hQ => ?_) ?_
                · skip
                  have h0 := hH.get 0 (46, 0) rfl
                  clear hH
                  refine wpList_view ?_; show wpList _ _ _ [_] ⟨#[_, _, _, _, _, _, _, _, _, _, _, _, _, _, _, _, _, _, _, _, _, _, _, _, _, _, _, _, _, _, _, _, _, _, _, _, _, _, _, _, _, _, _, _, _, _, f 0, _, _, _, _, _, _, _, _, _, _, _, _, _, _, _, _, _, _, _, _, _, _, _, _, _, _, _, _, _, _, _, _, _, _, _, _, _, _, _, _, _, _, _, _, _, _, _, _, _, _, _, _, _, _, _, _, _, _, _], _⟩ _
                  rw [show f 0 = _ from h0]
                  clear h0
                  repeat (first | go_guarded | go_step)
                  exact hQ _ _ (Grow.refl _) rfl rfl
                refine obls_cons (fun f w' hR hH Q hQ => ?_) ?_
                · skip
                  have h1 := hH.get 0 (47, 1) rfl
                  clear hH
                  refine wpList_view ?_; show wpList _ _ _ [_] ⟨#[_, _, _, _, _, _, _, _, _, _, _, _, _, _, _, _, _, _, _, _, _, _, _, _, _, _, _, _, _, _, _, _, _, _, _, _, _, _, _, _, _, _, _, _, _, _, _, f 1, _, _, _, _, _, _, _, _, _, _, _, _, _, _, _, _, _, _, _, _, _, _, _, _, _, _, _, _, _, _, _, _, _, _, _, _, _, _, _, _, _, _, _, _, _, _, _, _, _, _, _, _, _, _, _, _, _, _], _⟩ _
                  rw [show f 1 = _ from h1]
                  clear h1
                  repeat (first | go_guarded | go_step)
                  exact hQ _ _ (Grow.refl _) rfl rfl
                refine obls_cons (fun f w' hR hH Q hQ => ?_) ?_
                · skip
                  have h2 := hH.get 0 (48, 2) rfl
                  clear hH
                  refine wpList_view ?_; show wpList _ _ _ [_] ⟨#[_, _, _, _, _, _, _, _, _, _, _, _, _, _, _, _, _, _, _, _, _, _, _, _, _, _, _, _, _, _, _, _, _, _, _, _, _, _, _, _, _, _, _, _, _, _, _, _, f 2, _, _, _, _, _, _, _, _, _, _, _, _, _, _, _, _, _, _, _, _, _, _, _, _, _, _, _, _, _, _, _, _, _, _, _, _, _, _, _, _, _, _, _, _, _, _, _, _, _, _, _, _, _, _, _, _, _], _⟩ _
                  rw [show f 2 = _ from h2]
                  clear h2
                  have z1 := (HB7.out.grow hR).cell (i := 1) rfl
                  repeat (first | go_guarded | go_step)
                  exact hQ _ _ (Grow.refl _) rfl rfl
                refine obls_cons (fun f w' hR hH Q hQ => ?_) ?_
                · skip
                  clear hH
                  refine wpList_view ?_; show wpList _ _ _ [_] ⟨#[_, _, _, _, _, _, _, _, _, _, _, _, _, _, _, _, _, _, _, _, _, _, _, _, _, _, _, _, _, _, _, _, _, _, _, _, _, _, _, _, _, _, _, _, _, _, _, _, _, _, _, _, _, _, _, _, _, _, _, _, _, _, _, _, _, _, _, _, _, _, _, _, _, _, _, _, _, _, _, _, _, _, _, _, _, _, _, _, _, _, _, _, _, _, _, _, _, _, _, _, _, _, _, _, _, _], _⟩ _
                  repeat (first | go_guarded | go_step)
                  exact hQ _ _ (Grow.refl _) rfl rfl
                refine obls_cons (fun f w' hR hH Q hQ => ?_) ?_
                · skip
                  have h4 := hH.get 0 (50, 4) rfl
                  clear hH
                  refine wpList_view ?_; show wpList _ _ _ [_] ⟨#[_, _, _, _, _, _, _, _, _, _, _, _, _, _, _, _, _, _, _, _, _, _, _, _, _, _, _, _, _, _, _, _, _, _, _, _, _, _, _, _, _, _, _, _, _, _, _, _, _, _, f 4, _, _, _, _, _, _, _, _, _, _, _, _, _, _, _, _, _, _, _, _, _, _, _, _, _, _, _, _, _, _, _, _, _, _, _, _, _, _, _, _, _, _, _, _, _, _, _, _, _, _, _, _, _, _, _], _⟩ _
                  rw [show f 4 = _ from h4]
                  clear h4
                  have z2 := (HBX7.out.grow hR).cell (i := 0) rfl
                  repeat (first | go_guarded | go_step)
                  exact hQ _ _ (Grow.refl _) rfl rfl
                refine obls_cons (fun f w' hR hH Q hQ => ?_) ?_
                · skip
                  clear hH
                  refine wpList_view ?_; show wpList _ _ _ [_] ⟨#[_, _, _, _, _, _, _, _, _, _, _, _, _, _, _, _, _, _, _, _, _, _, _, _, _, _, _, _, _, _, _, _, _, _, _, _, _, _, _, _, _, _, _, _, _, _, _, _, _, _, _, _, _, _, _, _, _, _, _, _, _, _, _, _, _, _, _, _, _, _, _, _, _, _, _, _, _, _, _, _, _, _, _, _, _, _, _, _, _, _, _, _, _, _, _, _, _, _, _, _, _, _, _, _, _, _], _⟩ _
                  repeat (first | go_guarded | go_step)
                  exact hQ _ _ (Grow.refl _) rfl rfl
                refine obls_cons (fun f w' hR hH Q hQ => ?_) ?_
                · skip
                  have h6 := hH.get 0 (52, 6) rfl
                  clear hH
                  refine wpList_view ?_; show wpList _ _ _ [_] ⟨#[_, _, _, _, _, _, _, _, _, _, _, _, _, _, _, _, _, _, _, _, _, _, _, _, _, _, _, _, _, _, _, _, _, _, _, _, _, _, _, _, _, _, _, _, _, _, _, _, _, _, _, _, f 6, _, _, _, _, _, _, _, _, _, _, _, _, _, _, _, _, _, _, _, _, _, _, _, _, _, _, _, _, _, _, _, _, _, _, _, _, _, _, _, _, _, _, _, _, _, _, _, _, _, _, _, _, _], _⟩ _
                  rw [show f 6 = _ from h6]
                  clear h6
                  have HNW := Lib.hid (new_any (n : Int) w' (by omega) (by have := HN.out; omega))
                  go_wp2_with (go_at_call 23; refine HNW.out.mono ?_; rintro e w1 ⟨rfl, m1, hg1⟩)
                  rw [show clampN (n : Int) = n by unfold clampN; have := HN.out; omega] at m1
                  exact hQ _ _ hg1 ⟨_, _, rfl, m1, by have := hR.size; omega, hR.size⟩ rfl
                exact obls_nil
              case mono => exact ⟨Mono.veq _, Mono.veq _, Mono.veq _, Mono.veq _, Mono.veq _, Mono.veq _, Mono.veq _, NewP.mono, trivial⟩
              case tail =>
                intro f w' hR hH
                have q3 := hH.get 3 (49, 3) rfl
                have q5 := hH.get 5 (51, 5) rfl
                have q7 : (NewP w7.heap.size n) (f 7) w' := hH.get 7 (53, 7) rfl
                clear hH
                refine wpList_merge (idx := [none, none, none, none, none, none, none, none, none, none, none, none, none, none, none, none, none, none, none, none, none, none, none, none, none, none, none, none, none, none, none, none, none, none, none, none, none, none, none, none, none, none, none, none, none, none, some 0, some 1, some 2, some 3, some 4, some 5, some 6, some 7, none, none, none, none, none, none, none, none, none, none, none, none, none, none, none, none, none, none, none, none, none, none, none, none, none, none, none, none, none, none, none, none, none, none, none, none, none, none, none, none, none, none, none, none, none, none, none, none, none, none, none, none]) (by kernel_rfl) ?_; show wpList _ _ _ [_] ⟨#[_, _, _, _, _, _, _, _, _, _, _, _, _, _, _, _, _, _, _, _, _, _, _, _, _, _, _, _, _, _, _, _, _, _, _, _, _, _, _, _, _, _, _, _, _, _, f 0, f 1, f 2, f 3, f 4, f 5, f 6, f 7, _, _, _, _, _, _, _, _, _, _, _, _, _, _, _, _, _, _, _, _, _, _, _, _, _, _, _, _, _, _, _, _, _, _, _, _, _, _, _, _, _, _, _, _, _, _, _, _, _, _, _, _], _⟩ _
                rw [show f 3 = _ from q3]
                rw [show f 5 = _ from q5]
                clear q3 q5
                generalize f 7 = x7 at *
                obtain ⟨gn, hn', rfl, mn, bn1, bn2⟩ := q7
                obtain ⟨cnt, hcnt, hmp⟩ := HRI7.out.mp
                have hmp' := hmp.grow hR
                have hcl : cnt < maxLen := by
                  have h1 : (srcs Lk).length ≤ n := by
                    have := nodup_len (nodup_srcs Lk) (List.range n) fun y hy => by
                      obtain ⟨z, hz⟩ := mem_srcs.1 hy
                      rw [HLK.out] at hz
                      exact List.mem_range.2 (vp_lt hz).1
                    simpa using this
                  have := HN.out
                  unfold maxLen
                  omega
                obtain ⟨w2, hup, hm2, hgb⟩ := hmp'.update Try.underlying3 Try.underlying51 hcl (i := (a : Int)) (by simp [wf64, Lit.wf, IntKind.min, IntKind.max, IntKind.signed, IntKind.bits]; have := HPX.out.1.2; simp at this; omega) (some gn)
                have HRJ := Lib.hid (HRI7.out.newset hR HA.out bn1 bn2 mn hmp' hcnt (by have := HB.out; omega) hm2 hgb)
                have HK2 : Hid (Keep w.heap.size (fun j => j ≠ bm) w' w2) := Lib.hid (Keep.by_ (Keep.refl w') (HRI7.out.g.trans hR).size hgb (fun k hk => by injection hk with hk; subst hk; exact ⟨HB.out, fun h => h rfl⟩))
                have HBXw := Lib.hid (HBX7.out.grow hR)
                have HBX2 : Hid (Blk w2 g8 T2 [.int .i64 (a : Int), .int .i64 (b' : Int)]) := Lib.hid (HK2.out.blk HBXw.out (blk_not_map HBXw.out hmp'))
                replace hup : (Instr.mapUpdate TM (.map (some bm)) (.int .i64 (a : Int)) (.pointer (some ⟨gn, 0, none⟩))).run Try.prog w' = .ok () w2 := hup
                clear mn bn1 bn2 hcnt hmp hmp' hcl hm2 hgb hR
                have z5 := HBX2.out.cell (i := 0) rfl
                have hown := HRJ.out.own
                rw [← HL6.out] at hown
                have hsz : w.heap.size ≤ w2.heap.size := HRJ.out.g.size
                have hl6n : l6 ≤ 65536 := by
                  have h1 : (srcs Lk).length ≤ n := by
                    have := nodup_len (nodup_srcs Lk) (List.range n) fun y hy => by
                      obtain ⟨z, hz⟩ := mem_srcs.1 hy
                      rw [HLK.out] at hz
                      exact List.mem_range.2 (vp_lt hz).1
                    simpa using this
                  have := HN.out
                  rw [HL6.out]
                  omega
                have hlim : l6 + 1 ≤ maxLen := by unfold maxLen; omega
                have hlim2 : (l6 + 1) * 8 ≤ 140737488355328 := by omega
                clear hl6n
                go_wp2_with (at_builtin; refine append_fresh 8 Try.underlying23 iI iIz iIs iIb rfl rfl _ _ rfl w.heap.size _ _ _ hown rfl rfl rfl hlim hlim2 hsz ?_; intro v1 w9 hown1 hgb1 hh1)
                have HRI9' : Hid (RI w (bm + 1) bm n (srcs Lk ++ [a]) (initR Lk) v1 (fun z => if z = (a : Int) then some gn else F z) (fun i => if i = a then gn else gk i) (fun i => if i = a then hn' else hk i) w9) := Lib.hid (HRJ.out.list (Grow.alloc _ _) hgb1 rfl (by rw [show (srcs Lk ++ [a]).length = l6 + 1 by rw [HL6.out]; simp, List.map_append]; exact hown1))
                have HBX9 : Hid (Blk w9 g8 T2 [.int .i64 (a : Int), .int .i64 (b' : Int)]) := Lib.hid (by
                  have hb := HBX2.out.grow (Grow.alloc w2 (.cells #[.int .i64 (a : Int)] 3))
                  refine (hgb1.block g8 hb.lt fun e => ?_).trans hb
                  obtain ⟨cs, hb2⟩ := own_blk (own_grow hown (Grow.alloc w2 (.cells #[.int .i64 (a : Int)] 3))) e.symm
                  exact absurd (Blk.ty_eq hb hb2) (by decide))
                obtain ⟨A1, c1, rfl, -, -, -⟩ := own_form hown1
                obtain ⟨F', hF'⟩ : ∃ F', F' = (fun z => if z = (a : Int) then some gn else F z) := ⟨_, rfl⟩
                obtain ⟨gk', hgk'⟩ : ∃ F', F' = (fun i => if i = a then gn else gk i) := ⟨_, rfl⟩
                obtain ⟨hk', hhk'⟩ : ∃ F', F' = (fun i => if i = a then hn' else hk i) := ⟨_, rfl⟩
                rw [← hF', ← hgk', ← hhk'] at HRI9'
                have HRI9 := HRI9'
                clear HRI9' hF' hgk' hhk' z5 hown hsz hlim hlim2 hown1 hgb1 hh1 hup
                go_wp2_with fail
                obtain ⟨hFa, hga, hha, hma⟩ := HRI9.out.st.at_ a (List.mem_append_right _ List.mem_cons_self)
                obtain ⟨ga, hgae⟩ : ∃ g, g = gk' a := ⟨_, rfl⟩
                obtain ⟨ha', hhae⟩ : ∃ g, g = hk' a := ⟨_, rfl⟩
                rw [← hgae] at hFa hga hma
                rw [← hhae] at hha hma
                have HL9 : Hid (∀ w', Grow w9 w' → (Instr.lookup TM (.map (some bm)) (.int .i64 (a : Int)) false).run Try.prog w' = .ok (.pointer (some ⟨ga, 0, none⟩)) w') := Lib.hid fun w' hg => by
                  obtain ⟨cnt, -, hmp⟩ := HRI9.out.mp
                  have := LookP.run (.inl ⟨bm, cnt, rfl, hmp.grow hg⟩) (i := (a : Int)) HPX.out.1.1 HPX.out.1.2
                  rw [hFa] at this
                  exact this
                have HPUT : Hid (∀ w', Grow w9 w' → Calls Try.prog 24 #[.pointer (some ⟨ga, 0, none⟩), .int .i64 (b' : Int)] w' fun e w2 => (∃ r, e = .returned (.bool r)) ∧ MS w2 ga (some ha') n (putS n (initR Lk a) (b' : Int)) ∧ Keep w.heap.size (fun j => j ≠ ga ∧ j ≠ ha') w' w2) := Lib.hid fun w' hg =>
                  (put_any w' w.heap.size _ ga (some ha') n _ (hma.grow hg) (free_of hga (fun h => h.1 rfl) (fun k hk => by injection hk with hk; subst hk; exact ⟨hha, fun h => h.2 rfl⟩)) (b' : Int)).mono fun e w2 ⟨h1, h2⟩ => ⟨⟨_, h1⟩, h2⟩
                have HGE := Lib.hid (And.intro hgae hhae)
                have HB9 := Lib.hid HRI9.out.bx
                clear hFa hga hha hma hgae hhae
                apply (fun (v0 v1 v2 v3 v4 v5 v6 v7 v8 : Value) mono obl tail => wp_region_par (R := Grow) (Φ := phi [veq v0, veq v1, veq v2, veq v3, veq v4, veq v5, veq v6, veq v7, veq v8]) (m := 9) (dls := [[], [(59, 0)], [(60, 1)], [(61, 2)], [], [(63, 4)], [(62, 3), (64, 5)], [], [(66, 7)]]) (ds := [59, 60, 61, 62, 63, 64, 65, 66, 67]) (by kernel_rfl) (by kernel_rfl) (by decide) rfl (Grow.drew _) (fun _ _ _ => Grow.trans) (mono_phi mono) obl tail)
                case obl =>
                  refine obls_cons (fun f w' hR hH Q hQ => ?_) ?_
                  · skip
                    clear hH
                    refine wpList_view ?_; show wpList _ _ _ [_] ⟨#[_, _, _, _, _, _, _, _, _, _, _, _, _, _, _, _, _, _, _, _, _, _, _, _, _, _, _, _, _, _, _, _, _, _, _, _, _, _, _, _, _, _, _, _, _, _, _, _, _, _, _, _, _, _, _, _, _, _, _, _, _, _, _, _, _, _, _, _, _, _, _, _, _, _, _, _, _, _, _, _, _, _, _, _, _, _, _, _, _, _, _, _, _, _, _, _, _, _, _, _, _, _, _, _, _, _], _⟩ _
                    repeat (first | go_guarded | go_step)
                    exact hQ _ _ (Grow.refl _) rfl rfl
                  refine obls_cons (fun f w' hR hH Q hQ => ?_) ?_
                  · skip
                    have h0 := hH.get 0 (59, 0) rfl
                    clear hH
                    refine wpList_view ?_; show wpList _ _ _ [_] ⟨#[_, _, _, _, _, _, _, _, _, _, _, _, _, _, _, _, _, _, _, _, _, _, _, _, _, _, _, _, _, _, _, _, _, _, _, _, _, _, _, _, _, _, _, _, _, _, _, _, _, _, _, _, _, _, _, _, _, _, _, f 0, _, _, _, _, _, _, _, _, _, _, _, _, _, _, _, _, _, _, _, _, _, _, _, _, _, _, _, _, _, _, _, _, _, _, _, _, _, _, _, _, _, _, _, _, _, _], _⟩ _
                    rw [show f 0 = _ from h0]
                    clear h0
                    repeat (first | go_guarded | go_step)
                    exact hQ _ _ (Grow.refl _) rfl rfl
                  refine obls_cons (fun f w' hR hH Q hQ => ?_) ?_
                  · skip
                    have h1 := hH.get 0 (60, 1) rfl
                    clear hH
                    refine wpList_view ?_; show wpList _ _ _ [_] ⟨#[_, _, _, _, _, _, _, _, _, _, _, _, _, _, _, _, _, _, _, _, _, _, _, _, _, _, _, _, _, _, _, _, _, _, _, _, _, _, _, _, _, _, _, _, _, _, _, _, _, _, _, _, _, _, _, _, _, _, _, _, f 1, _, _, _, _, _, _, _, _, _, _, _, _, _, _, _, _, _, _, _, _, _, _, _, _, _, _, _, _, _, _, _, _, _, _, _, _, _, _, _, _, _, _, _, _, _], _⟩ _
                    rw [show f 1 = _ from h1]
                    clear h1
                    repeat (first | go_guarded | go_step)
                    exact hQ _ _ (Grow.refl _) rfl rfl
                  refine obls_cons (fun f w' hR hH Q hQ => ?_) ?_
                  · skip
                    have h2 := hH.get 0 (61, 2) rfl
                    clear hH
                    refine wpList_view ?_; show wpList _ _ _ [_] ⟨#[_, _, _, _, _, _, _, _, _, _, _, _, _, _, _, _, _, _, _, _, _, _, _, _, _, _, _, _, _, _, _, _, _, _, _, _, _, _, _, _, _, _, _, _, _, _, _, _, _, _, _, _, _, _, _, _, _, _, _, _, _, f 2, _, _, _, _, _, _, _, _, _, _, _, _, _, _, _, _, _, _, _, _, _, _, _, _, _, _, _, _, _, _, _, _, _, _, _, _, _, _, _, _, _, _, _, _], _⟩ _
                    rw [show f 2 = _ from h2]
                    clear h2
                    have z1 := (HB9.out.grow hR).cell (i := 1) rfl
                    repeat (first | go_guarded | go_step)
                    exact hQ _ _ (Grow.refl _) rfl rfl
                  refine obls_cons (fun f w' hR hH Q hQ => ?_) ?_
                  · skip
                    clear hH
                    refine wpList_view ?_; show wpList _ _ _ [_] ⟨#[_, _, _, _, _, _, _, _, _, _, _, _, _, _, _, _, _, _, _, _, _, _, _, _, _, _, _, _, _, _, _, _, _, _, _, _, _, _, _, _, _, _, _, _, _, _, _, _, _, _, _, _, _, _, _, _, _, _, _, _, _, _, _, _, _, _, _, _, _, _, _, _, _, _, _, _, _, _, _, _, _, _, _, _, _, _, _, _, _, _, _, _, _, _, _, _, _, _, _, _, _, _, _, _, _, _], _⟩ _
                    repeat (first | go_guarded | go_step)
                    exact hQ _ _ (Grow.refl _) rfl rfl
                  refine obls_cons (fun f w' hR hH Q hQ => ?_) ?_
                  · skip
                    have h4 := hH.get 0 (63, 4) rfl
                    clear hH
                    refine wpList_view ?_; show wpList _ _ _ [_] ⟨#[_, _, _, _, _, _, _, _, _, _, _, _, _, _, _, _, _, _, _, _, _, _, _, _, _, _, _, _, _, _, _, _, _, _, _, _, _, _, _, _, _, _, _, _, _, _, _, _, _, _, _, _, _, _, _, _, _, _, _, _, _, _, _, f 4, _, _, _, _, _, _, _, _, _, _, _, _, _, _, _, _, _, _, _, _, _, _, _, _, _, _, _, _, _, _, _, _, _, _, _, _, _, _, _, _, _, _], _⟩ _
                    rw [show f 4 = _ from h4]
                    clear h4
                    have z2 := (HBX9.out.grow hR).cell (i := 0) rfl
                    repeat (first | go_guarded | go_step)
                    exact hQ _ _ (Grow.refl _) rfl rfl
                  refine obls_cons (fun f w' hR hH Q hQ => ?_) ?_
                  · skip
                    have h3 := hH.get 0 (62, 3) rfl
                    have h5 := hH.get 1 (64, 5) rfl
                    clear hH
                    refine wpList_view ?_; show wpList _ _ _ [_] ⟨#[_, _, _, _, _, _, _, _, _, _, _, _, _, _, _, _, _, _, _, _, _, _, _, _, _, _, _, _, _, _, _, _, _, _, _, _, _, _, _, _, _, _, _, _, _, _, _, _, _, _, _, _, _, _, _, _, _, _, _, _, _, _, f 3, _, f 5, _, _, _, _, _, _, _, _, _, _, _, _, _, _, _, _, _, _, _, _, _, _, _, _, _, _, _, _, _, _, _, _, _, _, _, _, _, _, _, _, _], _⟩ _
                    rw [show f 3 = _ from h3]
                    rw [show f 5 = _ from h5]
                    clear h3 h5
                    have z3 := HL9.out w' hR
                    repeat (first | go_guarded | go_step)
                    exact hQ _ _ (Grow.refl _) rfl rfl
                  refine obls_cons (fun f w' hR hH Q hQ => ?_) ?_
                  · skip
                    clear hH
                    refine wpList_view ?_; show wpList _ _ _ [_] ⟨#[_, _, _, _, _, _, _, _, _, _, _, _, _, _, _, _, _, _, _, _, _, _, _, _, _, _, _, _, _, _, _, _, _, _, _, _, _, _, _, _, _, _, _, _, _, _, _, _, _, _, _, _, _, _, _, _, _, _, _, _, _, _, _, _, _, _, _, _, _, _, _, _, _, _, _, _, _, _, _, _, _, _, _, _, _, _, _, _, _, _, _, _, _, _, _, _, _, _, _, _, _, _, _, _, _, _], _⟩ _
                    repeat (first | go_guarded | go_step)
                    exact hQ _ _ (Grow.refl _) rfl rfl
                  refine obls_cons (fun f w' hR hH Q hQ => ?_) ?_
                  · skip
                    have h7 := hH.get 0 (66, 7) rfl
                    clear hH
                    refine wpList_view ?_; show wpList _ _ _ [_] ⟨#[_, _, _, _, _, _, _, _, _, _, _, _, _, _, _, _, _, _, _, _, _, _, _, _, _, _, _, _, _, _, _, _, _, _, _, _, _, _, _, _, _, _, _, _, _, _, _, _, _, _, _, _, _, _, _, _, _, _, _, _, _, _, _, _, _, _, f 7, _, _, _, _, _, _, _, _, _, _, _, _, _, _, _, _, _, _, _, _, _, _, _, _, _, _, _, _, _, _, _, _, _, _, _, _, _, _, _], _⟩ _
                    rw [show f 7 = _ from h7]
                    clear h7
                    have z4 := (HBX9.out.grow hR).cell (i := 1) rfl
                    repeat (first | go_guarded | go_step)
                    exact hQ _ _ (Grow.refl _) rfl rfl
                  exact obls_nil
                case mono => exact ⟨Mono.veq _, Mono.veq _, Mono.veq _, Mono.veq _, Mono.veq _, Mono.veq _, Mono.veq _, Mono.veq _, Mono.veq _, trivial⟩
                case tail =>
                  intro f w' hR hH
                  have q6 := hH.get 6 (65, 6) rfl
                  have q8 := hH.get 8 (67, 8) rfl
                  clear hH
                  refine wpList_merge (idx := [none, none, none, none, none, none, none, none, none, none, none, none, none, none, none, none, none, none, none, none, none, none, none, none, none, none, none, none, none, none, none, none, none, none, none, none, none, none, none, none, none, none, none, none, none, none, none, none, none, none, none, none, none, none, none, none, none, none, none, some 0, some 1, some 2, some 3, some 4, some 5, some 6, some 7, some 8, none, none, none, none, none, none, none, none, none, none, none, none, none, none, none, none, none, none, none, none, none, none, none, none, none, none, none, none, none, none, none, none, none, none, none, none, none, none]) (by kernel_rfl) ?_; show wpList _ _ _ [_] ⟨#[_, _, _, _, _, _, _, _, _, _, _, _, _, _, _, _, _, _, _, _, _, _, _, _, _, _, _, _, _, _, _, _, _, _, _, _, _, _, _, _, _, _, _, _, _, _, _, _, _, _, _, _, _, _, _, _, _, _, _, f 0, f 1, f 2, f 3, f 4, f 5, f 6, f 7, f 8, _, _, _, _, _, _, _, _, _, _, _, _, _, _, _, _, _, _, _, _, _, _, _, _, _, _, _, _, _, _, _, _, _, _, _, _, _, _], _⟩ _
                  rw [show f 6 = _ from q6]
                  rw [show f 8 = _ from q8]
                  clear q6 q8
                  have HG9 := Lib.hid hR
                  have HP := Lib.hid (HPUT.out w' hR)
                  clear hR
                  go_wp2_with fail
                  refine HP.out.mono ?_
                  rintro e w2 ⟨⟨r, rfl⟩, m2, k2⟩
                  have HRI2 := Lib.hid ((HRI9.out.grow HG9.out).turn (i := a) (List.mem_append_right _ List.mem_cons_self) (by rw [← HGE.out.1, ← HGE.out.2]; exact k2) (by rw [← HGE.out.1, ← HGE.out.2]; exact m2))
                  clear m2 k2
                  go_wp2_with fail
                  go_roundw
                  case rel => exact ⟨k + 1, _, gk', hk', by omega, by go_num, by
                    rw [vp_yes HXK.out (by unfold valid; rw [← HF1.out, ← HF2.out]; rfl), ← HLK.out, Int.toNat_natCast, Int.toNat_natCast, initR_snoc _ _ _ HBN.out, srcs_snoc, addB_new HA.out]
                    exact HRI2.out⟩
                  case measure => simp [intOf] <;> omega
    · obtain rfl : k = len := by omega
      obtain ⟨Lk, hLk⟩ : ∃ Lk, Lk = vp n xs := ⟨_, rfl⟩
      have htk : xs.take k = xs := List.take_of_length_le (by rw [HXL.out]; exact Nat.le_refl _)
      rw [htk, ← hLk] at ri
      obtain ⟨fs, hfs⟩ : ∃ fs, fs = srcs Lk := ⟨_, rfl⟩
      rw [← hfs] at ri
      have hnd : fs.Nodup := by rw [hfs]; exact nodup_srcs Lk
      have hfl : fs.length ≤ n := by
        have := nodup_len hnd (List.range n) fun y hy => by
          rw [hfs] at hy
          obtain ⟨z, hz⟩ := mem_srcs.1 hy
          rw [hLk] at hz
          exact List.mem_range.2 (vp_lt hz).1
        simpa using this
      have HFL : Hid (fs.length ≤ 65536) := Lib.hid (Nat.le_trans hfl HN.out)
      have HLK := Lib.hid hLk
      have HFS := Lib.hid hfs
      have HND := Lib.hid hnd
      obtain ⟨A6, c6, hv6, -⟩ := own_form ri.own
      subst hv6
      obtain ⟨l6, hl6⟩ : ∃ l, l = fs.length := ⟨_, rfl⟩
      rw [← hl6] at ri ⊢
      have HL6 := Lib.hid hl6
      have hl6b : l6 ≤ 65536 := by rw [hl6]; exact HFL.out
      have HRI0 : Hid (RI w (bm + 1) bm n fs (initR Lk) (.slice A6 l6 c6) F gk hk wr) := Lib.hid ri
      have HRB : Hid (∀ (m : Nat) (i j : Nat), (fs.take m).foldl closeK (initR Lk) i j = true → i < n ∧ j < n) := Lib.hid fun m i j h => by
        have h1 := sound _ _ (fun i j h => Lead.step (L := Lk) (by simpa [initR] using h)) i j h
        obtain ⟨y, hy⟩ := h1.src
        obtain ⟨z, hz⟩ := h1.dst
        rw [HLK.out] at hy hz
        exact ⟨(vp_lt hy).1, (vp_lt hz).2⟩
      clear hLk htk hfs hnd hfl hl6 ri hlt
      go_wp2_with fail
      go_loopw [72] (fun i' w1 => ∃ (p : Nat), p ≤ l6 ∧ i' = .int .i64 (p : Int) ∧ RI w (bm + 1) bm n fs ((fs.take p).foldl closeK (initR Lk)) (.slice A6 l6 c6) F gk hk w1) (fun i' _ => l6 - (intOf i').toNat)
      case atStart => exact ⟨0, by omega, rfl, by rw [List.take_zero]; exact HRI0.out⟩
      case round =>
        obtain ⟨p, hpl, rfl, ri⟩ := hrel
        by_cases hlt : p < l6
        · obtain ⟨Rp, hRp⟩ : ∃ Rp, Rp = (fs.take p).foldl closeK (initR Lk) := ⟨_, rfl⟩
          rw [← hRp] at ri
          have HRP := Lib.hid hRp
          have HLT := Lib.hid hlt
          obtain ⟨b6, off6, q, rfl, hq, hcell⟩ := Row.nat_at ri.row (k := p) (by rw [← HL6.out]; exact hlt)
          have HQ := Lib.hid hq
          have HQM := Lib.hid (List.mem_of_getElem? hq)
          have hqn : q < n := by
            have h1 := List.mem_of_getElem? hq
            rw [HFS.out] at h1
            obtain ⟨z, hz⟩ := mem_srcs.1 h1
            rw [HLK.out] at hz
            exact (vp_lt hz).1
          have HQN : Hid (q ≤ 65536) := Lib.hid (by have := HN.out; omega)
          have HRI1 := Lib.hid ri
          clear ri hRp hq hqn HRI0
          go_wp2_with fail
          go_loopw [78] (fun i' wr => ∃ (m : Nat), m ≤ l6 ∧ i' = .int .i64 (m : Int) ∧ RI w (bm + 1) bm n fs ((fs.take m).foldl (fun R i => rowK R q i) Rp) (.slice (some ⟨b6, off6, none⟩) l6 c6) F gk hk wr) (fun i' _ => l6 - (intOf i').toNat)
          case atStart => exact ⟨0, by omega, rfl, by rw [List.take_zero]; exact HRI1.out⟩
          case round =>
            clear hcell
            obtain ⟨m, hml, rfl, ri⟩ := hrel
            by_cases hlt2 : m < l6
            · obtain ⟨Rm, hRm⟩ : ∃ Rm, Rm = (fs.take m).foldl (fun R i => rowK R q i) Rp := ⟨_, rfl⟩
              rw [← hRm] at ri
              have HRM := Lib.hid hRm
              have HLT2 := Lib.hid hlt2
              obtain ⟨b7, off7, y, e7, hy, hcell⟩ := Row.nat_at ri.row (k := m) (by rw [← HL6.out]; exact hlt2)
              injection e7 with e7
              injection e7 with e7 e8
              subst e7; subst e8
              have HY := Lib.hid hy
              have HYM := Lib.hid (List.mem_of_getElem? hy)
              have hyn : y < n := by
                have h1 := List.mem_of_getElem? hy
                rw [HFS.out] at h1
                obtain ⟨z, hz⟩ := mem_srcs.1 h1
                rw [HLK.out] at hz
                exact (vp_lt hz).1
              have HYN : Hid (y ≤ 65536) := Lib.hid (by have := HN.out; omega)
              have HRI2 := Lib.hid ri
              obtain ⟨gy, hgy⟩ : ∃ g, g = gk y := ⟨_, rfl⟩
              obtain ⟨gq, hgq⟩ : ∃ g, g = gk q := ⟨_, rfl⟩
              have HLY : Hid (∀ w', Grow wr w' → (Instr.lookup TM (.map (some bm)) (.int .i64 (y : Int)) false).run Try.prog w' = .ok (.pointer (some ⟨gy, 0, none⟩)) w') := Lib.hid fun w' hg => by rw [hgy]; exact HRI2.out.look HYM.out hg HYN.out
              have HLQ : Hid (∀ w', Grow wr w' → (Instr.lookup TM (.map (some bm)) (.int .i64 (q : Int)) false).run Try.prog w' = .ok (.pointer (some ⟨gq, 0, none⟩)) w') := Lib.hid fun w' hg => by rw [hgq]; exact HRI2.out.look HQM.out hg HQN.out
              have hhas := relHas ri.st.sets (y : Int) (q : Int)
              rw [(ri.st.at_ y HYM.out).1, ← hgy, show leadI Rm (y : Int) (q : Int) = Rm y q by simp [leadI]] at hhas
              obtain ⟨r, hr⟩ : ∃ r, r = Rm y q := ⟨_, rfl⟩
              rw [← hr] at hhas
              have HHAS := Lib.hid hhas
              have HRR := Lib.hid hr
              have HOR : Hid (∀ w', Grow wr w' → Calls Try.prog 26 #[.pointer (some ⟨gy, 0, none⟩), .pointer (some ⟨gq, 0, none⟩)] w' fun e w2 => (∃ r, e = .returned (.bool r)) ∧ MS w2 (gk y) (some (hk y)) n (uni (Rm y) (Rm q) n) ∧ Keep w.heap.size (fun j => j ≠ gk y ∧ j ≠ hk y) w' w2) := Lib.hid fun w' hg => by rw [hgy, hgq]; exact (HRI2.out.grow hg).orC HYM.out HQM.out
              have HBQ : Hid (∀ j, Rm q j = true → j < n) := Lib.hid (HRI2.out.st.at_ q HQM.out).2.2.2.good.2
              have HBX := Lib.hid ri.bx
              have z1 := ri.bx.cell (i := 1) rfl
              have z2 := HLY.out wr (Grow.refl _)
              clear ri hRm hy hyn hgy hgq hhas hr
              cases r
              · go_wp2_with fail
                refine HHAS.out.mono ?_
                rintro e w' ⟨rfl, rfl⟩
                go_wp2_with fail
                go_roundw
                case rel => exact ⟨m + 1, by have := HLT2.out; omega, by go_num, by rw [take_fold _ _ HY.out, ← HRM.out, rowK_no HRR.out.symm]; exact HRI2.out⟩
                case measure => have := HLT2.out; simp [intOf] <;> omega
              · go_wp2_with fail
                refine HHAS.out.mono ?_
                rintro e w' ⟨rfl, rfl⟩
                clear z1 z2 hcell
                go_wp2_with fail
                apply (fun (v0 v1 v2 v3 v4 v5 v6 v7 v8 v9 v10 v11 : Value) mono obl tail => wp_region_par (R := Grow) (Φ := phi [veq v0, veq v1, veq v2, veq v3, veq v4, veq v5, veq v6, veq v7, veq v8, veq v9, veq v10, veq v11]) (m := 12) (dls := [[], [(90, 0)], [(91, 1)], [(92, 2)], [], [(93, 3), (94, 4)], [], [(96, 6)], [(97, 7)], [(98, 8)], [], [(99, 9), (100, 10)]]) (ds := [90, 91, 92, 93, 94, 95, 96, 97, 98, 99, 100, 101]) (by kernel_rfl) (by kernel_rfl) (by decide) rfl (Grow.drew _) (fun _ _ _ => Grow.trans) (mono_phi mono) obl tail)
                case obl =>
                  refine obls_cons (fun f w' hR hH Q hQ => ?_) ?_
                  · skip
                    clear hH
                    refine wpList_view ?_; show wpList _ _ _ [_] ⟨#[_, _, _, _, _, _, _, _, _, _, _, _, _, _, _, _, _, _, _, _, _, _, _, _, _, _, _, _, _, _, _, _, _, _, _, _, _, _, _, _, _, _, _, _, _, _, _, _, _, _, _, _, _, _, _, _, _, _, _, _, _, _, _, _, _, _, _, _, _, _, _, _, _, _, _, _, _, _, _, _, _, _, _, _, _, _, _, _, _, _, _, _, _, _, _, _, _, _, _, _, _, _, _, _, _, _], _⟩ _
                    repeat (first | go_guarded | go_step)
                    exact hQ _ _ (Grow.refl _) rfl rfl
                  refine obls_cons (fun f w' hR hH Q hQ => ?_) ?_
                  · skip
                    have h0 := hH.get 0 (90, 0) rfl
                    clear hH
                    refine wpList_view ?_; show wpList _ _ _ [_] ⟨#[_, _, _, _, _, _, _, _, _, _, _, _, _, _, _, _, _, _, _, _, _, _, _, _, _, _, _, _, _, _, _, _, _, _, _, _, _, _, _, _, _, _, _, _, _, _, _, _, _, _, _, _, _, _, _, _, _, _, _, _, _, _, _, _, _, _, _, _, _, _, _, _, _, _, _, _, _, _, _, _, _, _, _, _, _, _, _, _, _, _, f 0, _, _, _, _, _, _, _, _, _, _, _, _, _, _, _], _⟩ _
                    rw [show f 0 = _ from h0]
                    clear h0
                    repeat (first | go_guarded | go_step)
                    exact hQ _ _ (Grow.refl _) rfl rfl
                  refine obls_cons (fun f w' hR hH Q hQ => ?_) ?_
                  · skip
                    have h1 := hH.get 0 (91, 1) rfl
                    clear hH
                    refine wpList_view ?_; show wpList _ _ _ [_] ⟨#[_, _, _, _, _, _, _, _, _, _, _, _, _, _, _, _, _, _, _, _, _, _, _, _, _, _, _, _, _, _, _, _, _, _, _, _, _, _, _, _, _, _, _, _, _, _, _, _, _, _, _, _, _, _, _, _, _, _, _, _, _, _, _, _, _, _, _, _, _, _, _, _, _, _, _, _, _, _, _, _, _, _, _, _, _, _, _, _, _, _, _, f 1, _, _, _, _, _, _, _, _, _, _, _, _, _, _], _⟩ _
                    rw [show f 1 = _ from h1]
                    clear h1
                    repeat (first | go_guarded | go_step)
                    exact hQ _ _ (Grow.refl _) rfl rfl
                  refine obls_cons (fun f w' hR hH Q hQ => ?_) ?_
                  · skip
                    have h2 := hH.get 0 (92, 2) rfl
                    clear hH
                    refine wpList_view ?_; show wpList _ _ _ [_] ⟨#[_, _, _, _, _, _, _, _, _, _, _, _, _, _, _, _, _, _, _, _, _, _, _, _, _, _, _, _, _, _, _, _, _, _, _, _, _, _, _, _, _, _, _, _, _, _, _, _, _, _, _, _, _, _, _, _, _, _, _, _, _, _, _, _, _, _, _, _, _, _, _, _, _, _, _, _, _, _, _, _, _, _, _, _, _, _, _, _, _, _, _, _, f 2, _, _, _, _, _, _, _, _, _, _, _, _, _], _⟩ _
                    rw [show f 2 = _ from h2]
                    clear h2
                    have z1 := (HBX.out.grow hR).cell (i := 1) rfl
                    repeat (first | go_guarded | go_step)
                    exact hQ _ _ (Grow.refl _) rfl rfl
                  refine obls_cons (fun f w' hR hH Q hQ => ?_) ?_
                  · skip
                    clear hH
                    refine wpList_view ?_; show wpList _ _ _ [_] ⟨#[_, _, _, _, _, _, _, _, _, _, _, _, _, _, _, _, _, _, _, _, _, _, _, _, _, _, _, _, _, _, _, _, _, _, _, _, _, _, _, _, _, _, _, _, _, _, _, _, _, _, _, _, _, _, _, _, _, _, _, _, _, _, _, _, _, _, _, _, _, _, _, _, _, _, _, _, _, _, _, _, _, _, _, _, _, _, _, _, _, _, _, _, _, _, _, _, _, _, _, _, _, _, _, _, _, _], _⟩ _
                    repeat (first | go_guarded | go_step)
                    exact hQ _ _ (Grow.refl _) rfl rfl
                  refine obls_cons (fun f w' hR hH Q hQ => ?_) ?_
                  · skip
                    have h3 := hH.get 0 (93, 3) rfl
                    have h4 := hH.get 1 (94, 4) rfl
                    clear hH
                    refine wpList_view ?_; show wpList _ _ _ [_] ⟨#[_, _, _, _, _, _, _, _, _, _, _, _, _, _, _, _, _, _, _, _, _, _, _, _, _, _, _, _, _, _, _, _, _, _, _, _, _, _, _, _, _, _, _, _, _, _, _, _, _, _, _, _, _, _, _, _, _, _, _, _, _, _, _, _, _, _, _, _, _, _, _, _, _, _, _, _, _, _, _, _, _, _, _, _, _, _, _, _, _, _, _, _, _, f 3, f 4, _, _, _, _, _, _, _, _, _, _, _], _⟩ _
                    rw [show f 3 = _ from h3]
                    rw [show f 4 = _ from h4]
                    clear h3 h4
                    have z2 := HLY.out w' hR
                    repeat (first | go_guarded | go_step)
                    exact hQ _ _ (Grow.refl _) rfl rfl
                  refine obls_cons (fun f w' hR hH Q hQ => ?_) ?_
                  · skip
                    clear hH
                    refine wpList_view ?_; show wpList _ _ _ [_] ⟨#[_, _, _, _, _, _, _, _, _, _, _, _, _, _, _, _, _, _, _, _, _, _, _, _, _, _, _, _, _, _, _, _, _, _, _, _, _, _, _, _, _, _, _, _, _, _, _, _, _, _, _, _, _, _, _, _, _, _, _, _, _, _, _, _, _, _, _, _, _, _, _, _, _, _, _, _, _, _, _, _, _, _, _, _, _, _, _, _, _, _, _, _, _, _, _, _, _, _, _, _, _, _, _, _, _, _], _⟩ _
                    repeat (first | go_guarded | go_step)
                    exact hQ _ _ (Grow.refl _) rfl rfl
                  refine obls_cons (fun f w' hR hH Q hQ => ?_) ?_
                  · skip
                    have h6 := hH.get 0 (96, 6) rfl
                    clear hH
                    refine wpList_view ?_; show wpList _ _ _ [_] ⟨#[_, _, _, _, _, _, _, _, _, _, _, _, _, _, _, _, _, _, _, _, _, _, _, _, _, _, _, _, _, _, _, _, _, _, _, _, _, _, _, _, _, _, _, _, _, _, _, _, _, _, _, _, _, _, _, _, _, _, _, _, _, _, _, _, _, _, _, _, _, _, _, _, _, _, _, _, _, _, _, _, _, _, _, _, _, _, _, _, _, _, _, _, _, _, _, _, f 6, _, _, _, _, _, _, _, _, _], _⟩ _
                    rw [show f 6 = _ from h6]
                    clear h6
                    repeat (first | go_guarded | go_step)
                    exact hQ _ _ (Grow.refl _) rfl rfl
                  refine obls_cons (fun f w' hR hH Q hQ => ?_) ?_
                  · skip
                    have h7 := hH.get 0 (97, 7) rfl
                    clear hH
                    refine wpList_view ?_; show wpList _ _ _ [_] ⟨#[_, _, _, _, _, _, _, _, _, _, _, _, _, _, _, _, _, _, _, _, _, _, _, _, _, _, _, _, _, _, _, _, _, _, _, _, _, _, _, _, _, _, _, _, _, _, _, _, _, _, _, _, _, _, _, _, _, _, _, _, _, _, _, _, _, _, _, _, _, _, _, _, _, _, _, _, _, _, _, _, _, _, _, _, _, _, _, _, _, _, _, _, _, _, _, _, _, f 7, _, _, _, _, _, _, _, _], _⟩ _
                    rw [show f 7 = _ from h7]
                    clear h7
                    repeat (first | go_guarded | go_step)
                    exact hQ _ _ (Grow.refl _) rfl rfl
                  refine obls_cons (fun f w' hR hH Q hQ => ?_) ?_
                  · skip
                    have h8 := hH.get 0 (98, 8) rfl
                    clear hH
                    refine wpList_view ?_; show wpList _ _ _ [_] ⟨#[_, _, _, _, _, _, _, _, _, _, _, _, _, _, _, _, _, _, _, _, _, _, _, _, _, _, _, _, _, _, _, _, _, _, _, _, _, _, _, _, _, _, _, _, _, _, _, _, _, _, _, _, _, _, _, _, _, _, _, _, _, _, _, _, _, _, _, _, _, _, _, _, _, _, _, _, _, _, _, _, _, _, _, _, _, _, _, _, _, _, _, _, _, _, _, _, _, _, f 8, _, _, _, _, _, _, _], _⟩ _
                    rw [show f 8 = _ from h8]
                    clear h8
                    have z1 := (HBX.out.grow hR).cell (i := 1) rfl
                    repeat (first | go_guarded | go_step)
                    exact hQ _ _ (Grow.refl _) rfl rfl
                  refine obls_cons (fun f w' hR hH Q hQ => ?_) ?_
                  · skip
                    clear hH
                    refine wpList_view ?_; show wpList _ _ _ [_] ⟨#[_, _, _, _, _, _, _, _, _, _, _, _, _, _, _, _, _, _, _, _, _, _, _, _, _, _, _, _, _, _, _, _, _, _, _, _, _, _, _, _, _, _, _, _, _, _, _, _, _, _, _, _, _, _, _, _, _, _, _, _, _, _, _, _, _, _, _, _, _, _, _, _, _, _, _, _, _, _, _, _, _, _, _, _, _, _, _, _, _, _, _, _, _, _, _, _, _, _, _, _, _, _, _, _, _, _], _⟩ _
                    repeat (first | go_guarded | go_step)
                    exact hQ _ _ (Grow.refl _) rfl rfl
                  refine obls_cons (fun f w' hR hH Q hQ => ?_) ?_
                  · skip
                    have h9 := hH.get 0 (99, 9) rfl
                    have h10 := hH.get 1 (100, 10) rfl
                    clear hH
                    refine wpList_view ?_; show wpList _ _ _ [_] ⟨#[_, _, _, _, _, _, _, _, _, _, _, _, _, _, _, _, _, _, _, _, _, _, _, _, _, _, _, _, _, _, _, _, _, _, _, _, _, _, _, _, _, _, _, _, _, _, _, _, _, _, _, _, _, _, _, _, _, _, _, _, _, _, _, _, _, _, _, _, _, _, _, _, _, _, _, _, _, _, _, _, _, _, _, _, _, _, _, _, _, _, _, _, _, _, _, _, _, _, _, f 9, f 10, _, _, _, _, _], _⟩ _
                    rw [show f 9 = _ from h9]
                    rw [show f 10 = _ from h10]
                    clear h9 h10
                    have z2 := HLQ.out w' hR
                    repeat (first | go_guarded | go_step)
                    exact hQ _ _ (Grow.refl _) rfl rfl
                  exact obls_nil
                case mono => exact ⟨Mono.veq _, Mono.veq _, Mono.veq _, Mono.veq _, Mono.veq _, Mono.veq _, Mono.veq _, Mono.veq _, Mono.veq _, Mono.veq _, Mono.veq _, Mono.veq _, trivial⟩
                case tail =>
                  intro f w' hR hH
                  have q5 := hH.get 5 (95, 5) rfl
                  have q11 := hH.get 11 (101, 11) rfl
                  clear hH
                  refine wpList_merge (idx := [none, none, none, none, none, none, none, none, none, none, none, none, none, none, none, none, none, none, none, none, none, none, none, none, none, none, none, none, none, none, none, none, none, none, none, none, none, none, none, none, none, none, none, none, none, none, none, none, none, none, none, none, none, none, none, none, none, none, none, none, none, none, none, none, none, none, none, none, none, none, none, none, none, none, none, none, none, none, none, none, none, none, none, none, none, none, none, none, none, none, some 0, some 1, some 2, some 3, some 4, some 5, some 6, some 7, some 8, some 9, some 10, some 11, none, none, none, none]) (by kernel_rfl) ?_; show wpList _ _ _ [_] ⟨#[_, _, _, _, _, _, _, _, _, _, _, _, _, _, _, _, _, _, _, _, _, _, _, _, _, _, _, _, _, _, _, _, _, _, _, _, _, _, _, _, _, _, _, _, _, _, _, _, _, _, _, _, _, _, _, _, _, _, _, _, _, _, _, _, _, _, _, _, _, _, _, _, _, _, _, _, _, _, _, _, _, _, _, _, _, _, _, _, _, _, f 0, f 1, f 2, f 3, f 4, f 5, f 6, f 7, f 8, f 9, f 10, f 11, _, _, _, _], _⟩ _
                  rw [show f 5 = _ from q5]
                  rw [show f 11 = _ from q11]
                  clear q5 q11
                  have HG := Lib.hid hR
                  have HO := Lib.hid (HOR.out w' hR)
                  clear hR
                  go_wp2_with fail
                  refine HO.out.mono ?_
                  rintro e w2 ⟨⟨r2, rfl⟩, m2, k2⟩
                  have HRI3 := Lib.hid ((HRI2.out.grow HG.out).turn (i := y) HYM.out k2 m2)
                  clear m2 k2
                  go_wp2_with fail
                  go_roundw
                  case rel => exact ⟨m + 1, by have := HLT2.out; omega, by go_num, by rw [take_fold _ _ HY.out, ← HRM.out, rowK_uni HRR.out.symm HBQ.out]; exact HRI3.out⟩
                  case measure => have := HLT2.out; simp [intOf] <;> omega
            · obtain rfl : m = l6 := by omega
              have HRI2 : Hid (RI w (bm + 1) bm n fs ((fs.take (p + 1)).foldl closeK (initR Lk)) (.slice (some ⟨b6, off6, none⟩) m c6) F gk hk wr) := Lib.hid (by
                have htk : fs.take m = fs := List.take_of_length_le (by rw [← HL6.out]; exact Nat.le_refl _)
                rw [htk, inner_close HND.out HRI1.out.st.off_] at ri
                rw [take_fold _ _ HQ.out, ← HRP.out]
                exact ri)
              clear ri
              go_wp2_with fail
              go_roundw
              case rel => exact ⟨p + 1, by have := HLT.out; omega, by go_num, HRI2.out⟩
              case measure => have := HLT.out; simp [intOf] <;> omega
        · obtain rfl : p = l6 := by omega
          have HEND : Hid (RelP wr (bm + 1) n (leadB Lk) ∧ Grow w wr) := Lib.hid (by
            have htk : fs.take p = fs := List.take_of_length_le (by rw [← HL6.out]; exact Nat.le_refl _)
            rw [htk] at ri
            rw [show leadB Lk = fs.foldl closeK (initR Lk) by rw [HFS.out]; rfl]
            obtain ⟨cnt, -, hmp⟩ := ri.mp
            exact ⟨⟨HN.out, _, F, ri.bx, .inl ⟨bm, cnt, rfl, hmp⟩, ri.st.sets⟩, ri.g⟩)
          clear ri HRI0
          go_wp2_with fail
          go_ret
          exact ⟨_, rfl, by rw [← HLK.out]; exact HEND.out.1, HEND.out.2⟩
end Go.Proofs.Ytbcifodifadoiaa.reW
