/- The statement DiskPlays: the walk; the chapter's example. -/
import Derived.Test.YtgpcijpadelcfaaDkL
import Derived.Deep.DeepCutAuto
import Derived.Deep.CutBlock
namespace Go.Proofs.Ytgpcijpadelcfaa.dkL
open Go Go.RowKit Go.Par Go.Kit Go.Proofs.Ytgpcijpadelcfaa.cl Go.Proofs.Ytgpcijpadelcfaa.dkW

def noK : Nat → Prop := fun _ => False
theorem noK_lt {n : Nat} : ∀ k, noK k → k < n := fun _ h => h.elim
set_option maxRecDepth 100000 in
set_option maxHeartbeats 1000000 in
theorem works_any (w : World) : Calls Try.prog 45 #[] w fun e w' => e = .returned (.bool true) ∧ Grow w w' := by
  obtain ⟨B, hB⟩ : ∃ B, B = w.heap.size := ⟨_, rfl⟩
  have HB := Lib.hid hB
  clear hB
  have kc := fun (w : World) (C : Array Value) (n c : Nat) => Lib.run_convert_bytes_const (P := Try.prog) w 65 5 C n c Try.underlying65 Try.underlying5
  go_enter Try.func45, Try.ntmps45
  go_wp2_with fail
  refine (new_any w B noK (by rw [HB.out]; exact Nat.le_refl _) noK_lt).mono ?_
  rintro e w1 ⟨g, rfl, hd, hg⟩
  have G1 := Lib.hid hg
  have D1 := Lib.hid hd
  have s1 : B ≤ w1.heap.size := by rw [HB.out]; exact hg.size
  clear hg hd
  go_wp2_with fail
  have hb1 : Bytes (w1.alloc (.cells #[.int .u8 97, .int .u8 98] 5 (2, 3))) (some ⟨w1.heap.size, 0, none⟩) 2 [97, 98] := Bytes.new _ _ _ _ rfl rfl rfl
  refine (append_any _ B noK (by simp; omega) noK_lt g [] 0 (D1.out.grow (Grow.alloc w1 _)) _ 2 2 [97, 98] hb1 (by simp)).mono ?_
  rintro e w2 ⟨rfl, hd, hk⟩
  have G2 := Lib.hid (((Keep.of (Grow.alloc w1 _) s1).trans hk).grow G1.out HB.out)
  have D2 := Lib.hid hd
  have s2 : B ≤ w2.heap.size := by have := hk.size; simp at this; omega
  clear hd hk D1
  go_wp2_with fail
  refine (sync_any _ B noK g _ _ D2.out).mono ?_
  rintro e w3 ⟨rfl, hd, hk⟩
  have G3 := Lib.hid (hk.grow G2.out HB.out)
  have D3 := Lib.hid (show Disk w3 B noK g [97, 98] 2 from hd)
  have s3 : B ≤ w3.heap.size := by have := hk.size; omega
  clear hd hk D2
  go_wp2_with fail
  have hb3 : Bytes (w3.alloc (.cells #[.int .u8 99, .int .u8 100] 5 (2, 3))) (some ⟨w3.heap.size, 0, none⟩) 2 [99, 100] := Bytes.new _ _ _ _ rfl rfl rfl
  refine (append_any _ B noK (by simp; omega) noK_lt g [97, 98] 2 (D3.out.grow (Grow.alloc w3 _)) _ 2 2 [99, 100] hb3 (by simp)).mono ?_
  rintro e w4 ⟨rfl, hd, hk⟩
  have G4 := Lib.hid (((Keep.of (Grow.alloc w3 _) s3).trans hk).grow G3.out HB.out)
  have D4 := Lib.hid (show Disk w4 B noK g [97, 98, 99, 100] 2 from hd)
  have s4 : B ≤ w4.heap.size := by have := hk.size; simp at this; omega
  clear hd hk D3
  go_wp2_with fail
  refine (crash_any _ B noK s4 g _ _ D4.out (by simp) 1).mono ?_
  rintro e w5 ⟨rfl, hd, hk⟩
  have G5 := Lib.hid (hk.grow G4.out HB.out)
  have D5 := Lib.hid (show Disk w5 B noK g [97, 98, 99] 3 from hd)
  clear hd hk D4
  go_wp2_with fail
  refine (bytes_any _ B noK g _ _ D5.out (by simp)).mono ?_
  rintro e w6 ⟨v, rfl, ho, hg⟩
  obtain ⟨A, c, rfl, a1, a2, a3⟩ := own_form ho
  rw [Nat.mul_one] at a3
  have hcs := conv_str (P := Try.prog) Try.underlying65 Try.underlying5 Try.underlying9 (show Bytes w6 A 3 [97, 98, 99] from a3) c
  have hstr : str [97, 98, 99] = ByteArray.mk #[97, 98, 99] := rfl
  rw [hstr] at hcs
  have G6 := Lib.hid (G5.out.trans hg)
  have D6 := Lib.hid (D5.out.grow hg)
  clear hstr hg ho a3 D5
  go_wp2_with (go_at_call 53; refine (sure_any _ B noK g _ _ D6.out).mono ?_; rintro e w7 ⟨rfl, rfl⟩)
  go_ret
  exact ⟨rfl, G6.out⟩

theorem own_farRow {w : World} {base : Nat} {e : TypeId} {size : Nat} {v : Value} {n : Nat} {xs : List Value} (h : w.ownsRow base e size v n xs) (k : Nat) (l : Array Value) (hne : ∀ j, v.ownBlock = some j → j ≠ k) : (w.setRow k l).ownsRow base e size v n xs := by
  obtain ⟨h1, h2⟩ := h
  refine ⟨h1, ?_⟩
  rcases h2 with h2 | ⟨g, cap, cur, rfl, h3, h4, h5⟩
  · exact .inl h2
  · exact .inr ⟨g, cap, cur, rfl, h3, (setRow_other w k g l (hne g rfl)).trans h4, h5⟩
theorem _root_.Go.Proofs.Ytgpcijpadelcfaa.dkW.Disk.farRow {w : World} {B : Nat} {g gx : Nat} {L : List UInt8} {s : Nat} (h : Disk w B (fun k => k = gx) g L s) (l : Array Value) : Disk (w.setRow gx l) B (fun k => k = gx) g L s := by
  obtain ⟨v, h1, h2, h3, h4, h5, h6⟩ := h
  exact ⟨v, h1.farRow (fun e => h4 e) l, own_farRow h2 gx l (fun j hj e => (h5 j hj).2 e), h3, h4, h5, h6⟩
def one1 (g : Nat) : Nat → Prop := fun k => k = g
def two (P Q : World → Prop) (b : Nat) (w : World) : Prop := (b = 0 → P w) ∧ (b = 1 → Q w)
theorem two.zero {P Q : World → Prop} {w : World} (h : P w) : two P Q 0 w := ⟨fun _ => h, fun e => absurd e (by decide)⟩
theorem two.one {P Q : World → Prop} {w : World} (h : Q w) : two P Q 1 w := ⟨fun e => absurd e (by decide), fun _ => h⟩
theorem two.get0 {P Q : World → Prop} {w : World} (h : two P Q 0 w) : P w := h.1 rfl
theorem two.get1 {P Q : World → Prop} {w : World} (h : two P Q 1 w) : Q w := h.2 rfl
structure Aft (w0 : World) (B : Nat) (g gx : Nat) (L : List UInt8) (s : Nat) (w : World) : Prop where
  d : Disk w B (one1 gx) g L s
  x : Blk w gx 64 [.string (str L), .int .i64 (s : Int)]
  g : Grow w0 w
structure Mid (w0 : World) (B : Nat) (g gx : Nat) (L : List UInt8) (s : Nat) (L' : List UInt8) (s' : Nat) (w : World) : Prop where
  d : Disk w B (one1 gx) g L s
  x : Blk w gx 64 [.string (str L'), .int .i64 (s' : Int)]
  g : Grow w0 w
theorem Aft.grow {w0 : World} {B : Nat} {g gx : Nat} {L : List UInt8} {s : Nat} {w w' : World} (h : Aft w0 B g gx L s w) (hg : Grow w w') : Aft w0 B g gx L s w' := ⟨h.d.grow hg, h.x.grow hg, h.g.trans hg⟩

set_option maxRecDepth 100000 in
set_option maxHeartbeats 8000000 in
theorem plays_walk (A : Option Addr) (n c : Nat) (ac : List Act) (w : World) (ha : Acts w A n ac) (hc : n ≤ c) (hm : c ≤ maxLen) :
    Calls Try.prog 12 #[.slice A n c] w fun e w' => e = .returned (.bool true) ∧ Grow w w' := by
  unfold maxLen at hm
  have hfew := few_any A n c ac w w ha (Grow.refl _) (by unfold maxLen; omega)
  cases hf : fewB ac
  · rw [hf] at hfew
    have HF := Lib.hid hfew
    clear hfew hf
    go_enter Try.func12, Try.ntmps12
    go_wp2_with fail
    refine HF.out.mono ?_
    rintro e w1 ⟨rfl, rfl⟩
    go_wp2_with (go_at_call 45; refine (works_any _).mono ?_; rintro e w' ⟨rfl, hg⟩)
    go_ret
    exact ⟨rfl, hg⟩
  · rw [hf] at hfew
    obtain ⟨f1, f2⟩ := few_get hf
    have F2 := Lib.hid f2
    have HF := Lib.hid hfew
    have hn40 : n ≤ 40 := by have := ha.1; omega
    obtain ⟨B, hB⟩ : ∃ B, B = w.heap.size := ⟨_, rfl⟩
    have HB := Lib.hid hB
    have HA := Lib.hid ha
    clear hfew hf f1 f2 hB ha
    go_enter Try.func12, Try.ntmps12
    go_wp2_with fail
    refine HF.out.mono ?_
    rintro e w1 ⟨rfl, rfl⟩
    go_wp2_with fail
    refine (new_any w B noK (by rw [HB.out]; exact Nat.le_refl _) noK_lt).mono ?_
    rintro e w1 ⟨g, rfl, hd, hg⟩
    obtain ⟨gx, hgx⟩ : ∃ gx, gx = w1.heap.size := ⟨_, rfl⟩
    have hd2 : Disk (w1.alloc (.cells #[.string ⟨#[]⟩, .int .i64 0] 64)) B (one1 gx) g [] 0 :=
      (hd.more (fun k hk hlt => by have hk : k = gx := hk; omega)).grow (Grow.alloc w1 _)
    have hb2 : Blk (w1.alloc (.cells #[.string ⟨#[]⟩, .int .i64 0] 64)) gx 64 [.string (str []), .int .i64 ((0 : Nat) : Int)] := Blk.new _ _ _ _ rfl hgx
    have D := Lib.hid hd2
    have X := Lib.hid hb2
    have G := Lib.hid (hg.trans (Grow.alloc w1 (.cells #[.string ⟨#[]⟩, .int .i64 0] 64)))
    have HGX := Lib.hid hgx
    have HG1 := Lib.hid hg
    clear hd hg hd2 hb2 hgx
    go_wp2_with fail
    rw [← HGX.out]
    go_loopw [5, 6] (fun i _ wr => ∃ (k : Nat) (L : List UInt8) (s : Nat), k ≤ n ∧ i = .int .i64 (k : Int) ∧ L.length ≤ 300 * k ∧ Disk wr B (one1 gx) g L s ∧ Blk wr gx 64 [.string (str L), .int .i64 (s : Int)] ∧ Grow w wr) (fun i _ _ => n - (intOf i).toNat)
    case atStart => exact ⟨0, [], 0, by omega, rfl, by simp, D.out, X.out, G.out⟩
    case round =>
      obtain ⟨k, L, s, hk, rfl, hLl, hd, hx, hgr⟩ := hrel
      by_cases hlt : k < n
      · obtain ⟨b, off, a, A', n', c', rfl, hxa, hw0, hw1, hw2, ha1, ha2, hwb, ha4, ha5, ha6⟩ := HA.out.at_ (Grow.refl w) hlt
        have ha300 : a.l.length ≤ 300 := F2.out a (List.mem_of_getElem? hxa)
        have hal := hwb.len
        have hn' : n' ≤ 300 := by omega
        have hL3 : L.length ≤ 12000 := by omega
        have hsl : s ≤ L.length := by obtain ⟨_, _, _, _, _, _, h⟩ := hd; exact h
        have hgxw : w.heap.size ≤ gx := by have := HGX.out; have := HG1.out.size; omega
        have hc0 := hgr.cell hw0
        have hc1 := hgr.cell hw1
        have hc2 := hgr.cell hw2
        have D1 := Lib.hid hd
        have X1 := Lib.hid hx
        have G1 := Lib.hid hgr
        have HWB := Lib.hid hwb
        have cx0 := hx.cell (i := 0) rfl
        have cx1 := hx.cell (i := 1) rfl
        have HXA := Lib.hid hxa
        clear hd hx hgr hwb hxa
        go_upto_block 2 with (fail)
        go_cut [6] (fun e wz => ∃ (L' : List UInt8) (s' e' : Nat), e = .int .i64 (e' : Int) ∧ Hid (step L s a = (L', s', e')) ∧ L'.length ≤ 140737488355328 ∧ L'.length ≤ L.length + a.l.length ∧ Disk wz B (one1 gx) g L s ∧ Blk wz gx 64 [.string (str L'), .int .i64 (s' : Int)] ∧ Grow w wz)
        case first =>
          by_cases h0 : a.k = 0
          · have hst : step L s a = (L ++ a.l, s, 0) := by unfold step; rw [if_pos h0]
            have t0 : ((a.k : Int) == 0) = true := beq_iff_eq.2 (by omega)
            have hra := fun w (hb : Bytes w A' n' a.l) => ref_append L s A' n' c' a.l w hb (by omega)
            obtain ⟨L', hL'⟩ : ∃ L', L' = L ++ a.l := ⟨_, rfl⟩
            have hL'2 : L'.length ≤ L.length + a.l.length := by rw [hL']; simp
            have hL3' : L'.length ≤ 140737488355328 := by omega
            rw [← hL'] at hst hra
            have HST := Lib.hid hst
            have HRA := Lib.hid hra
            clear h0 hst hra hL'
            go_wp2_with fail
            apply (fun (v0 v1 v2 v3 v4 v5 v6 : Value) mono obl tail => wp_region_par (R := Grow) (Φ := phi [veq v0, veq v1, veq v2, veq v3, veq v4, veq v5, veq v6]) (m := 7) (dls := [[], [], [], [(27, 1), (28, 2)], [(29, 3)], [(30, 4)], [(26, 0), (31, 5)]]) (ds := [26, 27, 28, 29, 30, 31, 32]) (by kernel_rfl) (by kernel_rfl) (by decide) rfl (Grow.drew _) (fun _ _ _ => Grow.trans) (mono_phi mono) obl tail)
            case obl =>
              refine obls_cons (fun f w' hR hH Q hQ => ?_) ?_
              · skip
                simp only [view, List.foldl]
                have c0' := hR.cell cx0
                have c1' := hR.cell cx1
                repeat (first | go_guarded | go_step)
                exact hQ _ _ (Grow.refl _) rfl rfl
              refine obls_cons (fun f w' hR hH Q hQ => ?_) ?_
              · skip
                simp only [view, List.foldl]
                repeat (first | go_guarded | go_step)
                exact hQ _ _ (Grow.refl _) rfl rfl
              refine obls_cons (fun f w' hR hH Q hQ => ?_) ?_
              · skip
                simp only [view, List.foldl]
                repeat (first | go_guarded | go_step)
                exact hQ _ _ (Grow.refl _) rfl rfl
              refine obls_cons (fun f w' hR hH Q hQ => ?_) ?_
              · skip
                obtain ⟨h1, h2, -⟩ := hH
                simp only [view, List.foldl, Act.put, List.setIfInBounds_toArray, List.set_cons_zero, List.set_cons_succ]
                rw [show f 1 = _ from h1]
                rw [show f 2 = _ from h2]
                clear h1 h2
                repeat (first | go_guarded | go_step)
                exact hQ _ _ (Grow.refl _) rfl rfl
              refine obls_cons (fun f w' hR hH Q hQ => ?_) ?_
              · skip
                obtain ⟨h3, -⟩ := hH
                simp only [view, List.foldl, Act.put, List.setIfInBounds_toArray, List.set_cons_zero, List.set_cons_succ]
                rw [show f 3 = _ from h3]
                clear h3
                repeat (first | go_guarded | go_step)
                exact hQ _ _ (Grow.refl _) rfl rfl
              refine obls_cons (fun f w' hR hH Q hQ => ?_) ?_
              · skip
                obtain ⟨h4, -⟩ := hH
                simp only [view, List.foldl, Act.put, List.setIfInBounds_toArray, List.set_cons_zero, List.set_cons_succ]
                rw [show f 4 = _ from h4]
                clear h4
                have c2' := hR.cell hc2
                repeat (first | go_guarded | go_step)
                exact hQ _ _ (Grow.refl _) rfl rfl
              refine obls_cons (fun f w' hR hH Q hQ => ?_) ?_
              · skip
                obtain ⟨h0, h5, -⟩ := hH
                simp only [view, List.foldl, Act.put, List.setIfInBounds_toArray, List.set_cons_zero, List.set_cons_succ]
                rw [show f 0 = _ from h0]
                rw [show f 5 = _ from h5]
                clear h0 h5
                go_wp2_with (go_at_call 47; refine (HRA.out _ (HWB.out.grow (G1.out.trans hR))).mono ?_; rintro e w1 ⟨rfl, hg1⟩)
                exact hQ _ _ hg1 rfl rfl
              exact obls_nil
            case mono => exact ⟨Mono.veq _, Mono.veq _, Mono.veq _, Mono.veq _, Mono.veq _, Mono.veq _, Mono.veq _, trivial⟩
            case tail =>
              intro f w' hR hH
              simp only [view, List.zipIdx, List.foldl, Act.put, List.setIfInBounds_toArray, List.set_cons_zero, List.set_cons_succ, List.drop_succ_cons, List.drop_zero]
              obtain ⟨-, -, -, -, -, -, q6, -⟩ := hH
              rw [show f 6 = _ from q6]
              clear q6
              generalize f 0 = x0
              generalize f 1 = x1
              generalize f 2 = x2
              generalize f 3 = x3
              generalize f 4 = x4
              generalize f 5 = x5
              have R1 := Lib.hid hR
              have X2 := Lib.hid (X1.out.grow hR)
              clear hR
              go_wp2_with (refine store_blk rfl _ _ _ rfl gx [.string (str L'), .int .i64 (s : Int)] rfl rfl _ _ X2.out (by rw [sizeR]; rfl) rfl rfl ?_)
              obtain ⟨wz, hwz⟩ : ∃ wz : World, wz = (w').setRow gx ([.string (str L'), .int .i64 (s : Int)] : List Value).toArray := ⟨_, rfl⟩
              rw [← hwz]
              have DZ : Hid (Disk wz B (one1 gx) g L s) := Lib.hid (by rw [hwz]; exact (D1.out.grow R1.out).farRow _)
              have XZ : Hid (Blk wz gx 64 [.string (str L'), .int .i64 (s : Int)]) := Lib.hid (by rw [hwz]; exact (X1.out.grow R1.out).setRow _)
              have GZ : Hid (Grow w wz) := Lib.hid (by rw [hwz]; exact Grow.setRow (G1.out.trans R1.out) hgxw _)
              clear hwz
              go_wp2_with fail
              go_meet
              exact ⟨L', s, _, rfl, HST, hL3', by omega, DZ.out, XZ.out, GZ.out⟩
          · have t0 : ((a.k : Int) == 0) = false := beq_false_of_ne (by omega)
            by_cases h1 : a.k = 1
            · have hst : step L s a = (L, L.length, 0) := by unfold step; rw [if_neg h0, if_pos h1]
              have t1 : ((a.k : Int) == 1) = true := beq_iff_eq.2 (by omega)
              have hra := ref_sync L s
              obtain ⟨s', hs'⟩ : ∃ s', s' = L.length := ⟨_, rfl⟩
              have hL3' : L.length ≤ 140737488355328 := by omega
              rw [← hs'] at hst hra
              have HST := Lib.hid hst
              have HRA := Lib.hid hra
              clear h0 h1 hst hra hs'
              go_wp2_with fail
              refine (HRA.out _).mono ?_
              rintro e w1 ⟨rfl, hg1⟩
              have R1 := Lib.hid hg1
              have X2 := Lib.hid (X1.out.grow hg1)
              clear hg1
              go_wp2_with (refine store_blk rfl _ _ _ rfl gx [.string (str L), .int .i64 (s' : Int)] rfl rfl _ _ X2.out (by rw [sizeR]; rfl) rfl rfl ?_)
              obtain ⟨wz, hwz⟩ : ∃ wz : World, wz = (w1).setRow gx ([.string (str L), .int .i64 (s' : Int)] : List Value).toArray := ⟨_, rfl⟩
              rw [← hwz]
              have DZ : Hid (Disk wz B (one1 gx) g L s) := Lib.hid (by rw [hwz]; exact (D1.out.grow R1.out).farRow _)
              have XZ : Hid (Blk wz gx 64 [.string (str L), .int .i64 (s' : Int)]) := Lib.hid (by rw [hwz]; exact (X1.out.grow R1.out).setRow _)
              have GZ : Hid (Grow w wz) := Lib.hid (by rw [hwz]; exact Grow.setRow (G1.out.trans R1.out) hgxw _)
              clear hwz
              go_wp2_with fail
              go_meet
              exact ⟨L, s', _, rfl, HST, hL3', by omega, DZ.out, XZ.out, GZ.out⟩
            · have t1 : ((a.k : Int) == 1) = false := beq_false_of_ne (by omega)
              by_cases h2 : a.k = 2
              · have t2 : ((a.k : Int) == 2) = true := beq_iff_eq.2 (by omega)
                by_cases hbad : a.n < 0 ∨ (L.length : Int) < a.n
                · have hst : step L s a = (L, s, 1) := by unfold step; rw [if_neg h0, if_neg h1, if_pos h2, if_pos hbad]
                  have HRA := Lib.hid (ref_cut_bad L s a.n hbad)
                  have hL3' : L.length ≤ 140737488355328 := by omega
                  have HST := Lib.hid hst
                  clear h0 h1 h2 hst hbad
                  go_wp2_with fail
                  obtain ⟨wz0, hwz0⟩ : ∃ wz0, wz0 = wr := ⟨_, rfl⟩
                  rw [← hwz0]
                  have XR := Lib.hid (show Blk wz0 gx 64 [.string (str L), .int .i64 (s : Int)] by rw [hwz0]; exact X1.out)
                  have DR := Lib.hid (show Disk wz0 B (one1 gx) g L s by rw [hwz0]; exact D1.out)
                  have GR := Lib.hid (show Grow w wz0 by rw [hwz0]; exact G1.out)
                  rw [← hwz0] at cx0 cx1 hc1
                  clear hwz0
                  apply (fun (v0 v1 v2 v3 v4 v5 v6 v7 v8 v9 v11 : Value) mono draw obl tail => wp_region_piv (I := two (Grow wz0) (Mid w B g gx L s L s)) (G := Grow) (Rp := (fun _ _ => True)) (Φ := phi2 [veq2 v0, veq2 v1, veq2 v2, veq2 v3, veq2 v4, veq2 v5, veq2 v6, veq2 v7, veq2 v8, veq2 v9, (veq2 undef), veq2 v11]) (m := 12) (ps := [10]) (qs := [(0, 0, false), (0, 0, false), (0, 0, false), (0, 0, false), (0, 0, false), (0, 0, false), (0, 0, false), (0, 0, false), (0, 0, false), (0, 1, false), (0, 0, true), (1, 1, false)]) (dls := [[], [], [], [(41, 1), (42, 2)], [(43, 3)], [(44, 4)], [(40, 0), (45, 5)], [(46, 6)], [(39, 7)], [(39, 7)], [(47, 8)], [(48, 9)]]) (ds := [40, 41, 42, 43, 44, 45, 46, 39, 47, 48, 101, 6]) (by kernel_rfl) (by kernel_rfl) (by kernel_rfl) (by decide) rfl rfl draw (mono2_phi mono) (piv2_phi mono) obl tail)
                  case obl =>
                    refine obls2_cons (fun b hb1 hb2 f w' hI hH Q hQ => ?_) ?_
                    · skip
                      obtain rfl : b = 0 := by omega
                      clear hb1 hb2
                      simp only [view, List.foldl]
                      have c0' := hI.get0.cell cx0
                      have c1' := hI.get0.cell cx1
                      repeat (first | go_guarded | go_step)
                      exact hQ _ _ hI (Grow.refl _) rfl rfl
                    refine obls2_cons (fun b hb1 hb2 f w' hI hH Q hQ => ?_) ?_
                    · skip
                      obtain rfl : b = 0 := by omega
                      clear hb1 hb2
                      simp only [view, List.foldl]
                      repeat (first | go_guarded | go_step)
                      exact hQ _ _ hI (Grow.refl _) rfl rfl
                    refine obls2_cons (fun b hb1 hb2 f w' hI hH Q hQ => ?_) ?_
                    · skip
                      obtain rfl : b = 0 := by omega
                      clear hb1 hb2
                      simp only [view, List.foldl]
                      repeat (first | go_guarded | go_step)
                      exact hQ _ _ hI (Grow.refl _) rfl rfl
                    refine obls2_cons (fun b hb1 hb2 f w' hI hH Q hQ => ?_) ?_
                    · skip
                      obtain rfl : b = 0 := by omega
                      clear hb1 hb2
                      obtain ⟨h1, h2, -⟩ := hH
                      simp only [view, List.foldl, Act.put, List.setIfInBounds_toArray, List.set_cons_zero, List.set_cons_succ]
                      rw [show f 1 = _ from h1]
                      rw [show f 2 = _ from h2]
                      clear h1 h2
                      repeat (first | go_guarded | go_step)
                      exact hQ _ _ hI (Grow.refl _) rfl rfl
                    refine obls2_cons (fun b hb1 hb2 f w' hI hH Q hQ => ?_) ?_
                    · skip
                      obtain rfl : b = 0 := by omega
                      clear hb1 hb2
                      obtain ⟨h3, -⟩ := hH
                      simp only [view, List.foldl, Act.put, List.setIfInBounds_toArray, List.set_cons_zero, List.set_cons_succ]
                      rw [show f 3 = _ from h3]
                      clear h3
                      repeat (first | go_guarded | go_step)
                      exact hQ _ _ hI (Grow.refl _) rfl rfl
                    refine obls2_cons (fun b hb1 hb2 f w' hI hH Q hQ => ?_) ?_
                    · skip
                      obtain rfl : b = 0 := by omega
                      clear hb1 hb2
                      obtain ⟨h4, -⟩ := hH
                      simp only [view, List.foldl, Act.put, List.setIfInBounds_toArray, List.set_cons_zero, List.set_cons_succ]
                      rw [show f 4 = _ from h4]
                      clear h4
                      have c2' := hI.get0.cell hc1
                      repeat (first | go_guarded | go_step)
                      exact hQ _ _ hI (Grow.refl _) rfl rfl
                    refine obls2_cons (fun b hb1 hb2 f w' hI hH Q hQ => ?_) ?_
                    · skip
                      obtain rfl : b = 0 := by omega
                      clear hb1 hb2
                      obtain ⟨h0, h5, -⟩ := hH
                      simp only [view, List.foldl, Act.put, List.setIfInBounds_toArray, List.set_cons_zero, List.set_cons_succ]
                      rw [show f 0 = _ from h0]
                      rw [show f 5 = _ from h5]
                      clear h0 h5
                      have hG := Lib.hid hI.get0
                      clear hI
                      go_wp2_with (go_at_call 49; refine (HRA.out _).mono ?_; rintro e w1 ⟨rfl, hg1⟩)
                      exact hQ _ _ (two.zero (hG.out.trans hg1)) hg1 rfl rfl
                    refine obls2_cons (fun b hb1 hb2 f w' hI hH Q hQ => ?_) ?_
                    · skip
                      obtain rfl : b = 0 := by omega
                      clear hb1 hb2
                      obtain ⟨h6, -⟩ := hH
                      simp only [view, List.foldl, Act.put, List.setIfInBounds_toArray, List.set_cons_zero, List.set_cons_succ]
                      rw [show f 6 = _ from h6]
                      clear h6
                      repeat (first | go_guarded | go_step)
                      exact hQ _ _ hI (Grow.refl _) rfl rfl
                    refine obls2_cons (fun b hb1 hb2 f w' hI hH Q hQ => ?_) ?_
                    · skip
                      obtain rfl : b = 0 := by omega
                      clear hb1 hb2
                      obtain ⟨h7, -⟩ := hH
                      simp only [view, List.foldl, Act.put, List.setIfInBounds_toArray, List.set_cons_zero, List.set_cons_succ]
                      rw [show f 7 = _ from h7]
                      clear h7
                      repeat (first | go_guarded | go_step)
                      exact hQ _ _ hI (Grow.refl _) rfl rfl
                    refine obls2_cons (fun b hb1 hb2 f w' hI hH Q hQ => ?_) ?_
                    · skip
                      obtain ⟨h7, -⟩ := hH
                      simp only [view, List.foldl, Act.put, List.setIfInBounds_toArray, List.set_cons_zero, List.set_cons_succ]
                      rw [show f 7 = _ from h7]
                      clear h7
                      repeat (first | go_guarded | go_step)
                      exact hQ _ _ hI (Grow.refl _) rfl rfl
                    refine oblsP_cons (fun f w' hI hH Q hQ => ?_) ?_
                    · skip
                      obtain ⟨h8, -⟩ := hH
                      simp only [view, List.foldl, Act.put, List.setIfInBounds_toArray, List.set_cons_zero, List.set_cons_succ]
                      rw [show f 8 = _ from h8]
                      clear h8
                      have hG := Lib.hid hI.get0
                      clear hI
                      refine store_blk rfl _ _ _ rfl gx [.string (str L), .int .i64 (s : Int)] rfl rfl _ _ (XR.out.grow hG.out) (by rw [sizeR]; rfl) rfl rfl ?_
                      exact hQ _ _ (two.one ⟨(DR.out.grow hG.out).farRow _, (XR.out.grow hG.out).setRow _, Grow.setRow (GR.out.trans hG.out) hgxw _⟩) trivial rfl rfl
                    refine obls2_cons (fun b hb1 hb2 f w' hI hH Q hQ => ?_) ?_
                    · skip
                      obtain rfl : b = 1 := by omega
                      clear hb1 hb2
                      obtain ⟨h9, -⟩ := hH
                      simp only [view, List.foldl, Act.put, List.setIfInBounds_toArray, List.set_cons_zero, List.set_cons_succ]
                      rw [show f 9 = _ from h9]
                      clear h9
                      repeat (first | go_guarded | go_step)
                      exact hQ _ _ hI (Grow.refl _) rfl rfl
                    exact obls2_nil
                  case draw =>
                    exact two.zero (Grow.drew _)
                  case mono => exact ⟨Mono2.veq _, Mono2.veq _, Mono2.veq _, Mono2.veq _, Mono2.veq _, Mono2.veq _, Mono2.veq _, Mono2.veq _, Mono2.veq _, Mono2.veq _, Mono2.veq _, Mono2.veq _, trivial⟩
                  case tail =>
                    intro f w' hI hH
                    simp only [view, List.zipIdx, List.foldl, Act.put, List.setIfInBounds_toArray, List.set_cons_zero, List.set_cons_succ, List.set_nil, List.drop_succ_cons, List.drop_nil]
                    obtain ⟨-, -, -, -, -, -, -, -, -, -, -, q11, -⟩ := hH
                    rw [show f 11 = _ from q11]
                    clear q11
                    generalize f 0 = x0
                    generalize f 1 = x1
                    generalize f 2 = x2
                    generalize f 3 = x3
                    generalize f 4 = x4
                    generalize f 5 = x5
                    generalize f 6 = x6
                    generalize f 7 = x7
                    generalize f 8 = x8
                    generalize f 9 = x9
                    generalize f 10 = x10
                    have HM := Lib.hid hI.get1
                    clear hI
                    go_wp2_with fail
                    go_meet
                    exact ⟨L, s, _, rfl, HST, hL3', by omega, HM.out.d, HM.out.x, HM.out.g⟩
                · have hst : step L s a = (L.take a.n.toNat, a.n.toNat, 0) := by unfold step; rw [if_neg h0, if_neg h1, if_pos h2, if_neg hbad]
                  obtain ⟨s', hs'⟩ : ∃ s', s' = a.n.toNat := ⟨_, rfl⟩
                  have hsn : a.n = (s' : Int) := by omega
                  have hra := ref_cut L s s' (by omega)
                  rw [← hs'] at hst
                  obtain ⟨L', hL'⟩ : ∃ L', L' = L.take s' := ⟨_, rfl⟩
                  have hL'2 : L'.length ≤ L.length := by rw [hL']; simp; omega
                  have hL3' : L'.length ≤ 140737488355328 := by omega
                  rw [← hL'] at hst hra
                  have HST := Lib.hid hst
                  have HRA := Lib.hid hra
                  have hc1x := hc1
                  rw [hsn] at hc1x
                  clear h0 h1 h2 hst hbad hra hs' hL' hsn
                  go_wp2_with fail
                  obtain ⟨wz0, hwz0⟩ : ∃ wz0, wz0 = wr := ⟨_, rfl⟩
                  rw [← hwz0]
                  have XR := Lib.hid (show Blk wz0 gx 64 [.string (str L), .int .i64 (s : Int)] by rw [hwz0]; exact X1.out)
                  have DR := Lib.hid (show Disk wz0 B (one1 gx) g L s by rw [hwz0]; exact D1.out)
                  have GR := Lib.hid (show Grow w wz0 by rw [hwz0]; exact G1.out)
                  rw [← hwz0] at cx0 cx1 hc1x
                  clear hwz0
                  apply (fun (v0 v1 v2 v3 v4 v5 v6 v7 v8 v9 v11 : Value) mono draw obl tail => wp_region_piv (I := two (Grow wz0) (Mid w B g gx L s L' s')) (G := Grow) (Rp := (fun _ _ => True)) (Φ := phi2 [veq2 v0, veq2 v1, veq2 v2, veq2 v3, veq2 v4, veq2 v5, veq2 v6, veq2 v7, veq2 v8, veq2 v9, (veq2 undef), veq2 v11]) (m := 12) (ps := [10]) (qs := [(0, 0, false), (0, 0, false), (0, 0, false), (0, 0, false), (0, 0, false), (0, 0, false), (0, 0, false), (0, 0, false), (0, 0, false), (0, 1, false), (0, 0, true), (1, 1, false)]) (dls := [[], [], [], [(41, 1), (42, 2)], [(43, 3)], [(44, 4)], [(40, 0), (45, 5)], [(46, 6)], [(39, 7)], [(39, 7)], [(47, 8)], [(48, 9)]]) (ds := [40, 41, 42, 43, 44, 45, 46, 39, 47, 48, 101, 6]) (by kernel_rfl) (by kernel_rfl) (by kernel_rfl) (by decide) rfl rfl draw (mono2_phi mono) (piv2_phi mono) obl tail)
                  case obl =>
                    refine obls2_cons (fun b hb1 hb2 f w' hI hH Q hQ => ?_) ?_
                    · skip
                      obtain rfl : b = 0 := by omega
                      clear hb1 hb2
                      simp only [view, List.foldl]
                      have c0' := hI.get0.cell cx0
                      have c1' := hI.get0.cell cx1
                      repeat (first | go_guarded | go_step)
                      exact hQ _ _ hI (Grow.refl _) rfl rfl
                    refine obls2_cons (fun b hb1 hb2 f w' hI hH Q hQ => ?_) ?_
                    · skip
                      obtain rfl : b = 0 := by omega
                      clear hb1 hb2
                      simp only [view, List.foldl]
                      repeat (first | go_guarded | go_step)
                      exact hQ _ _ hI (Grow.refl _) rfl rfl
                    refine obls2_cons (fun b hb1 hb2 f w' hI hH Q hQ => ?_) ?_
                    · skip
                      obtain rfl : b = 0 := by omega
                      clear hb1 hb2
                      simp only [view, List.foldl]
                      repeat (first | go_guarded | go_step)
                      exact hQ _ _ hI (Grow.refl _) rfl rfl
                    refine obls2_cons (fun b hb1 hb2 f w' hI hH Q hQ => ?_) ?_
                    · skip
                      obtain rfl : b = 0 := by omega
                      clear hb1 hb2
                      obtain ⟨h1, h2, -⟩ := hH
                      simp only [view, List.foldl, Act.put, List.setIfInBounds_toArray, List.set_cons_zero, List.set_cons_succ]
                      rw [show f 1 = _ from h1]
                      rw [show f 2 = _ from h2]
                      clear h1 h2
                      repeat (first | go_guarded | go_step)
                      exact hQ _ _ hI (Grow.refl _) rfl rfl
                    refine obls2_cons (fun b hb1 hb2 f w' hI hH Q hQ => ?_) ?_
                    · skip
                      obtain rfl : b = 0 := by omega
                      clear hb1 hb2
                      obtain ⟨h3, -⟩ := hH
                      simp only [view, List.foldl, Act.put, List.setIfInBounds_toArray, List.set_cons_zero, List.set_cons_succ]
                      rw [show f 3 = _ from h3]
                      clear h3
                      repeat (first | go_guarded | go_step)
                      exact hQ _ _ hI (Grow.refl _) rfl rfl
                    refine obls2_cons (fun b hb1 hb2 f w' hI hH Q hQ => ?_) ?_
                    · skip
                      obtain rfl : b = 0 := by omega
                      clear hb1 hb2
                      obtain ⟨h4, -⟩ := hH
                      simp only [view, List.foldl, Act.put, List.setIfInBounds_toArray, List.set_cons_zero, List.set_cons_succ]
                      rw [show f 4 = _ from h4]
                      clear h4
                      have c2' := hI.get0.cell hc1x
                      repeat (first | go_guarded | go_step)
                      exact hQ _ _ hI (Grow.refl _) rfl rfl
                    refine obls2_cons (fun b hb1 hb2 f w' hI hH Q hQ => ?_) ?_
                    · skip
                      obtain rfl : b = 0 := by omega
                      clear hb1 hb2
                      obtain ⟨h0, h5, -⟩ := hH
                      simp only [view, List.foldl, Act.put, List.setIfInBounds_toArray, List.set_cons_zero, List.set_cons_succ]
                      rw [show f 0 = _ from h0]
                      rw [show f 5 = _ from h5]
                      clear h0 h5
                      have hG := Lib.hid hI.get0
                      clear hI
                      go_wp2_with (go_at_call 49; refine (HRA.out _).mono ?_; rintro e w1 ⟨rfl, hg1⟩)
                      exact hQ _ _ (two.zero (hG.out.trans hg1)) hg1 rfl rfl
                    refine obls2_cons (fun b hb1 hb2 f w' hI hH Q hQ => ?_) ?_
                    · skip
                      obtain rfl : b = 0 := by omega
                      clear hb1 hb2
                      obtain ⟨h6, -⟩ := hH
                      simp only [view, List.foldl, Act.put, List.setIfInBounds_toArray, List.set_cons_zero, List.set_cons_succ]
                      rw [show f 6 = _ from h6]
                      clear h6
                      repeat (first | go_guarded | go_step)
                      exact hQ _ _ hI (Grow.refl _) rfl rfl
                    refine obls2_cons (fun b hb1 hb2 f w' hI hH Q hQ => ?_) ?_
                    · skip
                      obtain rfl : b = 0 := by omega
                      clear hb1 hb2
                      obtain ⟨h7, -⟩ := hH
                      simp only [view, List.foldl, Act.put, List.setIfInBounds_toArray, List.set_cons_zero, List.set_cons_succ]
                      rw [show f 7 = _ from h7]
                      clear h7
                      repeat (first | go_guarded | go_step)
                      exact hQ _ _ hI (Grow.refl _) rfl rfl
                    refine obls2_cons (fun b hb1 hb2 f w' hI hH Q hQ => ?_) ?_
                    · skip
                      obtain ⟨h7, -⟩ := hH
                      simp only [view, List.foldl, Act.put, List.setIfInBounds_toArray, List.set_cons_zero, List.set_cons_succ]
                      rw [show f 7 = _ from h7]
                      clear h7
                      repeat (first | go_guarded | go_step)
                      exact hQ _ _ hI (Grow.refl _) rfl rfl
                    refine oblsP_cons (fun f w' hI hH Q hQ => ?_) ?_
                    · skip
                      obtain ⟨h8, -⟩ := hH
                      simp only [view, List.foldl, Act.put, List.setIfInBounds_toArray, List.set_cons_zero, List.set_cons_succ]
                      rw [show f 8 = _ from h8]
                      clear h8
                      have hG := Lib.hid hI.get0
                      clear hI
                      refine store_blk rfl _ _ _ rfl gx [.string (str L'), .int .i64 (s' : Int)] rfl rfl _ _ (XR.out.grow hG.out) (by rw [sizeR]; rfl) rfl rfl ?_
                      exact hQ _ _ (two.one ⟨(DR.out.grow hG.out).farRow _, (XR.out.grow hG.out).setRow _, Grow.setRow (GR.out.trans hG.out) hgxw _⟩) trivial rfl rfl
                    refine obls2_cons (fun b hb1 hb2 f w' hI hH Q hQ => ?_) ?_
                    · skip
                      obtain rfl : b = 1 := by omega
                      clear hb1 hb2
                      obtain ⟨h9, -⟩ := hH
                      simp only [view, List.foldl, Act.put, List.setIfInBounds_toArray, List.set_cons_zero, List.set_cons_succ]
                      rw [show f 9 = _ from h9]
                      clear h9
                      repeat (first | go_guarded | go_step)
                      exact hQ _ _ hI (Grow.refl _) rfl rfl
                    exact obls2_nil
                  case draw =>
                    exact two.zero (Grow.drew _)
                  case mono => exact ⟨Mono2.veq _, Mono2.veq _, Mono2.veq _, Mono2.veq _, Mono2.veq _, Mono2.veq _, Mono2.veq _, Mono2.veq _, Mono2.veq _, Mono2.veq _, Mono2.veq _, Mono2.veq _, trivial⟩
                  case tail =>
                    intro f w' hI hH
                    simp only [view, List.zipIdx, List.foldl, Act.put, List.setIfInBounds_toArray, List.set_cons_zero, List.set_cons_succ, List.set_nil, List.drop_succ_cons, List.drop_nil]
                    obtain ⟨-, -, -, -, -, -, -, -, -, -, -, q11, -⟩ := hH
                    rw [show f 11 = _ from q11]
                    clear q11
                    generalize f 0 = x0
                    generalize f 1 = x1
                    generalize f 2 = x2
                    generalize f 3 = x3
                    generalize f 4 = x4
                    generalize f 5 = x5
                    generalize f 6 = x6
                    generalize f 7 = x7
                    generalize f 8 = x8
                    generalize f 9 = x9
                    generalize f 10 = x10
                    have HM := Lib.hid hI.get1
                    clear hI
                    go_wp2_with fail
                    go_meet
                    exact ⟨L', s', _, rfl, HST, hL3', by omega, HM.out.d, HM.out.x, HM.out.g⟩
              · have t2 : ((a.k : Int) == 2) = false := beq_false_of_ne (by omega)
                by_cases h3 : a.k = 3
                · have t3 : ((a.k : Int) == 3) = true := beq_iff_eq.2 (by omega)
                  have hst : step L s a = (L.take (left L s a.n), left L s a.n, 0) := by unfold step; rw [if_neg h0, if_neg h1, if_neg h2, if_pos h3]
                  have hra := ref_crash L s hsl (by omega) a.n
                  obtain ⟨s', hs'⟩ : ∃ s', s' = left L s a.n := ⟨_, rfl⟩
                  rw [← hs'] at hst hra
                  obtain ⟨L', hL'⟩ : ∃ L', L' = L.take s' := ⟨_, rfl⟩
                  have hL'2 : L'.length ≤ L.length := by rw [hL']; simp; omega
                  have hL3' : L'.length ≤ 140737488355328 := by omega
                  rw [← hL'] at hst hra
                  have HST := Lib.hid hst
                  have HRA := Lib.hid hra
                  clear h0 h1 h2 h3 hst hra hs' hL'
                  go_wp2_with fail
                  apply (fun (v0 v1 v2 v3 v4 v5 v6 : Value) mono obl tail => wp_region_par (R := Grow) (Φ := phi [veq v0, veq v1, veq v2, veq v3, veq v4, veq v5, veq v6]) (m := 7) (dls := [[], [], [], [(52, 1), (53, 2)], [(54, 3)], [(55, 4)], [(51, 0), (56, 5)]]) (ds := [51, 52, 53, 54, 55, 56, 57]) (by kernel_rfl) (by kernel_rfl) (by decide) rfl (Grow.drew _) (fun _ _ _ => Grow.trans) (mono_phi mono) obl tail)
                  case obl =>
                    refine obls_cons (fun f w' hR hH Q hQ => ?_) ?_
                    · skip
                      simp only [view, List.foldl]
                      have c0' := hR.cell cx0
                      have c1' := hR.cell cx1
                      repeat (first | go_guarded | go_step)
                      exact hQ _ _ (Grow.refl _) rfl rfl
                    refine obls_cons (fun f w' hR hH Q hQ => ?_) ?_
                    · skip
                      simp only [view, List.foldl]
                      repeat (first | go_guarded | go_step)
                      exact hQ _ _ (Grow.refl _) rfl rfl
                    refine obls_cons (fun f w' hR hH Q hQ => ?_) ?_
                    · skip
                      simp only [view, List.foldl]
                      repeat (first | go_guarded | go_step)
                      exact hQ _ _ (Grow.refl _) rfl rfl
                    refine obls_cons (fun f w' hR hH Q hQ => ?_) ?_
                    · skip
                      obtain ⟨h1, h2, -⟩ := hH
                      simp only [view, List.foldl, Act.put, List.setIfInBounds_toArray, List.set_cons_zero, List.set_cons_succ]
                      rw [show f 1 = _ from h1]
                      rw [show f 2 = _ from h2]
                      clear h1 h2
                      repeat (first | go_guarded | go_step)
                      exact hQ _ _ (Grow.refl _) rfl rfl
                    refine obls_cons (fun f w' hR hH Q hQ => ?_) ?_
                    · skip
                      obtain ⟨h3, -⟩ := hH
                      simp only [view, List.foldl, Act.put, List.setIfInBounds_toArray, List.set_cons_zero, List.set_cons_succ]
                      rw [show f 3 = _ from h3]
                      clear h3
                      repeat (first | go_guarded | go_step)
                      exact hQ _ _ (Grow.refl _) rfl rfl
                    refine obls_cons (fun f w' hR hH Q hQ => ?_) ?_
                    · skip
                      obtain ⟨h4, -⟩ := hH
                      simp only [view, List.foldl, Act.put, List.setIfInBounds_toArray, List.set_cons_zero, List.set_cons_succ]
                      rw [show f 4 = _ from h4]
                      clear h4
                      have c2' := hR.cell hc1
                      repeat (first | go_guarded | go_step)
                      exact hQ _ _ (Grow.refl _) rfl rfl
                    refine obls_cons (fun f w' hR hH Q hQ => ?_) ?_
                    · skip
                      obtain ⟨h0, h5, -⟩ := hH
                      simp only [view, List.foldl, Act.put, List.setIfInBounds_toArray, List.set_cons_zero, List.set_cons_succ]
                      rw [show f 0 = _ from h0]
                      rw [show f 5 = _ from h5]
                      clear h0 h5
                      go_wp2_with (go_at_call 50; refine (HRA.out _).mono ?_; rintro e w1 ⟨rfl, hg1⟩)
                      exact hQ _ _ hg1 rfl rfl
                    exact obls_nil
                  case mono => exact ⟨Mono.veq _, Mono.veq _, Mono.veq _, Mono.veq _, Mono.veq _, Mono.veq _, Mono.veq _, trivial⟩
                  case tail =>
                    intro f w' hR hH
                    simp only [view, List.zipIdx, List.foldl, Act.put, List.setIfInBounds_toArray, List.set_cons_zero, List.set_cons_succ, List.drop_succ_cons, List.drop_zero]
                    obtain ⟨-, -, -, -, -, -, q6, -⟩ := hH
                    rw [show f 6 = _ from q6]
                    clear q6
                    generalize f 0 = x0
                    generalize f 1 = x1
                    generalize f 2 = x2
                    generalize f 3 = x3
                    generalize f 4 = x4
                    generalize f 5 = x5
                    have R1 := Lib.hid hR
                    have X2 := Lib.hid (X1.out.grow hR)
                    clear hR
                    go_wp2_with (refine store_blk rfl _ _ _ rfl gx [.string (str L'), .int .i64 (s' : Int)] rfl rfl _ _ X2.out (by rw [sizeR]; rfl) rfl rfl ?_)
                    obtain ⟨wz, hwz⟩ : ∃ wz : World, wz = (w').setRow gx ([.string (str L'), .int .i64 (s' : Int)] : List Value).toArray := ⟨_, rfl⟩
                    rw [← hwz]
                    have DZ : Hid (Disk wz B (one1 gx) g L s) := Lib.hid (by rw [hwz]; exact (D1.out.grow R1.out).farRow _)
                    have XZ : Hid (Blk wz gx 64 [.string (str L'), .int .i64 (s' : Int)]) := Lib.hid (by rw [hwz]; exact (X1.out.grow R1.out).setRow _)
                    have GZ : Hid (Grow w wz) := Lib.hid (by rw [hwz]; exact Grow.setRow (G1.out.trans R1.out) hgxw _)
                    clear hwz
                    go_wp2_with fail
                    go_meet
                    exact ⟨L', s', _, rfl, HST, hL3', by omega, DZ.out, XZ.out, GZ.out⟩
                · have t3 : ((a.k : Int) == 3) = false := beq_false_of_ne (by omega)
                  have hst : step L s a = (L, s, 0) := by unfold step; rw [if_neg h0, if_neg h1, if_neg h2, if_neg h3]
                  have hL3' : L.length ≤ 140737488355328 := by omega
                  have HST := Lib.hid hst
                  clear h0 h1 h2 h3 hst
                  go_wp2_with fail
                  obtain ⟨wz, hwz⟩ : ∃ wz : World, wz = wr := ⟨_, rfl⟩
                  rw [← hwz]
                  have DZ : Hid (Disk wz B (one1 gx) g L s) := Lib.hid (by rw [hwz]; exact D1.out)
                  have XZ : Hid (Blk wz gx 64 [.string (str L), .int .i64 (s : Int)]) := Lib.hid (by rw [hwz]; exact X1.out)
                  have GZ : Hid (Grow w wz) := Lib.hid (by rw [hwz]; exact G1.out)
                  clear hwz
                  go_wp2_with fail
                  go_meet
                  exact ⟨L, s, _, rfl, HST, hL3', by omega, DZ.out, XZ.out, GZ.out⟩
        case rest =>
          obtain ⟨L', s', e', rfl, HST, hL3', hL'2, dz, xz, gz⟩ := hcut
          obtain ⟨wz, rfl⟩ : ∃ wz, wz = wc := ⟨_, rfl⟩
          have DZ := Lib.hid dz
          have XZ := Lib.hid xz
          have GZ := Lib.hid gz
          have hBz : B ≤ wz.heap.size := by rw [HB.out]; exact gz.size
          clear cx0 cx1 hc0 hc1 hc2 dz xz gz
          go_wp2_with fail
          apply (fun (v0 v1 v2 v3 v4 v5 v6 v7 v8 v9 v11 v12 v13 v14 v15 v16 v17 v18 v19 v20 v21 v22 v23 v24 v25 v26 v27 v28 v29 v30 : Value) mono draw obl tail => wp_region_piv (I := two (Grow wz) (Aft w B g gx L' s')) (G := Grow) (Rp := (fun _ _ => True)) (Φ := phi2 [veq2 v0, veq2 v1, veq2 v2, veq2 v3, veq2 v4, veq2 v5, veq2 v6, veq2 v7, veq2 v8, veq2 v9, (from2 1 (OwnSl B L')), veq2 v11, veq2 v12, veq2 v13, veq2 v14, veq2 v15, veq2 v16, veq2 v17, veq2 v18, veq2 v19, veq2 v20, veq2 v21, veq2 v22, veq2 v23, veq2 v24, veq2 v25, veq2 v26, veq2 v27, veq2 v28, veq2 v29, veq2 v30]) (m := 31) (ps := [5]) (qs := [(0, 0, false), (0, 0, false), (0, 0, false), (0, 0, false), (0, 0, false), (0, 0, true), (0, 1, false), (1, 1, false), (1, 1, false), (1, 1, false), (1, 1, false), (1, 1, false), (1, 1, false), (1, 1, false), (1, 1, false), (1, 1, false), (1, 1, false), (1, 1, false), (1, 1, false), (1, 1, false), (1, 1, false), (1, 1, false), (1, 1, false), (1, 1, false), (1, 1, false), (1, 1, false), (1, 1, false), (1, 1, false), (1, 1, false), (1, 1, false), (1, 1, false)]) (dls := [[], [], [], [(59, 1), (60, 2)], [(61, 3)], [(58, 0), (62, 4)], [], [(63, 5), (64, 6)], [(65, 7)], [(66, 8)], [(67, 9), (66, 8)], [(68, 10), (66, 8)], [(66, 8)], [(70, 12), (66, 8)], [(69, 11), (71, 13), (66, 8)], [(66, 8), (72, 14)], [(73, 15)], [(74, 16)], [(75, 17), (74, 16)], [(74, 16)], [(77, 19), (74, 16)], [(76, 18), (78, 20), (74, 16)], [(74, 16), (79, 21)], [(80, 22)], [(81, 23)], [(82, 24), (81, 23)], [(81, 23)], [(84, 26), (81, 23)], [(85, 27), (81, 23)], [(83, 25), (86, 28), (81, 23)], [(81, 23), (87, 29)]]) (ds := [58, 59, 60, 61, 62, 63, 64, 65, 66, 67, 68, 69, 70, 71, 72, 73, 74, 75, 76, 77, 78, 79, 80, 81, 82, 83, 84, 85, 86, 87, 88]) (by kernel_rfl) (by kernel_rfl) (by kernel_rfl) (by decide) rfl rfl draw (mono2_phi mono) (piv2_phi mono) obl tail)
          case obl =>
            refine obls2_cons (fun b hb1 hb2 f w' hI hH Q hQ => ?_) ?_
            · skip
              obtain rfl : b = 0 := by omega
              clear hb1 hb2
              simp only [view, List.foldl]
              repeat (first | go_guarded | go_step)
              exact hQ _ _ hI (Grow.refl _) rfl rfl
            refine obls2_cons (fun b hb1 hb2 f w' hI hH Q hQ => ?_) ?_
            · skip
              obtain rfl : b = 0 := by omega
              clear hb1 hb2
              simp only [view, List.foldl]
              repeat (first | go_guarded | go_step)
              exact hQ _ _ hI (Grow.refl _) rfl rfl
            refine obls2_cons (fun b hb1 hb2 f w' hI hH Q hQ => ?_) ?_
            · skip
              obtain rfl : b = 0 := by omega
              clear hb1 hb2
              simp only [view, List.foldl]
              repeat (first | go_guarded | go_step)
              exact hQ _ _ hI (Grow.refl _) rfl rfl
            refine obls2_cons (fun b hb1 hb2 f w' hI hH Q hQ => ?_) ?_
            · skip
              obtain rfl : b = 0 := by omega
              clear hb1 hb2
              obtain ⟨h1, h2, -⟩ := hH
              simp only [view, List.foldl, Act.put, List.setIfInBounds_toArray, List.set_cons_zero, List.set_cons_succ]
              rw [show f 1 = _ from h1]
              rw [show f 2 = _ from h2]
              clear h1 h2
              repeat (first | go_guarded | go_step)
              exact hQ _ _ hI (Grow.refl _) rfl rfl
            refine obls2_cons (fun b hb1 hb2 f w' hI hH Q hQ => ?_) ?_
            · skip
              obtain rfl : b = 0 := by omega
              clear hb1 hb2
              obtain ⟨h3, -⟩ := hH
              simp only [view, List.foldl, Act.put, List.setIfInBounds_toArray, List.set_cons_zero, List.set_cons_succ]
              rw [show f 3 = _ from h3]
              clear h3
              have hG : Grow wz w' := hI.get0
              have c0' := hG.cell (GZ.out.cell hw0)
              have c1' := hG.cell (GZ.out.cell hw1)
              have c2' := hG.cell (GZ.out.cell hw2)
              repeat (first | go_guarded | go_step)
              exact hQ _ _ hI (Grow.refl _) rfl rfl
            refine oblsP_cons (fun f w' hI hH Q hQ => ?_) ?_
            · skip
              obtain ⟨h0, h4, -⟩ := hH
              simp only [view, List.foldl, Act.put, List.setIfInBounds_toArray, List.set_cons_zero, List.set_cons_succ]
              rw [show f 0 = _ from h0]
              rw [show f 4 = _ from h4]
              clear h0 h4
              have hG : Grow wz w' := hI.get0
              have k1 : B ≤ w'.heap.size := Nat.le_trans hBz (Grow.size hG)
              have k0 := (XZ.out.grow hG).lt
              have k2 : ∀ k, one1 gx k → k < w'.heap.size := fun k hk => Nat.lt_of_le_of_lt (Nat.le_of_eq hk) k0
              have k5 : L.length + n' ≤ 140737488355328 := by omega
              have hdo := do_any w' B (one1 gx) k1 k2 g L s (DZ.out.grow hG) a ha4 A' n' c' (HWB.out.grow (GZ.out.trans hG)) k5
              rw [HST.out] at hdo
              have HDO := Lib.hid hdo
              clear hdo
              go_wp2_with (go_at_call 51; refine HDO.out.mono ?_; rintro e w4 ⟨rfl, hd4, hk4⟩)
              exact hQ _ _ (two.one ⟨hd4, hk4.blk (XZ.out.grow hG) rfl, ((Keep.of hG hBz).trans hk4).grow GZ.out HB.out⟩) trivial rfl rfl
            refine obls2_cons (fun b hb1 hb2 f w' hI hH Q hQ => ?_) ?_
            · skip
              simp only [view, List.foldl]
              repeat (first | go_guarded | go_step)
              exact hQ _ _ hI (Grow.refl _) rfl rfl
            refine obls2_cons (fun b hb1 hb2 f w' hI hH Q hQ => ?_) ?_
            · skip
              obtain rfl : b = 1 := by omega
              clear hb1 hb2
              obtain ⟨h5, h6, -⟩ := hH
              simp only [view, List.foldl, Act.put, List.setIfInBounds_toArray, List.set_cons_zero, List.set_cons_succ]
              rw [show f 5 = _ from h5]
              rw [show f 6 = _ from h6]
              clear h5 h6
              repeat (first | go_guarded | go_step)
              exact hQ _ _ hI (Grow.refl _) rfl rfl
            refine obls2_cons (fun b hb1 hb2 f w' hI hH Q hQ => ?_) ?_
            · skip
              obtain rfl : b = 1 := by omega
              clear hb1 hb2
              obtain ⟨h7, -⟩ := hH
              simp only [view, List.foldl, Act.put, List.setIfInBounds_toArray, List.set_cons_zero, List.set_cons_succ]
              rw [show f 7 = _ from h7]
              clear h7
              repeat (first | go_guarded | go_step)
              exact hQ _ _ hI (Grow.refl _) rfl rfl
            refine obls2_cons (fun b hb1 hb2 f w' hI hH Q hQ => ?_) ?_
            · skip
              obtain rfl : b = 1 := by omega
              clear hb1 hb2
              obtain ⟨h8, -⟩ := hH
              simp only [view, List.foldl, Act.put, List.setIfInBounds_toArray, List.set_cons_zero, List.set_cons_succ]
              rw [show f 8 = _ from h8]
              clear h8
              repeat (first | go_guarded | go_step)
              exact hQ _ _ hI (Grow.refl _) rfl rfl
            refine obls2_cons (fun b hb1 hb2 f w' hI hH Q hQ => ?_) ?_
            · skip
              obtain rfl : b = 1 := by omega
              clear hb1 hb2
              obtain ⟨h9, h8, -⟩ := hH
              simp only [view, List.foldl, Act.put, List.setIfInBounds_toArray, List.set_cons_zero, List.set_cons_succ]
              rw [show f 9 = _ from h9]
              rw [show f 8 = _ from h8]
              clear h9 h8
              have hA := hI.get1
              have HBY := Lib.hid (bytes_any w' B (one1 gx) g _ _ hA.d hL3')
              have HAF := Lib.hid hA
              clear hA hI
              go_wp2_with (go_at_call 52; refine HBY.out.mono ?_; rintro e w4 ⟨v, rfl, ho, hg4⟩)
              exact hQ _ _ (two.one (HAF.out.grow hg4)) hg4 (from2.mk (own_lower ho (by rw [HB.out]; exact HAF.out.g.size))) rfl
            refine obls2_cons (fun b hb1 hb2 f w' hI hH Q hQ => ?_) ?_
            · skip
              obtain rfl : b = 1 := by omega
              clear hb1 hb2
              obtain ⟨h10, h8, -⟩ := hH
              simp only [view, List.foldl, Act.put, List.setIfInBounds_toArray, List.set_cons_zero, List.set_cons_succ]
              obtain ⟨u10, hu10⟩ : ∃ u, u = f 10 := ⟨_, rfl⟩
              rw [← hu10]
              replace h10 : (from2 1 (OwnSl B L')) u10 1 w' := by rw [hu10]; exact h10
              clear hu10
              rw [show f 8 = _ from h8]
              clear h8
              obtain ⟨A2, c2, rfl, -, -, a3⟩ := own_form h10.get
              rw [Nat.mul_one] at a3
              have hcs := conv_str (P := Try.prog) Try.underlying65 Try.underlying5 Try.underlying9 (show Bytes w' A2 L'.length L' from a3) c2
              go_wp2_with fail
              exact hQ _ _ hI (Grow.refl _) rfl rfl
            refine obls2_cons (fun b hb1 hb2 f w' hI hH Q hQ => ?_) ?_
            · skip
              obtain rfl : b = 1 := by omega
              clear hb1 hb2
              obtain ⟨h8, -⟩ := hH
              simp only [view, List.foldl, Act.put, List.setIfInBounds_toArray, List.set_cons_zero, List.set_cons_succ]
              rw [show f 8 = _ from h8]
              clear h8
              repeat (first | go_guarded | go_step)
              exact hQ _ _ hI (Grow.refl _) rfl rfl
            refine obls2_cons (fun b hb1 hb2 f w' hI hH Q hQ => ?_) ?_
            · skip
              obtain rfl : b = 1 := by omega
              clear hb1 hb2
              obtain ⟨h12, h8, -⟩ := hH
              simp only [view, List.foldl, Act.put, List.setIfInBounds_toArray, List.set_cons_zero, List.set_cons_succ]
              rw [show f 12 = _ from h12]
              rw [show f 8 = _ from h8]
              clear h12 h8
              have c0' := hI.get1.x.cell (i := 0) rfl
              repeat (first | go_guarded | go_step)
              exact hQ _ _ hI (Grow.refl _) rfl rfl
            refine obls2_cons (fun b hb1 hb2 f w' hI hH Q hQ => ?_) ?_
            · skip
              obtain rfl : b = 1 := by omega
              clear hb1 hb2
              obtain ⟨h11, h13, h8, -⟩ := hH
              simp only [view, List.foldl, Act.put, List.setIfInBounds_toArray, List.set_cons_zero, List.set_cons_succ]
              rw [show f 11 = _ from h11]
              rw [show f 13 = _ from h13]
              rw [show f 8 = _ from h8]
              clear h11 h13 h8
              repeat (first | go_guarded | go_step)
              exact hQ _ _ hI (Grow.refl _) rfl rfl
            refine obls2_cons (fun b hb1 hb2 f w' hI hH Q hQ => ?_) ?_
            · skip
              obtain rfl : b = 1 := by omega
              clear hb1 hb2
              obtain ⟨h8, h14, -⟩ := hH
              simp only [view, List.foldl, Act.put, List.setIfInBounds_toArray, List.set_cons_zero, List.set_cons_succ]
              rw [show f 8 = _ from h8]
              rw [show f 14 = _ from h14]
              clear h8 h14
              repeat (first | go_guarded | go_step)
              exact hQ _ _ hI (Grow.refl _) rfl rfl
            refine obls2_cons (fun b hb1 hb2 f w' hI hH Q hQ => ?_) ?_
            · skip
              obtain rfl : b = 1 := by omega
              clear hb1 hb2
              obtain ⟨h15, -⟩ := hH
              simp only [view, List.foldl, Act.put, List.setIfInBounds_toArray, List.set_cons_zero, List.set_cons_succ]
              rw [show f 15 = _ from h15]
              clear h15
              repeat (first | go_guarded | go_step)
              exact hQ _ _ hI (Grow.refl _) rfl rfl
            refine obls2_cons (fun b hb1 hb2 f w' hI hH Q hQ => ?_) ?_
            · skip
              obtain rfl : b = 1 := by omega
              clear hb1 hb2
              obtain ⟨h16, -⟩ := hH
              simp only [view, List.foldl, Act.put, List.setIfInBounds_toArray, List.set_cons_zero, List.set_cons_succ]
              rw [show f 16 = _ from h16]
              clear h16
              repeat (first | go_guarded | go_step)
              exact hQ _ _ hI (Grow.refl _) rfl rfl
            refine obls2_cons (fun b hb1 hb2 f w' hI hH Q hQ => ?_) ?_
            · skip
              obtain rfl : b = 1 := by omega
              clear hb1 hb2
              obtain ⟨h17, h16, -⟩ := hH
              simp only [view, List.foldl, Act.put, List.setIfInBounds_toArray, List.set_cons_zero, List.set_cons_succ]
              rw [show f 17 = _ from h17]
              rw [show f 16 = _ from h16]
              clear h17 h16
              have HSU := Lib.hid (sure_any w' B (one1 gx) g _ _ hI.get1.d)
              go_wp2_with (go_at_call 53; refine HSU.out.mono ?_; rintro e w4 ⟨rfl, rfl⟩)
              exact hQ _ _ hI (Grow.refl _) rfl rfl
            refine obls2_cons (fun b hb1 hb2 f w' hI hH Q hQ => ?_) ?_
            · skip
              obtain rfl : b = 1 := by omega
              clear hb1 hb2
              obtain ⟨h16, -⟩ := hH
              simp only [view, List.foldl, Act.put, List.setIfInBounds_toArray, List.set_cons_zero, List.set_cons_succ]
              rw [show f 16 = _ from h16]
              clear h16
              repeat (first | go_guarded | go_step)
              exact hQ _ _ hI (Grow.refl _) rfl rfl
            refine obls2_cons (fun b hb1 hb2 f w' hI hH Q hQ => ?_) ?_
            · skip
              obtain rfl : b = 1 := by omega
              clear hb1 hb2
              obtain ⟨h19, h16, -⟩ := hH
              simp only [view, List.foldl, Act.put, List.setIfInBounds_toArray, List.set_cons_zero, List.set_cons_succ]
              rw [show f 19 = _ from h19]
              rw [show f 16 = _ from h16]
              clear h19 h16
              have c1' := hI.get1.x.cell (i := 1) rfl
              repeat (first | go_guarded | go_step)
              exact hQ _ _ hI (Grow.refl _) rfl rfl
            refine obls2_cons (fun b hb1 hb2 f w' hI hH Q hQ => ?_) ?_
            · skip
              obtain rfl : b = 1 := by omega
              clear hb1 hb2
              obtain ⟨h18, h20, h16, -⟩ := hH
              simp only [view, List.foldl, Act.put, List.setIfInBounds_toArray, List.set_cons_zero, List.set_cons_succ]
              rw [show f 18 = _ from h18]
              rw [show f 20 = _ from h20]
              rw [show f 16 = _ from h16]
              clear h18 h20 h16
              repeat (first | go_guarded | go_step)
              exact hQ _ _ hI (Grow.refl _) rfl rfl
            refine obls2_cons (fun b hb1 hb2 f w' hI hH Q hQ => ?_) ?_
            · skip
              obtain rfl : b = 1 := by omega
              clear hb1 hb2
              obtain ⟨h16, h21, -⟩ := hH
              simp only [view, List.foldl, Act.put, List.setIfInBounds_toArray, List.set_cons_zero, List.set_cons_succ]
              rw [show f 16 = _ from h16]
              rw [show f 21 = _ from h21]
              clear h16 h21
              repeat (first | go_guarded | go_step)
              exact hQ _ _ hI (Grow.refl _) rfl rfl
            refine obls2_cons (fun b hb1 hb2 f w' hI hH Q hQ => ?_) ?_
            · skip
              obtain rfl : b = 1 := by omega
              clear hb1 hb2
              obtain ⟨h22, -⟩ := hH
              simp only [view, List.foldl, Act.put, List.setIfInBounds_toArray, List.set_cons_zero, List.set_cons_succ]
              rw [show f 22 = _ from h22]
              clear h22
              repeat (first | go_guarded | go_step)
              exact hQ _ _ hI (Grow.refl _) rfl rfl
            refine obls2_cons (fun b hb1 hb2 f w' hI hH Q hQ => ?_) ?_
            · skip
              obtain rfl : b = 1 := by omega
              clear hb1 hb2
              obtain ⟨h23, -⟩ := hH
              simp only [view, List.foldl, Act.put, List.setIfInBounds_toArray, List.set_cons_zero, List.set_cons_succ]
              rw [show f 23 = _ from h23]
              clear h23
              repeat (first | go_guarded | go_step)
              exact hQ _ _ hI (Grow.refl _) rfl rfl
            refine obls2_cons (fun b hb1 hb2 f w' hI hH Q hQ => ?_) ?_
            · skip
              obtain rfl : b = 1 := by omega
              clear hb1 hb2
              obtain ⟨h24, h23, -⟩ := hH
              simp only [view, List.foldl, Act.put, List.setIfInBounds_toArray, List.set_cons_zero, List.set_cons_succ]
              rw [show f 24 = _ from h24]
              rw [show f 23 = _ from h23]
              clear h24 h23
              have HLE := Lib.hid (len_any w' B (one1 gx) g _ _ hI.get1.d)
              go_wp2_with (go_at_call 54; refine HLE.out.mono ?_; rintro e w4 ⟨rfl, rfl⟩)
              exact hQ _ _ hI (Grow.refl _) rfl rfl
            refine obls2_cons (fun b hb1 hb2 f w' hI hH Q hQ => ?_) ?_
            · skip
              obtain rfl : b = 1 := by omega
              clear hb1 hb2
              obtain ⟨h23, -⟩ := hH
              simp only [view, List.foldl, Act.put, List.setIfInBounds_toArray, List.set_cons_zero, List.set_cons_succ]
              rw [show f 23 = _ from h23]
              clear h23
              repeat (first | go_guarded | go_step)
              exact hQ _ _ hI (Grow.refl _) rfl rfl
            refine obls2_cons (fun b hb1 hb2 f w' hI hH Q hQ => ?_) ?_
            · skip
              obtain rfl : b = 1 := by omega
              clear hb1 hb2
              obtain ⟨h26, h23, -⟩ := hH
              simp only [view, List.foldl, Act.put, List.setIfInBounds_toArray, List.set_cons_zero, List.set_cons_succ]
              rw [show f 26 = _ from h26]
              rw [show f 23 = _ from h23]
              clear h26 h23
              have c0' := hI.get1.x.cell (i := 0) rfl
              repeat (first | go_guarded | go_step)
              exact hQ _ _ hI (Grow.refl _) rfl rfl
            refine obls2_cons (fun b hb1 hb2 f w' hI hH Q hQ => ?_) ?_
            · skip
              obtain rfl : b = 1 := by omega
              clear hb1 hb2
              obtain ⟨h27, h23, -⟩ := hH
              simp only [view, List.foldl, Act.put, List.setIfInBounds_toArray, List.set_cons_zero, List.set_cons_succ]
              rw [show f 27 = _ from h27]
              rw [show f 23 = _ from h23]
              clear h27 h23
              have hsl := str_size L'
              repeat (first | go_guarded | go_step)
              exact hQ _ _ hI (Grow.refl _) rfl rfl
            refine obls2_cons (fun b hb1 hb2 f w' hI hH Q hQ => ?_) ?_
            · skip
              obtain rfl : b = 1 := by omega
              clear hb1 hb2
              obtain ⟨h25, h28, h23, -⟩ := hH
              simp only [view, List.foldl, Act.put, List.setIfInBounds_toArray, List.set_cons_zero, List.set_cons_succ]
              rw [show f 25 = _ from h25]
              rw [show f 28 = _ from h28]
              rw [show f 23 = _ from h23]
              clear h25 h28 h23
              repeat (first | go_guarded | go_step)
              exact hQ _ _ hI (Grow.refl _) rfl rfl
            refine obls2_cons (fun b hb1 hb2 f w' hI hH Q hQ => ?_) ?_
            · skip
              obtain rfl : b = 1 := by omega
              clear hb1 hb2
              obtain ⟨h23, h29, -⟩ := hH
              simp only [view, List.foldl, Act.put, List.setIfInBounds_toArray, List.set_cons_zero, List.set_cons_succ]
              rw [show f 23 = _ from h23]
              rw [show f 29 = _ from h29]
              clear h23 h29
              repeat (first | go_guarded | go_step)
              exact hQ _ _ hI (Grow.refl _) rfl rfl
            exact obls2_nil
          case draw =>
            exact two.zero (Grow.drew _)
          case mono => exact ⟨Mono2.veq _, Mono2.veq _, Mono2.veq _, Mono2.veq _, Mono2.veq _, Mono2.veq _, Mono2.veq _, Mono2.veq _, Mono2.veq _, Mono2.veq _, Mono2.from OwnSl.mono, Mono2.veq _, Mono2.veq _, Mono2.veq _, Mono2.veq _, Mono2.veq _, Mono2.veq _, Mono2.veq _, Mono2.veq _, Mono2.veq _, Mono2.veq _, Mono2.veq _, Mono2.veq _, Mono2.veq _, Mono2.veq _, Mono2.veq _, Mono2.veq _, Mono2.veq _, Mono2.veq _, Mono2.veq _, Mono2.veq _, trivial⟩
          case tail =>
            intro f w' hI hH
            simp only [view, List.zipIdx, List.foldl, Act.put, List.setIfInBounds_toArray, List.set_cons_zero, List.set_cons_succ, List.drop_succ_cons, List.drop_nil]
            obtain ⟨-, -, -, -, -, -, -, -, -, -, -, -, -, -, -, -, -, -, -, -, -, -, -, -, -, -, -, -, -, -, q30, -⟩ := hH
            rw [show f 30 = _ from q30]
            clear q30
            generalize f 0 = x0
            generalize f 1 = x1
            generalize f 2 = x2
            generalize f 3 = x3
            generalize f 4 = x4
            generalize f 5 = x5
            generalize f 6 = x6
            generalize f 7 = x7
            generalize f 8 = x8
            generalize f 9 = x9
            generalize f 10 = x10
            generalize f 11 = x11
            generalize f 12 = x12
            generalize f 13 = x13
            generalize f 14 = x14
            generalize f 15 = x15
            generalize f 16 = x16
            generalize f 17 = x17
            generalize f 18 = x18
            generalize f 19 = x19
            generalize f 20 = x20
            generalize f 21 = x21
            generalize f 22 = x22
            generalize f 23 = x23
            generalize f 24 = x24
            generalize f 25 = x25
            generalize f 26 = x26
            generalize f 27 = x27
            generalize f 28 = x28
            generalize f 29 = x29
            have HI := Lib.hid hI.get1
            clear hI
            go_wp2_with fail
            go_roundw
            case rel => exact ⟨k + 1, L', s', by omega, by go_num, by omega, HI.out.d, HI.out.x, HI.out.g⟩
            case measure => simp [intOf] <;> omega
      · obtain rfl : k = n := by omega
        have HGR := Lib.hid hgr
        clear hd hx hgr
        go_wp2_with (go_at_call 45; refine (works_any _).mono ?_; rintro e w' ⟨rfl, hg⟩)
        go_ret
        exact ⟨rfl, HGR.out.trans hg⟩
end Go.Proofs.Ytgpcijpadelcfaa.dkL
