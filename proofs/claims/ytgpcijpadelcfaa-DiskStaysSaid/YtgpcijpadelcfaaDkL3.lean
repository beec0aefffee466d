/- The statement DiskNil: the walk. -/
import Derived.Test.YtgpcijpadelcfaaDkL2
namespace Go.Proofs.Ytgpcijpadelcfaa.dkL
open Go Go.RowKit Go.Par Go.Kit Go.Proofs.Ytgpcijpadelcfaa.cl Go.Proofs.Ytgpcijpadelcfaa.dkW

theorem Disk_set {w : World} {B : Nat} {K : Nat → Prop} {g : Nat} {L : List UInt8} {s : Nat} (h : Disk w B K g L s) {p : Addr} (hp : K p.block) (u : Value) : Disk (w.setCell p u) B K g L s := by
  obtain ⟨v, h1, h2, h3, h4, h5, h6⟩ := h
  exact ⟨v, h1.far (fun e => h4 (e ▸ hp)) u, own_far h2 p u (fun k hk e => (h5 k hk).2 (e ▸ hp)), h3, h4, h5, h6⟩
def isB (v : Value) : Nat → Prop := fun k => v.ownBlock = some k
theorem own_some {w : World} {base e n c : Nat} {A : Option Addr} {xs : List Value} (h : w.ownsRow base e 1 (.slice A n c) n xs) (hn : 0 < n) : ∃ g, A = some ⟨g, 0, none⟩ ∧ base ≤ g := by
  obtain ⟨g, cap, hv, h1, _⟩ := h.form hn
  injection hv with e1
  exact ⟨g, e1, h1⟩

set_option maxRecDepth 100000 in
set_option maxHeartbeats 4000000 in
theorem nil_walk (A : Option Addr) (n c : Nat) (l : List UInt8) (x z : Int) (w : World) (hb : Bytes w A n l) (hc : n ≤ c) :
    Calls Try.prog 14 #[.slice A n c, .int .i64 x, .int .u8 z] w fun e w' => e = .returned (.bool true) ∧ Grow w w' := by
  by_cases hn : 300 < n
  · go_enter Try.func14, Try.ntmps14
    go_wp2_with (go_at_call 45; refine (works_any _).mono ?_; rintro e w' ⟨rfl, hg⟩)
    go_ret
    exact ⟨rfl, hg⟩
  · obtain ⟨B, hB⟩ : ∃ B, B = w.heap.size := ⟨_, rfl⟩
    have HB := Lib.hid hB
    have HBY := Lib.hid hb
    have hlen := Lib.hid hb.len
    clear hB hb
    go_enter Try.func14, Try.ntmps14
    go_wp2_with (first | (go_at_call 57; refine (nil_sync _).mono ?_; rintro e w' ⟨rfl, rfl⟩) | (go_at_call 56; refine (nil_crash _ _).mono ?_; rintro e w' ⟨rfl, rfl⟩) | (go_at_call 58; refine (nil_append _ _ _ _).mono ?_; rintro e w' ⟨rfl, rfl⟩) | (go_at_call 59; refine (nil_cut _ _).mono ?_; rintro e w' ⟨rfl, rfl⟩) | (go_at_call 54; refine (nil_len _).mono ?_; rintro e w' ⟨rfl, rfl⟩) | (go_at_call 53; refine (nil_sure _).mono ?_; rintro e w' ⟨rfl, rfl⟩))
    refine (nil_bytes _).mono ?_
    rintro e w1 ⟨v0, rfl, hg1⟩
    have G1 := Lib.hid hg1
    clear hg1
    go_wp2_with (first | (go_at_call 55; refine (nil_copy _).mono ?_; rintro e w' ⟨rfl, rfl⟩))
    have hB1 : B ≤ w1.heap.size := by rw [HB.out]; exact G1.out.size
    refine (new_any w1 B noK hB1 noK_lt).mono ?_
    rintro e w2 ⟨g, rfl, hd, hg2⟩
    have G2 := Lib.hid (G1.out.trans hg2)
    have D2 := Lib.hid hd
    have hB2 : B ≤ w2.heap.size := by rw [HB.out]; exact G2.out.size
    have hg2l := hd.lt
    clear hd hg2
    go_wp2_with (at_builtin; refine append_bytes Try.underlying65 i8 i8z i8s i8b rfl _ _ rfl w2.heap.size _ 0 [] (own_zero w2 _ rfl (Nat.le_refl _)) rfl A n c l (HBY.out.grow (G2.out.trans (Grow.alloc w2 _))) rfl ?_ ?_ ?_; omega; (simp); intro v3 w3 hown3 hgb3 hh3; obtain ⟨A3, c3, rfl, o1, o2, o3⟩ := own_form hown3)
    rw [Nat.zero_add, List.nil_append] at hown3
    rw [Nat.zero_add, Nat.mul_one, List.nil_append] at o3
    have hG23 : Grow w2 w3 := grow_by (Grow.alloc w2 _) hgb3 (own_base (own_zero w2 5 rfl (Nat.le_refl _)))
    have hB3 : B ≤ w3.heap.size := Nat.le_trans hB2 hG23.size
    have hd3 : Disk w3 B (isB (.slice A3 n c3)) g [] 0 := (D2.out.more (fun k hk hlt => by have := (hown3.lt k hk).1; omega)).grow hG23
    have HAP := Lib.hid (append_any w3 B (isB (.slice A3 n c3)) hB3 (fun k hk => (hown3.lt k hk).2) g [] 0 hd3 A3 n c3 l o3 (by simp; omega))
    have HO3 := Lib.hid (own_lower hown3 hB2)
    have G3 := Lib.hid (G2.out.trans hG23)
    clear hown3 hgb3 hh3 o1 o2 o3 hG23 hd3 D2
    refine HAP.out.mono ?_
    rintro e w4 ⟨rfl, hd4, hk4⟩
    have D4 := Lib.hid (show Disk w4 B (isB (.slice A3 n c3)) g l 0 from hd4)
    have G4 := Lib.hid (hk4.grow G3.out HB.out)
    have O4 := Lib.hid (hk4.own HO3.out (fun k hk => hk))
    clear hd4 hk4 HO3 HAP
    go_wp2_with fail
    go_loopw [10, 58] (fun _ i wr => ∃ (k : Nat) (xs : List Value), k ≤ n ∧ i = .int .i64 (k : Int) ∧ wr.ownsRow B 5 1 (.slice A3 n c3) n xs ∧ Disk wr B (isB (.slice A3 n c3)) g l 0 ∧ Grow w wr) (fun _ i _ => n - (intOf i).toNat)
    case atStart => exact ⟨0, _, by omega, rfl, O4.out, D4.out, G4.out⟩
    case round =>
      obtain ⟨k, xs, hk, rfl, ho, hd, hgr⟩ := hrel
      by_cases hlt : k < n
      · obtain ⟨go, rfl, hgo⟩ := own_some ho (by omega)
        have hxl : k < xs.length := by have := ho.1; omega
        have hcell : wr.cell? ⟨go, k, none⟩ = some (xs[k]) := by rw [ho.cellAt _ (by omega)]; exact List.getElem?_eq_getElem hxl
        have hf := ho.frozenAt k
        obtain ⟨u0, hu0⟩ : ∃ u0, u0 = xs[k] := ⟨_, rfl⟩
        rw [← hu0] at hcell
        have HO := Lib.hid ho
        have HD := Lib.hid hd
        have HGR := Lib.hid hgr
        have hgb : w.heap.size ≤ go := by have := HB.out; omega
        clear ho hd hgr hu0
        go_wp2_with fail
        go_roundw
        case rel => exact ⟨k + 1, _, by omega, by go_num, (HO.out.stored k _).1, Disk_set (p := ⟨go, k, none⟩) HD.out (show isB _ go from rfl) _, Grow.set_ HGR.out hgb _⟩
        case measure => simp [intOf] <;> omega
      · obtain rfl : k = n := by omega
        obtain ⟨wo, rfl⟩ : ∃ wo : World, wo = wr := ⟨_, rfl⟩
        have hl300 : l.length ≤ 140737488355328 := by have := hlen.out; omega
        have HBT := Lib.hid (bytes_any wo B _ g l 0 hd hl300)
        have HD := Lib.hid hd
        have HGR := Lib.hid hgr
        have hBr : B ≤ wo.heap.size := by have := HB.out; have := hgr.size; omega
        clear ho hd hgr
        go_wp2_with fail
        refine HBT.out.mono ?_
        rintro e w5 ⟨v5, rfl, ho5, hg5⟩
        rw [hlen.out] at ho5
        obtain ⟨A5, c5, rfl, -, -, -⟩ := own_form ho5
        have D5 := Lib.hid (show Disk w5 B (isB (.slice A5 k c5)) g l 0 from (HD.out.more (fun j hj hlt => by have := (ho5.lt j hj).1; omega)).grow hg5)
        have O5 := Lib.hid (own_lower ho5 hBr)
        have G5 := Lib.hid (HGR.out.trans hg5)
        clear ho5 hg5 HD HBT D4 O4
        go_wp2_with fail
        go_loopw [12, 70] (fun _ i wr => ∃ (j : Nat) (xs : List Value), j ≤ k ∧ i = .int .i64 (j : Int) ∧ wr.ownsRow B 5 1 (.slice A5 k c5) k xs ∧ Disk wr B (isB (.slice A5 k c5)) g l 0 ∧ Grow w wr) (fun _ i _ => k - (intOf i).toNat)
        case atStart => exact ⟨0, _, by omega, rfl, O5.out, D5.out, G5.out⟩
        case round =>
          obtain ⟨j, xs, hj, rfl, ho, hd, hgr⟩ := hrel
          by_cases hlt2 : j < k
          · obtain ⟨go, rfl, hgo⟩ := own_some ho (by omega)
            have hxl : j < xs.length := by have := ho.1; omega
            have hcell : wr.cell? ⟨go, j, none⟩ = some (xs[j]) := by rw [ho.cellAt _ (by omega)]; exact List.getElem?_eq_getElem hxl
            have hf := ho.frozenAt j
            obtain ⟨u0, hu0⟩ : ∃ u0, u0 = xs[j] := ⟨_, rfl⟩
            rw [← hu0] at hcell
            have HO := Lib.hid ho
            have HD := Lib.hid hd
            have HGR := Lib.hid hgr
            have hgb : w.heap.size ≤ go := by have := HB.out; omega
            clear ho hd hgr hu0
            go_wp2_with fail
            go_roundw
            case rel => exact ⟨j + 1, _, by omega, by go_num, (HO.out.stored j _).1, Disk_set (p := ⟨go, j, none⟩) HD.out (show isB _ go from rfl) _, Grow.set_ HGR.out hgb _⟩
            case measure => simp [intOf] <;> omega
          · obtain rfl : j = k := by omega
            have HD := Lib.hid hd
            have HGR := Lib.hid hgr
            clear ho hd hgr D5 O5 G5
            go_wp2_with fail
            apply (fun (v0 v2 v3 v4 v5 v6 v7 v8 v9 : Value) mono obl tail => wp_region_par (R := Grow) (Φ := phi [veq v0, (OwnSl B l), veq v2, veq v3, veq v4, veq v5, veq v6, veq v7, veq v8, veq v9]) (m := 10) (dls := [[], [(78, 0)], [(79, 1)], [], [(81, 3)], [(80, 2), (82, 4)], [(83, 5)], [(84, 6)], [(84, 6), (85, 7)], [(86, 8)]]) (ds := [78, 79, 80, 81, 82, 83, 84, 85, 86, 6]) (by kernel_rfl) (by kernel_rfl) (by decide) rfl (Grow.drew _) (fun _ _ _ => Grow.trans) (mono_phi mono) obl tail)
            case obl =>
              refine obls_cons (fun f w' hR hH Q hQ => ?_) ?_
              · skip
                simp only [view, List.foldl]
                repeat (first | go_guarded | go_step)
                exact hQ _ _ (Grow.refl _) rfl rfl
              refine obls_cons (fun f w' hR hH Q hQ => ?_) ?_
              · skip
                obtain ⟨h0, -⟩ := hH
                simp only [view, List.foldl, Act.put, List.setIfInBounds_toArray, List.set_cons_zero, List.set_cons_succ]
                rw [show f 0 = _ from h0]
                clear h0
                have hbs : B ≤ w'.heap.size := by have := HB.out; have := (HGR.out.trans hR).size; omega
                have HBY2 := Lib.hid (bytes_any w' B _ g l 0 (HD.out.grow hR) hl300)
                go_wp2_with (go_at_call 52; refine HBY2.out.mono ?_; rintro e w4 ⟨v, rfl, ho, hg4⟩)
                exact hQ _ _ hg4 (own_lower ho hbs) rfl
              refine obls_cons (fun f w' hR hH Q hQ => ?_) ?_
              · skip
                obtain ⟨h1, -⟩ := hH
                simp only [view, List.foldl, Act.put, List.setIfInBounds_toArray, List.set_cons_zero, List.set_cons_succ]
                generalize f 1 = u1 at h1 ⊢
                replace h1 : (OwnSl B l) u1 w' := h1
                obtain ⟨A2, c2, rfl, -, -, a3⟩ := own_form h1
                rw [Nat.mul_one] at a3
                have hcs := conv_str (P := Try.prog) Try.underlying65 Try.underlying5 Try.underlying9 (show Bytes w' A2 l.length l from a3) c2
                go_wp2_with fail
                exact hQ _ _ (Grow.refl _) rfl rfl
              refine obls_cons (fun f w' hR hH Q hQ => ?_) ?_
              · skip
                simp only [view, List.foldl]
                repeat (first | go_guarded | go_step)
                exact hQ _ _ (Grow.refl _) rfl rfl
              refine obls_cons (fun f w' hR hH Q hQ => ?_) ?_
              · skip
                obtain ⟨h3, -⟩ := hH
                simp only [view, List.foldl, Act.put, List.setIfInBounds_toArray, List.set_cons_zero, List.set_cons_succ]
                rw [show f 3 = _ from h3]
                clear h3
                have hcs := conv_str (P := Try.prog) Try.underlying65 Try.underlying5 Try.underlying9 (HBY.out.grow (HGR.out.trans hR)) c
                go_wp2_with fail
                exact hQ _ _ (Grow.refl _) rfl rfl
              refine obls_cons (fun f w' hR hH Q hQ => ?_) ?_
              · skip
                obtain ⟨h2, h4, -⟩ := hH
                simp only [view, List.foldl, Act.put, List.setIfInBounds_toArray, List.set_cons_zero, List.set_cons_succ]
                rw [show f 2 = _ from h2]
                rw [show f 4 = _ from h4]
                clear h2 h4
                repeat (first | go_guarded | go_step)
                exact hQ _ _ (Grow.refl _) rfl rfl
              refine obls_cons (fun f w' hR hH Q hQ => ?_) ?_
              · skip
                obtain ⟨h5, -⟩ := hH
                simp only [view, List.foldl, Act.put, List.setIfInBounds_toArray, List.set_cons_zero, List.set_cons_succ]
                rw [show f 5 = _ from h5]
                clear h5
                repeat (first | go_guarded | go_step)
                exact hQ _ _ (Grow.refl _) rfl rfl
              refine obls_cons (fun f w' hR hH Q hQ => ?_) ?_
              · skip
                obtain ⟨h6, -⟩ := hH
                simp only [view, List.foldl, Act.put, List.setIfInBounds_toArray, List.set_cons_zero, List.set_cons_succ]
                rw [show f 6 = _ from h6]
                clear h6
                go_wp2_with (go_at_call 45; refine (works_any _).mono ?_; rintro e w4 ⟨rfl, hg4⟩)
                exact hQ _ _ hg4 rfl rfl
              refine obls_cons (fun f w' hR hH Q hQ => ?_) ?_
              · skip
                obtain ⟨h6, h7, -⟩ := hH
                simp only [view, List.foldl, Act.put, List.setIfInBounds_toArray, List.set_cons_zero, List.set_cons_succ]
                rw [show f 6 = _ from h6]
                rw [show f 7 = _ from h7]
                clear h6 h7
                repeat (first | go_guarded | go_step)
                exact hQ _ _ (Grow.refl _) rfl rfl
              refine obls_cons (fun f w' hR hH Q hQ => ?_) ?_
              · skip
                obtain ⟨h8, -⟩ := hH
                simp only [view, List.foldl, Act.put, List.setIfInBounds_toArray, List.set_cons_zero, List.set_cons_succ]
                rw [show f 8 = _ from h8]
                clear h8
                repeat (first | go_guarded | go_step)
                exact hQ _ _ (Grow.refl _) rfl rfl
              exact obls_nil
            case mono => exact ⟨Mono.veq _, OwnSl.mono, Mono.veq _, Mono.veq _, Mono.veq _, Mono.veq _, Mono.veq _, Mono.veq _, Mono.veq _, Mono.veq _, trivial⟩
            case tail =>
              intro f w' hR hH
              simp only [view, List.zipIdx, List.foldl, Act.put, List.setIfInBounds_toArray, List.set_cons_zero, List.set_cons_succ, List.drop_succ_cons, List.drop_zero]
              obtain ⟨-, -, -, -, -, -, -, -, -, q9, -⟩ := hH
              rw [show f 9 = _ from q9]
              clear q9
              generalize f 0 = x0
              generalize f 1 = x1
              generalize f 2 = x2
              generalize f 3 = x3
              generalize f 4 = x4
              generalize f 5 = x5
              generalize f 6 = x6
              generalize f 7 = x7
              generalize f 8 = x8
              have GE := Lib.hid (HGR.out.trans hR)
              clear hR
              go_wp2_with fail
              go_ret
              exact ⟨rfl, GE.out⟩
end Go.Proofs.Ytgpcijpadelcfaa.dkL
