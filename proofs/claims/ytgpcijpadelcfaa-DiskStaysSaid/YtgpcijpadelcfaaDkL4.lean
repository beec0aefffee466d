/- The statement DiskStays: the walk. -/
import Derived.Test.YtgpcijpadelcfaaDkL3
namespace Go.Proofs.Ytgpcijpadelcfaa.dkL
open Go Go.RowKit Go.Par Go.Kit Go.Proofs.Ytgpcijpadelcfaa.cl Go.Proofs.Ytgpcijpadelcfaa.dkW

theorem Disk_keep2 {w w' : World} {B B1 : Nat} {K K1 : Nat → Prop} {g : Nat} {L : List UInt8} {s : Nat} (h : Disk w B1 K1 g L s) (hk : Keep B K w w') (hh : ∀ k, B1 ≤ k → K k) : Disk w' B1 K1 g L s := by
  obtain ⟨v, h1, h2, h3, h4⟩ := h
  exact ⟨v, hk.blk h1 (hh _ h3), hk.own h2 (fun k hk => hh _ (h2.lt k hk).1), h3, h4⟩

set_option maxRecDepth 100000 in
set_option maxHeartbeats 4000000 in
theorem stays_walk (A : Option Addr) (n c : Nat) (ac : List Act) (keep : Int) (w : World) (ha : Acts w A n ac) (hc : n ≤ c) (hm : c ≤ maxLen) :
    Calls Try.prog 13 #[.slice A n c, .int .i64 keep] w fun e w' => e = .returned (.bool true) ∧ Grow w w' := by
  unfold maxLen at hm
  have hfew := few_any A n c ac w w ha (Grow.refl _) (by unfold maxLen; omega)
  cases hf : fewB ac
  · rw [hf] at hfew
    have HF := Lib.hid hfew
    clear hfew hf
    go_enter Try.func13, Try.ntmps13
    go_wp2_with fail
    refine HF.out.mono ?_
    rintro e w1 ⟨rfl, rfl⟩
    go_wp2_with (go_at_call 45; refine (works_any _).mono ?_; rintro e w' ⟨rfl, hg⟩)
    go_ret
    exact ⟨rfl, hg⟩
  · rw [hf] at hfew
    obtain ⟨f1, f2⟩ := few_get hf
    have F2 := Lib.hid f2
    have HF := Lib.hid hfew
    have hn40 : n ≤ 40 := by have := ha.1; omega
    obtain ⟨B, hB⟩ : ∃ B, B = w.heap.size := ⟨_, rfl⟩
    have HB := Lib.hid hB
    have HA := Lib.hid ha
    clear hfew hf f1 f2 hB ha
    go_enter Try.func13, Try.ntmps13
    go_wp2_with fail
    refine HF.out.mono ?_
    rintro e w1 ⟨rfl, rfl⟩
    go_wp2_with fail
    refine (new_any w B noK (by rw [HB.out]; exact Nat.le_refl _) noK_lt).mono ?_
    rintro e w1 ⟨g, rfl, hd, hg⟩
    have D := Lib.hid hd
    have G := Lib.hid hg
    clear hd hg
    go_wp2_with fail
    go_loopw [6] (fun i wr => ∃ (k : Nat) (L : List UInt8) (s : Nat), k ≤ n ∧ i = .int .i64 (k : Int) ∧ L.length ≤ 300 * k ∧ Disk wr B noK g L s ∧ Grow w wr) (fun i _ => n - (intOf i).toNat)
    case atStart => exact ⟨0, [], 0, by omega, rfl, by simp, D.out, G.out⟩
    case round =>
      obtain ⟨k, L, s, hk, rfl, hLl, hd, hgr⟩ := hrel
      by_cases hlt : k < n
      · obtain ⟨b, off, a, A', n', c', rfl, hxa, hw0, hw1, hw2, ha1, ha2, hwb, ha4, ha5, ha6⟩ := HA.out.at_ (Grow.refl w) hlt
        have ha300 : a.l.length ≤ 300 := F2.out a (List.mem_of_getElem? hxa)
        have hal := hwb.len
        have hc0 := hgr.cell hw0
        have hc1 := hgr.cell hw1
        have hc2 := hgr.cell hw2
        have hsl := step_len (L := L) (s := s) a
        have hBz : B ≤ wr.heap.size := by rw [HB.out]; exact hgr.size
        have HDO := Lib.hid (do_any wr B noK hBz (fun k hk => noK_lt k hk) g L s hd a ha4 A' n' c' (hwb.grow hgr) (by omega))
        have HGR := Lib.hid hgr
        have hL' : (step L s a).1.length ≤ 300 * (k + 1) := by omega
        clear hd hgr hwb hxa hal hsl hLl D
        go_wp2_with fail
        refine HDO.out.mono ?_
        rintro e w4 ⟨rfl, hd4, hk4⟩
        have D4 := Lib.hid hd4
        have G4 := Lib.hid (hk4.grow HGR.out HB.out)
        clear hd4 hk4 HDO
        go_wp2_with fail
        go_roundw
        case rel => exact ⟨k + 1, _, _, by omega, by go_num, hL', D4.out, G4.out⟩
        case measure => simp [intOf] <;> omega
      · obtain rfl : k = n := by omega
        obtain ⟨wo, rfl⟩ : ∃ wo : World, wo = wr := ⟨_, rfl⟩
        have hL3 : L.length ≤ 140737488355328 := by omega
        have hsl : s ≤ L.length := by obtain ⟨_, _, _, _, _, _, h⟩ := hd; exact h
        have HD := Lib.hid hd
        have HGR := Lib.hid hgr
        clear hd hgr D G HA F2 HF
        go_wp2_with fail
        apply (fun (v0 v2 v3 v4 v5 v6 : Value) mono obl tail => wp_region_par (R := Grow) (Φ := phi [veq v0, (OwnSl B L), veq v2, veq v3, veq v4, veq v5, veq v6]) (m := 7) (dls := [[], [(28, 0)], [(29, 1)], [], [(31, 3)], [(30, 2)], [(32, 4)]]) (ds := [28, 29, 30, 31, 32, 7, 8]) (by kernel_rfl) (by kernel_rfl) (by decide) rfl (Grow.drew _) (fun _ _ _ => Grow.trans) (mono_phi mono) obl tail)
        case obl =>
          refine obls_cons (fun f w' hR hH Q hQ => ?_) ?_
          · skip
            simp only [view, List.foldl]
            repeat (first | go_guarded | go_step)
            exact hQ _ _ (Grow.refl _) rfl rfl
          refine obls_cons (fun f w' hR hH Q hQ => ?_) ?_
          · skip
            obtain ⟨h0, -⟩ := hH
            simp only [view, List.foldl, Act.put, List.setIfInBounds_toArray, List.set_cons_zero, List.set_cons_succ]
            rw [show f 0 = _ from h0]
            clear h0
            have hbs : B ≤ w'.heap.size := by have := HB.out; have := (HGR.out.trans hR).size; omega
            have HBY := Lib.hid (bytes_any w' B noK g L s (HD.out.grow hR) hL3)
            go_wp2_with (go_at_call 52; refine HBY.out.mono ?_; rintro e w4 ⟨v, rfl, ho, hg4⟩)
            exact hQ _ _ hg4 (own_lower ho hbs) rfl
          refine obls_cons (fun f w' hR hH Q hQ => ?_) ?_
          · skip
            obtain ⟨h1, -⟩ := hH
            simp only [view, List.foldl, Act.put, List.setIfInBounds_toArray, List.set_cons_zero, List.set_cons_succ]
            generalize f 1 = u1 at h1 ⊢
            replace h1 : (OwnSl B L) u1 w' := h1
            obtain ⟨A2, c2, rfl, -, -, a3⟩ := own_form h1
            rw [Nat.mul_one] at a3
            have hcs := conv_str (P := Try.prog) Try.underlying65 Try.underlying5 Try.underlying9 (show Bytes w' A2 L.length L from a3) c2
            go_wp2_with fail
            exact hQ _ _ (Grow.refl _) rfl rfl
          refine obls_cons (fun f w' hR hH Q hQ => ?_) ?_
          · skip
            simp only [view, List.foldl]
            repeat (first | go_guarded | go_step)
            exact hQ _ _ (Grow.refl _) rfl rfl
          refine obls_cons (fun f w' hR hH Q hQ => ?_) ?_
          · skip
            obtain ⟨h3, -⟩ := hH
            simp only [view, List.foldl, Act.put, List.setIfInBounds_toArray, List.set_cons_zero, List.set_cons_succ]
            rw [show f 3 = _ from h3]
            clear h3
            have HSU := Lib.hid (sure_any w' B noK g L s (HD.out.grow hR))
            go_wp2_with (go_at_call 53; refine HSU.out.mono ?_; rintro e w4 ⟨rfl, rfl⟩)
            exact hQ _ _ (Grow.refl _) rfl rfl
          refine obls_cons (fun f w' hR hH Q hQ => ?_) ?_
          · skip
            obtain ⟨h2, -⟩ := hH
            simp only [view, List.foldl, Act.put, List.setIfInBounds_toArray, List.set_cons_zero, List.set_cons_succ]
            rw [show f 2 = _ from h2]
            clear h2
            repeat (first | go_guarded | go_step)
            exact hQ _ _ (Grow.refl _) rfl rfl
          refine obls_cons (fun f w' hR hH Q hQ => ?_) ?_
          · skip
            obtain ⟨h4, -⟩ := hH
            simp only [view, List.foldl, Act.put, List.setIfInBounds_toArray, List.set_cons_zero, List.set_cons_succ]
            rw [show f 4 = _ from h4]
            clear h4
            repeat (first | go_guarded | go_step)
            exact hQ _ _ (Grow.refl _) rfl rfl
          exact obls_nil
        case mono => exact ⟨Mono.veq _, OwnSl.mono, Mono.veq _, Mono.veq _, Mono.veq _, Mono.veq _, Mono.veq _, trivial⟩
        case tail =>
          intro f w' hR hH
          simp only [view, List.zipIdx, List.foldl, Act.put, List.setIfInBounds_toArray, List.set_cons_zero, List.set_cons_succ, List.drop_succ_cons, List.drop_zero]
          obtain ⟨-, -, -, -, -, q5, q6, -⟩ := hH
          rw [show f 5 = _ from q5]
          rw [show f 6 = _ from q6]
          clear q5 q6
          generalize f 0 = x0
          generalize f 1 = x1
          generalize f 2 = x2
          generalize f 3 = x3
          generalize f 4 = x4
          obtain ⟨w5, rfl⟩ : ∃ w5 : World, w5 = w' := ⟨_, rfl⟩
          obtain ⟨S, hS⟩ : ∃ S, S = w5.heap.size := ⟨_, rfl⟩
          have HS := Lib.hid hS
          have D5 := Lib.hid (HD.out.grow hR)
          have E5 : Hid (Disk w5 B (fun k => S ≤ k) g L s) := Lib.hid (D5.out.more (fun k hk hlt => by have hk : S ≤ k := hk; omega))
          have G5 := Lib.hid (HGR.out.trans hR)
          have hB5 : B ≤ w5.heap.size := by rw [HB.out]; exact G5.out.size
          clear hR HD HGR hS
          have HCO := Lib.hid (copy_any w5 B noK g L s D5.out hL3 noK noK_lt)
          go_wp2_with fail
          refine HCO.out.mono ?_
          rintro e w6 ⟨gc, rfl, hdc, hg6⟩
          rw [← HS.out] at hdc
          have C6 := Lib.hid hdc
          have E6 := Lib.hid (E5.out.grow hg6)
          have G6 := Lib.hid (G5.out.trans hg6)
          have hB6 : B ≤ w6.heap.size := Nat.le_trans hB5 hg6.size
          clear hdc hg6 HCO E5 D5
          have HCR := Lib.hid (crash_any w6 B (fun k => S ≤ k) hB6 g L s E6.out hL3 keep)
          go_wp2_with fail
          refine HCR.out.mono ?_
          rintro e w7 ⟨rfl, hd7, hk7⟩
          have hll := left_le (L := L) keep hsl
          have hlb : s ≤ dkW.left L s keep := by unfold dkW.left; omega
          obtain ⟨mx, hmx⟩ : ∃ m, m = max keep 0 := ⟨_, rfl⟩
          have hmax := fun ts t W => run_max2i (P := Try.prog) ts t keep 0 mx hmx W
          have hlm : ((dkW.left L s keep : Nat) : Int) - (s : Int) ≤ mx := by rw [hmx]; unfold dkW.left; omega
          obtain ⟨N, hN⟩ : ∃ N, N = L.take (dkW.left L s keep) := ⟨_, rfl⟩
          have hNl : dkW.left L s keep = N.length := by rw [hN, List.length_take]; omega
          have hx := str_extract L N.length
          rw [← hNl, ← hN, hNl] at hx
          rw [← hN, hNl] at hd7
          rw [hNl] at hll hlb hlm
          have hN3 : N.length ≤ 140737488355328 := by omega
          have D7 := Lib.hid hd7
          have C7 := Lib.hid (Disk_keep2 C6.out hk7 (fun k hk => hk))
          have G7 := Lib.hid (hk7.grow G6.out HB.out)
          clear hd7 hk7 HCR C6 E6 hmx hN hNl
          have HBY := Lib.hid (bytes_any w7 B _ g N N.length D7.out hN3)
          go_wp2_with fail
          refine HBY.out.mono ?_
          rintro e w8 ⟨v8, rfl, ho8, hg8⟩
          obtain ⟨A8, c8, rfl, -, -, a8⟩ := own_form ho8
          rw [Nat.mul_one] at a8
          have hcs := conv_str (P := Try.prog) Try.underlying65 Try.underlying5 Try.underlying9 (show Bytes w8 A8 N.length N from a8) c8
          have D8 := Lib.hid (D7.out.grow hg8)
          have C8 := Lib.hid (C7.out.grow hg8)
          have G8 := Lib.hid (G7.out.trans hg8)
          clear ho8 hg8 HBY D7 C7 a8
          have z1 := str_size L
          have z2 := str_size N
          have HSU := Lib.hid (sure_any w8 B _ g N N.length D8.out)
          go_wp2_with fail
          refine HSU.out.mono ?_
          rintro e w9 ⟨rfl, rfl⟩
          have HBC := Lib.hid (bytes_any w8 S noK gc L s C8.out hL3)
          clear hcs HSU D8
          go_wp2_with fail
          refine HBC.out.mono ?_
          rintro e w9 ⟨v9, rfl, ho9, hg9⟩
          obtain ⟨A9, c9, rfl, -, -, a9⟩ := own_form ho9
          rw [Nat.mul_one] at a9
          have hcs := conv_str (P := Try.prog) Try.underlying65 Try.underlying5 Try.underlying9 (show Bytes w9 A9 L.length L from a9) c9
          have HSU := Lib.hid (sure_any w9 S noK gc L s (C8.out.grow hg9))
          have G9 := Lib.hid (G8.out.trans hg9)
          have d9 : decide ((N.length : Int) - (s : Int) ≤ mx) = true := decide_eq_true hlm
          clear ho9 hg9 HBC C8 a9
          go_wp2_with fail
          refine HSU.out.mono ?_
          rintro e w10 ⟨rfl, rfl⟩
          go_wp2_with (go_at_call 45; refine (works_any _).mono ?_; rintro e w' ⟨rfl, hg⟩)
          go_ret
          exact ⟨rfl, G9.out.trans hg⟩
end Go.Proofs.Ytgpcijpadelcfaa.dkL
