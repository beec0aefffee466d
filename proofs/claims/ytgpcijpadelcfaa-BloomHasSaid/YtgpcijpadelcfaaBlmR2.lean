/- The walks of the document's hints, on: Put, Has, Of, Ones. -/
import Derived.Test.YtgpcijpadelcfaaBlmR
namespace Go.Proofs.Ytgpcijpadelcfaa.blmW
open Go Go.RowKit Go.Par Go.Kit Go.Proofs.Ytgpcijpadelcfaa.btW

def setTo (L : List Bool) (p : Nat × Nat) : Nat → List Bool
  | 0 => L
  | k + 1 => (setTo L p k).set (Blm.pl p (k + 1)) true
theorem setTo_len (L : List Bool) (p : Nat × Nat) : ∀ k, (setTo L p k).length = L.length
  | 0 => rfl
  | k + 1 => by simp [setTo, setTo_len L p k]
theorem setTo_at (ws : List (BitVec 64)) (hl : ws.length = 4) (p : Nat × Nat) (i : Nat) (hi : i < 256) : ∀ k, (setTo (Blm.all ws) p k)[i]? = some (Blm.bit (putTo ws p k) i)
  | 0 => Blm.all_at ws i (by omega)
  | k + 1 => by
    rw [setTo, putTo, Blm.bit_put1 (by rw [putTo_len]; exact hl) (Blm.pl_lt _ _), List.getElem?_set]
    have ih := setTo_at ws hl p i hi k
    by_cases h : Blm.pl p (k + 1) = i
    · subst h
      rw [if_pos rfl, if_pos (by rw [setTo_len, Blm.all_len]; omega)]
      simp
    · rw [if_neg h, ih]
      have : ¬ i = Blm.pl p (k + 1) := fun e => h e.symm
      simp [this]
theorem setTo_pack (ws : List (BitVec 64)) (hl : ws.length = 4) (p : Nat × Nat) : Blm.pack (setTo (Blm.all ws) p 3) = Blm.put ws p :=
  Blm.pack_eq (by rw [Blm.put_len]; exact hl) (by rw [setTo_len, Blm.all_len, hl]) fun i hi => setTo_at ws hl p i hi 3
theorem bools_set (l : List Bool) (i : Nat) (b : Bool) : (bools l).set i (.bool b) = bools (l.set i b) := by simp [bools, List.map_set]

set_option maxRecDepth 100000 in
set_option maxHeartbeats 1000000 in
theorem ref_put_any (ws : List (BitVec 64)) (hl : ws.length = 4) (a s : Nat) (ha : a < 256) (hs : s < 65536) (w : World) :
    Calls Try.prog 36 #[bv ws, .agg #[.int .u8 (a : Int), .int .u16 (s : Int)]] w fun e w' => e = .returned (bv (Blm.put ws (a, s))) ∧ Grow w w' := by
  have hpk := setTo_pack ws hl (a, s)
  obtain ⟨O, hO⟩ : ∃ O, O = Blm.put ws (a, s) := ⟨_, rfl⟩
  have OL := Lib.hid (show O.length = 4 by rw [hO, Blm.put_len]; exact hl)
  rw [← hO] at hpk ⊢
  obtain ⟨F, hF⟩ : ∃ F : Nat → List Bool, F = setTo (Blm.all ws) (a, s) := ⟨_, rfl⟩
  rw [← hF] at hpk
  have F0 := Lib.hid (show F 0 = Blm.all ws by rw [hF]; rfl)
  have FS := Lib.hid (show ∀ k, (bools (F k)).set (Blm.pl (a, s) (k + 1)) (.bool true) = bools (F (k + 1)) by intro k; rw [bools_set, hF]; rfl)
  have FL := Lib.hid (show ∀ k, (F k).length = 256 by intro k; rw [hF, setTo_len, Blm.all_len, hl])
  have HPK := Lib.hid hpk
  have HALL := Lib.hid (ref_all_any ws hl)
  have HPL := Lib.hid (ref_places_any a s ha hs)
  have HL := Lib.hid hl
  clear hO hF hpk hl
  obtain ⟨x0, x1, x2, x3, ra⟩ := len4 HL.out
  have RA := Lib.hid ra
  rw [ra] at HALL ⊢
  clear ra
  obtain ⟨g, hg⟩ : ∃ g, g = w.heap.size := ⟨_, rfl⟩
  have HG := Lib.hid hg
  clear hg
  go_enter Try.func36, Try.ntmps36
  go_wp2_with (refine load_blk rfl _ _ rfl w.heap.size rfl _ (u64s [x0, x1, x2, x3]) _ ((Blk.new _ _ _ _ rfl rfl).grow ((Grow.alloc _ _).trans (Grow.alloc _ _))) undB rfl (by rw [infoB]; rfl) ?_)
  refine (HALL.out _).mono ?_
  obtain ⟨N, hN⟩ : ∃ N : Nat, N = 256 := ⟨_, rfl⟩
  rw [← hN]
  have hN1 : N ≤ 256 := by omega
  have hN2 : 256 ≤ N := by omega
  have HN := Lib.hid hN
  clear hN
  rintro e w1 ⟨v, rfl, hown, hg1⟩
  obtain ⟨gl, cap, rfl, hgb, hcap⟩ := hown.form (by omega)
  rw [← HG.out]
  have hsz0 : g + 3 ≤ gl := by simp at hgb; have := HG.out; omega
  clear hgb
  have b3 : Blk w1 (g + 1) 49 [.int .u8 (a : Int), .int .u16 (s : Int)] := ((Blk.new _ _ _ _ rfl (by rw [HG.out]; simp)).grow (Grow.alloc _ _)).grow hg1
  have b4 : Blk w1 (g + 1 + 1) 47 zeros4 := (Blk.new _ _ _ _ rfl (by rw [HG.out]; simp)).grow hg1
  have HG1 := Lib.hid ((((Grow.alloc _ _).trans (Grow.alloc _ _)).trans (Grow.alloc _ _)).trans hg1 : Grow w w1)
  have c0 := b3.cell (i := 0) rfl
  have c1 := b3.cell (i := 1) rfl
  have B4 := Lib.hid b4
  clear b3 b4 hg1
  go_wp2_with fail
  refine (HPL.out _).mono ?_
  rintro e w2 ⟨v2, rfl, hown2, hg2⟩
  obtain ⟨gp, cap2, rfl, hgp, hcap2⟩ := hown2.form (by omega)
  have hne : gp ≠ gl := by omega
  have hgp2 : g ≤ gp := by omega
  have hown1 := own_grow hown hg2
  have B4' := Lib.hid (B4.out.grow hg2)
  have HG2 := Lib.hid (HG1.out.trans hg2)
  clear hown hg2 c0 c1 hgp hcap hcap2
  go_wp2_with fail
  go_loopw [7] (fun i wr => ∃ k : Nat, k ≤ 3 ∧ i = .int .i64 (k : Int) ∧ wr.ownsRow g 4 1 (.slice (some ⟨gl, 0, none⟩) N cap) N (bools (F k)) ∧ wr.ownsRow g 3 1 (.slice (some ⟨gp, 0, none⟩) 3 cap2) 3 (pls (a, s) 3) ∧ Blk wr (g + 1 + 1) 47 zeros4 ∧ Grow w wr) (fun i _ => 3 - (intOf i).toNat)
  case atStart => exact ⟨0, by omega, rfl, by rw [F0.out, RA.out]; exact own_low' hown1 (by omega), own_low' hown2 (by omega), B4'.out, HG2.out⟩
  case round =>
    clear hown1 hown2
    obtain ⟨k, hk, rfl, o1, o2, b4, hgr⟩ := hrel
    by_cases hlt : k < 3
    · have hc2 : wr.cell? ⟨gp, k, none⟩ = some (.int .i64 (Blm.pl (a, s) (k + 1) : Int)) := by
        rw [o2.cellAt _ (by omega)]; exact pls_at _ _ _ hlt
      have hp := Blm.pl_lt (a, s) (k + 1)
      have hst := FS.out k
      have hfl := FL.out k
      obtain ⟨q, hq⟩ : ∃ q, q = Blm.pl (a, s) (k + 1) := ⟨_, rfl⟩
      rw [← hq] at hp hst hc2
      clear hq
      have hc1 : wr.cell? ⟨gl, q, none⟩ = some (.bool ((F k).getD q false)) := by
        rw [o1.cellAt _ (by omega)]
        simp [bools, List.getD_eq_getElem?_getD, hfl, hp]
      have hf := o1.frozenAt q
      have HS := Lib.hid hst
      have O1 := Lib.hid o1
      have O2 := Lib.hid o2
      have B4 := Lib.hid b4
      have HGR := Lib.hid hgr
      clear hst hfl o1 o2 b4 hgr
      go_wp2_with fail
      go_roundw
      case rel => exact ⟨k + 1, by omega, by go_num, by rw [← HS.out]; exact (O1.out.stored q _).1, own_far' O2.out _ _ (by dsimp only; omega), B4.out.far (by dsimp only; omega) _, Grow.set_ HGR.out (by dsimp only; have := HG.out; omega) _⟩
      case measure => simp [intOf] <;> omega
    · obtain rfl : k = 3 := by omega
      obtain ⟨hcp1, hcp2, hbl⟩ := own_row' o1
      rw [HN.out] at hbl hcp1
      have hpack := ref_pack_any _ cap _ wr hbl hcp1 hcp2
      rw [HPK.out, ← HN.out] at hpack
      have HPA := Lib.hid hpack
      have hol := OL.out
      have B4 := Lib.hid b4
      have HGR := Lib.hid hgr
      clear hpack hbl b4 hgr o1 o2
      go_wp2_with fail
      refine HPA.out.mono ?_
      rintro e w3 ⟨rfl, hg3⟩
      go_wp2_with (refine store_blk rfl _ _ _ rfl (g + 1 + 1) (u64s O) rfl rfl _ _ (B4.out.grow hg3) (by rw [infoB]; simp [u64s] <;> omega) (by simp [u64s, zeros4] <;> omega) (all_u64s O) ?_)
      refine ret_blk rfl (g + 1 + 1) _ (u64s O) _ rfl ((B4.out.grow hg3).setRow (u64s O)) undB rfl (by rw [infoB]; simp [u64s] <;> omega) rfl ⟨rfl, Grow.setRow (HGR.out.trans hg3) (by have := HG.out; omega) _⟩

set_option maxRecDepth 100000 in
set_option maxHeartbeats 1000000 in
theorem ref_has_any (ws : List (BitVec 64)) (hl : ws.length = 4) (a s : Nat) (ha : a < 256) (hs : s < 65536) (w : World) :
    Calls Try.prog 38 #[bv ws, .agg #[.int .u8 (a : Int), .int .u16 (s : Int)]] w fun e w' => e = .returned (.bool (Blm.has ws (a, s))) ∧ Grow w w' := by
  have hall : ∀ i, i < 256 → (bools (Blm.all ws))[i]? = some (.bool (Blm.bit ws i)) := fun i hi => by
    simp [bools, Blm.all_at ws i (by omega)]
  obtain ⟨q1, hq1⟩ : ∃ q, q = Blm.pl (a, s) 1 := ⟨_, rfl⟩
  obtain ⟨q2, hq2⟩ : ∃ q, q = Blm.pl (a, s) 2 := ⟨_, rfl⟩
  obtain ⟨q3, hq3⟩ : ∃ q, q = Blm.pl (a, s) 3 := ⟨_, rfl⟩
  have l1 := Blm.pl_lt (a, s) 1
  have l2 := Blm.pl_lt (a, s) 2
  have l3 := Blm.pl_lt (a, s) 3
  rw [← hq1] at l1
  rw [← hq2] at l2
  rw [← hq3] at l3
  have hP : pls (a, s) 3 = [.int .i64 (q1 : Int), .int .i64 (q2 : Int), .int .i64 (q3 : Int)] := by rw [hq1, hq2, hq3]; rfl
  have hr : Blm.has ws (a, s) = (Blm.bit ws q1 && Blm.bit ws q2 && Blm.bit ws q3) := by rw [hq1, hq2, hq3]; rfl
  have a1 := hall q1 l1
  have a2 := hall q2 l2
  have a3 := hall q3 l3
  obtain ⟨r1, hr1⟩ : ∃ r, r = Blm.bit ws q1 := ⟨_, rfl⟩
  obtain ⟨r2, hr2⟩ : ∃ r, r = Blm.bit ws q2 := ⟨_, rfl⟩
  obtain ⟨r3, hr3⟩ : ∃ r, r = Blm.bit ws q3 := ⟨_, rfl⟩
  rw [← hr1] at a1
  rw [← hr2] at a2
  rw [← hr3] at a3
  rw [← hr1, ← hr2, ← hr3] at hr
  rw [hr]
  have HALL := Lib.hid (ref_all_any ws hl)
  have HPL := ref_places_any a s ha hs
  rw [hP] at HPL
  have HPL := Lib.hid HPL
  have A1 := Lib.hid a1
  have A2 := Lib.hid a2
  have A3 := Lib.hid a3
  clear hall hq1 hq2 hq3 hP hr hr1 hr2 hr3 a1 a2 a3
  obtain ⟨x0, x1, x2, x3, ra⟩ := len4 hl
  subst ra
  clear hl
  obtain ⟨g, hg⟩ : ∃ g, g = w.heap.size := ⟨_, rfl⟩
  have HG := Lib.hid hg
  clear hg
  go_enter Try.func38, Try.ntmps38
  go_wp2_with (refine load_blk rfl _ _ rfl w.heap.size rfl _ (u64s [x0, x1, x2, x3]) _ ((Blk.new _ _ _ _ rfl rfl).grow (Grow.alloc _ _)) undB rfl (by rw [infoB]; rfl) ?_)
  refine (HALL.out _).mono ?_
  rintro e w1 ⟨v, rfl, hown, hg1⟩
  obtain ⟨gl, cap, rfl, hgb, hcap⟩ := hown.form (by omega)
  rw [← HG.out]
  have b3 : Blk w1 (g + 1) 49 [.int .u8 (a : Int), .int .u16 (s : Int)] := (Blk.new _ _ _ _ rfl (by rw [HG.out]; simp)).grow hg1
  have HG1 := Lib.hid (((Grow.alloc _ _).trans (Grow.alloc _ _)).trans hg1 : Grow w w1)
  have c0 := b3.cell (i := 0) rfl
  have c1 := b3.cell (i := 1) rfl
  clear b3 hg1 hgb hcap
  go_wp2_with fail
  refine (HPL.out _).mono ?_
  rintro e w2 ⟨v2, rfl, hown2, hg2⟩
  obtain ⟨gp, cap2, rfl, hgp, hcap2⟩ := hown2.form (by omega)
  have hown1 := own_grow hown hg2
  have HG2 := Lib.hid (HG1.out.trans hg2)
  have p1 : w2.cell? ⟨gp, 0, none⟩ = some (.int .i64 (q1 : Int)) := by rw [hown2.cellAt _ (by omega)]; rfl
  have p2 : w2.cell? ⟨gp, 1, none⟩ = some (.int .i64 (q2 : Int)) := by rw [hown2.cellAt _ (by omega)]; rfl
  have p3 : w2.cell? ⟨gp, 2, none⟩ = some (.int .i64 (q3 : Int)) := by rw [hown2.cellAt _ (by omega)]; rfl
  have k1 : w2.cell? ⟨gl, q1, none⟩ = some (.bool r1) := by rw [hown1.cellAt _ (by omega)]; exact A1.out
  have k2 : w2.cell? ⟨gl, q2, none⟩ = some (.bool r2) := by rw [hown1.cellAt _ (by omega)]; exact A2.out
  have k3 : w2.cell? ⟨gl, q3, none⟩ = some (.bool r3) := by rw [hown1.cellAt _ (by omega)]; exact A3.out
  clear hown hown2 hown1 hg2 hgp hcap2 c0 c1
  cases r1 <;> cases r2 <;> cases r3
  all_goals
    go_wp2_with fail
    go_ret
    exact ⟨rfl, HG2.out⟩

set_option maxRecDepth 100000 in
set_option maxHeartbeats 1000000 in
theorem ref_of_any (A : Option Addr) (n c : Nat) (l : List (Nat × Nat)) (w : World) (hp : Pids w A n l) (hn : n ≤ maxLen) :
    Calls Try.prog 40 #[.slice A n c] w fun e w' => e = .returned (bv (Blm.of l)) ∧ Grow w w' := by
  unfold maxLen at hn
  have hlen := Lib.hid hp.1
  obtain ⟨g, hg⟩ : ∃ g, g = w.heap.size := ⟨_, rfl⟩
  have HG := Lib.hid hg
  clear hg
  go_enter Try.func40, Try.ntmps40
  go_wp2_with fail
  rw [← HG.out]
  go_loopw [4] (fun i wr => ∃ k : Nat, k ≤ n ∧ i = .int .i64 (k : Int) ∧ Blk wr g 47 zeros4 ∧ Blk wr (g + 1) 47 (u64s (Blm.of (l.take k))) ∧ Grow w wr) (fun i _ => n - (intOf i).toNat)
  case atStart =>
    refine ⟨0, by omega, rfl, ?_, ?_, (Grow.alloc _ _).trans (Grow.alloc _ _)⟩
    · exact (Blk.new _ _ _ _ rfl HG.out).grow (Grow.alloc _ _)
    · exact Blk.new _ _ _ _ rfl (by rw [HG.out]; simp)
  case round =>
    obtain ⟨k, hk, rfl, b3, b4, hgr⟩ := hrel
    by_cases hlt : k < n
    · obtain ⟨b, off, a, s, rfl, hx, ha, hs, hc0, hc1⟩ := (hp.grow hgr).at_ hlt
      have hsn := Blm.of_snoc l k (a, s) hx
      have hol := Blm.of_len (l.take k)
      have hpl := Blm.put_len (Blm.of (l.take k)) (a, s)
      have hP := Lib.hid (ref_put_any (Blm.of (l.take k)) hol a s ha hs)
      obtain ⟨V2, hV2⟩ : ∃ V, V = Blm.put (Blm.of (l.take k)) (a, s) := ⟨_, rfl⟩
      rw [← hV2] at hsn hpl hP
      obtain ⟨V, hV⟩ : ∃ V, V = Blm.of (l.take k) := ⟨_, rfl⟩
      rw [← hV] at b4 hol hpl hP
      have HS := Lib.hid hsn
      have hsz := hgr.size
      have HGR := Lib.hid hgr
      have B3 := Lib.hid b3
      have B4 := Lib.hid b4
      clear hsn hx b3 b4 hgr hV hV2
      go_wp2_with fail
      apply (fun (v0 v1 v2 v3 v4 v5 : Value) mono obl tail => wp_region_par (R := Grow) (Φ := phi [veq v0, veq v1, veq v2, veq v3, veq v4, veq v5]) (m := 6) (dls := [[], [], [], [(12, 1), (13, 2)], [(14, 3)], [(11, 0), (15, 4)]]) (ds := [11, 12, 13, 14, 15, 16]) (by kernel_rfl) (by kernel_rfl) (by decide) rfl (Grow.drew _) (fun _ _ _ => Grow.trans) (mono_phi mono) obl tail)
      case obl =>
        refine obls_cons (fun f w' hR hH Q hQ => ?_) ?_
        · skip
          simp only [view, List.foldl]
          go_wp2_with (refine load_blk rfl _ _ rfl (g + 1) rfl _ _ _ (B4.out.grow hR) undB rfl (by rw [infoB]; simp [u64s]; omega) ?_)
          exact hQ _ _ (Grow.refl _) rfl rfl
        refine obls_cons (fun f w' hR hH Q hQ => ?_) ?_
        · skip
          simp only [view, List.foldl]
          repeat (first | go_guarded | go_step)
          exact hQ _ _ (Grow.refl _) rfl rfl
        refine obls_cons (fun f w' hR hH Q hQ => ?_) ?_
        · skip
          simp only [view, List.foldl]
          repeat (first | go_guarded | go_step)
          exact hQ _ _ (Grow.refl _) rfl rfl
        refine obls_cons (fun f w' hR hH Q hQ => ?_) ?_
        · skip
          obtain ⟨h1, h2, -⟩ := hH
          simp only [view, List.foldl, Act.put, List.setIfInBounds_toArray, List.set_cons_zero, List.set_cons_succ]
          rw [show f 1 = _ from h1]
          rw [show f 2 = _ from h2]
          clear h1 h2
          repeat (first | go_guarded | go_step)
          exact hQ _ _ (Grow.refl _) rfl rfl
        refine obls_cons (fun f w' hR hH Q hQ => ?_) ?_
        · skip
          obtain ⟨h3, -⟩ := hH
          simp only [view, List.foldl, Act.put, List.setIfInBounds_toArray, List.set_cons_zero, List.set_cons_succ]
          rw [show f 3 = _ from h3]
          clear h3
          have c0 := hR.cell hc0
          have c1 := hR.cell hc1
          repeat (first | go_guarded | go_step)
          exact hQ _ _ (Grow.refl _) rfl rfl
        refine obls_cons (fun f w' hR hH Q hQ => ?_) ?_
        · skip
          obtain ⟨h0, h4, -⟩ := hH
          simp only [view, List.foldl, Act.put, List.setIfInBounds_toArray, List.set_cons_zero, List.set_cons_succ]
          rw [show f 0 = _ from h0]
          rw [show f 4 = _ from h4]
          clear h0 h4
          go_wp2_with (go_at_call 36; refine (hP.out _).mono ?_; rintro e w1 ⟨rfl, hg1⟩)
          exact hQ _ _ hg1 rfl rfl
        exact obls_nil
      case mono => exact ⟨Mono.veq _, Mono.veq _, Mono.veq _, Mono.veq _, Mono.veq _, Mono.veq _, trivial⟩
      case tail =>
        intro f w' hR hH
        simp only [view, List.zipIdx, List.foldl, Act.put, List.setIfInBounds_toArray, List.set_cons_zero, List.set_cons_succ, List.drop_succ_cons, List.drop_zero]
        obtain ⟨-, -, -, -, -, q5, -⟩ := hH
        rw [show f 5 = _ from q5]
        clear q5
        generalize f 0 = x0
        generalize f 1 = x1
        generalize f 2 = x2
        generalize f 3 = x3
        generalize f 4 = x4
        have B4' := Lib.hid (B4.out.grow hR)
        have B3' := Lib.hid (B3.out.grow hR)
        have HG1 := Lib.hid (HGR.out.trans hR)
        clear hR hc0 hc1
        go_wp2_with (refine store_blk rfl _ _ _ rfl (g + 1) (u64s V2) rfl rfl _ _ B4'.out (by rw [infoB]; simp [u64s] <;> omega) (by simp [u64s] <;> omega) (all_u64s V2) ?_)
        go_roundw
        case rel => exact ⟨k + 1, by omega, by go_num, B3'.out.farRow (by omega) _, by rw [HS.out]; exact B4'.out.setRow _, Grow.setRow HG1.out (by have := HG.out; omega) _⟩
        case measure => simp [intOf] <;> omega
    · obtain rfl : k = n := by omega
      have hol := Blm.of_len l
      rw [List.take_of_length_le (by rw [hlen.out]; omega)] at b4
      obtain ⟨V, hV⟩ : ∃ V, V = Blm.of l := ⟨_, rfl⟩
      rw [← hV] at b4 hol
      have HV := Lib.hid hV
      clear hV
      go_wp2_with (first | (refine load_blk rfl _ _ rfl (g + 1) rfl _ _ _ b4 undB rfl (by rw [infoB]; simp [u64s] <;> omega) ?_) | (refine store_blk rfl _ _ _ rfl g (u64s V) rfl rfl _ _ b3 (by rw [infoB]; simp [u64s] <;> omega) (by simp [u64s, zeros4] <;> omega) (all_u64s V) ?_))
      refine ret_blk rfl g _ (u64s V) _ rfl (b3.setRow (u64s V)) undB rfl (by rw [infoB]; simp [u64s] <;> omega) rfl ⟨by rw [← HV.out], Grow.setRow hgr (by have := HG.out; omega) _⟩

set_option maxRecDepth 100000 in
set_option maxHeartbeats 1000000 in
theorem ref_ones_any' (ws : List (BitVec 64)) (hl : ws.length = 4) (w : World) :
    Calls Try.prog 42 #[bv ws] w fun e w' => e = .returned (.int .i64 (Blm.ones ws : Int)) ∧ Grow w w' := by
  have hend : Blm.ones ws = Blm.countTo ws 256 := Blm.ones_range hl
  rw [hend]
  have hall : ∀ i, i < 256 → (bools (Blm.all ws))[i]? = some (.bool (Blm.bit ws i)) := fun i hi => by
    simp [bools, Blm.all_at ws i (by omega)]
  have hcs := Blm.countTo_succ ws
  have hcl := Blm.countTo_le ws
  have h0 : Blm.countTo ws 0 = 0 := rfl
  obtain ⟨C, hC⟩ : ∃ C, C = Blm.countTo ws := ⟨_, rfl⟩
  obtain ⟨B, hB⟩ : ∃ B, B = Blm.bit ws := ⟨_, rfl⟩
  rw [← hC] at hcs hcl h0 ⊢
  rw [← hB] at hcs hall
  have HCS := Lib.hid hcs
  have HCL := Lib.hid hcl
  have H0 := Lib.hid h0
  have HA := Lib.hid hall
  have HALL := Lib.hid (ref_all_any ws hl)
  clear hend hall hcs hcl h0 hC hB
  obtain ⟨x0, x1, x2, x3, ra⟩ := len4 hl
  subst ra
  clear hl
  go_enter Try.func42, Try.ntmps42
  go_wp2_with (refine load_blk rfl _ _ rfl w.heap.size rfl _ (u64s [x0, x1, x2, x3]) _ (Blk.new _ _ _ _ rfl rfl) undB rfl (by rw [infoB]; rfl) ?_)
  refine (HALL.out _).mono ?_
  rintro e w1 ⟨v, rfl, hown, hg1⟩
  obtain ⟨gl, cap, rfl, hgb, hcap⟩ := hown.form (by omega)
  have HG1 := Lib.hid ((Grow.alloc _ _).trans hg1 : Grow w w1)
  have HO := Lib.hid hown
  clear hg1 hown hgb hcap
  go_wp2_with fail
  go_loop [3, 5] (fun n i => ∃ k : Nat, k ≤ 256 ∧ i = .int .i64 (k : Int) ∧ n = .int .i64 (C k : Int)) (fun _ i => 256 - (intOf i).toNat)
  case atStart => exact ⟨0, by omega, rfl, by rw [H0.out]; rfl⟩
  case round =>
    obtain ⟨k, hk, rfl, rfl⟩ := hrel
    by_cases hlt : k < 256
    · have hc : w1.cell? ⟨gl, k, none⟩ = some (.bool (B k)) := by rw [HO.out.cellAt _ (by omega)]; exact HA.out k hlt
      have hcs := HCS.out k
      have hcl := HCL.out k
      obtain ⟨b, hb⟩ : ∃ b, b = B k := ⟨_, rfl⟩
      rw [← hb] at hc hcs
      obtain ⟨m, hm⟩ : ∃ m, m = C k := ⟨_, rfl⟩
      rw [← hm] at hcs hcl ⊢
      have HC := Lib.hid hcs
      clear hcs hb hm
      cases b
      all_goals
        go_wp2_with fail
        go_round
        case rel => exact ⟨k + 1, by omega, by go_num, by rw [HC.out]; first | rfl | (go_num; done) | (simp; done)⟩
        case measure => simp [intOf] <;> omega
    · obtain rfl : k = 256 := by omega
      go_wp2_with fail
      go_ret
      exact ⟨rfl, HG1.out⟩
end Go.Proofs.Ytgpcijpadelcfaa.blmW
