/- The walk of the document's Decode. -/
import Derived.Test.YtmekdhlcflielaaDoorEvRR
namespace Go.Proofs.YtmekdhlcflielaaDoor.ev
open Go Go.RowKit Go.Par Go.Kit Vi Go.Proofs.YtmekdhlcflielaaDoor.bfW
open Go.Proofs.YtmekdhlcflielaaDoor.viW hiding i8 i8s i8z i8b info8

set_option maxRecDepth 100000 in
set_option maxHeartbeats 8000000 in
theorem rdecode_any (w : World) (A : Option Addr) (n c : Nat) (L : List UInt8) (hby : Bytes w A n L) (hc : n ≤ c) (hm : c ≤ maxLen) :
    Calls Tryd.prog 12 #[.slice A n c] w fun r w' => (∃ v, r = .returned (.tuple #[v, .int .i64 ((decS L).2 : Int)]) ∧ EvV w' v (decS L).1) ∧ Grow w w' := by
  obtain ⟨g, hg⟩ : ∃ g, g = w.heap.size := ⟨_, rfl⟩
  obtain ⟨W1, hW1⟩ : ∃ W, W = w.alloc (.cells #[.slice A n c, .int .i64 0] TX) := ⟨_, rfl⟩
  have hg1 : Grow w W1 := by rw [hW1]; exact Grow.alloc _ _
  have hrd' : Rdr TX W1 w.heap.size (fun i => i ≠ g) g L 0 := ⟨A, n, c, by rw [hW1]; exact Blk.new _ _ _ _ rfl hg, hc, hm, hby.grow hg1, fun h0 => Row.ltB (show Row w A n _ from hby) h0, by omega, fun hn => hn rfl⟩
  obtain ⟨⟨M, L1, e1⟩, hr1⟩ : ∃ r, r = rnum L 0 1024 := ⟨_, rfl⟩
  have hM : M ≤ 1024 := by have := rnum_le L 0 1024; rw [← hr1] at this; exact this
  obtain ⟨⟨D, L2, e2⟩, hd⟩ : ∃ r, r = decN M L1 e1 := ⟨_, rfl⟩
  have hres : decS L = if rend L2 e2 ≠ 0 then ([], rend L2 e2) else if D.all goodB then (D, 0) else ([], 4) := by
    unfold decS
    rw [← hr1]
    dsimp only
    rw [← hd]
  obtain ⟨rs, hrs⟩ : ∃ r, r = decS L := ⟨_, rfl⟩
  rw [← hrs]
  rw [← hrs] at hres
  have HRES := Lib.hid hres
  have HR1 := Lib.hid hr1
  have HD := Lib.hid hd
  have HG := Lib.hid hg
  have HW1 := Lib.hid hW1
  have HG1 := Lib.hid hg1
  have HLL : Hid (L.length ≤ maxLen) := Lib.hid (by rw [hby.len]; omega)
  have hnm := ref_num_any W1 w.heap.size (fun i => i ≠ g) g L 0 hrd' 1024
  rw [← HR1.out] at hnm
  have HNM := Lib.hid hnm
  clear hby hm hc hres hr1 hd hg hrs hW1 hg1 hrd' hnm
  go_enter Tryd.func12, Tryd.ntmps12
  go_wp2_with fail
  rw [← HW1.out, ← HG.out]
  refine HNM.out.mono ?_
  rintro r w2 ⟨rfl, hr2, hk2⟩
  have hdi : DecI TX w w2 g M L1 e1 M [] L1 e1 (.slice none 0 0) := ⟨hr2, OutI.nil _ _, by simp, by simp, hk2.grow HG1.out rfl⟩
  have HDI := Lib.hid hdi
  clear hr2 hk2 hdi HNM
  go_wp2_with fail
  go_loopw [6, 7, 8] (fun o' f' i' wr => ∃ (i m : Nat) (acc : List Ev) (Li : List UInt8) (ei : Nat) (v : Value) (fine : Bool), i' = .int .i64 (i : Int) ∧ i + m = M ∧ v = o' ∧ f' = .bool fine ∧ fine = acc.all goodB ∧ DecI TX w wr g M L1 e1 m acc Li ei v) (fun _ _ i' _ => M - (intOf i').toNat)
  case atStart => exact ⟨0, M, [], L1, e1, _, true, rfl, by omega, rfl, rfl, rfl, HDI.out⟩
  case round =>
    clear HDI HG1
    obtain ⟨i, m, acc, Li, ei, v, fine, rfl, him, rfl, rfl, hfine, hI⟩ := hrel
    have HF := Lib.hid hfine
    have HI := Lib.hid hI
    have ce : wr.cell? ⟨g, 1, none⟩ = some (.int .i64 (ei : Int)) := by
      obtain ⟨_, _, _, hb9, -⟩ := hI.r
      exact hb9.cell (i := 1) rfl
    have hmM : m ≤ 1024 := by have := hI.n; omega
    have hiM : i ≤ M := by omega
    clear hfine hI
    by_cases hm0 : 0 < m
    · have t1 : decide (i < M) = true := decide_eq_true (by omega)
      have t1' : decide ((i : Int) < (M : Int)) = true := decide_eq_true (by omega)
      by_cases he0 : ei = 0
      · subst he0
        obtain ⟨m', rfl⟩ : ∃ m', m = m' + 1 := ⟨m - 1, by omega⟩
        have hrdr := HI.out.r
        obtain ⟨KK, hKKd⟩ : ∃ KK : Nat → Prop, KK = fun i => i ≠ g ∧ i < wr.heap.size := ⟨_, rfl⟩
        have hrd := rread_any wr w.heap.size KK (fun i hi => by rw [hKKd] at hi; exact hi.2) g Li 0 (hrdr.to (by rw [hKKd]; rintro ⟨h, -⟩; exact h rfl))
        obtain ⟨⟨ev, L', e'⟩, hev⟩ : ∃ r, r = rdEv Li 0 := ⟨_, rfl⟩
        have hevok : ev.ok := by have := rdEv_ok Li 0; rw [← hev] at this; exact this
        rw [← hev] at hrd
        have HRD := Lib.hid hrd
        have HEV := Lib.hid hev
        have HOK := Lib.hid hevok
        have HKK := Lib.hid hKKd
        clear hrdr hrd hev hevok hKKd hm0
        go_wp2_with fail
        refine HRD.out.mono ?_
        rintro r w4 ⟨⟨A4, n4, c4, rfl, hbo⟩, hr4, hk4⟩
        have hK8 : ∀ j cs fz, wr.heap[j]? = some (Obj.cells cs 5 fz) → KK j := fun j cs fz hj => by
          rw [HKK.out]
          refine ⟨fun e9 => ?_, (Array.getElem?_eq_some_iff.1 hj).1⟩
          subst e9
          obtain ⟨_, _, _, hb9, -⟩ := HI.out.r
          exact absurd (blk_ty hb9 hj) (by decide)
        have hKE : ∀ j cs, Blk wr j TE cs → v.ownBlock = some j → KK j := fun j cs hj _ => by
          rw [HKK.out]
          refine ⟨fun e9 => ?_, hj.lt⟩
          subst e9
          obtain ⟨_, _, _, hb9, -⟩ := HI.out.r
          exact absurd (blk_ty hb9 hj) (by decide)
        have ho4 := HI.out.o.keep hk4 hKE hK8
        have hg4 := hk4.grow HI.out.g rfl
        have hr4' : Rdr TX w4 w.heap.size (fun i => i ≠ g) g L' e' := hr4.to (fun hn => hn rfl)
        obtain ⟨b8, hb8⟩ : ∃ b, b = w4.heap.size := ⟨_, rfl⟩
        obtain ⟨W5, hW5⟩ : ∃ W, W = w4.alloc (.cells #[.int .u8 (ev.k : Int), .int .u8 (ev.node : Int), .int .u8 (ev.peer : Int), .int .i64 ev.K, .int .i64 ev.at_, .int .u32 (ev.mask : Int), .int .u64 (ev.draw : Int), .slice A4 n4 c4] TE) := ⟨_, rfl⟩
        have hg45 : Grow w4 W5 := by rw [hW5]; exact Grow.alloc _ _
        have hbx : Blk W5 b8 TE [.int .u8 (ev.k : Int), .int .u8 (ev.node : Int), .int .u8 (ev.peer : Int), .int .i64 ev.K, .int .i64 ev.at_, .int .u32 (ev.mask : Int), .int .u64 (ev.draw : Int), .slice A4 n4 c4] := by rw [hW5]; exact Blk.new _ _ _ _ rfl hb8
        have hbo5 := hbo.grow hg45
        have hby4 : Bytes W5 A4 n4 ev.b := by
          obtain ⟨A9, c9, e9, -, -, h9, -⟩ := hbo5
          injection e9 with e1 e2 e3
          subst e1; subst e2
          exact h9
        have hgo := rgood_any W5 ev A4 n4 c4 hby4
        rw [good_eq] at hgo
        have HGO := Lib.hid hgo
        have HO5 := Lib.hid (ho4.grow hg45)
        have HR5 := Lib.hid (hr4'.grow hg45)
        have HBO5 := Lib.hid (hbo.grow hg45)
        have HG5 := Lib.hid (hg4.trans hg45)
        have HBX := Lib.hid hbx
        have HW5 := Lib.hid hW5
        have HB8 := Lib.hid hb8
        have hdec : decN M L1 e1 = ((acc ++ [ev]) ++ (decN m' L' e').1, (decN m' L' e').2) := by
          rw [HI.out.d, decN_step, ← HEV.out]
          dsimp only
          rw [List.append_assoc]
          rfl
        have HDEC := Lib.hid hdec
        have hlen5 : acc.length + (m' + 1) = M := HI.out.n
        clear hbo hr4 hk4 hK8 hKE ho4 hg4 hr4' hb8 hW5 hg45 hbx hdec HRD hbo5 hby4 hgo ce
        obtain ⟨gd, hgd⟩ : ∃ q, q = goodB ev := ⟨_, rfl⟩
        rw [← hgd] at HGO
        have HGD := Lib.hid hgd
        clear hgd
        unfold evRow
        have tail : True := trivial
        obtain ⟨rows, a1, a2, a3, a4⟩ := HO5.out
        obtain ⟨la, hla⟩ : ∃ q, q = acc.length := ⟨_, rfl⟩
        rw [← hla] at a2 hlen5
        have HLA := Lib.hid hla
        have HA1 := Lib.hid a1
        have HA2 := Lib.hid a2
        have HA3 := Lib.hid a3
        clear a1 a2 a3 a4 tail hla
        cases fine
        · skip
          have x0 := HBX.out.cell (i := 0) rfl
          have x1 := HBX.out.cell (i := 1) rfl
          have x2 := HBX.out.cell (i := 2) rfl
          have x3 := HBX.out.cell (i := 3) rfl
          have x4 := HBX.out.cell (i := 4) rfl
          have x5 := HBX.out.cell (i := 5) rfl
          have x6 := HBX.out.cell (i := 6) rfl
          have x7 := HBX.out.cell (i := 7) rfl
          have gq := Grow.alloc W5 (.cells #[.int .u8 (ev.k : Int), .int .u8 (ev.node : Int), .int .u8 (ev.peer : Int), .int .i64 ev.K, .int .i64 ev.at_, .int .u32 (ev.mask : Int), .int .u64 (ev.draw : Int), .slice A4 n4 c4] TE)
          dsimp only
          repeat (first | with_reducible (refine wp_region_cut (k := 9) ?_) | go_values | go_guarded | go_step | go_upon | go_back)
          rw [← HB8.out, ← HW5.out]
          unfold Cut
          go_wp2_with (at_builtin; refine wpList_append_row rfl _ _ _ rfl w.heap.size TE _ _ 8 64 Tryd.underlying22 iE iEz iEs iEb rfl (by decide) v la rows.flatten rfl (own_grow HA2.out gq) (some ⟨W5.heap.size, 0, none⟩) 1 1 [.int .u8 (ev.k : Int), .int .u8 (ev.node : Int), .int .u8 (ev.peer : Int), .int .i64 ev.K, .int .i64 ev.at_, .int .u32 (ev.mask : Int), .int .u64 (ev.draw : Int), .slice A4 n4 c4] rfl (Row.new W5 [.int .u8 (ev.k : Int), .int .u8 (ev.node : Int), .int .u8 (ev.peer : Int), .int .i64 ev.K, .int .i64 ev.at_, .int .u32 (ev.mask : Int), .int .u64 (ev.draw : Int), .slice A4 n4 c4] TE (0, 0)) (by intro u hu; simp only [List.mem_cons, List.not_mem_nil, or_false] at hu; rcases hu with rfl | rfl | rfl | rfl | rfl | rfl | rfl | rfl <;> rfl) (by unfold maxLen; omega) (by omega) (Nat.le_trans HG5.out.size gq.size) ?_; intro v1 w1 hown1 hgb1 _)
          have hdi := DecI.app (by decide) (HR5.out.grow gq) (HO5.out.grow gq) (HBO5.out.grow gq) HOK.out (HG5.out.trans gq) HDEC.out HLA.out hlen5 HA1.out (own_grow HA2.out gq) (fun j r e hr he => let ⟨u, hu, hb⟩ := HA3.out j r e hr he; ⟨u, hu, hb.grow gq⟩) hgb1 hown1
          have HDI := Lib.hid hdi
          clear hown1 hgb1 hdi
          go_roundw
          case rel => exact ⟨i + 1, m', acc ++ [ev], L', e', _, false, by go_num, by omega, rfl, rfl, by rw [all_snoc, ← HF.out]; rfl, HDI.out⟩
          case measure => simp [intOf] <;> omega
        · skip
          have x0 := HBX.out.cell (i := 0) rfl
          have x1 := HBX.out.cell (i := 1) rfl
          have x2 := HBX.out.cell (i := 2) rfl
          have x3 := HBX.out.cell (i := 3) rfl
          have x4 := HBX.out.cell (i := 4) rfl
          have x5 := HBX.out.cell (i := 5) rfl
          have x6 := HBX.out.cell (i := 6) rfl
          have x7 := HBX.out.cell (i := 7) rfl
          dsimp only
          repeat (first | with_reducible (refine wp_region_cut (k := 9) ?_) | go_values | go_guarded | go_step | go_upon | go_back)
          rw [← HB8.out, ← HW5.out]
          unfold Cut
          go_wp2_with fail
          refine HGO.out.mono ?_
          rintro r w6 ⟨rfl, hg6⟩
          clear x0 x1 x2 x3 x4 x5 x6 x7
          have gq : Grow W5 (w6.alloc (.cells #[.int .u8 (ev.k : Int), .int .u8 (ev.node : Int), .int .u8 (ev.peer : Int), .int .i64 ev.K, .int .i64 ev.at_, .int .u32 (ev.mask : Int), .int .u64 (ev.draw : Int), .slice A4 n4 c4] TE)) := hg6.trans (Grow.alloc _ _)
          have x0 := (HBX.out.grow hg6).cell (i := 0) rfl
          have x1 := (HBX.out.grow hg6).cell (i := 1) rfl
          have x2 := (HBX.out.grow hg6).cell (i := 2) rfl
          have x3 := (HBX.out.grow hg6).cell (i := 3) rfl
          have x4 := (HBX.out.grow hg6).cell (i := 4) rfl
          have x5 := (HBX.out.grow hg6).cell (i := 5) rfl
          have x6 := (HBX.out.grow hg6).cell (i := 6) rfl
          have x7 := (HBX.out.grow hg6).cell (i := 7) rfl
          go_wp2_with (at_builtin; refine wpList_append_row rfl _ _ _ rfl w.heap.size TE _ _ 8 64 Tryd.underlying22 iE iEz iEs iEb rfl (by decide) v la rows.flatten rfl (own_grow HA2.out gq) (some ⟨w6.heap.size, 0, none⟩) 1 1 [.int .u8 (ev.k : Int), .int .u8 (ev.node : Int), .int .u8 (ev.peer : Int), .int .i64 ev.K, .int .i64 ev.at_, .int .u32 (ev.mask : Int), .int .u64 (ev.draw : Int), .slice A4 n4 c4] rfl (Row.new w6 [.int .u8 (ev.k : Int), .int .u8 (ev.node : Int), .int .u8 (ev.peer : Int), .int .i64 ev.K, .int .i64 ev.at_, .int .u32 (ev.mask : Int), .int .u64 (ev.draw : Int), .slice A4 n4 c4] TE (0, 0)) (by intro u hu; simp only [List.mem_cons, List.not_mem_nil, or_false] at hu; rcases hu with rfl | rfl | rfl | rfl | rfl | rfl | rfl | rfl <;> rfl) (by unfold maxLen; omega) (by omega) (Nat.le_trans HG5.out.size gq.size) ?_; intro v1 w1 hown1 hgb1 _)
          have hdi := DecI.app (by decide) (HR5.out.grow gq) (HO5.out.grow gq) (HBO5.out.grow gq) HOK.out (HG5.out.trans gq) HDEC.out HLA.out hlen5 HA1.out (own_grow HA2.out gq) (fun j r e hr he => let ⟨u, hu, hb⟩ := HA3.out j r e hr he; ⟨u, hu, hb.grow gq⟩) hgb1 hown1
          have HDI := Lib.hid hdi
          clear hown1 hgb1 hdi
          go_roundw
          case rel => exact ⟨i + 1, m', acc ++ [ev], L', e', _, gd, by go_num, by omega, rfl, rfl, by rw [all_snoc, ← HF.out, ← HGD.out]; rfl, HDI.out⟩
          case measure => simp [intOf] <;> omega
      · have s1 : ((ei : Int) == 0) = false := beq_false_of_ne (by omega)
        have s2 : (ei == 0) = false := beq_false_of_ne he0
        have hst : decN m Li ei = ([], Li, ei) := decN_stop (by omega)
        have hD : D = acc ∧ L2 = Li ∧ e2 = ei := by
          have h1 := HI.out.d
          rw [← HD.out, hst, List.append_nil] at h1
          injection h1 with h1 h2
          injection h2 with h2 h3
          exact ⟨h1, h2, h3⟩
        obtain ⟨rfl, rfl, rfl⟩ := hD
        have HEND := Lib.hid (ref_end_any wr _ _ g L2 e2 HI.out.r)
        obtain ⟨er, her⟩ : ∃ q, q = rend L2 e2 := ⟨_, rfl⟩
        rw [← her] at HEND HRES
        have HEV := Lib.hid HI.out.o.evV
        have HGR := Lib.hid HI.out.g
        obtain ⟨A5, c5, hv5, -⟩ := HEV.out
        obtain ⟨l5, hl5⟩ : ∃ q, q = D.length := ⟨_, rfl⟩
        rw [← hl5] at hv5
        subst hv5
        clear hst her hl5 he0 hm0
        by_cases h1 : er = 0
        · subst h1
          cases fine
          · have hrs9 : rs = ([], 4) := by rw [HRES.out, if_neg (by decide), if_neg (by rw [← HF.out]; decide)]
            subst hrs9
            go_wp2_with fail
            refine HEND.out.mono ?_
            rintro r w' ⟨rfl, rfl⟩
            go_wp2_with fail
            go_ret2
            exact ⟨⟨_, rfl, EvV.nil _⟩, HGR.out⟩
          · have hrs9 : rs = (D, 0) := by rw [HRES.out, if_neg (by decide), if_pos HF.out.symm]
            subst hrs9
            go_wp2_with fail
            refine HEND.out.mono ?_
            rintro r w' ⟨rfl, rfl⟩
            go_wp2_with fail
            go_ret2
            exact ⟨⟨_, rfl, HEV.out⟩, HGR.out⟩
        · have t9 : (er == 0) = false := beq_false_of_ne h1
          have t9' : ((er : Int) == 0) = false := beq_false_of_ne (by omega)
          have t8 : (er != 0) = true := bne_iff_ne.2 h1
          have t8' : ((er : Int) != 0) = true := bne_iff_ne.2 (by omega)
          have hrs9 : rs = ([], er) := by rw [HRES.out, if_pos h1]
          subst hrs9
          clear h1
          go_wp2_with fail
          refine HEND.out.mono ?_
          rintro r w' ⟨rfl, rfl⟩
          go_wp2_with fail
          refine HEND.out.mono ?_
          rintro r w' ⟨rfl, rfl⟩
          go_wp2_with fail
          go_ret2
          exact ⟨⟨_, rfl, EvV.nil _⟩, HGR.out⟩
    · have t1 : decide (i < M) = false := decide_eq_false (by omega)
      have t1' : decide ((i : Int) < (M : Int)) = false := decide_eq_false (by omega)
      have hst : decN m Li ei = ([], Li, ei) := decN_stop (by omega)
      have hD : D = acc ∧ L2 = Li ∧ e2 = ei := by
        have h1 := HI.out.d
        rw [← HD.out, hst, List.append_nil] at h1
        injection h1 with h1 h2
        injection h2 with h2 h3
        exact ⟨h1, h2, h3⟩
      obtain ⟨rfl, rfl, rfl⟩ := hD
      have HEND := Lib.hid (ref_end_any wr _ _ g L2 e2 HI.out.r)
      obtain ⟨er, her⟩ : ∃ q, q = rend L2 e2 := ⟨_, rfl⟩
      rw [← her] at HEND HRES
      have HEV := Lib.hid HI.out.o.evV
      have HGR := Lib.hid HI.out.g
      obtain ⟨A5, c5, hv5, -⟩ := HEV.out
      obtain ⟨l5, hl5⟩ : ∃ q, q = D.length := ⟨_, rfl⟩
      rw [← hl5] at hv5
      subst hv5
      clear hst her hl5 hm0
      by_cases h1 : er = 0
      · subst h1
        cases fine
        · have hrs9 : rs = ([], 4) := by rw [HRES.out, if_neg (by decide), if_neg (by rw [← HF.out]; decide)]
          subst hrs9
          go_wp2_with fail
          refine HEND.out.mono ?_
          rintro r w' ⟨rfl, rfl⟩
          go_wp2_with fail
          go_ret2
          exact ⟨⟨_, rfl, EvV.nil _⟩, HGR.out⟩
        · have hrs9 : rs = (D, 0) := by rw [HRES.out, if_neg (by decide), if_pos HF.out.symm]
          subst hrs9
          go_wp2_with fail
          refine HEND.out.mono ?_
          rintro r w' ⟨rfl, rfl⟩
          go_wp2_with fail
          go_ret2
          exact ⟨⟨_, rfl, HEV.out⟩, HGR.out⟩
      · have t9 : (er == 0) = false := beq_false_of_ne h1
        have t9' : ((er : Int) == 0) = false := beq_false_of_ne (by omega)
        have t8 : (er != 0) = true := bne_iff_ne.2 h1
        have t8' : ((er : Int) != 0) = true := bne_iff_ne.2 (by omega)
        have hrs9 : rs = ([], er) := by rw [HRES.out, if_pos h1]
        subst hrs9
        clear h1
        go_wp2_with fail
        refine HEND.out.mono ?_
        rintro r w' ⟨rfl, rfl⟩
        go_wp2_with fail
        refine HEND.out.mono ?_
        rintro r w' ⟨rfl, rfl⟩
        go_wp2_with fail
        go_ret2
        exact ⟨⟨_, rfl, EvV.nil _⟩, HGR.out⟩
end Go.Proofs.YtmekdhlcflielaaDoor.ev
