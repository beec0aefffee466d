/- The walk of the document's Decode. -/
import Derived.Test.YtacgfpjoaikfbaaTcX
namespace Go.Proofs.Ytacgfpjoaikfbaa.tc
open Go Go.RowKit Go.Par Go.Kit Vi Go.Proofs.Ytacgfpjoaikfbaa.bfW
open Go.Proofs.Ytacgfpjoaikfbaa.viW hiding i8 i8s i8z i8b info8

theorem rdrx_ne {w : World} {B g : Nat} {K : Nat → Prop} {L : List UInt8} {e : Nat} (h : Rdr TX w B K g L e) {b : Nat} {t : TypeId} {cs : Array Value} {fz : Nat × Nat} (hb : w.heap[b]? = some (Obj.cells cs t fz)) (ht : TX ≠ t) : b ≠ g := fun e9 => by
  subst e9
  obtain ⟨_, _, _, hb9, -⟩ := h
  exact ht (blk_ty hb9 hb)
theorem blk_nty {w : World} {b : Nat} {t t' : TypeId} {cs : List Value} {cs' : Array Value} {fz : Nat × Nat} (h : Blk w b t cs) (ht : t ≠ t') {j : Nat} (hj : w.heap[j]? = some (Obj.cells cs' t' fz)) : j ≠ b := fun e9 => by
  subst e9
  exact ht (blk_ty h hj)
set_option maxRecDepth 100000 in
set_option maxHeartbeats 8000000 in
theorem rdecode_any (w : World) (A : Option Addr) (n c : Nat) (L : List UInt8) (hby : Bytes w A n L) (hc : n ≤ c) (hm : c ≤ maxLen) :
    Calls Try.prog 11 #[.slice A n c] w fun r w' => (∃ v, r = .returned (.tuple #[v, .int .i64 ((decT L).2 : Int)]) ∧ TrV w' v (decT L).1) ∧ Grow w w' := by
  have hn := hby.len
  by_cases hbig : 131072 < n
  · have hres : decT L = ([], 3) := by unfold decT; rw [if_pos (by omega)]
    rw [hres]
    have t1 : decide (131072 < n) = true := decide_eq_true hbig
    have t1' : decide ((131072 : Int) < (n : Int)) = true := decide_eq_true (by omega)
    clear hby hn hc hbig hres
    unfold maxLen at hm
    go_enter Try.func11, Try.ntmps11
    go_wp2_with fail
    go_ret2
    exact ⟨⟨_, rfl, TrV.nil _⟩, Grow.refl w⟩
  · have t1 : decide (131072 < n) = false := decide_eq_false hbig
    have t1' : decide ((131072 : Int) < (n : Int)) = false := decide_eq_false (by omega)
    obtain ⟨g, hg⟩ : ∃ g, g = w.heap.size := ⟨_, rfl⟩
    have hLL : L.length ≤ 131072 := by omega
    obtain ⟨W1, hW1⟩ : ∃ W, W = w.alloc (.cells #[.slice A n c, .int .i64 0] TX) := ⟨_, rfl⟩
    have hg1 : Grow w W1 := by rw [hW1]; exact Grow.alloc _ _
    have hbx1 : Blk W1 g TX [.slice A n c, .int .i64 ((0 : Nat) : Int)] := by rw [hW1]; exact Blk.new _ _ _ _ rfl hg
    have hrd1 : Rdr TX W1 g (fun i => i ≠ g) g L 0 := ⟨A, n, c, hbx1, hc, hm, hby.grow hg1, fun h0 => by rw [hg]; exact Row.ltB (show Row w A n _ from hby) h0, Nat.le_refl _, fun h => h rfl⟩
    obtain ⟨⟨M, L1, e1⟩, hr1⟩ : ∃ r, r = rnum L 0 L.length := ⟨_, rfl⟩
    have hnm := ref_num_any W1 g (fun i => i ≠ g) g L 0 hrd1 L.length
    have hM : M ≤ L.length := by have := rnum_le L 0 L.length; rw [← hr1] at this; exact this
    have hL1 : L1.length ≤ 131072 := by have := rnum_len L 0 L.length; rw [← hr1] at this; exact Nat.le_trans this hLL
    obtain ⟨⟨D, L2, e2⟩, hd⟩ : ∃ r, r = decF M L1 e1 := ⟨_, rfl⟩
    have hres : decT L = if rend L2 e2 ≠ 0 then ([], rend L2 e2) else (D, 0) := by
      unfold decT
      rw [if_neg (by omega)]
      dsimp only
      rw [← hr1]
      dsimp only
      rw [← hd]
    rw [← hr1] at hnm
    obtain ⟨rs, hrs⟩ : ∃ r, r = decT L := ⟨_, rfl⟩
    rw [← hrs]
    rw [← hrs] at hres
    rw [hn] at hnm hM
    have hM' : M ≤ 131072 := by omega
    have hn' : n ≤ 131072 := by omega
    have HRES := Lib.hid hres
    have HD := Lib.hid hd
    have HG := Lib.hid hg
    have HW1 := Lib.hid hW1
    have HG1 := Lib.hid hg1
    have HNM := Lib.hid hnm
    have HL1 := Lib.hid hL1
    have HM := Lib.hid hM'
    have HGW : Hid (g ≤ W1.heap.size) := Lib.hid (Nat.le_of_lt hbx1.lt)
    clear hby hn hc hm hres hd hg hrs hLL hbig hW1 hg1 hbx1 hrd1 hnm hM hL1 hr1
    go_enter Try.func11, Try.ntmps11
    try dsimp only
    repeat (first | with_reducible (refine wp_region_cut (k := 4) ?_) | go_values | go_guarded | go_step | go_upon | go_back)
    rw [← HW1.out, ← HG.out]
    unfold Cut
    go_wp2_with fail
    refine HNM.out.mono ?_
    rintro r w2 ⟨rfl, hr2, hk2⟩
    have hfi : FI TX W1 w2 g g M L1 e1 M [] L1 e1 (.slice none 0 0) := ⟨hr2, OutF.nil _ _, by simp, by simp, hk2.less fun i hi => hi.1, HL1.out⟩
    have HFI := Lib.hid hfi
    clear hr2 hk2 hfi HNM t1 t1' hn'
    go_wp2_with fail
    go_loopw [6, 7] (fun o' i' wr => ∃ (k m : Nat) (acc : List Fil) (Li : List UInt8) (ei : Nat) (v : Value), i' = .int .i64 (k : Int) ∧ k = acc.length ∧ v = o' ∧ FI TX W1 wr g g M L1 e1 m acc Li ei v) (fun _ i' _ => M - (intOf i').toNat)
    case atStart => exact ⟨0, M, [], L1, e1, _, rfl, rfl, rfl, HFI.out⟩
    case round =>
      clear HFI
      obtain ⟨k, m, acc, Li, ei, v, rfl, hka, rfl, hI⟩ := hrel
      have HI := Lib.hid hI
      have hkM : k + m = M := by rw [hka]; exact hI.n
      obtain ⟨A5, n5, c5, hbk5, -⟩ := hI.r
      have cc := hbk5.cell (i := 1) rfl
      have HKA := Lib.hid hka
      clear hI hbk5 hka
      by_cases hst : m = 0 ∨ ei ≠ 0
      · have hd := HD.out
        rw [HI.out.d, decF_stop hst, List.append_nil] at hd
        injection hd with h1 h2
        injection h2 with h2 h3
        have hend : TrV wr v D ∧ Rdr TX wr g (fun i => i ≠ g) g L2 e2 ∧ Grow w wr := by
          rw [h1, h2, h3]
          exact ⟨HI.out.o.trV, HI.out.r, (HI.out.k.of_more (K := fun i => i ≠ g ∧ i < W1.heap.size) (fun i hi hl => hi)).grow HG1.out HG.out⟩
        have HREND := Lib.hid (ref_end_any wr _ _ g L2 e2 hend.2.1)
        have HTV := Lib.hid hend.1
        have HGR := Lib.hid hend.2.2
        obtain ⟨A5, c5, rfl, -⟩ := hend.1
        obtain ⟨er, her⟩ : ∃ q, q = rend L2 e2 := ⟨_, rfl⟩
        rw [← her] at HREND HRES
        obtain ⟨l5, hl5⟩ : ∃ q, q = D.length := ⟨_, rfl⟩
        rw [← hl5] at HTV ⊢
        have t0 : (decide (k < M) = true ∧ decide ((k : Int) < (M : Int)) = true ∧ ((ei : Int) == 0) = false ∧ (ei == 0) = false) ∨ (decide (k < M) = false ∧ decide ((k : Int) < (M : Int)) = false) := by
          by_cases hm0 : k < M
          · exact .inl ⟨decide_eq_true hm0, decide_eq_true (by omega), beq_false_of_ne (by omega), beq_false_of_ne (by omega)⟩
          · exact .inr ⟨decide_eq_false hm0, decide_eq_false (by omega)⟩
        clear h1 h2 h3 hend her hl5 hst hkM
        by_cases h1 : er = 0
        · subst h1
          have hrs9 : rs = (D, 0) := by rw [HRES.out, if_neg (by decide)]
          subst hrs9
          rcases t0 with ⟨t1, t1', s1, s2⟩ | ⟨t1, t1'⟩
          all_goals
            go_wp2_with fail
            refine HREND.out.mono ?_
            rintro r w' ⟨rfl, rfl⟩
            go_wp2_with fail
            go_ret2
            exact ⟨⟨_, rfl, HTV.out⟩, HGR.out⟩
        · have t9 : (er == 0) = false := beq_false_of_ne h1
          have t9' : ((er : Int) == 0) = false := beq_false_of_ne (by omega)
          have t8 : (er != 0) = true := bne_iff_ne.2 h1
          have t8' : ((er : Int) != 0) = true := bne_iff_ne.2 (by omega)
          have hrs9 : rs = ([], er) := by rw [HRES.out, if_pos h1]
          subst hrs9
          clear h1
          rcases t0 with ⟨t1, t1', s1, s2⟩ | ⟨t1, t1'⟩
          all_goals
            go_wp2_with fail
            refine HREND.out.mono ?_
            rintro r w' ⟨rfl, rfl⟩
            go_wp2_with fail
            refine HREND.out.mono ?_
            rintro r w' ⟨rfl, rfl⟩
            go_wp2_with fail
            go_ret2
            exact ⟨⟨_, rfl, TrV.nil _⟩, HGR.out⟩
      · obtain rfl : ei = 0 := by omega
        obtain ⟨m', rfl⟩ : ∃ m', m = m' + 1 := ⟨m - 1, by omega⟩
        have t1 : decide (k < M) = true := decide_eq_true (by omega)
        have t1' : decide ((k : Int) < (M : Int)) = true := decide_eq_true (by omega)
        obtain ⟨⟨t, La, ea⟩, ht⟩ : ∃ r, r = rtext Li 0 131072 := ⟨_, rfl⟩
        obtain ⟨⟨al, Lb, eb⟩, ha⟩ : ∃ r, r = rdTxs La ea := ⟨_, rfl⟩
        obtain ⟨⟨li, Lc, ec⟩, hl⟩ : ∃ r, r = rdTxs Lb eb := ⟨_, rfl⟩
        have hfil : rdFil Li 0 = (⟨t, al, li⟩, Lc, ec) := by
          unfold rdFil
          rw [← ht]
          dsimp only
          rw [← ha]
          dsimp only
          rw [← hl]
        have hl1 : La.length ≤ 131072 := by have := rtext_len Li 0 131072; rw [← ht] at this; exact Nat.le_trans this HI.out.l
        have hl2 : Lb.length ≤ 131072 := by have := rdTxs_len La ea; rw [← ha] at this; exact Nat.le_trans this hl1
        have hl3 : Lc.length ≤ 131072 := by have := rdTxs_len Lb eb; rw [← hl] at this; exact Nat.le_trans this hl2
        obtain ⟨b3, hb3⟩ : ∃ b3, b3 = wr.heap.size := ⟨_, rfl⟩
        obtain ⟨W3, hW3⟩ : ∃ W, W = wr.alloc (.cells #[.string ⟨#[]⟩, .slice none 0 0, .slice none 0 0] TF) := ⟨_, rfl⟩
        have hg3 : Grow wr W3 := by rw [hW3]; exact Grow.alloc _ _
        have hbx3 : Blk W3 b3 TF [.string ⟨#[]⟩, .slice none 0 0, .slice none 0 0] := by rw [hW3]; exact Blk.new _ _ _ _ rfl hb3
        have hgl := HI.out.r.lt
        have hszr : W1.heap.size ≤ wr.heap.size := HI.out.k.size
        have hr3 := HI.out.r.grow hg3
        have htc := ref_text_any W3 g (fun i => i ≠ g) g Li 0 hr3 131072 (by decide)
        rw [← ht] at htc
        have HTC := Lib.hid htc
        have HTT := Lib.hid ht
        have HTA := Lib.hid ha
        have HTL := Lib.hid hl
        have HFIL := Lib.hid hfil
        have hk9 : k ≤ 131072 := by omega
        have HKM := Lib.hid hkM
        have HW3 := Lib.hid hW3
        have HB3 := Lib.hid hb3
        have HN3 : Hid (b3 ≠ g) := Lib.hid (by omega)
        have HGB : Hid (g ≤ b3) := Lib.hid (by omega)
        have HWB : Hid (W1.heap.size ≤ b3) := Lib.hid (by omega)
        have HL1' := Lib.hid hl1
        have HL2 := Lib.hid hl2
        have HL3 := Lib.hid hl3
        have HBX3 := Lib.hid hbx3
        have HK3 : Hid (Keep g (fun i => i ≠ g ∧ i ≠ b3) wr W3) := Lib.hid (Keep.of hg3 (by omega))
        clear htc ht ha hl hfil hst hkM hW3 hb3 hg3 hbx3 hgl hszr hr3 hl1 hl2 hl3
        rw [show ((0 : Nat) : Int) = 0 from rfl] at cc
        try dsimp only
        repeat (first | with_reducible (refine wp_region_cut (k := 10) ?_) | go_values | go_guarded | go_step | go_upon | go_back)
        rw [← HW3.out, ← HB3.out]
        unfold Cut
        go_wp2_with fail
        refine HTC.out.mono ?_
        rintro r w4 ⟨rfl, hr4, hk4⟩
        have hbx4 := hk4.blk HBX3.out HN3.out
        have f0 := hbx4.free 0
        have q0 := hbx4.cell (i := 0) rfl
        obtain ⟨W5, hW5⟩ : ∃ W, W = w4.setCell ⟨b3, 0, none⟩ (.string (str t)) := ⟨_, rfl⟩
        have hkS : Keep g (fun i => i ≠ b3) w4 W5 := by rw [hW5]; exact (Keep.refl w4).setCell HGB.out (fun hn => hn rfl) _
        have hbx5 : Blk W5 b3 TF [.string (str t), .slice none 0 0, .slice none 0 0] := by rw [hW5]; exact hbx4.set_ 0 _
        have hk5 : Keep g (fun i => i ≠ g ∧ i ≠ b3) wr W5 := (HK3.out.trans (hk4.less fun i hi => hi.1)).trans (hkS.less fun i hi => hi.2)
        have hr5 := hr4.keep hkS (fun e9 => HN3.out e9.symm)
        have hla := rlist_any W5 g g La ea hr5 HL1'.out
        rw [← HTA.out] at hla
        have HLA := Lib.hid hla
        have HW5 := Lib.hid hW5
        have HBX5 := Lib.hid hbx5
        have HK5 := Lib.hid hk5
        clear hr4 hk4 hbx4 hW5 hkS hbx5 hk5 hr5 hla HTC cc
        dsimp only
        repeat (first | with_reducible (refine wp_region_cut (k := 11) ?_) | go_values | go_guarded | go_step | go_upon | go_back)
        rw [← HW5.out]
        clear f0 q0
        unfold Cut
        go_wp2_with fail
        refine HLA.out.mono ?_
        rintro r w6 ⟨v6, rfl, ho6, hr6, hk6⟩
        obtain ⟨A6, c6, rfl, p1, p2, p3, p4⟩ := own_so ho6
        have hso : SO w6 (.slice A6 al.length c6) al := ⟨A6, c6, rfl, p1, p2, p3, p4⟩
        obtain ⟨na, hna⟩ : ∃ na, na = al.length := ⟨_, rfl⟩
        rw [← hna] at hso ⊢
        have hbx6 := hk6.blk HBX5.out HN3.out
        have f1 := hbx6.free 1
        have q1 := hbx6.cell (i := 1) rfl
        obtain ⟨W7, hW7⟩ : ∃ W, W = w6.setCell ⟨b3, 1, none⟩ (.slice A6 na c6) := ⟨_, rfl⟩
        have hkS : Keep g (fun i => i ≠ b3) w6 W7 := by rw [hW7]; exact (Keep.refl w6).setCell HGB.out (fun hn => hn rfl) _
        have hbx7 : Blk W7 b3 TF [.string (str t), .slice A6 na c6, .slice none 0 0] := by rw [hW7]; exact hbx6.set_ 1 _
        have hk7 : Keep g (fun i => i ≠ g ∧ i ≠ b3) wr W7 := (HK5.out.trans (hk6.less fun i hi => hi.1)).trans (hkS.less fun i hi => hi.2)
        have hr7 := hr6.keep hkS (fun e9 => HN3.out e9.symm)
        have hso7 := hso.keep hkS fun j cs fz hj => blk_nty hbx6 (by decide) hj
        have hla := rlist_any W7 g g Lb eb hr7 HL2.out
        rw [← HTL.out] at hla
        have HLA2 := Lib.hid hla
        have HR7 := Lib.hid hr7
        have HW7 := Lib.hid hW7
        have HBX7 := Lib.hid hbx7
        have HK7 := Lib.hid hk7
        have HSO7 := Lib.hid hso7
        clear ho6 hr6 hk6 p1 p2 p3 p4 hso hna hbx6 hW7 hkS hbx7 hk7 hr7 hso7 hla HLA
        dsimp only
        repeat (first | with_reducible (refine wp_region_cut (k := 12) ?_) | go_values | go_guarded | go_step | go_upon | go_back)
        rw [← HW7.out]
        clear f1 q1
        unfold Cut
        go_wp2_with fail
        refine HLA2.out.mono ?_
        rintro r w8 ⟨v8, rfl, ho8, hr8, hk8⟩
        obtain ⟨A8, c8, rfl, p1, p2, p3, p4⟩ := own_so ho8
        have hso : SO w8 (.slice A8 li.length c8) li := ⟨A8, c8, rfl, p1, p2, p3, p4⟩
        obtain ⟨nl, hnl⟩ : ∃ nl, nl = li.length := ⟨_, rfl⟩
        rw [← hnl] at hso ⊢
        have hbx8 := hk8.blk HBX7.out HN3.out
        have f2 := hbx8.free 2
        have q2 := hbx8.cell (i := 2) rfl
        obtain ⟨W9, hW9⟩ : ∃ W, W = w8.setCell ⟨b3, 2, none⟩ (.slice A8 nl c8) := ⟨_, rfl⟩
        have hkS : Keep g (fun i => i ≠ b3) w8 W9 := by rw [hW9]; exact (Keep.refl w8).setCell HGB.out (fun hn => hn rfl) _
        have hbx9 : Blk W9 b3 TF [.string (str t), .slice A6 na c6, .slice A8 nl c8] := by rw [hW9]; exact hbx8.set_ 2 _
        have hk9' : Keep g (fun i => i ≠ g ∧ i ≠ b3) wr W9 := (HK7.out.trans (hk8.less fun i hi => hi.1)).trans (hkS.less fun i hi => hi.2)
        have hr9 := hr8.keep hkS (fun e9 => HN3.out e9.symm)
        have hsl := hso.keep hkS fun j cs fz hj => blk_nty hbx8 (by decide) hj
        have hsa := (HSO7.out.keep hk8 fun j cs fz hj => rdrx_ne HR7.out hj (by decide)).keep hkS fun j cs fz hj => blk_nty hbx8 (by decide) hj
        have hof : OutF W9 W1.heap.size v acc := HI.out.o.keep hk9' (fun j cs hj _ => ⟨rdrx_ne HI.out.r hj (by decide), by have := hj.lt; have := HB3.out; omega⟩) (fun j cs fz hj => ⟨rdrx_ne HI.out.r hj (by decide), by have := (Array.getElem?_eq_some_iff.1 hj).1; have := HB3.out; omega⟩)
        have gq : Grow W9 (W9.alloc (.cells #[.string (str t), .slice A6 na c6, .slice A8 nl c8] TF)) := Grow.alloc _ _
        have hsz9 : wr.heap.size ≤ W9.heap.size := hk9'.size
        have hszr : W1.heap.size ≤ wr.heap.size := HI.out.k.size
        obtain ⟨rows, a1, a2, a3⟩ := hof.grow gq
        have d0 := hbx9.cell (i := 0) rfl
        have d1 := hbx9.cell (i := 1) rfl
        have d2 := hbx9.cell (i := 2) rfl
        rw [← HKA.out] at a2
        have HA1 := Lib.hid a1
        have HA2 := Lib.hid a2
        have HA3 := Lib.hid a3
        have HSL := Lib.hid hsl
        have HSA := Lib.hid hsa
        have HR9 := Lib.hid hr9
        have HK9 := Lib.hid hk9'
        have HW9 := Lib.hid hW9
        have HSZ := Lib.hid (Nat.le_trans hszr hsz9)
        have GQ := Lib.hid gq
        clear ho8 hr8 hk8 p1 p2 p3 p4 hso hnl hbx8 hW9 hkS hbx9 hk9' hr9 hsl hsa hof gq hsz9 hszr a1 a2 a3 HLA2
        dsimp only
        repeat (first | with_reducible (refine wp_region_cut (k := 13) ?_) | go_values | go_guarded | go_step | go_upon | go_back)
        rw [← HW9.out]
        clear f2 q2
        unfold Cut
        go_wp2_with (at_builtin; refine wpList_append_row rfl _ _ _ rfl W1.heap.size TF _ _ 3 64 Try.underlying22 iF iFz iFs iFb rfl (by decide) v k rows.flatten rfl HA2.out (some ⟨W9.heap.size, 0, none⟩) 1 1 [.string (str t), .slice A6 na c6, .slice A8 nl c8] rfl (Row.new W9 [.string (str t), .slice A6 na c6, .slice A8 nl c8] TF (0, 0)) (by intro u hu; simp only [List.mem_cons, List.not_mem_nil, or_false] at hu; rcases hu with rfl | rfl | rfl <;> rfl) (by have := HM.out; unfold maxLen; omega) (by have := HM.out; omega) (Nat.le_trans HSZ.out GQ.out.size) ?_; intro v1 w1 hown1 hgb1 _; obtain ⟨Av, cv, rfl, -, -, -⟩ := own_form hown1)
        have hob : ∀ k, v.ownBlock = some k → W1.heap.size ≤ k ∧ k ≠ g := fun k hk => by
          refine ⟨own_base HA2.out k hk, fun e9 => ?_⟩
          obtain ⟨cs, hb⟩ := own_blkF HA2.out hk
          exact rdrx_ne (HR9.out.grow GQ.out) hb (by decide) e9
        have hszq := Nat.le_trans HGW.out (Nat.le_trans HSZ.out GQ.out.size)
        have hk1 : Keep g (fun j => v.ownBlock ≠ some j) (W9.alloc (.cells #[.string (str t), .slice A6 na c6, .slice A8 nl c8] TF)) w1 := Keep.by_ (Keep.refl _) hszq hgb1 fun k hk => ⟨Nat.le_trans HGW.out (hob k hk).1, fun hn => hn hk⟩
        have hfi : FI TX W1 w1 g g M L1 e1 m' (acc ++ [⟨t, al, li⟩]) Lc ec (.slice Av (k + 1) cv) := by
          refine ⟨(HR9.out.grow GQ.out).keep hk1 fun e9 => (hob g e9).2 rfl, ?_, by rw [List.length_append, List.length_singleton, ← HKA.out]; have := HKM.out; omega, ?_, ?_, HL3.out⟩
          · exact OutF.app (e := ⟨t, al, li⟩) (HSA.out.grow GQ.out) (HSL.out.grow GQ.out) HKA.out HA1.out HA2.out HA3.out hgb1 hown1
          · rw [HI.out.d, decF_step, HFIL.out]
            dsimp only
            rw [List.append_assoc]
            rfl
          · exact Keep.by_ ((HI.out.k.trans (HK9.out.less fun i hi => ⟨hi.1, fun e9 => by have := HWB.out; have := hi.2; omega⟩)).trans (Keep.of GQ.out (Nat.le_trans HGW.out HSZ.out))) hszq hgb1 fun k hk => ⟨Nat.le_trans HGW.out (hob k hk).1, fun hn => by have := (hob k hk).1; have := hn.2; omega⟩
        have HFI := Lib.hid hfi
        clear hown1 hgb1 hob hszq hk1 hfi
        go_roundw
        case rel => exact ⟨k + 1, m', acc ++ [⟨t, al, li⟩], Lc, ec, _, by go_num, by rw [List.length_append, List.length_singleton, HKA.out], rfl, HFI.out⟩
        case measure => have := HKM.out; simp [intOf] <;> omega
end Go.Proofs.Ytacgfpjoaikfbaa.tc
