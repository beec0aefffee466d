/- The document's Decode. -/
import Derived.Test.YthclgmpjmhacdaaTgY2
import Derived.Test.YthclgmpjmhacdaaTgR2
import Derived.Test.YthclgmpjmhacdaaTgL
namespace Go.Proofs.Ythclgmpjmhacdaa.tg
open Go Go.RowKit Go.Par Go.Kit Vi Go.Proofs.Ythclgmpjmhacdaa.bfW
open Go.Proofs.Ythclgmpjmhacdaa.viW hiding i8 i8s i8z i8b info8

theorem decRV_ok : ∀ (m : Nat) (L : List UInt8) (e : Nat) (v : List Int) (f : Bool) (la : Nat), VecOk v → VecOk (decRV m L e v f la).1.1
  | 0, _, _, _, _, _, h => h
  | m + 1, L, e, v, f, la, h => by
    by_cases he : e = 0
    · subst he
      obtain ⟨⟨a, L3, e3⟩, h1⟩ : ∃ r, r = rbyte L 0 64 := ⟨_, rfl⟩
      obtain ⟨⟨k, L4, e4⟩, h2⟩ : ∃ r, r = rnum L3 e3 60000 := ⟨_, rfl⟩
      have hk : k ≤ 60000 := by have := rnum_le L3 e3 60000; rw [← h2] at this; exact this
      rw [decRV_step h1.symm h2.symm]
      refine decRV_ok m L4 e4 _ _ _ ?_
      split
      · exact set_ok h _ _ (by omega)
      · exact h
    · rw [decRV_stop (.inr he)]; exact h
theorem rvecR_ok (L : List UInt8) (e : Nat) (f : Bool) : VecOk (rvecR L e f).1.1 := decRV_ok _ _ _ _ _ _ vec_zero
structure DecRI (w wr : World) (g : Nat) (T : List Tag) (Li : List UInt8) (ei : Nat) (v : Value) (l : Nat) : Prop where
  r : Rdr TX wr w.heap.size (fun i => i ≠ g) g Li ei
  o : wr.ownsRow (g + 1) TRT 65 v l (trows T)
  l : l = T.length
  g : Grow w wr
  ok : ∀ t ∈ T, VecOk t.2 ∧ t.1.length ≤ 16
structure VecRI (Wm wr : World) (B g b9 : Nat) (nm : ByteArray) (v : List Int) (Li : List UInt8) (ei : Nat) : Prop where
  r : Rdr TX wr B (fun i => i ≠ g) g Li ei
  x : Blk wr b9 TRT (.string nm :: ints .u16 v)
  ok : VecOk v
  k : Keep B (fun i => i ≠ g ∧ i ≠ b9) Wm wr
set_option maxRecDepth 100000 in
set_option maxHeartbeats 8000000 in
theorem rdecode_any (w : World) (A : Option Addr) (n c : Nat) (L : List UInt8) (hby : Bytes w A n L) (hc : n ≤ c) (hm : c ≤ maxLen) :
    Calls Try.prog 8 #[.slice A n c] w fun r w' => (∃ v, r = .returned (.tuple #[v, .int .i64 (errR L : Int)]) ∧ RT w' v (if errR L = 0 then (decR L).1.1 else [])) ∧ Grow w w' := by
  obtain ⟨g, hg⟩ : ∃ g, g = w.heap.size := ⟨_, rfl⟩
  obtain ⟨W1, hW1⟩ : ∃ W, W = w.alloc (.cells #[.slice A n c, .int .i64 0] TX) := ⟨_, rfl⟩
  have hg1 : Grow w W1 := by rw [hW1]; exact Grow.alloc _ _
  have hrd' : Rdr TX W1 w.heap.size (fun i => i ≠ g) g L 0 := ⟨A, n, c, by rw [hW1]; exact Blk.new _ _ _ _ rfl hg, hc, hm, hby.grow hg1, lt_of_bytes hby, by omega, fun hn => hn rfl⟩
  obtain ⟨⟨M, L1, e1⟩, hr1⟩ : ∃ r, r = rnum L 0 32 := ⟨_, rfl⟩
  have hM : M ≤ 32 := by have := rnum_le L 0 32; rw [← hr1] at this; exact this
  obtain ⟨⟨⟨T9, f9⟩, L9, e9⟩, hres⟩ : ∃ r, r = decR L := ⟨_, rfl⟩
  have hres2 : decRT M L1 e1 [] true = ((T9, f9), L9, e9) := by rw [hres]; unfold decR; rw [← hr1]
  obtain ⟨er, her⟩ : ∃ er, er = errR L := ⟨_, rfl⟩
  have her2 : er = if rend L9 e9 ≠ 0 then rend L9 e9 else if f9 then 0 else 4 := by rw [her]; unfold errR; rw [← hres]
  rw [← hres, ← her]
  have hnm := ref_num_any W1 w.heap.size (fun i => i ≠ g) g L 0 hrd' 32
  rw [← hr1] at hnm
  have HNM := Lib.hid hnm
  have HRES := Lib.hid hres2
  have HER := Lib.hid her2
  have HG := Lib.hid hg
  have HW1 := Lib.hid hW1
  have HG1 := Lib.hid hg1
  have HGS : Hid (g + 1 ≤ W1.heap.size) := Lib.hid (by rw [hW1, hg]; simp)
  clear hby hm hc hres2 her2 hr1 hres her hg hW1 hg1 hrd' hnm
  dsimp only
  go_enter Try.func8, Try.ntmps8
  go_wp2_with fail
  rw [← HW1.out, ← HG.out]
  refine HNM.out.mono ?_
  rintro r w2 ⟨rfl, hr2, hk2⟩
  have hdi : DecRI w w2 g [] L1 e1 (.slice none 0 0) 0 := ⟨hr2, World.ownsRow_nil _ _ _ _, rfl, hk2.grow HG1.out rfl, fun t ht => by cases ht⟩
  have HDI := Lib.hid hdi
  have HGS2 : Hid (g + 1 ≤ w2.heap.size) := Lib.hid (Nat.le_trans HGS.out hk2.size)
  clear hr2 hk2 hdi HNM
  go_wp2_with fail
  go_loopw [6, 7, 8] (fun o' f' i' wr => ∃ (i : Nat) (T : List Tag) (Li : List UInt8) (ei : Nat) (v : Value) (f : Bool), i' = .int .i64 (i : Int) ∧ i ≤ M ∧ v = o' ∧ f' = .bool f ∧ decRT (M - i) Li ei T f = ((T9, f9), L9, e9) ∧ DecRI w wr g T Li ei v i ∧ g + 1 ≤ wr.heap.size) (fun _ _ i' _ => M - (intOf i').toNat)
  case atStart => exact ⟨0, [], L1, e1, _, true, rfl, by omega, rfl, rfl, HRES.out, HDI.out, HGS2.out⟩
  case round =>
    clear HDI HG1 HGS HGS2 HW1
    obtain ⟨i, T, Li, ei, v, f, rfl, hi, rfl, rfl, hd, hI, hgs⟩ := hrel
    obtain ⟨wa, rfl⟩ : ∃ wa, wa = wr := ⟨_, rfl⟩
    have HI := Lib.hid hI
    have HD := Lib.hid hd
    have HGS := Lib.hid hgs
    have ce : wa.cell? ⟨g, 1, none⟩ = some (.int .i64 (ei : Int)) := by
      obtain ⟨_, _, _, hb9, -⟩ := hI.r
      exact hb9.cell (i := 1) rfl
    obtain ⟨A5, c5, rfl, -⟩ := own_form hI.o
    clear hd hI hgs
    by_cases hst : i = M ∨ ei ≠ 0
    · have hd := HD.out
      rw [decRT_stop (by rcases hst with h | h; · exact .inl (by omega)
                         · exact .inr h)] at hd
      injection hd with h1 h2
      injection h1 with h1 h4
      injection h2 with h2 h3
      subst h1 h4 h2 h3
      have HEN0 := ref_end_any wa _ _ g Li ei HI.out.r
      obtain ⟨z, hz⟩ : ∃ z, z = rend Li ei := ⟨_, rfl⟩
      rw [← hz] at HEN0 HER
      have HEN := Lib.hid HEN0
      have HGR := Lib.hid HI.out.g
      have HRT := Lib.hid (RT.own HI.out.o rfl HI.out.l)
      have hsp : (decide (i < M) = true ∧ decide ((i : Int) < (M : Int)) = true ∧ (ei == 0) = false ∧ ((ei : Int) == 0) = false) ∨ (decide (i < M) = false ∧ decide ((i : Int) < (M : Int)) = false) := by
        by_cases hj2 : i < M
        · exact .inl ⟨decide_eq_true hj2, decide_eq_true (by omega), beq_false_of_ne (by omega), beq_false_of_ne (by omega)⟩
        · exact .inr ⟨decide_eq_false hj2, decide_eq_false (by omega)⟩
      clear HEN0 hz hst HD HRES hi
      by_cases hz : z = 0
      · subst hz
        cases f
        · have he0 : er = 4 := HER.out
          subst he0
          rcases hsp with ⟨t2, t2', s1, s2⟩ | ⟨t2, t2'⟩
          all_goals
            go_wp2_with fail
            refine HEN.out.mono ?_
            rintro r w' ⟨rfl, rfl⟩
            go_wp2_with fail
            go_ret2
            exact ⟨⟨_, rfl, RT.nil _⟩, HGR.out⟩
        · have he0 : er = 0 := HER.out
          subst he0
          rcases hsp with ⟨t2, t2', s1, s2⟩ | ⟨t2, t2'⟩
          all_goals
            go_wp2_with fail
            refine HEN.out.mono ?_
            rintro r w' ⟨rfl, rfl⟩
            go_wp2_with fail
            go_ret2
            exact ⟨⟨_, rfl, HRT.out⟩, HGR.out⟩
      · have t9 : (z == 0) = false := beq_false_of_ne hz
        have t9' : ((z : Int) == 0) = false := beq_false_of_ne (by omega)
        have he0 : er = z := HER.out.trans (if_pos hz)
        have HZ := Lib.hid hz
        subst he0
        clear hz
        rcases hsp with ⟨t2, t2', s1, s2⟩ | ⟨t2, t2'⟩
        all_goals
          go_wp2_with fail
          refine HEN.out.mono ?_
          rintro r w' ⟨rfl, rfl⟩
          go_wp2_with fail
          refine HEN.out.mono ?_
          rintro r w' ⟨rfl, rfl⟩
          go_wp2_with fail
          go_ret2
          exact ⟨⟨_, rfl, by first | exact RT.nil _ | (rw [if_neg HZ.out]; exact RT.nil _)⟩, HGR.out⟩
    · obtain rfl : ei = 0 := by omega
      have t1 : decide (i < M) = true := decide_eq_true (by omega)
      have t1' : decide ((i : Int) < (M : Int)) = true := decide_eq_true (by omega)
      have hsl := rtext_len Li 0
      obtain ⟨⟨s, L3, e3⟩, hra⟩ : ∃ r, r = rtext Li 0 16 := ⟨_, rfl⟩
      rw [← hra] at hsl
      have hvo := rvecR_ok L3 e3 f
      obtain ⟨⟨⟨rv, rf⟩, L4, e4⟩, hrk⟩ : ∃ r, r = rvecR L3 e3 f := ⟨_, rfl⟩
      rw [← hrk] at hvo
      dsimp only at hsl hvo
      have htx := ref_text_any wa w.heap.size (fun i => i ≠ g) g Li 0 HI.out.r 16 (by decide)
      rw [← hra] at htx
      dsimp only at htx
      have HTX := Lib.hid htx
      obtain ⟨⟨MM, L5, e5⟩, hrn⟩ : ∃ r, r = rnum L3 e3 64 := ⟨_, rfl⟩
      have hMM : MM ≤ 64 := by have := rnum_le L3 e3 64; rw [← hrn] at this; exact this
      have HNUM : Hid (∀ wz, Rdr TX wz w.heap.size (fun i => i ≠ g) g L3 e3 → Calls Try.prog 32 #[.pointer (some ⟨g, 0, none⟩), .int .u64 64] wz fun r w' => r = .returned (.int .u64 (MM : Int)) ∧ Rdr TX w' w.heap.size (fun i => i ≠ g) g L5 e5 ∧ Keep w.heap.size (fun i => i ≠ g) wz w') := Lib.hid fun wz hz => by
        have := ref_num_any wz w.heap.size (fun i => i ≠ g) g L3 e3 hz 64
        rw [← hrn] at this
        exact this
      have HDV : Hid (decRV MM L5 e5 (List.replicate 64 0) f 0 = ((rv, rf), L4, e4)) := Lib.hid (by rw [hrk]; unfold rvecR; rw [← hrn])
      have HDD : Hid (decRT (M - (i + 1)) L4 e4 (T ++ [(s, rv)]) (rf && nameB s && lastLt T s) = ((T9, f9), L9, e9)) := Lib.hid (by
        rw [← HD.out, show M - i = (M - (i + 1)) + 1 by omega, decRT_step hra.symm hrk.symm])
      have HSL := Lib.hid hsl
      have HVO := Lib.hid hvo
      have hiM : i < M := by omega
      clear hst hra hrk hrn htx hsl hvo hi
      go_wp2_with fail
      refine HTX.out.mono ?_
      rintro r w4 ⟨rfl, hr4, hk4⟩
      obtain ⟨nm, hnm⟩ : ∃ nm, nm = str s := ⟨_, rfl⟩
      rw [← hnm]
      have HNMS := Lib.hid hnm
      have HR4 := Lib.hid hr4
      have HK4 := Lib.hid hk4
      clear hr4 hk4 hnm HTX ce
      go_wp2_with (refine store_blk rfl _ _ _ rfl w4.heap.size (.string nm :: List.replicate 64 (.int .u16 0)) rfl rfl TRT _ (Blk.new _ _ _ _ rfl rfl) (by rw [sizeRT]; rfl) rfl rfl ?_)
      refine calls_named ?_
      intro W5 hW5
      have hg5 : Grow w4 W5 := by rw [hW5]; exact Grow.setRow (Grow.alloc _ _) (Nat.le_refl _) _
      obtain ⟨b9, hb9⟩ : ∃ b, b = w4.heap.size := ⟨_, rfl⟩
      have hbx : Blk W5 b9 TRT (.string nm :: ints .u16 (List.replicate 64 0)) := by rw [hW5, hb9]; exact (Blk.new w4 _ _ _ rfl rfl).setRow _
      rw [← hb9]
      clear hW5
      have ho4 := HK4.out.own HI.out.o (fun k hk => by have := own_base HI.out.o k hk; show k ≠ g; omega)
      have HO5 := Lib.hid (own_grow ho4 hg5)
      have HOB : Hid (∀ k, (Value.slice A5 i c5).ownBlock = some k → k ≠ g ∧ k ≠ b9) := Lib.hid fun k hk => ⟨by have := own_base HI.out.o k hk; omega, by have := ho4.lt k hk; omega⟩
      have HB9 : Hid (b9 ≠ g ∧ w.heap.size ≤ b9) := Lib.hid (by
        have h1 := HGS.out
        have h2 := HK4.out.size
        have h3 := HI.out.r.lt
        omega)
      have HR5 := Lib.hid (HR4.out.grow hg5)
      have HG5 := Lib.hid ((HK4.out.grow HI.out.g rfl).trans hg5)
      have HBX := Lib.hid hbx
      have HGS5 : Hid (g + 1 ≤ W5.heap.size) := Lib.hid (Nat.le_trans HGS.out (Nat.le_trans HK4.out.size hg5.size))
      clear hg5 hbx ho4 hb9
      refine (HNUM.out W5 HR5.out).mono ?_
      rintro r w6 ⟨rfl, hr6, hk6⟩
      have hvi : VecRI W5 w6 w.heap.size g b9 nm (List.replicate 64 0) L5 e5 := ⟨hr6, hk6.blk HBX.out HB9.out.1, vec_zero, hk6.less fun i hi => hi.1⟩
      have HVI := Lib.hid hvi
      clear hr6 hk6 hvi HNUM
      go_wp2_with fail
      go_loopw [7, 11, 12] (fun f' a' j' wr => ∃ (j : Nat) (Lj : List UInt8) (ej : Nat) (v : List Int) (fj : Bool) (la : Nat), f' = .bool fj ∧ a' = .int .u8 (la : Int) ∧ j' = .int .i64 (j : Int) ∧ la ≤ 64 ∧ j ≤ MM ∧ decRV (MM - j) Lj ej v fj la = ((rv, rf), L4, e4) ∧ VecRI W5 wr w.heap.size g b9 nm v Lj ej) (fun _ _ j' _ => MM - (intOf j').toNat)
      case atStart => exact ⟨0, L5, e5, _, f, 0, rfl, rfl, rfl, by omega, by omega, HDV.out, HVI.out⟩
      case round =>
        clear HVI
        obtain ⟨j, Lj, ej, v, fj, la, rfl, rfl, rfl, hla, hj, hd, hI⟩ := hrel
        obtain ⟨wb, rfl⟩ : ∃ wb, wb = wr := ⟨_, rfl⟩
        have HJ := Lib.hid hI
        have HDJ := Lib.hid hd
        have ce : wb.cell? ⟨g, 1, none⟩ = some (.int .i64 (ej : Int)) := by
          obtain ⟨_, _, _, hb9, -⟩ := hI.r
          exact hb9.cell (i := 1) rfl
        clear hI hd
        by_cases hst : j = MM ∨ ej ≠ 0
        · have hd := HDJ.out
          rw [decRV_stop (by rcases hst with h | h; · exact .inl (by omega)
                             · exact .inr h)] at hd
          injection hd with h1 h2
          injection h1 with h1 h4
          injection h2 with h2 h3
          subst h1 h4 h2 h3
          obtain ⟨row, hrow⟩ : ∃ row, row = trow (s, v) := ⟨_, rfl⟩
          have hx9 : Blk wb b9 TRT row := by rw [hrow]; unfold trow; rw [← HNMS.out]; exact HJ.out.x
          have hrl : row.length = 65 := by rw [hrow]; exact trow_len (t := (s, v)) HJ.out.ok
          have hr1 : ∀ u ∈ row, u.oneCell' = true := by rw [hrow]; exact row_one (t := (s, v)) HJ.out.ok
          have y0 : row[0]? = some (.string nm) := by rw [hrow, HNMS.out]; rfl
          have HROW := Lib.hid hrow
          have HX9 := Lib.hid hx9
          have HRL := Lib.hid hrl
          have HR1 := Lib.hid hr1
          have HY0 := Lib.hid y0
          have HOW := Lib.hid (HJ.out.k.own HO5.out HOB.out)
          have HGB := Lib.hid (HJ.out.k.grow HG5.out rfl)
          have HGSB : Hid (g + 1 ≤ wb.heap.size) := Lib.hid (Nat.le_trans HGS5.out HJ.out.k.size)
          obtain ⟨nb, hnb⟩ : ∃ nb, nb = nameB s := ⟨_, rfl⟩
          obtain ⟨fn, hfn⟩ : ∃ fn, fn = (fj && nb && lastLt T s) := ⟨_, rfl⟩
          rw [← hnb, ← hfn] at HDD
          have hnc := fun w1 => rname_any w1 s (by have := HSL.out; unfold maxLen; omega)
          rw [← hnb, ← HNMS.out] at hnc
          have HNC := Lib.hid hnc
          have HM : Hid (i < M ∧ M ≤ 32) := Lib.hid ⟨hiM, hM⟩
          have HTAIL : Hid (∀ (w' w1 : World) (v1 : Value), Grow wb w' → w1.ownsRow (g + 1) TRT 65 v1 (i + 1) (trows T ++ row) → (w'.alloc (.cells row.toArray TRT)).grownBy w1 (Value.slice A5 i c5).ownBlock → DecRI w w1 g (T ++ [(s, v)]) Lj ej v1 (i + 1) ∧ g + 1 ≤ w1.heap.size) := Lib.hid fun w' w1 v1 hg hown hgb => by
            have hga := hg.trans (Grow.alloc w' (.cells row.toArray TRT))
            have hkk : Keep w.heap.size (fun k => k = g) (w'.alloc (.cells row.toArray TRT)) w1 := Keep.by_ (Keep.refl _) (HGB.out.trans hga).size hgb fun k hk => by
              have h1 := own_base HI.out.o k hk
              have h2 := HI.out.r.lt
              exact ⟨by omega, by omega⟩
            refine ⟨⟨(HJ.out.r.grow hga).keep hkk rfl, by rw [trows_snoc, ← HROW.out]; exact hown, by rw [List.length_append, ← HI.out.l]; rfl, hkk.grow (HGB.out.trans hga) rfl, fun t ht => ?_⟩, Nat.le_trans HGSB.out (Nat.le_trans hga.size hkk.size)⟩
            rcases List.mem_append.1 ht with ht | ht
            · exact HI.out.ok t ht
            · rw [List.mem_singleton] at ht
              subst ht
              exact ⟨HJ.out.ok, HSL.out⟩
          have hsp : (decide (j < MM) = true ∧ decide ((j : Int) < (MM : Int)) = true ∧ (ej == 0) = false ∧ ((ej : Int) == 0) = false) ∨ (decide (j < MM) = false ∧ decide ((j : Int) < (MM : Int)) = false) := by
            by_cases hj2 : j < MM
            · exact .inl ⟨decide_eq_true hj2, decide_eq_true (by omega), beq_false_of_ne (by omega), beq_false_of_ne (by omega)⟩
            · exact .inr ⟨decide_eq_false hj2, decide_eq_false (by omega)⟩
          have HSP := Lib.hid hsp
          have hcs : ((fj = false ∧ fn = false) ∨ (fj = true ∧ nb = false ∧ fn = false) ∨ (fj = true ∧ nb = true ∧ i = 0 ∧ fn = true)) ∨ (∃ i' t0, fj = true ∧ nb = true ∧ i = i' + 1 ∧ T[i']? = some t0 ∧ fn = decide (t0.1 < s)) := by
            cases fj
            · exact .inl (.inl ⟨rfl, hfn⟩)
            · cases nb
              · exact .inl (.inr (.inl ⟨rfl, rfl, hfn⟩))
              · have hl := HI.out.l
                rcases Nat.eq_zero_or_pos i with h0 | h0
                · have hT : T = [] := List.eq_nil_of_length_eq_zero (by omega)
                  exact .inl (.inr (.inr ⟨rfl, rfl, h0, by rw [hfn, hT]; rfl⟩))
                · obtain ⟨t0, ht0⟩ : ∃ t0, T[i - 1]? = some t0 := ⟨_, List.getElem?_eq_getElem (by omega)⟩
                  refine .inr ⟨i - 1, t0, rfl, rfl, by omega, ht0, ?_⟩
                  rw [hfn]
                  unfold lastLt
                  rw [List.getLast?_eq_getElem?, ← hl, ht0]
                  rfl
          clear hst hla hj hrow hx9 hrl hr1 y0 hnc hfn hsp HDJ HDV HD hiM t1 t1' hM hMM hnb
          rcases hcs with hcs | ⟨i', t0, rfl, rfl, rfl, ht0, hfn⟩
          · rcases hcs with ⟨rfl, rfl⟩ | ⟨rfl, rfl, rfl⟩ | ⟨rfl, rfl, rfl, rfl⟩
            all_goals rcases HSP.out with ⟨t2, t2', s1, s2⟩ | ⟨t2, t2'⟩
            all_goals
              go_wp2_with fail
              apply (fun (v0 v1 v2 v3 v4 v5 v6 v7 v8 v9 v10 v11 v12 v13 v14 v15 v16 v17 v18 v19 v20 v21 : Value) mono obl tail => wp_region_par (R := Grow) (Φ := phi [veq v0, veq v1, veq v2, veq v3, veq v4, veq v5, veq v6, veq v7, veq v8, veq v9, veq v10, veq v11, veq v12, veq v13, veq v14, veq v15, veq v16, veq v17, veq v18, veq v19, veq v20, veq v21]) (m := 22) (dls := [[], [(87, 0)], [(88, 1)], [(89, 2), (88, 1)], [(90, 3), (88, 1)], [(88, 1), (91, 4)], [(92, 5)], [(93, 6)], [(94, 7), (93, 6)], [(95, 8), (93, 6)], [(96, 9)], [(96, 9)], [(98, 11), (96, 9)], [(97, 10), (99, 12), (96, 9)], [(100, 13), (96, 9)], [(101, 14), (96, 9)], [(96, 9)], [(103, 16), (96, 9)], [(102, 15), (104, 17), (96, 9)], [(96, 9), (105, 18), (93, 6)], [(93, 6), (106, 19)], [(107, 20)]]) (ds := [87, 88, 89, 90, 91, 92, 93, 94, 95, 96, 97, 98, 99, 100, 101, 102, 103, 104, 105, 106, 107, 7]) (by kernel_rfl) (by kernel_rfl) (by decide) rfl (Grow.drew _) (fun _ _ _ => Grow.trans) (mono_phi mono) obl tail)
              case obl =>
                refine obls_frame (fun a1 ha => ?_)
                have hsz := rd_size (n := 120) ha rfl
                have e7 := rd_slot 7 ha rfl
                have e9 := rd_slot 9 ha rfl
                have e8 := rd_slot 8 ha rfl
                have e6 := rd_slot 6 ha rfl
                clear ha
                refine obls_cons (fun f w' hR hH Q0 hQ0 => ?_) ?_
                · skip
                  have s7 := sv_off f [] e7 rfl
                  refine small_v hsz [(7, _)] ⟨some 1, (Op.move (.tmp 0)), 4, "", #[], none⟩ [_, undef] 1 rfl rfl ⟨s7, trivial⟩ rfl rfl hQ0 ?_
                  clear hQ0 hH s7
                  intro Q hQ
                  repeat go_step
                  exact hQ _ _ (Grow.refl _) rfl rfl
                refine obls_cons (fun f w' hR hH Q0 hQ0 => ?_) ?_
                · skip
                  have s87 := (sv_at 87 0 hsz f [(87, 0)] rfl).trans (show f 0 = _ from hH.get 0 (87, 0) rfl)
                  refine small_v hsz [(87, _)] ⟨some 1, (Op.move (.tmp 0)), 4, "", #[], none⟩ [_, undef] 1 rfl rfl ⟨s87, trivial⟩ rfl rfl hQ0 ?_
                  clear hQ0 hH s87
                  intro Q hQ
                  repeat go_step
                  exact hQ _ _ (Grow.refl _) rfl rfl
                refine obls_cons (fun f w' hR hH Q0 hQ0 => ?_) ?_
                · skip
                  have s9 := sv_off f [(88, 1)] e9 rfl
                  have s88 := (sv_at 88 1 hsz f [(88, 1)] rfl).trans (show f 1 = _ from hH.get 0 (88, 1) rfl)
                  first
                    | exact skip_v hsz rfl ((wanted_some (b := false) rfl rfl s88).trans rfl) hQ0 (Grow.refl _) rfl
                    | exact skip_v hsz rfl (wanted_undef rfl rfl s88) hQ0 (Grow.refl _) rfl
                    | refine small_v hsz [(9, _)] ⟨some 1, (Op.fieldAddr 68 (.tmp 0) 0), 0, "", #[], none⟩ [_, undef] 1 rfl ((wanted_some (b := true) rfl rfl s88).trans rfl) ⟨s9, trivial⟩ rfl rfl hQ0 ?_
                      clear hQ0 hH s9 s88
                      intro Q hQ
                      repeat go_step
                      exact hQ _ _ (Grow.refl _) rfl rfl
                refine obls_cons (fun f w' hR hH Q0 hQ0 => ?_) ?_
                · skip
                  have s89 := (sv_at 89 2 hsz f [(89, 2), (88, 1)] rfl).trans (show f 2 = _ from hH.get 0 (89, 2) rfl)
                  have s88 := (sv_at 88 1 hsz f [(89, 2), (88, 1)] rfl).trans (show f 1 = _ from hH.get 1 (88, 1) rfl)
                  first
                    | exact skip_v hsz rfl ((wanted_some (b := false) rfl rfl s88).trans rfl) hQ0 (Grow.refl _) rfl
                    | exact skip_v hsz rfl (wanted_undef rfl rfl s88) hQ0 (Grow.refl _) rfl
                    | refine small_v hsz [(89, _)] ⟨some 1, (Op.load 9 (.tmp 0)), 9, "", #[], none⟩ [_, undef] 1 rfl ((wanted_some (b := true) rfl rfl s88).trans rfl) ⟨s89, trivial⟩ rfl rfl hQ0 ?_
                      clear hQ0 hH s89 s88
                      intro Q hQ
                      have z0 := (HX9.out.grow hR).cell HY0.out
                      repeat go_step
                      exact hQ _ _ (Grow.refl _) rfl rfl
                refine obls_cons (fun f w' hR hH Q0 hQ0 => ?_) ?_
                · skip
                  have s90 := (sv_at 90 3 hsz f [(90, 3), (88, 1)] rfl).trans (show f 3 = _ from hH.get 0 (90, 3) rfl)
                  have s88 := (sv_at 88 1 hsz f [(90, 3), (88, 1)] rfl).trans (show f 1 = _ from hH.get 1 (88, 1) rfl)
                  first
                    | exact skip_v hsz rfl ((wanted_some (b := false) rfl rfl s88).trans rfl) hQ0 (Grow.refl _) rfl
                    | exact skip_v hsz rfl (wanted_undef rfl rfl s88) hQ0 (Grow.refl _) rfl
                    | refine small_v hsz [(90, _)] ⟨some 1, (Op.call (Call.mk (Callee.value (Operand.func 35)) #[(.tmp 0)] #[9])), 4, "", #[], none⟩ [_, undef] 1 rfl ((wanted_some (b := true) rfl rfl s88).trans rfl) ⟨s90, trivial⟩ rfl (ren_call rfl rfl) hQ0 ?_
                      clear hQ0 hH s90 s88
                      intro Q hQ
                      go_wp2_with (go_at_call 35; refine (HNC.out _).mono ?_; rintro e w1 ⟨rfl, rfl⟩)
                      exact hQ _ _ (Grow.refl _) rfl rfl
                refine obls_cons (fun f w' hR hH Q0 hQ0 => ?_) ?_
                · skip
                  have s88 := (sv_at 88 1 hsz f [(88, 1), (91, 4)] rfl).trans (show f 1 = _ from hH.get 0 (88, 1) rfl)
                  have s91 := (sv_at 91 4 hsz f [(88, 1), (91, 4)] rfl).trans (show f 4 = _ from hH.get 1 (91, 4) rfl)
                  refine small_v hsz [(88, _), (91, _)] ⟨some 2, (Op.pick (.tmp 0) (.tmp 1) (Operand.const (Value.bool false))), 4, "", #[], none⟩ [_, _, undef] 2 rfl rfl ⟨s88, s91, trivial⟩ rfl rfl hQ0 ?_
                  clear hQ0 hH s88 s91
                  intro Q hQ
                  repeat go_step
                  exact hQ _ _ (Grow.refl _) rfl rfl
                refine obls_cons (fun f w' hR hH Q0 hQ0 => ?_) ?_
                · skip
                  have s92 := (sv_at 92 5 hsz f [(92, 5)] rfl).trans (show f 5 = _ from hH.get 0 (92, 5) rfl)
                  refine small_v hsz [(92, _)] ⟨some 1, (Op.move (.tmp 0)), 4, "", #[], none⟩ [_, undef] 1 rfl rfl ⟨s92, trivial⟩ rfl rfl hQ0 ?_
                  clear hQ0 hH s92
                  intro Q hQ
                  repeat go_step
                  exact hQ _ _ (Grow.refl _) rfl rfl
                refine obls_cons (fun f w' hR hH Q0 hQ0 => ?_) ?_
                · skip
                  have s8 := sv_off f [(93, 6)] e8 rfl
                  have s93 := (sv_at 93 6 hsz f [(93, 6)] rfl).trans (show f 6 = _ from hH.get 0 (93, 6) rfl)
                  first
                    | exact skip_v hsz rfl ((wanted_some (b := false) rfl rfl s93).trans rfl) hQ0 (Grow.refl _) rfl
                    | exact skip_v hsz rfl (wanted_undef rfl rfl s93) hQ0 (Grow.refl _) rfl
                    | refine small_v hsz [(8, _)] ⟨some 1, (Op.move (.tmp 0)), 3, "", #[], none⟩ [_, undef] 1 rfl ((wanted_some (b := true) rfl rfl s93).trans rfl) ⟨s8, trivial⟩ rfl rfl hQ0 ?_
                      clear hQ0 hH s8 s93
                      intro Q hQ
                      repeat go_step
                      exact hQ _ _ (Grow.refl _) rfl rfl
                refine obls_cons (fun f w' hR hH Q0 hQ0 => ?_) ?_
                · skip
                  have s94 := (sv_at 94 7 hsz f [(94, 7), (93, 6)] rfl).trans (show f 7 = _ from hH.get 0 (94, 7) rfl)
                  have s93 := (sv_at 93 6 hsz f [(94, 7), (93, 6)] rfl).trans (show f 6 = _ from hH.get 1 (93, 6) rfl)
                  first
                    | exact skip_v hsz rfl ((wanted_some (b := false) rfl rfl s93).trans rfl) hQ0 (Grow.refl _) rfl
                    | exact skip_v hsz rfl (wanted_undef rfl rfl s93) hQ0 (Grow.refl _) rfl
                    | refine small_v hsz [(94, _)] ⟨some 1, (Op.binOp BinOp.eql 3 (.tmp 0) (Operand.const (Value.int IntKind.i64 0)) 3), 4, "", #[], none⟩ [_, undef] 1 rfl ((wanted_some (b := true) rfl rfl s93).trans rfl) ⟨s94, trivial⟩ rfl rfl hQ0 ?_
                      clear hQ0 hH s94 s93
                      intro Q hQ
                      repeat go_step
                      exact hQ _ _ (Grow.refl _) rfl rfl
                refine obls_cons (fun f w' hR hH Q0 hQ0 => ?_) ?_
                · skip
                  have s95 := (sv_at 95 8 hsz f [(95, 8), (93, 6)] rfl).trans (show f 8 = _ from hH.get 0 (95, 8) rfl)
                  have s93 := (sv_at 93 6 hsz f [(95, 8), (93, 6)] rfl).trans (show f 6 = _ from hH.get 1 (93, 6) rfl)
                  first
                    | exact skip_v hsz rfl ((wanted_some (b := false) rfl rfl s93).trans rfl) hQ0 (Grow.refl _) rfl
                    | exact skip_v hsz rfl (wanted_undef rfl rfl s93) hQ0 (Grow.refl _) rfl
                    | refine small_v hsz [(95, _)] ⟨some 1, (Op.move (.tmp 0)), 4, "", #[], none⟩ [_, undef] 1 rfl ((wanted_some (b := true) rfl rfl s93).trans rfl) ⟨s95, trivial⟩ rfl rfl hQ0 ?_
                      clear hQ0 hH s95 s93
                      intro Q hQ
                      repeat go_step
                      exact hQ _ _ (Grow.refl _) rfl rfl
                refine obls_cons (fun f w' hR hH Q0 hQ0 => ?_) ?_
                · skip
                  have s6 := sv_off f [(96, 9)] e6 rfl
                  have s96 := (sv_at 96 9 hsz f [(96, 9)] rfl).trans (show f 9 = _ from hH.get 0 (96, 9) rfl)
                  first
                    | exact skip_v hsz rfl ((wanted_some (b := true) rfl rfl s96).trans rfl) hQ0 (Grow.refl _) rfl
                    | exact skip_v hsz rfl (wanted_undef rfl rfl s96) hQ0 (Grow.refl _) rfl
                    | refine small_v hsz [(6, _)] ⟨some 1, (Op.move (.tmp 0)), 28, "", #[], none⟩ [_, undef] 1 rfl ((wanted_some (b := false) rfl rfl s96).trans rfl) ⟨s6, trivial⟩ rfl rfl hQ0 ?_
                      clear hQ0 hH s6 s96
                      intro Q hQ
                      repeat go_step
                      exact hQ _ _ (Grow.refl _) rfl rfl
                refine obls_cons (fun f w' hR hH Q0 hQ0 => ?_) ?_
                · skip
                  have s8 := sv_off f [(96, 9)] e8 rfl
                  have s96 := (sv_at 96 9 hsz f [(96, 9)] rfl).trans (show f 9 = _ from hH.get 0 (96, 9) rfl)
                  first
                    | exact skip_v hsz rfl ((wanted_some (b := true) rfl rfl s96).trans rfl) hQ0 (Grow.refl _) rfl
                    | exact skip_v hsz rfl (wanted_undef rfl rfl s96) hQ0 (Grow.refl _) rfl
                    | refine small_v hsz [(8, _)] ⟨some 1, (Op.move (.tmp 0)), 3, "", #[], none⟩ [_, undef] 1 rfl ((wanted_some (b := false) rfl rfl s96).trans rfl) ⟨s8, trivial⟩ rfl rfl hQ0 ?_
                      clear hQ0 hH s8 s96
                      intro Q hQ
                      repeat go_step
                      exact hQ _ _ (Grow.refl _) rfl rfl
                refine obls_cons (fun f w' hR hH Q0 hQ0 => ?_) ?_
                · skip
                  have s98 := (sv_at 98 11 hsz f [(98, 11), (96, 9)] rfl).trans (show f 11 = _ from hH.get 0 (98, 11) rfl)
                  have s96 := (sv_at 96 9 hsz f [(98, 11), (96, 9)] rfl).trans (show f 9 = _ from hH.get 1 (96, 9) rfl)
                  first
                    | exact skip_v hsz rfl ((wanted_some (b := true) rfl rfl s96).trans rfl) hQ0 (Grow.refl _) rfl
                    | exact skip_v hsz rfl (wanted_undef rfl rfl s96) hQ0 (Grow.refl _) rfl
                    | refine small_v hsz [(98, _)] ⟨some 1, (Op.binOp BinOp.sub 3 (.tmp 0) (Operand.const (Value.int IntKind.i64 1)) 3), 3, "", #[], none⟩ [_, undef] 1 rfl ((wanted_some (b := false) rfl rfl s96).trans rfl) ⟨s98, trivial⟩ rfl rfl hQ0 ?_
                      clear hQ0 hH s98 s96
                      intro Q hQ
                      repeat go_step
                      exact hQ _ _ (Grow.refl _) rfl rfl
                refine obls_cons (fun f w' hR hH Q0 hQ0 => ?_) ?_
                · skip
                  have s97 := (sv_at 97 10 hsz f [(97, 10), (99, 12), (96, 9)] rfl).trans (show f 10 = _ from hH.get 0 (97, 10) rfl)
                  have s99 := (sv_at 99 12 hsz f [(97, 10), (99, 12), (96, 9)] rfl).trans (show f 12 = _ from hH.get 1 (99, 12) rfl)
                  have s96 := (sv_at 96 9 hsz f [(97, 10), (99, 12), (96, 9)] rfl).trans (show f 9 = _ from hH.get 2 (96, 9) rfl)
                  first
                    | exact skip_v hsz rfl ((wanted_some (b := true) rfl rfl s96).trans rfl) hQ0 (Grow.refl _) rfl
                    | exact skip_v hsz rfl (wanted_undef rfl rfl s96) hQ0 (Grow.refl _) rfl
                    | refine small_v hsz [(97, _), (99, _)] ⟨some 2, (Op.indexAddr 28 (.tmp 0) (.tmp 1)), 0, "", #[], none⟩ [_, _, undef] 2 rfl ((wanted_some (b := false) rfl rfl s96).trans rfl) ⟨s97, s99, trivial⟩ rfl rfl hQ0 ?_
                      clear hQ0 hH s97 s99 s96
                      intro Q hQ
                      repeat go_step
                      exact hQ _ _ (Grow.refl _) rfl rfl
                refine obls_cons (fun f w' hR hH Q0 hQ0 => ?_) ?_
                · skip
                  have s100 := (sv_at 100 13 hsz f [(100, 13), (96, 9)] rfl).trans (show f 13 = _ from hH.get 0 (100, 13) rfl)
                  have s96 := (sv_at 96 9 hsz f [(100, 13), (96, 9)] rfl).trans (show f 9 = _ from hH.get 1 (96, 9) rfl)
                  first
                    | exact skip_v hsz rfl ((wanted_some (b := true) rfl rfl s96).trans rfl) hQ0 (Grow.refl _) rfl
                    | exact skip_v hsz rfl (wanted_undef rfl rfl s96) hQ0 (Grow.refl _) rfl
                    | refine small_v hsz [(100, _)] ⟨some 1, (Op.fieldAddr 68 (.tmp 0) 0), 0, "", #[], none⟩ [_, undef] 1 rfl ((wanted_some (b := false) rfl rfl s96).trans rfl) ⟨s100, trivial⟩ rfl rfl hQ0 ?_
                      clear hQ0 hH s100 s96
                      intro Q hQ
                      repeat go_step
                      exact hQ _ _ (Grow.refl _) rfl rfl
                refine obls_cons (fun f w' hR hH Q0 hQ0 => ?_) ?_
                · skip
                  have s101 := (sv_at 101 14 hsz f [(101, 14), (96, 9)] rfl).trans (show f 14 = _ from hH.get 0 (101, 14) rfl)
                  have s96 := (sv_at 96 9 hsz f [(101, 14), (96, 9)] rfl).trans (show f 9 = _ from hH.get 1 (96, 9) rfl)
                  first
                    | exact skip_v hsz rfl ((wanted_some (b := true) rfl rfl s96).trans rfl) hQ0 (Grow.refl _) rfl
                    | exact skip_v hsz rfl (wanted_undef rfl rfl s96) hQ0 (Grow.refl _) rfl
                    | refine small_v hsz [(101, _)] ⟨some 1, (Op.load 9 (.tmp 0)), 9, "", #[], none⟩ [_, undef] 1 rfl ((wanted_some (b := false) rfl rfl s96).trans rfl) ⟨s101, trivial⟩ rfl rfl hQ0 ?_
                      clear hQ0 hH s101 s96
                      intro Q hQ
                      repeat go_step
                      exact hQ _ _ (Grow.refl _) rfl rfl
                refine obls_cons (fun f w' hR hH Q0 hQ0 => ?_) ?_
                · skip
                  have s9 := sv_off f [(96, 9)] e9 rfl
                  have s96 := (sv_at 96 9 hsz f [(96, 9)] rfl).trans (show f 9 = _ from hH.get 0 (96, 9) rfl)
                  first
                    | exact skip_v hsz rfl ((wanted_some (b := true) rfl rfl s96).trans rfl) hQ0 (Grow.refl _) rfl
                    | exact skip_v hsz rfl (wanted_undef rfl rfl s96) hQ0 (Grow.refl _) rfl
                    | refine small_v hsz [(9, _)] ⟨some 1, (Op.fieldAddr 68 (.tmp 0) 0), 0, "", #[], none⟩ [_, undef] 1 rfl ((wanted_some (b := false) rfl rfl s96).trans rfl) ⟨s9, trivial⟩ rfl rfl hQ0 ?_
                      clear hQ0 hH s9 s96
                      intro Q hQ
                      repeat go_step
                      exact hQ _ _ (Grow.refl _) rfl rfl
                refine obls_cons (fun f w' hR hH Q0 hQ0 => ?_) ?_
                · skip
                  have s103 := (sv_at 103 16 hsz f [(103, 16), (96, 9)] rfl).trans (show f 16 = _ from hH.get 0 (103, 16) rfl)
                  have s96 := (sv_at 96 9 hsz f [(103, 16), (96, 9)] rfl).trans (show f 9 = _ from hH.get 1 (96, 9) rfl)
                  first
                    | exact skip_v hsz rfl ((wanted_some (b := true) rfl rfl s96).trans rfl) hQ0 (Grow.refl _) rfl
                    | exact skip_v hsz rfl (wanted_undef rfl rfl s96) hQ0 (Grow.refl _) rfl
                    | refine small_v hsz [(103, _)] ⟨some 1, (Op.load 9 (.tmp 0)), 9, "", #[], none⟩ [_, undef] 1 rfl ((wanted_some (b := false) rfl rfl s96).trans rfl) ⟨s103, trivial⟩ rfl rfl hQ0 ?_
                      clear hQ0 hH s103 s96
                      intro Q hQ
                      repeat go_step
                      exact hQ _ _ (Grow.refl _) rfl rfl
                refine obls_cons (fun f w' hR hH Q0 hQ0 => ?_) ?_
                · skip
                  have s102 := (sv_at 102 15 hsz f [(102, 15), (104, 17), (96, 9)] rfl).trans (show f 15 = _ from hH.get 0 (102, 15) rfl)
                  have s104 := (sv_at 104 17 hsz f [(102, 15), (104, 17), (96, 9)] rfl).trans (show f 17 = _ from hH.get 1 (104, 17) rfl)
                  have s96 := (sv_at 96 9 hsz f [(102, 15), (104, 17), (96, 9)] rfl).trans (show f 9 = _ from hH.get 2 (96, 9) rfl)
                  first
                    | exact skip_v hsz rfl ((wanted_some (b := true) rfl rfl s96).trans rfl) hQ0 (Grow.refl _) rfl
                    | exact skip_v hsz rfl (wanted_undef rfl rfl s96) hQ0 (Grow.refl _) rfl
                    | refine small_v hsz [(102, _), (104, _)] ⟨some 2, (Op.binOp BinOp.lss 9 (.tmp 0) (.tmp 1) 9), 4, "", #[], none⟩ [_, _, undef] 2 rfl ((wanted_some (b := false) rfl rfl s96).trans rfl) ⟨s102, s104, trivial⟩ rfl rfl hQ0 ?_
                      clear hQ0 hH s102 s104 s96
                      intro Q hQ
                      repeat go_step
                      exact hQ _ _ (Grow.refl _) rfl rfl
                refine obls_cons (fun f w' hR hH Q0 hQ0 => ?_) ?_
                · skip
                  have s96 := (sv_at 96 9 hsz f [(96, 9), (105, 18), (93, 6)] rfl).trans (show f 9 = _ from hH.get 0 (96, 9) rfl)
                  have s105 := (sv_at 105 18 hsz f [(96, 9), (105, 18), (93, 6)] rfl).trans (show f 18 = _ from hH.get 1 (105, 18) rfl)
                  have s93 := (sv_at 93 6 hsz f [(96, 9), (105, 18), (93, 6)] rfl).trans (show f 6 = _ from hH.get 2 (93, 6) rfl)
                  first
                    | exact skip_v hsz rfl ((wanted_some (b := false) rfl rfl s93).trans rfl) hQ0 (Grow.refl _) rfl
                    | exact skip_v hsz rfl (wanted_undef rfl rfl s93) hQ0 (Grow.refl _) rfl
                    | refine small_v hsz [(96, _), (105, _)] ⟨some 2, (Op.pick (.tmp 0) (Operand.const (Value.bool true)) (.tmp 1)), 4, "", #[], none⟩ [_, _, undef] 2 rfl ((wanted_some (b := true) rfl rfl s93).trans rfl) ⟨s96, s105, trivial⟩ rfl rfl hQ0 ?_
                      clear hQ0 hH s96 s105 s93
                      intro Q hQ
                      repeat go_step
                      exact hQ _ _ (Grow.refl _) rfl rfl
                refine obls_cons (fun f w' hR hH Q0 hQ0 => ?_) ?_
                · skip
                  have s93 := (sv_at 93 6 hsz f [(93, 6), (106, 19)] rfl).trans (show f 6 = _ from hH.get 0 (93, 6) rfl)
                  have s106 := (sv_at 106 19 hsz f [(93, 6), (106, 19)] rfl).trans (show f 19 = _ from hH.get 1 (106, 19) rfl)
                  refine small_v hsz [(93, _), (106, _)] ⟨some 2, (Op.pick (.tmp 0) (.tmp 1) (Operand.const (Value.bool false))), 4, "", #[], none⟩ [_, _, undef] 2 rfl rfl ⟨s93, s106, trivial⟩ rfl rfl hQ0 ?_
                  clear hQ0 hH s93 s106
                  intro Q hQ
                  repeat go_step
                  exact hQ _ _ (Grow.refl _) rfl rfl
                refine obls_cons (fun f w' hR hH Q0 hQ0 => ?_) ?_
                · skip
                  have s107 := (sv_at 107 20 hsz f [(107, 20)] rfl).trans (show f 20 = _ from hH.get 0 (107, 20) rfl)
                  refine small_v hsz [(107, _)] ⟨some 1, (Op.assign (.tmp 0)), 4, "", #[], none⟩ [_, undef] 1 rfl rfl ⟨s107, trivial⟩ rfl rfl hQ0 ?_
                  clear hQ0 hH s107
                  intro Q hQ
                  repeat go_step
                  exact hQ _ _ (Grow.refl _) rfl rfl
                exact obls_nil
              case mono => exact ⟨Mono.veq _, Mono.veq _, Mono.veq _, Mono.veq _, Mono.veq _, Mono.veq _, Mono.veq _, Mono.veq _, Mono.veq _, Mono.veq _, Mono.veq _, Mono.veq _, Mono.veq _, Mono.veq _, Mono.veq _, Mono.veq _, Mono.veq _, Mono.veq _, Mono.veq _, Mono.veq _, Mono.veq _, Mono.veq _, trivial⟩
              case tail =>
                intro f w' hR hH
                have q21 := hH.get 21 (7, 21) rfl
                clear hH
                refine wpList_merge (idx := [none, none, none, none, none, none, none, some 21, none, none, none, none, none, none, none, none, none, none, none, none, none, none, none, none, none, none, none, none, none, none, none, none, none, none, none, none, none, none, none, none, none, none, none, none, none, none, none, none, none, none, none, none, none, none, none, none, none, none, none, none, none, none, none, none, none, none, none, none, none, none, none, none, none, none, none, none, none, none, none, none, none, none, none, none, none, none, none, some 0, some 1, some 2, some 3, some 4, some 5, some 6, some 7, some 8, some 9, some 10, some 11, some 12, some 13, some 14, some 15, some 16, some 17, some 18, some 19, some 20, none, none, none, none, none, none, none, none, none, none, none, none]) (by kernel_rfl) ?_; show wpList _ _ _ [] ⟨#[_, _, _, _, _, _, _, f 21, _, _, _, _, _, _, _, _, _, _, _, _, _, _, _, _, _, _, _, _, _, _, _, _, _, _, _, _, _, _, _, _, _, _, _, _, _, _, _, _, _, _, _, _, _, _, _, _, _, _, _, _, _, _, _, _, _, _, _, _, _, _, _, _, _, _, _, _, _, _, _, _, _, _, _, _, _, _, _, f 0, f 1, f 2, f 3, f 4, f 5, f 6, f 7, f 8, f 9, f 10, f 11, f 12, f 13, f 14, f 15, f 16, f 17, f 18, f 19, f 20, _, _, _, _, _, _, _, _, _, _, _, _], _⟩ _
                rw [show f 21 = _ from q21]
                clear q21
                have HR := Lib.hid hR
                clear hR
                have hb := HX9.out.grow HR.out
                have hbs := run_bslice_rt w' row HRL.out
                have hm9 := HM.out.1
                have hm8 := HM.out.2
                go_wp2_with (first | (refine load_blk rfl _ _ rfl b9 rfl _ _ _ hb undRT rfl (by rw [sizeRT, HRL.out]) ?_) | (refine wpList_bslice1 rfl _ _ rfl (.agg row.toArray) _ rfl hbs ?_) | (at_builtin; refine wpList_append_row rfl _ _ _ rfl (g + 1) TRT _ _ 65 144 Try.underlying28 iT iTz iTs iTb rfl (by decide) _ _ (trows T) rfl (own_grow HOW.out (HR.out.trans (Grow.alloc w' (.cells row.toArray TRT)))) (some ⟨w'.heap.size, 0, none⟩) 1 1 row rfl (by have := Row.new w' row TRT (0, 0); rw [HRL.out] at this; exact this) HR1.out (by have := HM.out; unfold maxLen; omega) (by have := HM.out; omega) (Nat.le_trans HGSB.out (HR.out.trans (Grow.alloc w' (.cells row.toArray TRT))).size) ?_; intro v1 w1 hown1 hgb1 _; obtain ⟨Av, cv, rfl, -, -, -⟩ := own_form hown1))
                have hni := HTAIL.out w' w1 _ HR.out hown1 hgb1
                have HNI := Lib.hid hni
                clear hown1 hgb1 hni hbs hb
                go_roundw
                case rel => first | exact ⟨i + 1, _, Lj, ej, _, _, by go_num, by have := HM.out; omega, rfl, rfl, HDD.out, HNI.out.1, HNI.out.2⟩ | exact ⟨0 + 1, _, Lj, ej, _, _, by go_num, by have := HM.out; omega, rfl, rfl, HDD.out, HNI.out.1, HNI.out.2⟩
                case measure => have := HM.out; simp [intOf] <;> omega
          · obtain ⟨b, off, hA5, hcc⟩ : ∃ b off, A5 = some ⟨b, off, none⟩ ∧ ∀ (j : Nat) (u : Value), (trow t0)[j]? = some u → wb.cell? ⟨b, off + i' * 65 + j, none⟩ = some u := by
              obtain ⟨A6, c6, e6, -, -, hrw⟩ := own_form HOW.out
              injection e6 with e1 e2 e3
              subst e1
              rw [HI.out.l] at hrw
              exact rt_at hrw (fun t ht => (HI.out.ok t ht).1) ht0
            subst hA5
            have y5 : wb.cell? ⟨b, off + i' * 65, none⟩ = some (.string (str t0.1)) := hcc 0 _ rfl
            obtain ⟨q0, hq0⟩ : ∃ q, q = str t0.1 := ⟨_, rfl⟩
            rw [← hq0] at y5
            have hbl : Op.bytesLess q0.toList nm.toList = fn := by
              rw [hq0, HNMS.out, show (str t0.1).toList = t0.1 from ByteArray.toList_mk _, show (str s).toList = s from ByteArray.toList_mk _, bytesLess_eq, hfn]
            have HBL := Lib.hid hbl
            have HY5 := Lib.hid y5
            have z5 : (((i' : Int) + 1) == 0) = false := beq_false_of_ne (by omega)
            have z6 : ((i' + 1 : Nat) == 0) = false := beq_false_of_ne (by omega)
            have hi9 := HM.out.1
            have hi8 := HM.out.2
            clear hbl hq0 hcc hfn ht0 y5
            cases fn
            all_goals rcases HSP.out with ⟨t2, t2', s1, s2⟩ | ⟨t2, t2'⟩
            all_goals
              go_wp2_with fail
              apply (fun (v0 v1 v2 v3 v4 v5 v6 v7 v8 v9 v10 v11 v12 v13 v14 v15 v16 v17 v18 v19 v20 v21 : Value) mono obl tail => wp_region_par (R := Grow) (Φ := phi [veq v0, veq v1, veq v2, veq v3, veq v4, veq v5, veq v6, veq v7, veq v8, veq v9, veq v10, veq v11, veq v12, veq v13, veq v14, veq v15, veq v16, veq v17, veq v18, veq v19, veq v20, veq v21]) (m := 22) (dls := [[], [(87, 0)], [(88, 1)], [(89, 2), (88, 1)], [(90, 3), (88, 1)], [(88, 1), (91, 4)], [(92, 5)], [(93, 6)], [(94, 7), (93, 6)], [(95, 8), (93, 6)], [(96, 9)], [(96, 9)], [(98, 11), (96, 9)], [(97, 10), (99, 12), (96, 9)], [(100, 13), (96, 9)], [(101, 14), (96, 9)], [(96, 9)], [(103, 16), (96, 9)], [(102, 15), (104, 17), (96, 9)], [(96, 9), (105, 18), (93, 6)], [(93, 6), (106, 19)], [(107, 20)]]) (ds := [87, 88, 89, 90, 91, 92, 93, 94, 95, 96, 97, 98, 99, 100, 101, 102, 103, 104, 105, 106, 107, 7]) (by kernel_rfl) (by kernel_rfl) (by decide) rfl (Grow.drew _) (fun _ _ _ => Grow.trans) (mono_phi mono) obl tail)
              case obl =>
                refine obls_frame (fun a1 ha => ?_)
                have hsz := rd_size (n := 120) ha rfl
                have e7 := rd_slot 7 ha rfl
                have e9 := rd_slot 9 ha rfl
                have e8 := rd_slot 8 ha rfl
                have e6 := rd_slot 6 ha rfl
                clear ha
                refine obls_cons (fun f w' hR hH Q0 hQ0 => ?_) ?_
                · skip
                  have s7 := sv_off f [] e7 rfl
                  refine small_v hsz [(7, _)] ⟨some 1, (Op.move (.tmp 0)), 4, "", #[], none⟩ [_, undef] 1 rfl rfl ⟨s7, trivial⟩ rfl rfl hQ0 ?_
                  clear hQ0 hH s7
                  intro Q hQ
                  repeat go_step
                  exact hQ _ _ (Grow.refl _) rfl rfl
                refine obls_cons (fun f w' hR hH Q0 hQ0 => ?_) ?_
                · skip
                  have s87 := (sv_at 87 0 hsz f [(87, 0)] rfl).trans (show f 0 = _ from hH.get 0 (87, 0) rfl)
                  refine small_v hsz [(87, _)] ⟨some 1, (Op.move (.tmp 0)), 4, "", #[], none⟩ [_, undef] 1 rfl rfl ⟨s87, trivial⟩ rfl rfl hQ0 ?_
                  clear hQ0 hH s87
                  intro Q hQ
                  repeat go_step
                  exact hQ _ _ (Grow.refl _) rfl rfl
                refine obls_cons (fun f w' hR hH Q0 hQ0 => ?_) ?_
                · skip
                  have s9 := sv_off f [(88, 1)] e9 rfl
                  have s88 := (sv_at 88 1 hsz f [(88, 1)] rfl).trans (show f 1 = _ from hH.get 0 (88, 1) rfl)
                  first
                    | exact skip_v hsz rfl ((wanted_some (b := false) rfl rfl s88).trans rfl) hQ0 (Grow.refl _) rfl
                    | exact skip_v hsz rfl (wanted_undef rfl rfl s88) hQ0 (Grow.refl _) rfl
                    | refine small_v hsz [(9, _)] ⟨some 1, (Op.fieldAddr 68 (.tmp 0) 0), 0, "", #[], none⟩ [_, undef] 1 rfl ((wanted_some (b := true) rfl rfl s88).trans rfl) ⟨s9, trivial⟩ rfl rfl hQ0 ?_
                      clear hQ0 hH s9 s88
                      intro Q hQ
                      repeat go_step
                      exact hQ _ _ (Grow.refl _) rfl rfl
                refine obls_cons (fun f w' hR hH Q0 hQ0 => ?_) ?_
                · skip
                  have s89 := (sv_at 89 2 hsz f [(89, 2), (88, 1)] rfl).trans (show f 2 = _ from hH.get 0 (89, 2) rfl)
                  have s88 := (sv_at 88 1 hsz f [(89, 2), (88, 1)] rfl).trans (show f 1 = _ from hH.get 1 (88, 1) rfl)
                  first
                    | exact skip_v hsz rfl ((wanted_some (b := false) rfl rfl s88).trans rfl) hQ0 (Grow.refl _) rfl
                    | exact skip_v hsz rfl (wanted_undef rfl rfl s88) hQ0 (Grow.refl _) rfl
                    | refine small_v hsz [(89, _)] ⟨some 1, (Op.load 9 (.tmp 0)), 9, "", #[], none⟩ [_, undef] 1 rfl ((wanted_some (b := true) rfl rfl s88).trans rfl) ⟨s89, trivial⟩ rfl rfl hQ0 ?_
                      clear hQ0 hH s89 s88
                      intro Q hQ
                      have z0 := (HX9.out.grow hR).cell HY0.out
                      repeat go_step
                      exact hQ _ _ (Grow.refl _) rfl rfl
                refine obls_cons (fun f w' hR hH Q0 hQ0 => ?_) ?_
                · skip
                  have s90 := (sv_at 90 3 hsz f [(90, 3), (88, 1)] rfl).trans (show f 3 = _ from hH.get 0 (90, 3) rfl)
                  have s88 := (sv_at 88 1 hsz f [(90, 3), (88, 1)] rfl).trans (show f 1 = _ from hH.get 1 (88, 1) rfl)
                  first
                    | exact skip_v hsz rfl ((wanted_some (b := false) rfl rfl s88).trans rfl) hQ0 (Grow.refl _) rfl
                    | exact skip_v hsz rfl (wanted_undef rfl rfl s88) hQ0 (Grow.refl _) rfl
                    | refine small_v hsz [(90, _)] ⟨some 1, (Op.call (Call.mk (Callee.value (Operand.func 35)) #[(.tmp 0)] #[9])), 4, "", #[], none⟩ [_, undef] 1 rfl ((wanted_some (b := true) rfl rfl s88).trans rfl) ⟨s90, trivial⟩ rfl (ren_call rfl rfl) hQ0 ?_
                      clear hQ0 hH s90 s88
                      intro Q hQ
                      go_wp2_with (go_at_call 35; refine (HNC.out _).mono ?_; rintro e w1 ⟨rfl, rfl⟩)
                      exact hQ _ _ (Grow.refl _) rfl rfl
                refine obls_cons (fun f w' hR hH Q0 hQ0 => ?_) ?_
                · skip
                  have s88 := (sv_at 88 1 hsz f [(88, 1), (91, 4)] rfl).trans (show f 1 = _ from hH.get 0 (88, 1) rfl)
                  have s91 := (sv_at 91 4 hsz f [(88, 1), (91, 4)] rfl).trans (show f 4 = _ from hH.get 1 (91, 4) rfl)
                  refine small_v hsz [(88, _), (91, _)] ⟨some 2, (Op.pick (.tmp 0) (.tmp 1) (Operand.const (Value.bool false))), 4, "", #[], none⟩ [_, _, undef] 2 rfl rfl ⟨s88, s91, trivial⟩ rfl rfl hQ0 ?_
                  clear hQ0 hH s88 s91
                  intro Q hQ
                  repeat go_step
                  exact hQ _ _ (Grow.refl _) rfl rfl
                refine obls_cons (fun f w' hR hH Q0 hQ0 => ?_) ?_
                · skip
                  have s92 := (sv_at 92 5 hsz f [(92, 5)] rfl).trans (show f 5 = _ from hH.get 0 (92, 5) rfl)
                  refine small_v hsz [(92, _)] ⟨some 1, (Op.move (.tmp 0)), 4, "", #[], none⟩ [_, undef] 1 rfl rfl ⟨s92, trivial⟩ rfl rfl hQ0 ?_
                  clear hQ0 hH s92
                  intro Q hQ
                  repeat go_step
                  exact hQ _ _ (Grow.refl _) rfl rfl
                refine obls_cons (fun f w' hR hH Q0 hQ0 => ?_) ?_
                · skip
                  have s8 := sv_off f [(93, 6)] e8 rfl
                  have s93 := (sv_at 93 6 hsz f [(93, 6)] rfl).trans (show f 6 = _ from hH.get 0 (93, 6) rfl)
                  first
                    | exact skip_v hsz rfl ((wanted_some (b := false) rfl rfl s93).trans rfl) hQ0 (Grow.refl _) rfl
                    | exact skip_v hsz rfl (wanted_undef rfl rfl s93) hQ0 (Grow.refl _) rfl
                    | refine small_v hsz [(8, _)] ⟨some 1, (Op.move (.tmp 0)), 3, "", #[], none⟩ [_, undef] 1 rfl ((wanted_some (b := true) rfl rfl s93).trans rfl) ⟨s8, trivial⟩ rfl rfl hQ0 ?_
                      clear hQ0 hH s8 s93
                      intro Q hQ
                      repeat go_step
                      exact hQ _ _ (Grow.refl _) rfl rfl
                refine obls_cons (fun f w' hR hH Q0 hQ0 => ?_) ?_
                · skip
                  have s94 := (sv_at 94 7 hsz f [(94, 7), (93, 6)] rfl).trans (show f 7 = _ from hH.get 0 (94, 7) rfl)
                  have s93 := (sv_at 93 6 hsz f [(94, 7), (93, 6)] rfl).trans (show f 6 = _ from hH.get 1 (93, 6) rfl)
                  first
                    | exact skip_v hsz rfl ((wanted_some (b := false) rfl rfl s93).trans rfl) hQ0 (Grow.refl _) rfl
                    | exact skip_v hsz rfl (wanted_undef rfl rfl s93) hQ0 (Grow.refl _) rfl
                    | refine small_v hsz [(94, _)] ⟨some 1, (Op.binOp BinOp.eql 3 (.tmp 0) (Operand.const (Value.int IntKind.i64 0)) 3), 4, "", #[], none⟩ [_, undef] 1 rfl ((wanted_some (b := true) rfl rfl s93).trans rfl) ⟨s94, trivial⟩ rfl rfl hQ0 ?_
                      clear hQ0 hH s94 s93
                      intro Q hQ
                      repeat go_step
                      exact hQ _ _ (Grow.refl _) rfl rfl
                refine obls_cons (fun f w' hR hH Q0 hQ0 => ?_) ?_
                · skip
                  have s95 := (sv_at 95 8 hsz f [(95, 8), (93, 6)] rfl).trans (show f 8 = _ from hH.get 0 (95, 8) rfl)
                  have s93 := (sv_at 93 6 hsz f [(95, 8), (93, 6)] rfl).trans (show f 6 = _ from hH.get 1 (93, 6) rfl)
                  first
                    | exact skip_v hsz rfl ((wanted_some (b := false) rfl rfl s93).trans rfl) hQ0 (Grow.refl _) rfl
                    | exact skip_v hsz rfl (wanted_undef rfl rfl s93) hQ0 (Grow.refl _) rfl
                    | refine small_v hsz [(95, _)] ⟨some 1, (Op.move (.tmp 0)), 4, "", #[], none⟩ [_, undef] 1 rfl ((wanted_some (b := true) rfl rfl s93).trans rfl) ⟨s95, trivial⟩ rfl rfl hQ0 ?_
                      clear hQ0 hH s95 s93
                      intro Q hQ
                      repeat go_step
                      exact hQ _ _ (Grow.refl _) rfl rfl
                refine obls_cons (fun f w' hR hH Q0 hQ0 => ?_) ?_
                · skip
                  have s6 := sv_off f [(96, 9)] e6 rfl
                  have s96 := (sv_at 96 9 hsz f [(96, 9)] rfl).trans (show f 9 = _ from hH.get 0 (96, 9) rfl)
                  first
                    | exact skip_v hsz rfl ((wanted_some (b := true) rfl rfl s96).trans rfl) hQ0 (Grow.refl _) rfl
                    | exact skip_v hsz rfl (wanted_undef rfl rfl s96) hQ0 (Grow.refl _) rfl
                    | refine small_v hsz [(6, _)] ⟨some 1, (Op.move (.tmp 0)), 28, "", #[], none⟩ [_, undef] 1 rfl ((wanted_some (b := false) rfl rfl s96).trans rfl) ⟨s6, trivial⟩ rfl rfl hQ0 ?_
                      clear hQ0 hH s6 s96
                      intro Q hQ
                      repeat go_step
                      exact hQ _ _ (Grow.refl _) rfl rfl
                refine obls_cons (fun f w' hR hH Q0 hQ0 => ?_) ?_
                · skip
                  have s8 := sv_off f [(96, 9)] e8 rfl
                  have s96 := (sv_at 96 9 hsz f [(96, 9)] rfl).trans (show f 9 = _ from hH.get 0 (96, 9) rfl)
                  first
                    | exact skip_v hsz rfl ((wanted_some (b := true) rfl rfl s96).trans rfl) hQ0 (Grow.refl _) rfl
                    | exact skip_v hsz rfl (wanted_undef rfl rfl s96) hQ0 (Grow.refl _) rfl
                    | refine small_v hsz [(8, _)] ⟨some 1, (Op.move (.tmp 0)), 3, "", #[], none⟩ [_, undef] 1 rfl ((wanted_some (b := false) rfl rfl s96).trans rfl) ⟨s8, trivial⟩ rfl rfl hQ0 ?_
                      clear hQ0 hH s8 s96
                      intro Q hQ
                      repeat go_step
                      exact hQ _ _ (Grow.refl _) rfl rfl
                refine obls_cons (fun f w' hR hH Q0 hQ0 => ?_) ?_
                · skip
                  have s98 := (sv_at 98 11 hsz f [(98, 11), (96, 9)] rfl).trans (show f 11 = _ from hH.get 0 (98, 11) rfl)
                  have s96 := (sv_at 96 9 hsz f [(98, 11), (96, 9)] rfl).trans (show f 9 = _ from hH.get 1 (96, 9) rfl)
                  first
                    | exact skip_v hsz rfl ((wanted_some (b := true) rfl rfl s96).trans rfl) hQ0 (Grow.refl _) rfl
                    | exact skip_v hsz rfl (wanted_undef rfl rfl s96) hQ0 (Grow.refl _) rfl
                    | refine small_v hsz [(98, _)] ⟨some 1, (Op.binOp BinOp.sub 3 (.tmp 0) (Operand.const (Value.int IntKind.i64 1)) 3), 3, "", #[], none⟩ [_, undef] 1 rfl ((wanted_some (b := false) rfl rfl s96).trans rfl) ⟨s98, trivial⟩ rfl rfl hQ0 ?_
                      clear hQ0 hH s98 s96
                      intro Q hQ
                      repeat go_step
                      exact hQ _ _ (Grow.refl _) rfl rfl
                refine obls_cons (fun f w' hR hH Q0 hQ0 => ?_) ?_
                · skip
                  have s97 := (sv_at 97 10 hsz f [(97, 10), (99, 12), (96, 9)] rfl).trans (show f 10 = _ from hH.get 0 (97, 10) rfl)
                  have s99 := (sv_at 99 12 hsz f [(97, 10), (99, 12), (96, 9)] rfl).trans (show f 12 = _ from hH.get 1 (99, 12) rfl)
                  have s96 := (sv_at 96 9 hsz f [(97, 10), (99, 12), (96, 9)] rfl).trans (show f 9 = _ from hH.get 2 (96, 9) rfl)
                  first
                    | exact skip_v hsz rfl ((wanted_some (b := true) rfl rfl s96).trans rfl) hQ0 (Grow.refl _) rfl
                    | exact skip_v hsz rfl (wanted_undef rfl rfl s96) hQ0 (Grow.refl _) rfl
                    | refine small_v hsz [(97, _), (99, _)] ⟨some 2, (Op.indexAddr 28 (.tmp 0) (.tmp 1)), 0, "", #[], none⟩ [_, _, undef] 2 rfl ((wanted_some (b := false) rfl rfl s96).trans rfl) ⟨s97, s99, trivial⟩ rfl rfl hQ0 ?_
                      clear hQ0 hH s97 s99 s96
                      intro Q hQ
                      repeat go_step
                      exact hQ _ _ (Grow.refl _) rfl rfl
                refine obls_cons (fun f w' hR hH Q0 hQ0 => ?_) ?_
                · skip
                  have s100 := (sv_at 100 13 hsz f [(100, 13), (96, 9)] rfl).trans (show f 13 = _ from hH.get 0 (100, 13) rfl)
                  have s96 := (sv_at 96 9 hsz f [(100, 13), (96, 9)] rfl).trans (show f 9 = _ from hH.get 1 (96, 9) rfl)
                  first
                    | exact skip_v hsz rfl ((wanted_some (b := true) rfl rfl s96).trans rfl) hQ0 (Grow.refl _) rfl
                    | exact skip_v hsz rfl (wanted_undef rfl rfl s96) hQ0 (Grow.refl _) rfl
                    | refine small_v hsz [(100, _)] ⟨some 1, (Op.fieldAddr 68 (.tmp 0) 0), 0, "", #[], none⟩ [_, undef] 1 rfl ((wanted_some (b := false) rfl rfl s96).trans rfl) ⟨s100, trivial⟩ rfl rfl hQ0 ?_
                      clear hQ0 hH s100 s96
                      intro Q hQ
                      repeat go_step
                      exact hQ _ _ (Grow.refl _) rfl rfl
                refine obls_cons (fun f w' hR hH Q0 hQ0 => ?_) ?_
                · skip
                  have s101 := (sv_at 101 14 hsz f [(101, 14), (96, 9)] rfl).trans (show f 14 = _ from hH.get 0 (101, 14) rfl)
                  have s96 := (sv_at 96 9 hsz f [(101, 14), (96, 9)] rfl).trans (show f 9 = _ from hH.get 1 (96, 9) rfl)
                  first
                    | exact skip_v hsz rfl ((wanted_some (b := true) rfl rfl s96).trans rfl) hQ0 (Grow.refl _) rfl
                    | exact skip_v hsz rfl (wanted_undef rfl rfl s96) hQ0 (Grow.refl _) rfl
                    | refine small_v hsz [(101, _)] ⟨some 1, (Op.load 9 (.tmp 0)), 9, "", #[], none⟩ [_, undef] 1 rfl ((wanted_some (b := false) rfl rfl s96).trans rfl) ⟨s101, trivial⟩ rfl rfl hQ0 ?_
                      clear hQ0 hH s101 s96
                      intro Q hQ
                      have z1 := hR.cell HY5.out
                      repeat go_step
                      exact hQ _ _ (Grow.refl _) rfl rfl
                refine obls_cons (fun f w' hR hH Q0 hQ0 => ?_) ?_
                · skip
                  have s9 := sv_off f [(96, 9)] e9 rfl
                  have s96 := (sv_at 96 9 hsz f [(96, 9)] rfl).trans (show f 9 = _ from hH.get 0 (96, 9) rfl)
                  first
                    | exact skip_v hsz rfl ((wanted_some (b := true) rfl rfl s96).trans rfl) hQ0 (Grow.refl _) rfl
                    | exact skip_v hsz rfl (wanted_undef rfl rfl s96) hQ0 (Grow.refl _) rfl
                    | refine small_v hsz [(9, _)] ⟨some 1, (Op.fieldAddr 68 (.tmp 0) 0), 0, "", #[], none⟩ [_, undef] 1 rfl ((wanted_some (b := false) rfl rfl s96).trans rfl) ⟨s9, trivial⟩ rfl rfl hQ0 ?_
                      clear hQ0 hH s9 s96
                      intro Q hQ
                      repeat go_step
                      exact hQ _ _ (Grow.refl _) rfl rfl
                refine obls_cons (fun f w' hR hH Q0 hQ0 => ?_) ?_
                · skip
                  have s103 := (sv_at 103 16 hsz f [(103, 16), (96, 9)] rfl).trans (show f 16 = _ from hH.get 0 (103, 16) rfl)
                  have s96 := (sv_at 96 9 hsz f [(103, 16), (96, 9)] rfl).trans (show f 9 = _ from hH.get 1 (96, 9) rfl)
                  first
                    | exact skip_v hsz rfl ((wanted_some (b := true) rfl rfl s96).trans rfl) hQ0 (Grow.refl _) rfl
                    | exact skip_v hsz rfl (wanted_undef rfl rfl s96) hQ0 (Grow.refl _) rfl
                    | refine small_v hsz [(103, _)] ⟨some 1, (Op.load 9 (.tmp 0)), 9, "", #[], none⟩ [_, undef] 1 rfl ((wanted_some (b := false) rfl rfl s96).trans rfl) ⟨s103, trivial⟩ rfl rfl hQ0 ?_
                      clear hQ0 hH s103 s96
                      intro Q hQ
                      have z0 := (HX9.out.grow hR).cell HY0.out
                      repeat go_step
                      exact hQ _ _ (Grow.refl _) rfl rfl
                refine obls_cons (fun f w' hR hH Q0 hQ0 => ?_) ?_
                · skip
                  have s102 := (sv_at 102 15 hsz f [(102, 15), (104, 17), (96, 9)] rfl).trans (show f 15 = _ from hH.get 0 (102, 15) rfl)
                  have s104 := (sv_at 104 17 hsz f [(102, 15), (104, 17), (96, 9)] rfl).trans (show f 17 = _ from hH.get 1 (104, 17) rfl)
                  have s96 := (sv_at 96 9 hsz f [(102, 15), (104, 17), (96, 9)] rfl).trans (show f 9 = _ from hH.get 2 (96, 9) rfl)
                  first
                    | exact skip_v hsz rfl ((wanted_some (b := true) rfl rfl s96).trans rfl) hQ0 (Grow.refl _) rfl
                    | exact skip_v hsz rfl (wanted_undef rfl rfl s96) hQ0 (Grow.refl _) rfl
                    | refine small_v hsz [(102, _), (104, _)] ⟨some 2, (Op.binOp BinOp.lss 9 (.tmp 0) (.tmp 1) 9), 4, "", #[], none⟩ [_, _, undef] 2 rfl ((wanted_some (b := false) rfl rfl s96).trans rfl) ⟨s102, s104, trivial⟩ rfl rfl hQ0 ?_
                      clear hQ0 hH s102 s104 s96
                      intro Q hQ
                      have z1 := HBL.out
                      repeat go_step
                      exact hQ _ _ (Grow.refl _) rfl rfl
                refine obls_cons (fun f w' hR hH Q0 hQ0 => ?_) ?_
                · skip
                  have s96 := (sv_at 96 9 hsz f [(96, 9), (105, 18), (93, 6)] rfl).trans (show f 9 = _ from hH.get 0 (96, 9) rfl)
                  have s105 := (sv_at 105 18 hsz f [(96, 9), (105, 18), (93, 6)] rfl).trans (show f 18 = _ from hH.get 1 (105, 18) rfl)
                  have s93 := (sv_at 93 6 hsz f [(96, 9), (105, 18), (93, 6)] rfl).trans (show f 6 = _ from hH.get 2 (93, 6) rfl)
                  first
                    | exact skip_v hsz rfl ((wanted_some (b := false) rfl rfl s93).trans rfl) hQ0 (Grow.refl _) rfl
                    | exact skip_v hsz rfl (wanted_undef rfl rfl s93) hQ0 (Grow.refl _) rfl
                    | refine small_v hsz [(96, _), (105, _)] ⟨some 2, (Op.pick (.tmp 0) (Operand.const (Value.bool true)) (.tmp 1)), 4, "", #[], none⟩ [_, _, undef] 2 rfl ((wanted_some (b := true) rfl rfl s93).trans rfl) ⟨s96, s105, trivial⟩ rfl rfl hQ0 ?_
                      clear hQ0 hH s96 s105 s93
                      intro Q hQ
                      repeat go_step
                      exact hQ _ _ (Grow.refl _) rfl rfl
                refine obls_cons (fun f w' hR hH Q0 hQ0 => ?_) ?_
                · skip
                  have s93 := (sv_at 93 6 hsz f [(93, 6), (106, 19)] rfl).trans (show f 6 = _ from hH.get 0 (93, 6) rfl)
                  have s106 := (sv_at 106 19 hsz f [(93, 6), (106, 19)] rfl).trans (show f 19 = _ from hH.get 1 (106, 19) rfl)
                  refine small_v hsz [(93, _), (106, _)] ⟨some 2, (Op.pick (.tmp 0) (.tmp 1) (Operand.const (Value.bool false))), 4, "", #[], none⟩ [_, _, undef] 2 rfl rfl ⟨s93, s106, trivial⟩ rfl rfl hQ0 ?_
                  clear hQ0 hH s93 s106
                  intro Q hQ
                  repeat go_step
                  exact hQ _ _ (Grow.refl _) rfl rfl
                refine obls_cons (fun f w' hR hH Q0 hQ0 => ?_) ?_
                · skip
                  have s107 := (sv_at 107 20 hsz f [(107, 20)] rfl).trans (show f 20 = _ from hH.get 0 (107, 20) rfl)
                  refine small_v hsz [(107, _)] ⟨some 1, (Op.assign (.tmp 0)), 4, "", #[], none⟩ [_, undef] 1 rfl rfl ⟨s107, trivial⟩ rfl rfl hQ0 ?_
                  clear hQ0 hH s107
                  intro Q hQ
                  repeat go_step
                  exact hQ _ _ (Grow.refl _) rfl rfl
                exact obls_nil
              case mono => exact ⟨Mono.veq _, Mono.veq _, Mono.veq _, Mono.veq _, Mono.veq _, Mono.veq _, Mono.veq _, Mono.veq _, Mono.veq _, Mono.veq _, Mono.veq _, Mono.veq _, Mono.veq _, Mono.veq _, Mono.veq _, Mono.veq _, Mono.veq _, Mono.veq _, Mono.veq _, Mono.veq _, Mono.veq _, Mono.veq _, trivial⟩
              case tail =>
                intro f w' hR hH
                have q21 := hH.get 21 (7, 21) rfl
                clear hH
                refine wpList_merge (idx := [none, none, none, none, none, none, none, some 21, none, none, none, none, none, none, none, none, none, none, none, none, none, none, none, none, none, none, none, none, none, none, none, none, none, none, none, none, none, none, none, none, none, none, none, none, none, none, none, none, none, none, none, none, none, none, none, none, none, none, none, none, none, none, none, none, none, none, none, none, none, none, none, none, none, none, none, none, none, none, none, none, none, none, none, none, none, none, none, some 0, some 1, some 2, some 3, some 4, some 5, some 6, some 7, some 8, some 9, some 10, some 11, some 12, some 13, some 14, some 15, some 16, some 17, some 18, some 19, some 20, none, none, none, none, none, none, none, none, none, none, none, none]) (by kernel_rfl) ?_; show wpList _ _ _ [] ⟨#[_, _, _, _, _, _, _, f 21, _, _, _, _, _, _, _, _, _, _, _, _, _, _, _, _, _, _, _, _, _, _, _, _, _, _, _, _, _, _, _, _, _, _, _, _, _, _, _, _, _, _, _, _, _, _, _, _, _, _, _, _, _, _, _, _, _, _, _, _, _, _, _, _, _, _, _, _, _, _, _, _, _, _, _, _, _, _, _, f 0, f 1, f 2, f 3, f 4, f 5, f 6, f 7, f 8, f 9, f 10, f 11, f 12, f 13, f 14, f 15, f 16, f 17, f 18, f 19, f 20, _, _, _, _, _, _, _, _, _, _, _, _], _⟩ _
                rw [show f 21 = _ from q21]
                clear q21
                have HR := Lib.hid hR
                clear hR
                have hb := HX9.out.grow HR.out
                have hbs := run_bslice_rt w' row HRL.out
                have hm9 := HM.out.1
                have hm8 := HM.out.2
                go_wp2_with (first | (refine load_blk rfl _ _ rfl b9 rfl _ _ _ hb undRT rfl (by rw [sizeRT, HRL.out]) ?_) | (refine wpList_bslice1 rfl _ _ rfl (.agg row.toArray) _ rfl hbs ?_) | (at_builtin; refine wpList_append_row rfl _ _ _ rfl (g + 1) TRT _ _ 65 144 Try.underlying28 iT iTz iTs iTb rfl (by decide) _ _ (trows T) rfl (own_grow HOW.out (HR.out.trans (Grow.alloc w' (.cells row.toArray TRT)))) (some ⟨w'.heap.size, 0, none⟩) 1 1 row rfl (by have := Row.new w' row TRT (0, 0); rw [HRL.out] at this; exact this) HR1.out (by have := HM.out; unfold maxLen; omega) (by have := HM.out; omega) (Nat.le_trans HGSB.out (HR.out.trans (Grow.alloc w' (.cells row.toArray TRT))).size) ?_; intro v1 w1 hown1 hgb1 _; obtain ⟨Av, cv, rfl, -, -, -⟩ := own_form hown1))
                have hni := HTAIL.out w' w1 _ HR.out hown1 hgb1
                have HNI := Lib.hid hni
                clear hown1 hgb1 hni hbs hb
                go_roundw
                case rel => first | exact ⟨i' + 1 + 1, _, Lj, ej, _, _, by go_num, by have := HM.out; omega, rfl, rfl, HDD.out, HNI.out.1, HNI.out.2⟩ | exact ⟨0 + 1, _, Lj, ej, _, _, by go_num, by have := HM.out; omega, rfl, rfl, HDD.out, HNI.out.1, HNI.out.2⟩
                case measure => have := HM.out; simp [intOf] <;> omega
        · obtain rfl : ej = 0 := by omega
          have hjM : j < MM := by omega
          have t2 : decide (j < MM) = true := decide_eq_true hjM
          have t2' : decide ((j : Int) < (MM : Int)) = true := decide_eq_true (by omega)
          obtain ⟨⟨a, L7, e7⟩, hra⟩ : ∃ r, r = rbyte Lj 0 64 := ⟨_, rfl⟩
          have hal : a ≤ 64 := by have := rbyte_le Lj 0 64; rw [← hra] at this; exact this
          obtain ⟨⟨k, L8, e8⟩, hrk⟩ : ∃ r, r = rnum L7 e7 60000 := ⟨_, rfl⟩
          have hkl : k ≤ 60000 := by have := rnum_le L7 e7 60000; rw [← hrk] at this; exact this
          have hby := ref_byte_any wb w.heap.size (fun i => i ≠ g) g Lj 0 HJ.out.r 64
          rw [← hra] at hby
          dsimp only at hby
          have HBY := Lib.hid hby
          have HNM : Hid (∀ wz, Rdr TX wz w.heap.size (fun i => i ≠ g) g L7 e7 → Calls Try.prog 32 #[.pointer (some ⟨g, 0, none⟩), .int .u64 60000] wz fun r w' => r = .returned (.int .u64 (k : Int)) ∧ Rdr TX w' w.heap.size (fun i => i ≠ g) g L8 e8 ∧ Keep w.heap.size (fun i => i ≠ g) wz w') := Lib.hid fun wz hz => by
            have := ref_num_any wz w.heap.size (fun i => i ≠ g) g L7 e7 hz 60000
            rw [← hrk] at this
            exact this
          have HDN : Hid (decRV (MM - (j + 1)) L8 e8 (if e8 = 0 ∧ 0 < a then v.set (a - 1) (k : Nat) else v) (if e8 = 0 then fj && decide (la < a) && decide (0 < k) else fj) (if e8 = 0 then a else la) = ((rv, rf), L4, e4)) := Lib.hid (by
            rw [← HDJ.out, show MM - j = (MM - (j + 1)) + 1 by omega, decRV_step hra.symm hrk.symm])
          have HMJ : Hid (j < MM) := Lib.hid hjM
          clear hst hra hrk hby
          go_wp2_with fail
          refine HBY.out.mono ?_
          rintro r w7 ⟨rfl, hr7, hk7⟩
          have HNM7 := Lib.hid (HNM.out w7 hr7)
          have HK7 := Lib.hid hk7
          clear hr7 hk7 HNM HBY ce
          go_wp2_with fail
          refine HNM7.out.mono ?_
          rintro r w8 ⟨rfl, hr8, hk8⟩
          have HR8 := Lib.hid hr8
          have hkk := HK7.out.trans hk8
          have HK8 := Lib.hid hkk
          have hb8 := hkk.blk HJ.out.x HB9.out.1
          have HB8 := Lib.hid hb8
          have ce : w8.cell? ⟨g, 1, none⟩ = some (.int .i64 (e8 : Int)) := by
            obtain ⟨_, _, _, hb9, -⟩ := hr8
            exact hb9.cell (i := 1) rfl
          clear hr8 hk8 hkk hb8 HNM7
          by_cases he8 : e8 = 0
          · subst he8
            obtain ⟨fn, hfn⟩ : ∃ fn, fn = (fj && decide (la < a) && decide (0 < k)) := ⟨_, rfl⟩
            have hdd := HDN.out
            rw [if_pos rfl, if_pos rfl, ← hfn] at hdd
            by_cases ha0 : 0 < a
            · obtain ⟨a', rfl⟩ : ∃ a', a = a' + 1 := ⟨a - 1, by omega⟩
              rw [if_pos ⟨rfl, ha0⟩, Nat.add_sub_cancel] at hdd
              have ha9 : a' < 64 := by omega
              have hb9 := HB8.out
              obtain ⟨x, hx⟩ := vec_at HJ.out.ok ha9
              have hxx : (Value.string nm :: ints .u16 v)[1 + a']? = some (.int .u16 x) := by rw [Nat.add_comm, List.getElem?_cons_succ]; exact ints_at hx
              have c9 := hb9.cell hxx
              have f9 := hb9.free (1 + a')
              have HDD2 := Lib.hid hdd
              have HAL := Lib.hid hal
              have HKL := Lib.hid hkl
              have sv := hb9.set_ (1 + a') (.int .u16 (k : Int))
              rw [Nat.add_comm, List.set_cons_succ, ints_set, Nat.add_comm] at sv
              have HSV := Lib.hid sv
              have e9' : ((a' + 1 : Nat) : Int) - 1 = (a' : Int) := by omega
              have p0 : decide (0 < a' + 1) = true := decide_eq_true (by omega)
              have p0' : decide ((0 : Int) < (a' : Int) + 1) = true := decide_eq_true (by omega)
              have hcs : (fj = false ∧ fn = false) ∨ (fj = true ∧ decide (la < a' + 1) = false ∧ decide ((la : Int) < (a' : Int) + 1) = false ∧ fn = false) ∨ (fj = true ∧ decide (la < a' + 1) = true ∧ decide ((la : Int) < (a' : Int) + 1) = true ∧ decide (0 < k) = false ∧ decide ((0 : Int) < (k : Int)) = false ∧ fn = false) ∨ (fj = true ∧ decide (la < a' + 1) = true ∧ decide ((la : Int) < (a' : Int) + 1) = true ∧ decide (0 < k) = true ∧ decide ((0 : Int) < (k : Int)) = true ∧ fn = true) := by
                cases fj
                · exact .inl ⟨rfl, hfn⟩
                · by_cases h1 : la < a' + 1
                  · by_cases h2 : 0 < k
                    · exact .inr (.inr (.inr ⟨rfl, decide_eq_true h1, decide_eq_true (by omega), decide_eq_true h2, decide_eq_true (by omega), by rw [hfn, decide_eq_true h1, decide_eq_true h2]; rfl⟩))
                    · exact .inr (.inr (.inl ⟨rfl, decide_eq_true h1, decide_eq_true (by omega), decide_eq_false h2, decide_eq_false (by omega), by rw [hfn, decide_eq_true h1, decide_eq_false h2]; rfl⟩))
                  · exact .inr (.inl ⟨rfl, decide_eq_false h1, decide_eq_false (by omega), by rw [hfn, decide_eq_false h1]; rfl⟩)
              clear hdd hb9 hx sv hxx hfn
              rcases hcs with ⟨rfl, rfl⟩ | ⟨rfl, q1, q2, rfl⟩ | ⟨rfl, q1, q2, q3, q4, rfl⟩ | ⟨rfl, q1, q2, q3, q4, rfl⟩
              all_goals
                go_wp2_with fail
                clear c9 f9 p0 p0' ce
                go_roundw
                case rel =>
                  have hs := HR8.out.keep (K2 := fun i => i ≠ b9) ((Keep.refl w8).setCell (p := ⟨b9, 1 + a', none⟩) HB9.out.2 (fun h => h rfl) (.int .u16 (k : Int))) (fun e => HB9.out.1 e.symm)
                  exact ⟨j + 1, L8, 0, v.set a' (k : Nat), _, a' + 1, rfl, rfl, by go_num, HAL.out, HMJ.out, HDD2.out, hs, HSV.out, set_ok HJ.out.ok _ _ (by have := HKL.out; omega), (HJ.out.k.trans (HK8.out.less fun i hi => hi.1)).setCell HB9.out.2 (fun h => h.2 rfl) _⟩
                case measure => have hm9 := HMJ.out; simp [intOf] <;> omega
            · obtain rfl : a = 0 := by omega
              rw [if_neg (fun h => absurd h.2 (by decide))] at hdd
              have hfn2 : fn = false := by rw [hfn, decide_eq_false (by omega : ¬ la < 0)]; simp
              subst hfn2
              have HDD2 := Lib.hid hdd
              have q1 : decide (la < 0) = false := decide_eq_false (by omega)
              have q2 : decide ((la : Int) < 0) = false := decide_eq_false (by omega)
              clear hdd hfn ha0
              cases fj
              all_goals
                go_wp2_with fail
                clear q1 q2 ce
                go_roundw
                case rel =>
                  exact ⟨j + 1, L8, 0, v, _, 0, rfl, rfl, by go_num, by omega, HMJ.out, HDD2.out, HR8.out, HB8.out, HJ.out.ok, HJ.out.k.trans (HK8.out.less fun i hi => hi.1)⟩
                case measure => have hm9 := HMJ.out; simp [intOf] <;> omega
          · have s1 : ((e8 : Int) == 0) = false := beq_false_of_ne (by omega)
            have s2 : (e8 == 0) = false := beq_false_of_ne he8
            have hdd := HDN.out
            rw [if_neg (fun h => he8 h.1), if_neg he8, if_neg he8] at hdd
            have HDD2 := Lib.hid hdd
            clear he8 hdd
            go_wp2_with fail
            clear s1 s2 ce
            go_roundw
            case rel =>
              exact ⟨j + 1, L8, e8, v, fj, la, rfl, rfl, by go_num, hla, HMJ.out, HDD2.out, HR8.out, HB8.out, HJ.out.ok, HJ.out.k.trans (HK8.out.less fun i hi => hi.1)⟩
            case measure => have hm9 := HMJ.out; simp [intOf] <;> omega
end Go.Proofs.Ythclgmpjmhacdaa.tg
