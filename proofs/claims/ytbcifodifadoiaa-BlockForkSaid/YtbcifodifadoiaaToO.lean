/- The walk of Order. -/
import Derived.Test.YtbcifodifadoiaaToG
namespace Go.Proofs.Ytbcifodifadoiaa.toW
open Go Go.RowKit Go.Par Go.Kit Go.Proofs.Ytbcifodifadoiaa.Mk Go.Proofs.Ytbcifodifadoiaa.mkW Go.Proofs.Ytbcifodifadoiaa.Re Go.Proofs.Ytbcifodifadoiaa.reW Go.Proofs.Ytbcifodifadoiaa.mkR Go.Proofs.Ytbcifodifadoiaa.To

theorem groupI_nat {n : Nat} {R : Nat → Nat → Bool} {i : Nat} (hi : i < n) : groupI n R (i : Int) = (groupN R i : Int) := by
  unfold groupI
  rw [decide_eq_true (show (0 : Int) ≤ (i : Int) by omega), decide_eq_true (show (i : Int) < (n : Int) by omega)]
  simp
set_option maxRecDepth 100000 in
set_option maxHeartbeats 8000000 in
theorem order_any (w : World) (gr n : Nat) (R : Nat → Nat → Bool) (h : RelP w gr n R) (hb : Bd n R) (htr : Tr R) :
    Calls Try.prog 19 #[.pointer (some ⟨gr, 0, none⟩)] w fun e w' => ∃ v, e = .returned v ∧ IntsV w' v (orderN n R) ∧ Grow w w' := by
  have hn : n ≤ 65536 := h.1
  have HR := Lib.hid h
  have HA := Lib.hid (ahead_any w gr n R h hb)
  have HBD := Lib.hid hb
  have HTR := Lib.hid htr
  have HLT : Hid (∀ i j, R i j = true → j < n) := Lib.hid fun i j hij => (hb i j hij).2
  clear h hb htr
  go_enter Try.func19, Try.ntmps19
  go_wp2_with fail
  refine HA.out.mono ?_
  rintro e w1 ⟨bb, gk, hk, rfl, hbb, pa⟩
  have HPA := Lib.hid pa
  have HL1 := Lib.hid (reW.len_any w1 gr n R (HR.out.grow pa.g))
  have HNW := Lib.hid (mkW.new_any (n : Int) w1 (by omega) (by omega))
  clear pa hbb HA
  go_wp2_with fail
  refine HL1.out.mono ?_
  rintro e w' ⟨rfl, rfl⟩
  go_wp2_with fail
  refine HNW.out.mono ?_
  rintro e w2 ⟨rfl, ms, hg2⟩
  rw [show clampN (n : Int) = n by unfold clampN; omega] at ms
  have HMS := Lib.hid ms
  have HG2 := Lib.hid hg2
  have HL2 := Lib.hid (reW.len_any w2 gr n R ((HR.out.grow HPA.out.g).grow hg2))
  obtain ⟨gt, hgt⟩ : ∃ g, g = w1.heap.size + 1 := ⟨_, rfl⟩
  obtain ⟨ht, hht⟩ : ∃ g, g = w1.heap.size := ⟨_, rfl⟩
  rw [← hgt, ← hht] at HMS
  rw [← hgt]
  have HGT := Lib.hid hgt
  have HHT := Lib.hid hht
  clear ms hg2 HL1 HNW hgt hht
  go_wp2_with fail
  refine HL2.out.mono ?_
  rintro e w' ⟨rfl, rfl⟩
  have hmk := make_row (P := Try.prog) (z := .slice none 0 0) Try.underlying67 iL iLz iLs rfl n (by rw [iLb]; omega) (by omega)
  clear HL2
  go_wp2_with fail
  obtain ⟨bg, hbe⟩ : ∃ b, b = w2.heap.size := ⟨_, rfl⟩
  obtain ⟨W1, hW1⟩ : ∃ W, W = w2.alloc (.cells (Array.replicate n (.slice none 0 0)) TI) := ⟨_, rfl⟩
  rw [← hbe, ← hW1]
  have HBG : Hid (w.heap.size ≤ bg) := Lib.hid (by rw [hbe]; exact Nat.le_trans HPA.out.g.size HG2.out.size)
  have HPG : Hid (PG w bb n R gk hk gt ht bg 0 (fun _ => .slice none 0 0) W1) := Lib.hid (by
    have hg : Grow w2 W1 := by rw [hW1]; exact Grow.alloc _ _
    have hs := HPA.out.g.size
    refine ⟨(HPA.out.grow HG2.out).grow hg, HMS.out.grow hg, ?_, fun i hi => ?_, ?_, fun g hgn => World.ownsRow_nil _ _ _ _, fun g hgn g' hgn' hne j hj => (by cases hj)⟩
    · rw [HGT.out, HHT.out]; omega
    · obtain ⟨-, -, m⟩ := HPA.out.ms hi
      have := m.lt
      have h2 := this.2 _ rfl
      rw [HGT.out, HHT.out]; omega
    · rw [hW1]
      exact Blk.new _ _ _ _ (by rw [← List.toArray_replicate]; congr 1; apply List.ext_getElem?; intro i; by_cases hi : i < n <;> simp [hi]) hbe)
  have HL3 := Lib.hid (reW.len_any W1 gr n R (HR.out.grow HPG.out.pa.g))
  clear hmk HPA HMS HG2 HGT HHT hbe hW1
  refine HL3.out.mono ?_
  rintro e w' ⟨rfl, rfl⟩
  clear HL3
  go_wp2_with fail
  go_loopw [23] (fun i' wr => ∃ (k : Nat) (vals : Nat → Value), k ≤ n ∧ i' = .int .i64 (k : Int) ∧ PG w bb n R gk hk gt ht bg k vals wr) (fun i' _ => n - (intOf i').toNat)
  case atStart => exact ⟨0, _, by omega, rfl, HPG.out⟩
  case round =>
    obtain ⟨k, vals, hkn, rfl, pg⟩ := hrel
    by_cases hlt : k < n
    · have HPG1 := Lib.hid pg
      have hgrp := group_any wr gr n R (HR.out.grow pg.pa.g) HLT.out (k : Int) (by omega) (by omega)
      rw [groupI_nat hlt] at hgrp
      obtain ⟨g, hg⟩ : ∃ g, g = groupN R k := ⟨_, rfl⟩
      rw [← hg] at hgrp
      have hgn : g < n := by rw [hg]; exact group_lt hlt
      have HGRP := Lib.hid hgrp
      have HGE := Lib.hid hg.symm
      have c1 := pg.bx.cell (map_at hgn)
      have c2 := (pg.bx.grow (Grow.alloc wr (.cells #[.int .i64 (k : Int)] 3))).cell (map_at hgn)
      have HLTk := Lib.hid hlt
      clear pg hgrp hg
      go_wp2_with fail
      refine HGRP.out.mono ?_
      rintro e w' ⟨rfl, rfl⟩
      have HGN := Lib.hid hgn
      have hml : (members k R g).length ≤ 65536 := by
        have := List.length_filter_le (fun i => groupN R i == g) (List.range k)
        rw [List.length_range] at this
        unfold members
        omega
      have HML := Lib.hid hml
      clear hml hgn
      go_wp2_with (refine wpList_append_row rfl _ _ _ rfl w.heap.size 3 _ _ 1 8 Try.underlying23 iI iIz iIs iIb rfl (by decide) (vals g) (members k R g).length ((members k R g).map nv) rfl (own_grow (HPG1.out.own g HGN.out) (Grow.alloc _ _)) (some ⟨wr.heap.size, 0, none⟩) 1 1 [nv k] rfl (Row.new _ [nv k] 3 (0, 0)) (by simp [nv, Value.oneCell']) (by have := HML.out; unfold maxLen; omega) (by have := HML.out; omega) (Nat.le_trans HPG1.out.pa.g.size (by simp)) ?_; intro v1 w1 hown1 hgb1 hv1; have HV1 := Lib.hid (And.intro hown1 (And.intro hgb1 hv1)); obtain ⟨A7, c7, rfl, -⟩ := own_form hown1; have hap := HPG1.out.app (Grow.alloc _ _) HGN.out hgb1; have y1 := hap.2.cell (map_at HGN.out); have y2 := hap.2.free g; clear hap hgb1 hv1 hown1)
      go_roundw
      case rel => exact ⟨k + 1, _, by have := HLTk.out; omega, by go_num, HPG1.out.step (Grow.alloc _ _) HBG.out HGN.out HGE.out HV1.out.2.1 HV1.out.1 HV1.out.2.2⟩
      case measure => have := HLTk.out; simp [intOf] <;> omega
    · obtain rfl : n = k := by omega
      have HPO := Lib.hid pg.start
      have HN := Lib.hid (reW.len_any wr gr n R (HR.out.grow pg.pa.g))
      clear pg hkn hlt HPG HLT HBG
      obtain ⟨Wa, hWa⟩ : ∃ W, W = wr := ⟨_, rfl⟩
      rw [← hWa] at HPO
      go_wp2_with fail
      go_loopw [8] (fun v0 wr => ∃ (o : List Nat) (v : Value), v = v0 ∧ To.Way n R o ∧ PO w bb n R gk hk gt ht bg vals Wa o (fun j => o.contains j) v wr) (fun v0 _ => n - lenV v0)
      case atStart => exact ⟨[], _, rfl, To.Way.nil n R, by rw [← hWa]; exact HPO.out⟩
      case round =>
        obtain ⟨o, v, rfl, way, po⟩ := hrel
        have HW := Lib.hid way
        have HPO1 := Lib.hid po
        obtain ⟨A8, c8, e8, -⟩ := own_form po.own
        obtain ⟨l8, hl8⟩ : ∃ l, l = o.length := ⟨_, rfl⟩
        rw [← hl8] at e8
        subst e8
        have HL8 := Lib.hid hl8
        have HN1 := Lib.hid (reW.len_any wr gr n R (HR.out.grow po.g))
        by_cases hlo : l8 < n
        · have HLO := Lib.hid hlo
          clear way po hl8
          go_wp2_with fail
          refine HN1.out.mono ?_
          rintro e w' ⟨rfl, rfl⟩
          go_wp2_with fail
          obtain ⟨Wb, hWb⟩ : ∃ W, W = wr := ⟨_, rfl⟩
          rw [← hWb] at HPO1
          have HWB := Lib.hid hWb.symm
          clear hWb HN1
          go_loopw [8, 47] (fun v0 i' wr => ∃ (g : Nat), g ≤ n ∧ i' = .int .i64 (g : Int) ∧ v0 = .slice A8 l8 c8 ∧ Wb = wr ∧ ∀ x, x < g → okG n R o x = false) (fun _ i' _ => n - (intOf i').toNat)
          case atStart => exact ⟨0, by omega, rfl, rfl, HWB.out.symm, fun x hx => absurd hx (by omega)⟩
          case round =>
            clear HWB
            obtain ⟨g, hgn, rfl, rfl, rfl, hno⟩ := hrel
            have HNO := Lib.hid hno
            by_cases hlt : g < n
            · have HLT2 := Lib.hid hlt
              have po := HPO1.out
              have hls := po.ls hlt
              have HLS := Lib.hid hls
              obtain ⟨A5, c5, e5, -⟩ := hls
              obtain ⟨l5, hl5⟩ : ∃ l, l = (members n R g).length := ⟨_, rfl⟩
              rw [← hl5] at e5
              have HL5 := Lib.hid hl5
              have b2 := po.b2.cell (map_at hlt)
              rw [e5] at b2
              have HE5 := Lib.hid e5
              have b1 := po.b1.cell (ptrs_at hlt)
              rw [if_pos hlt] at b1
              simp only [pv] at b1
              have hhas := has_any Wb gt (some ht) n _ po.tk (g : Int)
              rw [has_mem] at hhas
              have hwin := within_ms (po.ms hlt) po.tk
              rw [all_free] at hwin
              obtain ⟨q1, hq1⟩ : ∃ q, q = o.contains g := ⟨_, rfl⟩
              obtain ⟨q2, hq2⟩ : ∃ q, q = freeB n R o g := ⟨_, rfl⟩
              rw [← hq1] at hhas
              rw [← hq2] at hwin
              have HHAS := Lib.hid hhas
              have HWIN := Lib.hid hwin
              have HQ1 := Lib.hid hq1
              have HQ2 := Lib.hid hq2
              clear po hl5 e5 hhas hwin hq1 hq2 hno
              by_cases h0 : l5 = 0
              · have t0 : (l5 == 0) = true := beq_iff_eq.2 h0
                have t1 : ((l5 : Int) == 0) = true := beq_iff_eq.2 (by omega)
                have HOK : Hid (okG n R o g = false) := Lib.hid (by
                  have : members n R g = [] := List.eq_nil_of_length_eq_zero (by rw [← HL5.out, h0])
                  have := (members_nil HTR.out HLT2.out).1 this
                  unfold okG
                  rw [beq_false_of_ne this]; rfl)
                clear h0
                go_wp2_with fail
                go_roundw
                case rel => exact ⟨g + 1, by have := HLT2.out; omega, by go_num, rfl, trivial, fun x hx => by
                  by_cases e : x = g
                  · rw [e]; exact HOK.out
                  · exact HNO.out x (by omega)⟩
                case measure => have := HLT2.out; simp [intOf] <;> omega
              · have t0 : (l5 == 0) = false := beq_false_of_ne h0
                have t1 : ((l5 : Int) == 0) = false := beq_false_of_ne (by omega)
                have HGG : Hid (groupN R g = g) := Lib.hid (Decidable.byContradiction fun hn => h0 (by rw [HL5.out, (members_nil HTR.out HLT2.out).2 hn]; rfl))
                clear h0
                cases q1
                · cases q2
                  · have HOK : Hid (okG n R o g = false) := Lib.hid (by unfold okG; rw [← HQ2.out]; simp)
                    go_wp2_with fail
                    refine HHAS.out.mono ?_
                    rintro e w' ⟨rfl, rfl⟩
                    go_wp2_with fail
                    refine HWIN.out.mono ?_
                    rintro e w' ⟨rfl, rfl⟩
                    go_wp2_with fail
                    go_roundw
                    case rel => exact ⟨g + 1, by have := HLT2.out; omega, by go_num, rfl, trivial, fun x hx => by
                      by_cases e : x = g
                      · rw [e]; exact HOK.out
                      · exact HNO.out x (by omega)⟩
                    case measure => have := HLT2.out; simp [intOf] <;> omega
                  · have hok : okG n R o g = true := by unfold okG; rw [HGG.out, ← HQ1.out, ← HQ2.out]; simp
                    have HPK := Lib.hid (pick_at HLT2.out hok HNO.out)
                    clear hok
                    go_wp2_with fail
                    refine HHAS.out.mono ?_
                    rintro e w' ⟨rfl, rfl⟩
                    go_wp2_with fail
                    refine HWIN.out.mono ?_
                    rintro e w' ⟨rfl, rfl⟩
                    go_wp2_with fail
                    obtain ⟨L, hL⟩ : ∃ L, L = members n R g := ⟨_, rfl⟩
                    have HLL := Lib.hid hL
                    have HLX : Hid (∀ x ∈ L, x < n) := Lib.hid fun x hx => (mem_members.1 (hL ▸ hx)).1
                    have HL5' : Hid (l5 = L.length) := Lib.hid (by rw [hL]; exact HL5.out)
                    have HROW : Hid (∀ w2 T v2 o2, PO w bb n R gk hk gt ht bg vals Wa o2 T v2 w2 → Row w2 A5 L.length (L.map nv)) := Lib.hid fun w2 T v2 o2 po => by
                      obtain ⟨A', c', e', -, -, hrow, -⟩ := po.ls HLT2.out
                      rw [HE5.out] at e'
                      injection e' with e1
                      rw [e1, hL]
                      exact hrow
                    have HLL5 : Hid (l5 ≤ 65536) := Lib.hid (by
                      have := List.length_filter_le (fun i => groupN R i == g) (List.range n)
                      rw [List.length_range] at this
                      rw [HL5.out]; unfold members; omega)
                    clear hL b1 b2 HHAS HWIN HQ1 HQ2 HNO
                    go_loopw [71] (fun i' wr => ∃ (m : Nat), m ≤ l5 ∧ i' = .int .i64 (m : Int) ∧ PO w bb n R gk hk gt ht bg vals Wa o (fun j => (o ++ L.take m).contains j) (.slice A8 l8 c8) wr) (fun i' _ => l5 - (intOf i').toNat)
                    case atStart => exact ⟨0, by omega, rfl, by rw [List.take_zero, List.append_nil]; exact HPO1.out⟩
                    case round =>
                      obtain ⟨m, hml, rfl, po⟩ := hrel
                      by_cases hlt3 : m < l5
                      · obtain ⟨b, off, x, rfl, hx, hcell⟩ := Row.nat_at (HROW.out _ _ _ _ po) (k := m) (by rw [← HL5'.out]; exact hlt3)
                        have HX := Lib.hid hx
                        have hxn := HLX.out x (List.mem_of_getElem? hx)
                        have HXN := Lib.hid hxn
                        have HPO2 := Lib.hid po
                        have HPUT := Lib.hid (put_any wr w.heap.size _ gt (some ht) n _ po.tk po.free (x : Int))
                        have HLTm := Lib.hid hlt3
                        have z9 := HLL5.out
                        clear po hx hxn
                        go_wp2_with fail
                        refine HPUT.out.mono ?_
                        rintro e w' ⟨rfl, ms, hkp⟩
                        rw [put_mem HXN.out, List.append_assoc] at ms
                        have HPO3 := Lib.hid (HPO2.out.put hkp ms)
                        clear ms hkp
                        go_wp2_with fail
                        go_roundw
                        case rel => exact ⟨m + 1, by have := HLTm.out; omega, by go_num, by rw [List.take_add_one, HX.out]; exact HPO3.out⟩
                        case measure => have := HLTm.out; simp [intOf] <;> omega
                      · obtain rfl : l5 = m := by omega
                        have htk : L.take l5 = L := List.take_of_length_le (by rw [HL5'.out]; exact Nat.le_refl _)
                        rw [htk] at po
                        have HPO2 := Lib.hid po
                        have hrow := HROW.out _ _ _ _ po
                        rw [← HL5'.out] at hrow
                        have HRW := Lib.hid hrow
                        have hown := po.own
                        rw [← HL8.out] at hown
                        have HOWN := Lib.hid hown
                        clear po hrow hown htk
                        go_wp2_with (refine wpList_append_row rfl _ _ _ rfl Wa.heap.size 3 _ _ 1 8 Try.underlying23 iI iIz iIs iIb rfl (by decide) (.slice A8 l8 c8) l8 (o.map nv) rfl HOWN.out A5 l5 c5 (L.map nv) rfl (by rw [Nat.mul_one]; exact HRW.out) (fun u hu => by obtain ⟨x, -, rfl⟩ := List.mem_map.1 hu; rfl) (by have := HLL5.out; have := HLO.out; unfold maxLen; omega) (by have := HLL5.out; have := HLO.out; omega) HPO2.out.kp.size ?_; intro v1 w1 hown1 hgb1 hv1)
                        have hlen : (o ++ L).length = l8 + l5 := by rw [List.length_append, ← HL8.out, ← HL5'.out]
                        rw [← List.map_append, ← hlen] at hown1
                        have HPO4 := Lib.hid (HPO2.out.app hgb1 hown1)
                        have HW2 := Lib.hid (HW.out.step HTR.out (by rw [← HL8.out]; exact HLO.out) HPK.out)
                        rw [← HLL.out] at HW2
                        obtain ⟨A9, c9, rfl, -⟩ := own_form hown1
                        have HL0 : Hid (0 < l5) := Lib.hid (Nat.pos_of_ne_zero fun e => by rw [e] at t0; cases t0)
                        clear hown1 hgb1 hv1
                        go_roundw
                        case rel => exact ⟨_, _, rfl, HW2.out, HPO4.out⟩
                        case measure => have := HL0.out; have := HLO.out; simp only [lenV]; omega
                · have HOK : Hid (okG n R o g = false) := Lib.hid (by unfold okG; rw [← HQ1.out]; simp)
                  go_wp2_with fail
                  refine HHAS.out.mono ?_
                  rintro e w' ⟨rfl, rfl⟩
                  go_wp2_with fail
                  go_roundw
                  case rel => exact ⟨g + 1, by have := HLT2.out; omega, by go_num, rfl, trivial, fun x hx => by
                    by_cases e : x = g
                    · rw [e]; exact HOK.out
                    · exact HNO.out x (by omega)⟩
                  case measure => have := HLT2.out; simp [intOf] <;> omega
            · exfalso
              obtain rfl : n = g := by omega
              have hl := HLO.out
              obtain ⟨x, hx⟩ := pick_some HTR.out HW.out.inv (by rw [← HL8.out]; exact hl)
              obtain ⟨h1, h2, -⟩ := pick_spec hx
              rw [hno x h1] at h2
              cases h2
        · have e := way.end_ (by omega)
          have HEND : Hid (IntsV wr (.slice A8 l8 c8) (orderN n R) ∧ Grow w wr) := Lib.hid ⟨by rw [← e]; exact IntsV.own po.own, po.g⟩
          clear way po hl8 e
          go_wp2_with fail
          refine HN1.out.mono ?_
          rintro e w' ⟨rfl, rfl⟩
          go_wp2_with fail
          go_ret
          exact ⟨_, rfl, HEND.out⟩
end Go.Proofs.Ytbcifodifadoiaa.toW
