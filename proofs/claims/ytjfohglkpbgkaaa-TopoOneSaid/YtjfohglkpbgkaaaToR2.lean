/- The walk of the document's Order. -/
import Derived.Test.YtjfohglkpbgkaaaToR
namespace Go.Proofs.Ytjfohglkpbgkaaa.toW
open Go Go.RowKit Go.Par Go.Kit Go.Proofs.Ytjfohglkpbgkaaa.Mk Go.Proofs.Ytjfohglkpbgkaaa.mkW Go.Proofs.Ytjfohglkpbgkaaa.Re Go.Proofs.Ytjfohglkpbgkaaa.reW Go.Proofs.Ytjfohglkpbgkaaa.mkR Go.Proofs.Ytjfohglkpbgkaaa.To

/-- what the document's Order keeps -/
structure OR (W1 : World) (o : List Nat) (v : Value) (w : World) : Prop where
  g : Grow W1 w
  own : w.ownsRow W1.heap.size 3 1 v o.length (o.map nv)
theorem OR.grow {W1 w w' : World} {o : List Nat} {v : Value} (h : OR W1 o v w) (hg : Grow w w') : OR W1 o v w' := ⟨h.g.trans hg, own_grow h.own hg⟩
theorem OR.app {W1 w w1 w' : World} {o o' : List Nat} {v v' : Value} (h : OR W1 o v w) (hg : Grow w w1) (hgb : w1.grownBy w' v.ownBlock) (ho : w'.ownsRow W1.heap.size 3 1 v' o'.length (o'.map nv)) : OR W1 o' v' w' :=
  ⟨grow_by (h.g.trans hg) hgb (own_base h.own), ho⟩
theorem members_len (k : Nat) (R : Nat → Nat → Bool) (g : Nat) : (members k R g).length ≤ k := by
  have := List.length_filter_le (fun i => groupN R i == g) (List.range k)
  rw [List.length_range] at this
  exact this
theorem members_yes {k : Nat} {R : Nat → Nat → Bool} {g : Nat} (o : List Nat) (h : groupN R k = g) : o ++ members (k + 1) R g = (o ++ members k R g) ++ [k] := by
  rw [members_succ, if_pos h, List.append_assoc]
theorem members_no {k : Nat} {R : Nat → Nat → Bool} {g : Nat} (h : groupN R k ≠ g) : members (k + 1) R g = members k R g := by
  rw [members_succ, if_neg h, List.append_nil]
set_option maxRecDepth 100000 in
set_option maxHeartbeats 8000000 in
theorem ref_order (w : World) (n : Nat) (v : Value) (L : List (Nat × Nat)) (hv : RefV w v L) (hL : L.length ≤ 1000000) (hn : n ≤ 65536) :
    Calls Try.prog 52 #[.agg #[.int .i64 (n : Int), v]] w fun e w' => ∃ u, e = .returned u ∧ IntsV w' u (orderN n (leadB L)) ∧ Grow w w' := by
  have HV := Lib.hid hv
  obtain ⟨A, c, rfl, -⟩ := hv
  obtain ⟨l, hl⟩ : ∃ l, l = L.length := ⟨_, rfl⟩
  rw [← hl] at HV ⊢
  obtain ⟨W1, hW1⟩ : ∃ W, W = w.alloc (.cells #[.int .i64 (n : Int), .slice A l c] TX8) := ⟨_, rfl⟩
  obtain ⟨b0, hb0⟩ : ∃ b, b = w.heap.size := ⟨_, rfl⟩
  have hg1 : Grow w W1 := by rw [hW1]; exact Grow.alloc _ _
  have hbx : Blk W1 b0 TX8 [.int .i64 (n : Int), .slice A l c] := by rw [hW1]; exact Blk.new w _ _ _ rfl hb0
  obtain ⟨R, hR⟩ : ∃ R, R = leadB L := ⟨_, rfl⟩
  rw [← hR]
  have HTR : Hid (Tr R) := Lib.hid (by rw [hR]; exact leadB_tr L)
  have HRR := Lib.hid hR
  have HBX := Lib.hid hbx
  have HVW := Lib.hid (HV.out.grow hg1)
  have HG1 := Lib.hid hg1
  have HW1 := Lib.hid hW1
  have HB0 := Lib.hid hb0
  have HLL := Lib.hid hL
  have KG : Hid (∀ (w' : World) (i : Nat), Grow W1 w' → i < n → Calls Try.prog 44 #[.agg #[.int .i64 (n : Int), .slice A l c], .int .i64 (i : Int)] w' fun e w2 => e = .returned (.int .i64 (groupN R i : Int)) ∧ Grow w' w2) := Lib.hid fun w' i hg hi => by
    have := ref_group w' n _ L (HVW.out.grow hg) HLL.out (i : Int)
    rw [groupI_nat hi, ← HRR.out] at this
    exact this
  have KF : Hid (∀ (w' : World) (u : Value) (o : List Nat) (g : Nat), Grow W1 w' → IntsV w' u o → Calls Try.prog 65 #[.agg #[.int .i64 (n : Int), .slice A l c], u, .int .i64 (g : Int)] w' fun e w2 => e = .returned (.bool (freeB n R o g)) ∧ Grow w' w2) := Lib.hid fun w' u o g hg hu => by
    rw [HRR.out]
    exact free_any w' n _ L (HVW.out.grow hg) HLL.out hn u o hu g
  clear hl hW1 hb0 hg1 hL hbx hR HV HVW HRR HLL
  go_enter Try.func52, Try.ntmps52
  go_wp2_with fail
  rw [← HW1.out, ← HB0.out]
  go_loopw [3] (fun v0 wr => ∃ (o : List Nat) (v : Value), v = v0 ∧ To.Way n R o ∧ OR W1 o v wr) (fun v0 _ => n - lenV v0)
  case atStart => exact ⟨[], _, rfl, To.Way.nil n R, Grow.refl _, World.ownsRow_nil _ _ _ _⟩
  case round =>
    obtain ⟨o, v, rfl, way, po⟩ := hrel
    have HW := Lib.hid way
    have HPO1 := Lib.hid po
    have z0 := (HBX.out.grow po.g).cell (i := 0) rfl
    obtain ⟨A8, c8, e8, -⟩ := own_form po.own
    obtain ⟨l8, hl8⟩ : ∃ l, l = o.length := ⟨_, rfl⟩
    rw [← hl8] at e8
    subst e8
    have HL8 := Lib.hid hl8
    by_cases hlo : l8 < n
    · have HLO := Lib.hid hlo
      clear way po hl8
      go_wp2_with fail
      clear z0
      go_loopw [3, 4] (fun v0 i' wr => ∃ (g : Nat), g ≤ n ∧ i' = .int .i64 (g : Int) ∧ v0 = .slice A8 l8 c8 ∧ OR W1 o (.slice A8 l8 c8) wr ∧ ∀ x, x < g → okG n R o x = false) (fun _ i' _ => n - (intOf i').toNat)
      case atStart => exact ⟨0, by omega, rfl, rfl, HPO1.out, fun x hx => absurd hx (by omega)⟩
      case round =>
        obtain ⟨g, hgn, rfl, rfl, po, hno⟩ := hrel
        have HNO := Lib.hid hno
        have HPO2 := Lib.hid po
        have HBG := Lib.hid (HBX.out.grow po.g)
        have z0 := HBG.out.cell (i := 0) rfl
        by_cases hlt : g < n
        · have HLT2 := Lib.hid hlt
          have HGR := Lib.hid (KG.out wr g po.g hlt)
          obtain ⟨q0, hq0⟩ : ∃ q, q = groupN R g := ⟨_, rfl⟩
          rw [← hq0] at HGR
          have HQ0 := Lib.hid hq0
          clear po hno hq0
          by_cases hgg : q0 = g
          · have t0 : (q0 == g) = true := beq_iff_eq.2 hgg
            have t1 : ((q0 : Int) == (g : Int)) = true := beq_iff_eq.2 (by omega)
            have HGG : Hid (groupN R g = g) := Lib.hid (by rw [← HQ0.out]; exact hgg)
            clear hgg
            go_wp2_with (refine load_blk rfl _ _ rfl b0 rfl _ _ _ HBG.out und8 rfl (by rw [size8]; rfl) ?_)
            refine HGR.out.mono ?_
            rintro e w3 ⟨rfl, hg3⟩
            have HPO3 := Lib.hid (HPO2.out.grow hg3)
            have HIN := Lib.hid (in_any w3 _ o (IntsV.own HPO3.out.own) g)
            have HFR := Lib.hid (KF.out w3 _ o g HPO3.out.g (IntsV.own HPO3.out.own))
            have HBG3 := Lib.hid (HBX.out.grow HPO3.out.g)
            obtain ⟨q1, hq1⟩ : ∃ q, q = o.contains g := ⟨_, rfl⟩
            obtain ⟨q2, hq2⟩ : ∃ q, q = freeB n R o g := ⟨_, rfl⟩
            rw [← hq1] at HIN
            rw [← hq2] at HFR
            have HQ1 := Lib.hid hq1
            have HQ2 := Lib.hid hq2
            clear hg3 hq1 hq2
            cases q1
            · cases q2
              · have HOK : Hid (okG n R o g = false) := Lib.hid (by unfold okG; rw [← HQ2.out]; simp)
                go_wp2_with fail
                refine HIN.out.mono ?_
                rintro e w' ⟨rfl, rfl⟩
                go_wp2_with (refine load_blk rfl _ _ rfl b0 rfl _ _ _ HBG3.out und8 rfl (by rw [size8]; rfl) ?_)
                refine HFR.out.mono ?_
                rintro e w4 ⟨rfl, hg4⟩
                have HPO4 := Lib.hid (HPO3.out.grow hg4)
                clear hg4
                go_wp2_with fail
                go_roundw
                case rel => exact ⟨g + 1, by have := HLT2.out; omega, by go_num, rfl, HPO4.out, fun x hx => by
                  by_cases e : x = g
                  · rw [e]; exact HOK.out
                  · exact HNO.out x (by omega)⟩
                case measure => have := HLT2.out; simp [intOf] <;> omega
              · have hok : okG n R o g = true := by unfold okG; rw [HGG.out, ← HQ1.out, ← HQ2.out]; simp
                have HPK := Lib.hid (pick_at HLT2.out hok HNO.out)
                clear hok
                go_wp2_with fail
                refine HIN.out.mono ?_
                rintro e w' ⟨rfl, rfl⟩
                go_wp2_with (refine load_blk rfl _ _ rfl b0 rfl _ _ _ HBG3.out und8 rfl (by rw [size8]; rfl) ?_)
                refine HFR.out.mono ?_
                rintro e w4 ⟨rfl, hg4⟩
                have HPO4 := Lib.hid (HPO3.out.grow hg4)
                clear hg4 z0 t0 t1
                go_wp2_with fail
                clear HFR HIN HBG3 HBG HGR HPO3 HPO2 HQ0 HQ1 HQ2 HNO
                go_loopw [3, 5] (fun v0 i' wr => ∃ (m : Nat) (v : Value), m ≤ n ∧ i' = .int .i64 (m : Int) ∧ v = v0 ∧ OR W1 (o ++ members m R g) v wr) (fun _ i' _ => n - (intOf i').toNat)
                case atStart => exact ⟨0, _, by omega, rfl, rfl, by rw [show members 0 R g = [] from rfl, List.append_nil]; exact HPO4.out⟩
                case round =>
                  obtain ⟨m, v, hmn, rfl, rfl, po⟩ := hrel
                  have HPO5 := Lib.hid po
                  have HBG5 := Lib.hid (HBX.out.grow po.g)
                  have z0 := HBG5.out.cell (i := 0) rfl
                  by_cases hlt : m < n
                  · have HLTm := Lib.hid hlt
                    have HGR := Lib.hid (KG.out wr m po.g hlt)
                    obtain ⟨q0, hq0⟩ : ∃ q, q = groupN R m := ⟨_, rfl⟩
                    rw [← hq0] at HGR
                    have HQ0 := Lib.hid hq0
                    clear po hq0
                    by_cases hgg : q0 = g
                    · have t0 : (q0 == g) = true := beq_iff_eq.2 hgg
                      have t1 : ((q0 : Int) == (g : Int)) = true := beq_iff_eq.2 (by omega)
                      have HGG2 : Hid (groupN R m = g) := Lib.hid (by rw [← HQ0.out]; exact hgg)
                      clear hgg
                      go_wp2_with (refine load_blk rfl _ _ rfl b0 rfl _ _ _ HBG5.out und8 rfl (by rw [size8]; rfl) ?_)
                      refine HGR.out.mono ?_
                      rintro e w3 ⟨rfl, hg3⟩
                      have HPO6 := Lib.hid (HPO5.out.grow hg3)
                      have HML : Hid ((o ++ members m R g).length ≤ 140000) := Lib.hid (by have := members_len m R g; have := HL8.out; have := HLO.out; have := HLTm.out; rw [List.length_append]; omega)
                      clear hg3
                      go_wp2_with (refine wpList_append_row rfl _ _ _ rfl W1.heap.size 3 _ _ 1 8 Try.underlying22 iI iIz iIs iIb rfl (by decide) _ (o ++ members m R g).length ((o ++ members m R g).map nv) rfl (own_grow HPO6.out.own (Grow.alloc _ _)) (some ⟨w3.heap.size, 0, none⟩) 1 1 [nv m] rfl (Row.new _ [nv m] 3 (0, 0)) (by simp [nv, Value.oneCell']) (by have := HML.out; unfold maxLen; omega) (by have := HML.out; omega) (Nat.le_trans HPO6.out.g.size (by simp)) ?_; intro v1 w1 hown1 hgb1 hv1)
                      have HPO7 : Hid (OR W1 (o ++ members (m + 1) R g) v1 w1) := Lib.hid (by
                        refine HPO6.out.app (Grow.alloc _ _) hgb1 ?_
                        rw [members_yes o HGG2.out, List.length_append, List.map_append]
                        exact hown1)
                      clear hgb1 hv1 hown1
                      go_roundw
                      case rel => exact ⟨m + 1, _, by have := HLTm.out; omega, by go_num, rfl, HPO7.out⟩
                      case measure => have := HLTm.out; simp [intOf] <;> omega
                    · have t0 : (q0 == g) = false := beq_false_of_ne hgg
                      have t1 : ((q0 : Int) == (g : Int)) = false := beq_false_of_ne (by omega)
                      have HGG2 : Hid (groupN R m ≠ g) := Lib.hid (by rw [← HQ0.out]; exact hgg)
                      clear hgg
                      go_wp2_with (refine load_blk rfl _ _ rfl b0 rfl _ _ _ HBG5.out und8 rfl (by rw [size8]; rfl) ?_)
                      refine HGR.out.mono ?_
                      rintro e w3 ⟨rfl, hg3⟩
                      have HPO6 := Lib.hid (HPO5.out.grow hg3)
                      clear hg3
                      go_wp2_with fail
                      go_roundw
                      case rel => exact ⟨m + 1, _, by have := HLTm.out; omega, by go_num, rfl, by rw [members_no HGG2.out]; exact HPO6.out⟩
                      case measure => have := HLTm.out; simp [intOf] <;> omega
                  · obtain rfl : n = m := by omega
                    have HW2 := Lib.hid (HW.out.step HTR.out (by rw [← HL8.out]; exact HLO.out) HPK.out)
                    obtain ⟨A9, c9, e9, -⟩ := own_form po.own
                    have HL0 : Hid (l8 < (o ++ members n R g).length) := Lib.hid (by
                      have := (HW.out.inv.step HTR.out HLT2.out (pick_spec HPK.out).2.1).2
                      rw [HL8.out]; exact this)
                    subst e9
                    clear po
                    go_wp2_with fail
                    go_roundw
                    case rel => exact ⟨_, _, rfl, HW2.out, HPO5.out⟩
                    case measure => have := HL0.out; have := HLO.out; simp only [lenV]; omega
            · have HOK : Hid (okG n R o g = false) := Lib.hid (by unfold okG; rw [← HQ1.out]; simp)
              go_wp2_with fail
              refine HIN.out.mono ?_
              rintro e w' ⟨rfl, rfl⟩
              go_wp2_with fail
              go_roundw
              case rel => exact ⟨g + 1, by have := HLT2.out; omega, by go_num, rfl, HPO3.out, fun x hx => by
                by_cases e : x = g
                · rw [e]; exact HOK.out
                · exact HNO.out x (by omega)⟩
              case measure => have := HLT2.out; simp [intOf] <;> omega
          · have t0 : (q0 == g) = false := beq_false_of_ne hgg
            have t1 : ((q0 : Int) == (g : Int)) = false := beq_false_of_ne (by omega)
            have HOK : Hid (okG n R o g = false) := Lib.hid (by unfold okG; rw [beq_false_of_ne (show groupN R g ≠ g by rw [← HQ0.out]; exact hgg)]; rfl)
            clear hgg
            go_wp2_with (refine load_blk rfl _ _ rfl b0 rfl _ _ _ HBG.out und8 rfl (by rw [size8]; rfl) ?_)
            refine HGR.out.mono ?_
            rintro e w3 ⟨rfl, hg3⟩
            have HPO3 := Lib.hid (HPO2.out.grow hg3)
            clear hg3
            go_wp2_with fail
            go_roundw
            case rel => exact ⟨g + 1, by have := HLT2.out; omega, by go_num, rfl, HPO3.out, fun x hx => by
              by_cases e : x = g
              · rw [e]; exact HOK.out
              · exact HNO.out x (by omega)⟩
            case measure => have := HLT2.out; simp [intOf] <;> omega
        · exfalso
          obtain rfl : n = g := by omega
          have hl := HLO.out
          obtain ⟨x, hx⟩ := pick_some HTR.out HW.out.inv (by rw [← HL8.out]; exact hl)
          obtain ⟨h1, h2, -⟩ := pick_spec hx
          rw [hno x h1] at h2
          cases h2
    · have e := way.end_ (by omega)
      have HEND : Hid (IntsV wr (.slice A8 l8 c8) (orderN n R) ∧ Grow w wr) := Lib.hid ⟨by rw [← e]; exact IntsV.own po.own, HG1.out.trans po.g⟩
      clear way po hl8 e
      go_wp2_with fail
      go_ret
      exact ⟨_, rfl, HEND.out⟩
end Go.Proofs.Ytjfohglkpbgkaaa.toW
