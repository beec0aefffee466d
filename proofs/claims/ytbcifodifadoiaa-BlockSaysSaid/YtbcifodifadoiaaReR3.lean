/- The walk of the document's behind. -/
import Derived.Test.YtbcifodifadoiaaReR2
namespace Go.Proofs.Ytbcifodifadoiaa.reW
open Go Go.RowKit Go.Par Go.Kit Go.Proofs.Ytbcifodifadoiaa.Mk Go.Proofs.Ytbcifodifadoiaa.mkW Go.Proofs.Ytbcifodifadoiaa.Re Go.Proofs.Ytbcifodifadoiaa.mkR Go.Proofs.Ytbcifodifadoiaa.mkL

/-- one pass, from any number -/
def passZ (L : List (Nat × Nat)) (i : Int) (o : List Nat) : List Nat := L.foldl (fun o p => if (p.1 : Int) == i then addB o p.2 else o) o
theorem passZ_nat (L : List (Nat × Nat)) (j : Nat) (o : List Nat) : passZ L (j : Int) o = passL L j o := by
  unfold passZ passL
  congr 1
  funext o p
  by_cases h : p.1 = j
  · rw [if_pos (beq_iff_eq.2 (by omega)), if_pos (beq_iff_eq.2 h)]
  · rw [if_neg (fun e => h (by have := beq_iff_eq.1 e; omega)), if_neg (fun e => h (beq_iff_eq.1 e))]
theorem passZ_neg (L : List (Nat × Nat)) {i : Int} (hi : i < 0) : ∀ o, passZ L i o = o := by
  unfold passZ
  induction L with
  | nil => intro o; rfl
  | cons p L ih =>
    intro o
    rw [List.foldl_cons, if_neg (fun e => by have := beq_iff_eq.1 e; omega)]
    exact ih o
theorem passL_pre (L : List (Nat × Nat)) (x : Nat) : ∀ o, ∃ s, passL L x o = o ++ s := by
  unfold passL
  induction L with
  | nil => intro o; exact ⟨[], by simp⟩
  | cons p L ih =>
    intro o
    rw [List.foldl_cons]
    split
    · obtain ⟨s, hs⟩ := ih (addB o p.2)
      unfold addB at hs ⊢
      split at hs
      · rw [if_pos ‹_›]; exact ⟨s, hs⟩
      · rw [if_neg ‹_›]; exact ⟨[p.2] ++ s, by rw [hs, List.append_assoc]⟩
    · exact ih o
theorem passL_nodup (L : List (Nat × Nat)) (x : Nat) : ∀ o, o.Nodup → (passL L x o).Nodup := by
  unfold passL
  induction L with
  | nil => intro o h; exact h
  | cons p L ih =>
    intro o h
    rw [List.foldl_cons]
    split
    · exact ih _ (nodup_addB h)
    · exact ih o h
/-- all of it led to, nothing twice -/
def Led (L : List (Nat × Nat)) (i : Nat) (o : List Nat) : Prop := (∀ y ∈ o, Lead L i y) ∧ o.Nodup
theorem Led.len {L : List (Nat × Nat)} {i : Nat} {o : List Nat} (h : Led L i o) : o.length ≤ L.length := by
  have := nodup_len h.2 (L.map (·.2)) fun y hy => by
    obtain ⟨z, hz⟩ := (h.1 y hy).dst
    exact List.mem_map_of_mem (f := (·.2)) hz
  simpa using this
theorem Led.pass {L L' : List (Nat × Nat)} {i x : Nat} {o : List Nat} (h : Led L i o) (hx : x = i ∨ Lead L i x) (hs : ∀ p ∈ L', p ∈ L) : Led L i (passL L' x o) :=
  ⟨fun y hy => by
    rcases mem_passL.1 hy with hy | hy
    · exact h.1 y hy
    · rcases hx with rfl | hx
      · exact .step (hs _ hy)
      · exact .cat hx (.step (hs _ hy)), passL_nodup L' x o h.2⟩
theorem found_start (L : List (Nat × Nat)) (i : Nat) : Re.Found L i 0 (passL L i []) :=
  have h : Led L i (passL L i []) := Led.pass ⟨fun y hy => absurd hy (by simp), List.nodup_nil⟩ (.inl rfl) fun _ h => h
  ⟨h.1, h.2, fun y hy => mem_passL.2 (.inr hy), fun t x ht => absurd ht (by omega)⟩
theorem found_next {L : List (Nat × Nat)} {i at_ x : Nat} {o : List Nat} (h : Re.Found L i at_ o) (hx : o[at_]? = some x) : Re.Found L i (at_ + 1) (passL L x o) := by
  have hl : Led L i (passL L x o) := Led.pass ⟨h.led, h.once⟩ (.inr (h.led x (List.mem_of_getElem? hx))) fun _ h => h
  refine ⟨hl.1, hl.2, fun y hy => mem_passL.2 (.inl (h.first y hy)), fun t z ht hz y hy => ?_⟩
  obtain ⟨s, hs⟩ := passL_pre L x o
  have hto : t < o.length := by have := (List.getElem?_eq_some_iff.1 hx).1; omega
  rw [hs, List.getElem?_append_left hto] at hz
  by_cases e : t = at_
  · subst e
    rw [hx] at hz
    obtain rfl := Option.some.inj hz
    exact mem_passL.2 (.inr hy)
  · exact mem_passL.2 (.inl (h.closed t z (by omega) hz y hy))
theorem hasB_contains {o : List Nat} {j : Nat} : hasB o (j : Int) = o.contains j := by
  rw [Bool.eq_iff_iff, List.contains_iff_mem]
  unfold hasB
  rw [List.any_eq_true]
  constructor
  · rintro ⟨x, hx, e⟩
    have := of_decide_eq_true e
    rw [show j = x by omega]; exact hx
  · intro h
    exact ⟨j, h, decide_eq_true rfl⟩
theorem addB_has {o : List Nat} {j : Nat} (h : hasB o (j : Int) = true) : addB o j = o := by unfold addB; rw [← hasB_contains, h]; rfl
theorem addB_hasn {o : List Nat} {j : Nat} (h : hasB o (j : Int) = false) : addB o j = o ++ [j] := by unfold addB; rw [← hasB_contains, h]; rfl
/-- the list that is being made, and what lies below it -/
structure RB (W1 : World) (v5 : Value) (o : List Nat) (w : World) : Prop where
  g : Grow W1 w
  own : w.ownsRow W1.heap.size 3 1 v5 o.length (o.map nv)
theorem RB.ints {W1 : World} {v5 : Value} {o : List Nat} {w : World} (h : RB W1 v5 o w) : IntsV w v5 o := IntsV.own h.own
theorem RB.grow {W1 w' : World} {v5 : Value} {o : List Nat} {w : World} (h : RB W1 v5 o w) (hg : Grow w w') : RB W1 v5 o w' := ⟨h.g.trans hg, own_grow h.own hg⟩
set_option maxRecDepth 100000 in
set_option maxHeartbeats 4000000 in
theorem behind_any (w : World) (N : Int) (v : Value) (L : List (Nat × Nat)) (hv : RefV w v L) (hL : L.length ≤ 1000000) (i : Int) :
    Calls Try.prog 52 #[.agg #[.int .i64 N, v], .int .i64 i] w fun e w' => ∃ v' o, e = .returned v' ∧ IntsV w' v' o ∧ o.length ≤ L.length ∧ (∀ j : Nat, j ∈ o ↔ (0 ≤ i ∧ leadB L i.toNat j = true)) ∧ Grow w w' := by
  obtain ⟨A, c, rfl, hc, hm, hrec⟩ := hv
  obtain ⟨l, hl⟩ : ∃ l, l = L.length := ⟨_, rfl⟩
  rw [← hl] at hc hL hrec ⊢
  have HLN := Lib.hid hl
  obtain ⟨b0, hb0⟩ : ∃ b, b = w.heap.size := ⟨_, rfl⟩
  obtain ⟨W1, hW1⟩ : ∃ W, W = w.alloc (.cells #[.int .i64 N, .slice A l c] TX8) := ⟨_, rfl⟩
  have hg1 : Grow w W1 := by rw [hW1]; exact Grow.alloc _ _
  have hbx : Blk W1 b0 TX8 [.int .i64 N, .slice A l c] := by rw [hW1]; exact Blk.new w _ _ _ rfl hb0
  have HBX := Lib.hid hbx
  have HREC := Lib.hid (hrec.grow hg1)
  have HG1 := Lib.hid hg1
  have HW1 := Lib.hid hW1
  have HB0 := Lib.hid hb0
  unfold maxLen at hm
  have HRB0 : Hid (RB W1 (.slice none 0 0) [] W1) := Lib.hid ⟨Grow.refl _, World.ownsRow_nil _ _ _ _⟩
  clear hl hb0 hW1 hg1 hbx hrec
  go_enter Try.func52, Try.ntmps52
  go_wp2_with fail
  rw [← HW1.out, ← HB0.out]
  go_loopw [5, 6] (fun v5 i' wr => ∃ (k : Nat) (o : List Nat), k ≤ l ∧ i' = .int .i64 (k : Int) ∧ Hid (o = passZ (L.take k) i []) ∧ RB W1 v5 o wr) (fun _ i' _ => l - (intOf i').toNat)
  case atStart => exact ⟨0, [], by omega, rfl, Lib.hid (by rw [List.take_zero]; rfl), HRB0.out⟩
  case round =>
    obtain ⟨k, o, hk, rfl, HO, rb⟩ := hrel
    have z1 := (HBX.out.grow rb.g).cell (i := 1) rfl
    have hlo : o.length ≤ 1000000 := by
      rw [HO.out]
      by_cases hi : i < 0
      · rw [passZ_neg _ hi]; simp
      · obtain ⟨j, rfl⟩ := Int.eq_ofNat_of_zero_le (show 0 ≤ i by omega)
        rw [passZ_nat]
        have := (Led.pass (L := L) (L' := L.take k) (i := j) (x := j) (o := []) ⟨fun y hy => absurd hy (by simp), List.nodup_nil⟩ (.inl rfl) (fun p hp => List.mem_of_mem_take hp)).len
        rw [← HLN.out] at this
        omega
    obtain ⟨lo, hloe⟩ : ∃ n, n = o.length := ⟨_, rfl⟩
    rw [← hloe] at hlo
    have HLO := Lib.hid hloe
    by_cases hlt : k < l
    · obtain ⟨b, off, p, rfl, hp, hcell⟩ := HREC.out.at_ (by decide) hlt
      obtain ⟨p1, p2⟩ := p
      have q0 := rb.g.cell (hcell 0 (.int .i64 (p1 : Int)) rfl)
      have q1 := rb.g.cell (hcell 1 (.int .i64 (p2 : Int)) rfl)
      rw [Nat.add_zero] at q0
      have HP := Lib.hid hp
      have HRB := Lib.hid rb
      obtain ⟨A5, c5, e5, a5, b5, r5⟩ := own_form rb.own
      rw [← hloe] at e5 a5 r5
      rw [Nat.mul_one] at r5
      subst e5
      have HIN := Lib.hid (in_any wr A5 lo c5 o hloe a5 b5 (by rw [← hloe]; exact r5) (p2 : Int))
      obtain ⟨h2, hh2⟩ : ∃ h, h = hasB o (p2 : Int) := ⟨_, rfl⟩
      rw [← hh2] at HIN
      have HH2 := Lib.hid hh2
      have hown := rb.own
      rw [← hloe] at hown
      have hsz : W1.heap.size ≤ wr.heap.size := rb.g.size
      have hlim : lo + 1 ≤ maxLen := by unfold maxLen; omega
      have hlim2 : (lo + 1) * 8 ≤ 140737488355328 := by omega
      clear hcell hp rb r5 a5 b5 hh2 HRB0 hloe
      by_cases he : (p1 : Int) = i
      · have t1 : ((p1 : Int) == i) = true := beq_iff_eq.2 he
        have HE := Lib.hid t1
        clear he
        cases h2
        · go_wp2_with fail
          refine HIN.out.mono ?_
          rintro e w' ⟨rfl, rfl⟩
          clear HIN
          go_wp2_with (at_builtin; refine append_fresh 8 Try.underlying23 iI iIz iIs iIb rfl rfl _ _ rfl W1.heap.size _ _ _ hown rfl rfl rfl hlim hlim2 hsz ?_; intro v1 w1 hown1 hgb1 hh1)
          have HRB2 : Hid (RB W1 v1 (o ++ [p2]) w1) := Lib.hid ⟨grow_by (HRB.out.g.trans (Grow.alloc wr _)) hgb1 (own_base hown), by rw [List.length_append, List.map_append]; have h1 := hown1; rw [HLO.out] at h1; exact h1⟩
          obtain ⟨A1, c1, rfl, -, -, -⟩ := own_form hown1
          clear hown1 hgb1 hh1 hown hsz hlim hlim2
          go_wp2_with fail
          go_roundw
          case rel => exact ⟨k + 1, o ++ [p2], by omega, by go_num, Lib.hid (by unfold passZ; rw [take_fold _ _ HP.out]; show _ = if ((p1 : Int) == i) then addB _ p2 else _; rw [HE.out, if_pos rfl]; rw [show (L.take k).foldl (fun o p => if (p.1 : Int) == i then addB o p.2 else o) [] = o from HO.out.symm, addB_hasn HH2.out.symm]), HRB2.out⟩
          case measure => simp [intOf] <;> omega
        · clear hown hsz hlim hlim2
          go_wp2_with fail
          refine HIN.out.mono ?_
          rintro e w' ⟨rfl, rfl⟩
          go_wp2_with fail
          go_roundw
          case rel => exact ⟨k + 1, o, by omega, by go_num, Lib.hid (by unfold passZ; rw [take_fold _ _ HP.out]; show _ = if ((p1 : Int) == i) then addB _ p2 else _; rw [HE.out, if_pos rfl]; rw [show (L.take k).foldl (fun o p => if (p.1 : Int) == i then addB o p.2 else o) [] = o from HO.out.symm, addB_has HH2.out.symm]), HRB.out⟩
          case measure => simp [intOf] <;> omega
      · have t1 : ((p1 : Int) == i) = false := beq_false_of_ne he
        have HE := Lib.hid t1
        clear he hown hsz hlim hlim2
        go_wp2_with fail
        go_roundw
        case rel => exact ⟨k + 1, o, by omega, by go_num, Lib.hid (by unfold passZ; rw [take_fold _ _ HP.out]; show _ = if ((p1 : Int) == i) then addB _ p2 else _; rw [HE.out, if_neg (by decide)]; exact HO.out), HRB.out⟩
        case measure => simp [intOf] <;> omega
    · obtain rfl : k = l := by omega
      have htk : L.take k = L := List.take_of_length_le (by rw [← HLN.out]; exact Nat.le_refl _)
      rw [htk] at HO
      have HS : Hid ((0 ≤ i ∧ Re.Found L i.toNat 0 o) ∨ (i < 0 ∧ o = [])) := Lib.hid (by
        by_cases hi : i < 0
        · exact .inr ⟨hi, by rw [HO.out, passZ_neg _ hi]⟩
        · obtain ⟨j, rfl⟩ := Int.eq_ofNat_of_zero_le (show 0 ≤ i by omega)
          refine .inl ⟨by omega, ?_⟩
          rw [HO.out, passZ_nat, Int.toNat_natCast]
          exact found_start L j)
      have HRB := Lib.hid rb
      clear rb htk HO hlo HLO hloe HRB0
      go_wp2_with fail
      go_loopw [5, 7] (fun v5 i' wr => ∃ (t : Nat) (o : List Nat), t ≤ k ∧ i' = .int .i64 (t : Int) ∧ Hid ((0 ≤ i ∧ Re.Found L i.toNat t o) ∨ (i < 0 ∧ o = [])) ∧ RB W1 v5 o wr) (fun _ i' _ => k - (intOf i').toNat)
      case atStart => exact ⟨0, o, by omega, rfl, HS.out |> Lib.hid, HRB.out⟩
      case round =>
        clear HS HRB
        obtain ⟨t, o, htk, rfl, HS, rb⟩ := hrel
        have hol : o.length ≤ k := by
          rcases HS.out with ⟨-, hf⟩ | ⟨-, rfl⟩
          · have := hf.len; rw [← HLN.out] at this; exact this
          · simp
        obtain ⟨lo, hloe⟩ : ∃ n, n = o.length := ⟨_, rfl⟩
        obtain ⟨A5, c5, e5, -⟩ := own_form rb.own
        rw [← hloe] at hol e5
        subst e5
        have HRB := Lib.hid rb
        have HLO := Lib.hid hloe
        clear rb hloe
        by_cases hlt2 : t < lo
        · obtain ⟨x, hx⟩ : ∃ x, o[t]? = some x := ⟨_, List.getElem?_eq_getElem (by rw [← HLO.out]; exact hlt2)⟩
          have HXO := Lib.hid hx
          have HF : Hid (0 ≤ i ∧ Re.Found L i.toNat t o) := Lib.hid (by
            rcases HS.out with h | ⟨-, h⟩
            · exact h
            · rw [h] at hx; simp at hx)
          have HT : Hid (t < k) := Lib.hid (by omega)
          obtain ⟨o0, ho0⟩ : ∃ o0, o0 = o := ⟨_, rfl⟩
          have HRB1 : Hid (RB W1 (.slice A5 lo c5) (passL (L.take 0) x o0) wr) := Lib.hid (by rw [ho0, List.take_zero]; exact HRB.out)
          rw [← ho0] at HXO HF
          clear hx HRB HLO HS ho0 hol
          go_wp2_with fail
          go_loopw [5, 8] (fun v5 i' wr => ∃ (m : Nat), m ≤ k ∧ i' = .int .i64 (m : Int) ∧ RB W1 v5 (passL (L.take m) x o0) wr) (fun _ i' _ => k - (intOf i').toNat)
          case atStart => exact ⟨0, by omega, rfl, HRB1.out⟩
          case round =>
            clear HRB1
            obtain ⟨m, hmk, rfl, rb⟩ := hrel
            have z1 := (HBX.out.grow rb.g).cell (i := 1) rfl
            by_cases hlt3 : m < k
            · obtain ⟨o, ho⟩ : ∃ o, o = passL (L.take m) x o0 := ⟨_, rfl⟩
              rw [← ho] at rb
              have HOM := Lib.hid ho
              have hlo : o.length ≤ 1000000 := by
                rw [ho]
                have := (Led.pass (L := L) (L' := L.take m) (i := i.toNat) (x := x) (o := o0) ⟨HF.out.2.led, HF.out.2.once⟩ (.inr (HF.out.2.led x (List.mem_of_getElem? HXO.out))) (fun p hp => List.mem_of_mem_take hp)).len
                rw [← HLN.out] at this
                omega
              have hox : o[t]? = some x := by
                obtain ⟨s, hs⟩ := passL_pre (L.take m) x o0
                rw [ho, hs, List.getElem?_append_left (List.getElem?_eq_some_iff.1 HXO.out).1]
                exact HXO.out
              obtain ⟨b, off, p, rfl, hp, hcell⟩ := HREC.out.at_ (by decide) hlt3
              obtain ⟨p1, p2⟩ := p
              have HQ0 := Lib.hid (rb.g.cell (hcell 0 (.int .i64 (p1 : Int)) rfl))
              have HQ1 := Lib.hid (rb.g.cell (hcell 1 (.int .i64 (p2 : Int)) rfl))
              have HP := Lib.hid hp
              have HRB := Lib.hid rb
              obtain ⟨l5, hl5⟩ : ∃ n, n = o.length := ⟨_, rfl⟩
              obtain ⟨A6, c6, e5, a5, b5, r5⟩ := own_form rb.own
              rw [← hl5] at e5 a5 r5 hlo
              have HLO := Lib.hid hl5
              rw [Nat.mul_one] at r5
              subst e5
              obtain ⟨b6, off6, y, rfl, hy, hcell6⟩ := Row.nat_at (by rw [← hl5]; exact r5 : Row wr A6 o.length (o.map nv)) (k := t) (List.getElem?_eq_some_iff.1 hox).1
              rw [hox] at hy
              obtain rfl := Option.some.inj hy
              have HC6 := Lib.hid hcell6
              have htl : t < l5 := by rw [hl5]; exact (List.getElem?_eq_some_iff.1 hox).1
              have HINr := Lib.hid r5
              have HIN : Hid (∀ w', Grow wr w' → Calls Try.prog 51 #[.slice (some ⟨b6, off6, none⟩) l5 c6, .int .i64 (p2 : Int)] w' fun e w2 => e = .returned (.bool (hasB o (p2 : Int))) ∧ w' = w2) := Lib.hid fun w' hg => in_any w' _ l5 c6 o HLO.out a5 b5 (by rw [← HLO.out]; exact HINr.out.grow hg) (p2 : Int)
              obtain ⟨h2, hh2⟩ : ∃ h, h = hasB o (p2 : Int) := ⟨_, rfl⟩
              rw [← hh2] at HIN
              have HH2 := Lib.hid hh2
              have HZ1 := Lib.hid z1
              have hlim : l5 + 1 ≤ maxLen := by unfold maxLen; omega
              have hlim2 : (l5 + 1) * 8 ≤ 140737488355328 := by omega
              obtain ⟨eq, heq⟩ : ∃ e, e = ((p1 : Int) == (x : Int)) := ⟨_, rfl⟩
              have t1 := heq.symm
              have HE : Hid ((p1 == x) = eq) := Lib.hid (by
                rw [heq, Bool.eq_iff_iff]
                simp only [beq_iff_eq]
                omega)
              have t2 := HE.out
              clear hcell hp rb r5 a5 b5 hh2 ho hox hl5 hcell6 hy heq HREC HBX
              cases eq
              · go_wp2_with fail
                apply (fun (v0 v1 v2 v3 v4 v5 v6 v7 v8 v9 v10 v11 v12 v13 v14 v15 v16 v17 v18 v19 v20 v21 : Value) mono obl tail => wp_region_par (R := Grow) (Φ := phi [veq v0, veq v1, veq v2, veq v3, veq v4, veq v5, veq v6, veq v7, veq v8, veq v9, veq v10, veq v11, veq v12, veq v13, veq v14, veq v15, veq v16, veq v17, veq v18, veq v19, veq v20, veq v21]) (m := 22) (dls := [[], [(57, 0)], [], [(58, 1), (59, 2)], [(60, 3)], [(61, 4)], [], [], [(63, 6), (64, 7)], [(65, 8)], [(62, 5), (66, 9)], [(67, 10)], [(68, 11)], [(68, 11)], [(70, 13), (68, 11)], [(68, 11)], [(71, 14), (72, 15), (68, 11)], [(73, 16), (68, 11)], [(74, 17), (68, 11)], [(69, 12), (75, 18), (68, 11)], [(76, 19), (68, 11)], [(68, 11), (77, 20)]]) (ds := [57, 58, 59, 60, 61, 62, 63, 64, 65, 66, 67, 68, 69, 70, 71, 72, 73, 74, 75, 76, 77, 78]) (by kernel_rfl) (by kernel_rfl) (by decide) rfl (Grow.drew _) (fun _ _ _ => Grow.trans) (mono_phi mono) obl tail)
                case obl =>
                  refine obls_cons (fun f w' hR hH Q hQ => ?_) ?_
                  · skip
                    clear hH
                    refine wpList_view ?_; show wpList _ _ _ [_] ⟨#[_, _, _, _, _, _, _, _, _, _, _, _, _, _, _, _, _, _, _, _, _, _, _, _, _, _, _, _, _, _, _, _, _, _, _, _, _, _, _, _, _, _, _, _, _, _, _, _, _, _, _, _, _, _, _, _, _, _, _, _, _, _, _, _, _, _, _, _, _, _, _, _, _, _, _, _, _, _, _, _, _, _, _, _, _, _, _, _, _], _⟩ _
                    repeat (first | go_guarded | go_step)
                    exact hQ _ _ (Grow.refl _) rfl rfl
                  refine obls_cons (fun f w' hR hH Q hQ => ?_) ?_
                  · skip
                    have h0 := hH.get 0 (57, 0) rfl
                    clear hH
                    refine wpList_view ?_; show wpList _ _ _ [_] ⟨#[_, _, _, _, _, _, _, _, _, _, _, _, _, _, _, _, _, _, _, _, _, _, _, _, _, _, _, _, _, _, _, _, _, _, _, _, _, _, _, _, _, _, _, _, _, _, _, _, _, _, _, _, _, _, _, _, _, f 0, _, _, _, _, _, _, _, _, _, _, _, _, _, _, _, _, _, _, _, _, _, _, _, _, _, _, _, _, _, _, _], _⟩ _
                    rw [show f 0 = _ from h0]
                    clear h0
                    have y1 := hR.cell HZ1.out
                    repeat (first | go_guarded | go_step)
                    exact hQ _ _ (Grow.refl _) rfl rfl
                  refine obls_cons (fun f w' hR hH Q hQ => ?_) ?_
                  · skip
                    clear hH
                    refine wpList_view ?_; show wpList _ _ _ [_] ⟨#[_, _, _, _, _, _, _, _, _, _, _, _, _, _, _, _, _, _, _, _, _, _, _, _, _, _, _, _, _, _, _, _, _, _, _, _, _, _, _, _, _, _, _, _, _, _, _, _, _, _, _, _, _, _, _, _, _, _, _, _, _, _, _, _, _, _, _, _, _, _, _, _, _, _, _, _, _, _, _, _, _, _, _, _, _, _, _, _, _], _⟩ _
                    repeat (first | go_guarded | go_step)
                    exact hQ _ _ (Grow.refl _) rfl rfl
                  refine obls_cons (fun f w' hR hH Q hQ => ?_) ?_
                  · skip
                    have h1 := hH.get 0 (58, 1) rfl
                    have h2 := hH.get 1 (59, 2) rfl
                    clear hH
                    refine wpList_view ?_; show wpList _ _ _ [_] ⟨#[_, _, _, _, _, _, _, _, _, _, _, _, _, _, _, _, _, _, _, _, _, _, _, _, _, _, _, _, _, _, _, _, _, _, _, _, _, _, _, _, _, _, _, _, _, _, _, _, _, _, _, _, _, _, _, _, _, _, f 1, f 2, _, _, _, _, _, _, _, _, _, _, _, _, _, _, _, _, _, _, _, _, _, _, _, _, _, _, _, _, _], _⟩ _
                    rw [show f 1 = _ from h1]
                    rw [show f 2 = _ from h2]
                    clear h1 h2
                    repeat (first | go_guarded | go_step)
                    exact hQ _ _ (Grow.refl _) rfl rfl
                  refine obls_cons (fun f w' hR hH Q hQ => ?_) ?_
                  · skip
                    have h3 := hH.get 0 (60, 3) rfl
                    clear hH
                    refine wpList_view ?_; show wpList _ _ _ [_] ⟨#[_, _, _, _, _, _, _, _, _, _, _, _, _, _, _, _, _, _, _, _, _, _, _, _, _, _, _, _, _, _, _, _, _, _, _, _, _, _, _, _, _, _, _, _, _, _, _, _, _, _, _, _, _, _, _, _, _, _, _, _, f 3, _, _, _, _, _, _, _, _, _, _, _, _, _, _, _, _, _, _, _, _, _, _, _, _, _, _, _, _], _⟩ _
                    rw [show f 3 = _ from h3]
                    clear h3
                    repeat (first | go_guarded | go_step)
                    exact hQ _ _ (Grow.refl _) rfl rfl
                  refine obls_cons (fun f w' hR hH Q hQ => ?_) ?_
                  · skip
                    have h4 := hH.get 0 (61, 4) rfl
                    clear hH
                    refine wpList_view ?_; show wpList _ _ _ [_] ⟨#[_, _, _, _, _, _, _, _, _, _, _, _, _, _, _, _, _, _, _, _, _, _, _, _, _, _, _, _, _, _, _, _, _, _, _, _, _, _, _, _, _, _, _, _, _, _, _, _, _, _, _, _, _, _, _, _, _, _, _, _, _, f 4, _, _, _, _, _, _, _, _, _, _, _, _, _, _, _, _, _, _, _, _, _, _, _, _, _, _, _], _⟩ _
                    rw [show f 4 = _ from h4]
                    clear h4
                    have y2 := hR.cell HQ0.out
                    rw [Nat.add_zero] at y2
                    repeat (first | go_guarded | go_step)
                    exact hQ _ _ (Grow.refl _) rfl rfl
                  refine obls_cons (fun f w' hR hH Q hQ => ?_) ?_
                  · skip
                    clear hH
                    refine wpList_view ?_; show wpList _ _ _ [_] ⟨#[_, _, _, _, _, _, _, _, _, _, _, _, _, _, _, _, _, _, _, _, _, _, _, _, _, _, _, _, _, _, _, _, _, _, _, _, _, _, _, _, _, _, _, _, _, _, _, _, _, _, _, _, _, _, _, _, _, _, _, _, _, _, _, _, _, _, _, _, _, _, _, _, _, _, _, _, _, _, _, _, _, _, _, _, _, _, _, _, _], _⟩ _
                    repeat (first | go_guarded | go_step)
                    exact hQ _ _ (Grow.refl _) rfl rfl
                  refine obls_cons (fun f w' hR hH Q hQ => ?_) ?_
                  · skip
                    clear hH
                    refine wpList_view ?_; show wpList _ _ _ [_] ⟨#[_, _, _, _, _, _, _, _, _, _, _, _, _, _, _, _, _, _, _, _, _, _, _, _, _, _, _, _, _, _, _, _, _, _, _, _, _, _, _, _, _, _, _, _, _, _, _, _, _, _, _, _, _, _, _, _, _, _, _, _, _, _, _, _, _, _, _, _, _, _, _, _, _, _, _, _, _, _, _, _, _, _, _, _, _, _, _, _, _], _⟩ _
                    repeat (first | go_guarded | go_step)
                    exact hQ _ _ (Grow.refl _) rfl rfl
                  refine obls_cons (fun f w' hR hH Q hQ => ?_) ?_
                  · skip
                    have h6 := hH.get 0 (63, 6) rfl
                    have h7 := hH.get 1 (64, 7) rfl
                    clear hH
                    refine wpList_view ?_; show wpList _ _ _ [_] ⟨#[_, _, _, _, _, _, _, _, _, _, _, _, _, _, _, _, _, _, _, _, _, _, _, _, _, _, _, _, _, _, _, _, _, _, _, _, _, _, _, _, _, _, _, _, _, _, _, _, _, _, _, _, _, _, _, _, _, _, _, _, _, _, _, f 6, f 7, _, _, _, _, _, _, _, _, _, _, _, _, _, _, _, _, _, _, _, _, _, _, _, _], _⟩ _
                    rw [show f 6 = _ from h6]
                    rw [show f 7 = _ from h7]
                    clear h6 h7
                    repeat (first | go_guarded | go_step)
                    exact hQ _ _ (Grow.refl _) rfl rfl
                  refine obls_cons (fun f w' hR hH Q hQ => ?_) ?_
                  · skip
                    have h8 := hH.get 0 (65, 8) rfl
                    clear hH
                    refine wpList_view ?_; show wpList _ _ _ [_] ⟨#[_, _, _, _, _, _, _, _, _, _, _, _, _, _, _, _, _, _, _, _, _, _, _, _, _, _, _, _, _, _, _, _, _, _, _, _, _, _, _, _, _, _, _, _, _, _, _, _, _, _, _, _, _, _, _, _, _, _, _, _, _, _, _, _, _, f 8, _, _, _, _, _, _, _, _, _, _, _, _, _, _, _, _, _, _, _, _, _, _, _], _⟩ _
                    rw [show f 8 = _ from h8]
                    clear h8
                    have y3 := hR.cell HC6.out
                    repeat (first | go_guarded | go_step)
                    exact hQ _ _ (Grow.refl _) rfl rfl
                  refine obls_cons (fun f w' hR hH Q hQ => ?_) ?_
                  · skip
                    have h5 := hH.get 0 (62, 5) rfl
                    have h9 := hH.get 1 (66, 9) rfl
                    clear hH
                    refine wpList_view ?_; show wpList _ _ _ [_] ⟨#[_, _, _, _, _, _, _, _, _, _, _, _, _, _, _, _, _, _, _, _, _, _, _, _, _, _, _, _, _, _, _, _, _, _, _, _, _, _, _, _, _, _, _, _, _, _, _, _, _, _, _, _, _, _, _, _, _, _, _, _, _, _, f 5, _, _, _, f 9, _, _, _, _, _, _, _, _, _, _, _, _, _, _, _, _, _, _, _, _, _, _], _⟩ _
                    rw [show f 5 = _ from h5]
                    rw [show f 9 = _ from h9]
                    clear h5 h9
                    repeat (first | go_guarded | go_step)
                    exact hQ _ _ (Grow.refl _) rfl rfl
                  refine obls_cons (fun f w' hR hH Q hQ => ?_) ?_
                  · skip
                    have h10 := hH.get 0 (67, 10) rfl
                    clear hH
                    refine wpList_view ?_; show wpList _ _ _ [_] ⟨#[_, _, _, _, _, _, _, _, _, _, _, _, _, _, _, _, _, _, _, _, _, _, _, _, _, _, _, _, _, _, _, _, _, _, _, _, _, _, _, _, _, _, _, _, _, _, _, _, _, _, _, _, _, _, _, _, _, _, _, _, _, _, _, _, _, _, _, f 10, _, _, _, _, _, _, _, _, _, _, _, _, _, _, _, _, _, _, _, _, _], _⟩ _
                    rw [show f 10 = _ from h10]
                    clear h10
                    repeat (first | go_guarded | go_step)
                    exact hQ _ _ (Grow.refl _) rfl rfl
                  refine obls_cons (fun f w' hR hH Q hQ => ?_) ?_
                  · skip
                    have h11 := hH.get 0 (68, 11) rfl
                    clear hH
                    refine wpList_view ?_; show wpList _ _ _ [_] ⟨#[_, _, _, _, _, _, _, _, _, _, _, _, _, _, _, _, _, _, _, _, _, _, _, _, _, _, _, _, _, _, _, _, _, _, _, _, _, _, _, _, _, _, _, _, _, _, _, _, _, _, _, _, _, _, _, _, _, _, _, _, _, _, _, _, _, _, _, _, f 11, _, _, _, _, _, _, _, _, _, _, _, _, _, _, _, _, _, _, _, _], _⟩ _
                    rw [show f 11 = _ from h11]
                    clear h11
                    repeat (first | go_guarded | go_step)
                    exact hQ _ _ (Grow.refl _) rfl rfl
                  refine obls_cons (fun f w' hR hH Q hQ => ?_) ?_
                  · skip
                    have h11 := hH.get 0 (68, 11) rfl
                    clear hH
                    refine wpList_view ?_; show wpList _ _ _ [_] ⟨#[_, _, _, _, _, _, _, _, _, _, _, _, _, _, _, _, _, _, _, _, _, _, _, _, _, _, _, _, _, _, _, _, _, _, _, _, _, _, _, _, _, _, _, _, _, _, _, _, _, _, _, _, _, _, _, _, _, _, _, _, _, _, _, _, _, _, _, _, f 11, _, _, _, _, _, _, _, _, _, _, _, _, _, _, _, _, _, _, _, _], _⟩ _
                    rw [show f 11 = _ from h11]
                    clear h11
                    repeat (first | go_guarded | go_step)
                    exact hQ _ _ (Grow.refl _) rfl rfl
                  refine obls_cons (fun f w' hR hH Q hQ => ?_) ?_
                  · skip
                    have h13 := hH.get 0 (70, 13) rfl
                    have h11 := hH.get 1 (68, 11) rfl
                    clear hH
                    refine wpList_view ?_; show wpList _ _ _ [_] ⟨#[_, _, _, _, _, _, _, _, _, _, _, _, _, _, _, _, _, _, _, _, _, _, _, _, _, _, _, _, _, _, _, _, _, _, _, _, _, _, _, _, _, _, _, _, _, _, _, _, _, _, _, _, _, _, _, _, _, _, _, _, _, _, _, _, _, _, _, _, f 11, _, f 13, _, _, _, _, _, _, _, _, _, _, _, _, _, _, _, _, _, _], _⟩ _
                    rw [show f 13 = _ from h13]
                    rw [show f 11 = _ from h11]
                    clear h13 h11
                    have y1 := hR.cell HZ1.out
                    repeat (first | go_guarded | go_step)
                    exact hQ _ _ (Grow.refl _) rfl rfl
                  refine obls_cons (fun f w' hR hH Q hQ => ?_) ?_
                  · skip
                    have h11 := hH.get 0 (68, 11) rfl
                    clear hH
                    refine wpList_view ?_; show wpList _ _ _ [_] ⟨#[_, _, _, _, _, _, _, _, _, _, _, _, _, _, _, _, _, _, _, _, _, _, _, _, _, _, _, _, _, _, _, _, _, _, _, _, _, _, _, _, _, _, _, _, _, _, _, _, _, _, _, _, _, _, _, _, _, _, _, _, _, _, _, _, _, _, _, _, f 11, _, _, _, _, _, _, _, _, _, _, _, _, _, _, _, _, _, _, _, _], _⟩ _
                    rw [show f 11 = _ from h11]
                    clear h11
                    repeat (first | go_guarded | go_step)
                    exact hQ _ _ (Grow.refl _) rfl rfl
                  refine obls_cons (fun f w' hR hH Q hQ => ?_) ?_
                  · skip
                    have h14 := hH.get 0 (71, 14) rfl
                    have h15 := hH.get 1 (72, 15) rfl
                    have h11 := hH.get 2 (68, 11) rfl
                    clear hH
                    refine wpList_merge (idx := [none, none, none, none, none, none, none, none, none, none, none, none, none, none, none, none, none, none, none, none, none, none, none, none, none, none, none, none, none, none, none, none, none, none, none, none, none, none, none, none, none, none, none, none, none, none, none, none, none, none, none, none, none, none, none, none, none, none, none, none, none, none, none, none, none, none, none, none, some 11, none, none, some 14, some 15, none, none, none, none, none, none, none, none, none, none, none, none, none, none, none, none]) (by kernel_rfl) ?_; show wpList _ _ _ [_] ⟨#[_, _, _, _, _, _, _, _, _, _, _, _, _, _, _, _, _, _, _, _, _, _, _, _, _, _, _, _, _, _, _, _, _, _, _, _, _, _, _, _, _, _, _, _, _, _, _, _, _, _, _, _, _, _, _, _, _, _, _, _, _, _, _, _, _, _, _, _, f 11, _, _, f 14, f 15, _, _, _, _, _, _, _, _, _, _, _, _, _, _, _, _], _⟩ _
                    rw [show f 14 = _ from h14]
                    rw [show f 15 = _ from h15]
                    rw [show f 11 = _ from h11]
                    clear h14 h15 h11
                    repeat (first | go_guarded | go_step)
                    exact hQ _ _ (Grow.refl _) rfl rfl
                  refine obls_cons (fun f w' hR hH Q hQ => ?_) ?_
                  · skip
                    have h16 := hH.get 0 (73, 16) rfl
                    have h11 := hH.get 1 (68, 11) rfl
                    clear hH
                    refine wpList_view ?_; show wpList _ _ _ [_] ⟨#[_, _, _, _, _, _, _, _, _, _, _, _, _, _, _, _, _, _, _, _, _, _, _, _, _, _, _, _, _, _, _, _, _, _, _, _, _, _, _, _, _, _, _, _, _, _, _, _, _, _, _, _, _, _, _, _, _, _, _, _, _, _, _, _, _, _, _, _, f 11, _, _, _, _, f 16, _, _, _, _, _, _, _, _, _, _, _, _, _, _, _], _⟩ _
                    rw [show f 16 = _ from h16]
                    rw [show f 11 = _ from h11]
                    clear h16 h11
                    repeat (first | go_guarded | go_step)
                    exact hQ _ _ (Grow.refl _) rfl rfl
                  refine obls_cons (fun f w' hR hH Q hQ => ?_) ?_
                  · skip
                    have h17 := hH.get 0 (74, 17) rfl
                    have h11 := hH.get 1 (68, 11) rfl
                    clear hH
                    refine wpList_view ?_; show wpList _ _ _ [_] ⟨#[_, _, _, _, _, _, _, _, _, _, _, _, _, _, _, _, _, _, _, _, _, _, _, _, _, _, _, _, _, _, _, _, _, _, _, _, _, _, _, _, _, _, _, _, _, _, _, _, _, _, _, _, _, _, _, _, _, _, _, _, _, _, _, _, _, _, _, _, f 11, _, _, _, _, _, f 17, _, _, _, _, _, _, _, _, _, _, _, _, _, _], _⟩ _
                    rw [show f 17 = _ from h17]
                    rw [show f 11 = _ from h11]
                    clear h17 h11
                    have y4 := hR.cell HQ1.out
                    repeat (first | go_guarded | go_step)
                    exact hQ _ _ (Grow.refl _) rfl rfl
                  refine obls_cons (fun f w' hR hH Q hQ => ?_) ?_
                  · skip
                    have h12 := hH.get 0 (69, 12) rfl
                    have h18 := hH.get 1 (75, 18) rfl
                    have h11 := hH.get 2 (68, 11) rfl
                    clear hH
                    refine wpList_merge (idx := [none, none, none, none, none, none, none, none, none, none, none, none, none, none, none, none, none, none, none, none, none, none, none, none, none, none, none, none, none, none, none, none, none, none, none, none, none, none, none, none, none, none, none, none, none, none, none, none, none, none, none, none, none, none, none, none, none, none, none, none, none, none, none, none, none, none, none, none, some 11, some 12, none, none, none, none, none, some 18, none, none, none, none, none, none, none, none, none, none, none, none, none]) (by kernel_rfl) ?_; show wpList _ _ _ [_] ⟨#[_, _, _, _, _, _, _, _, _, _, _, _, _, _, _, _, _, _, _, _, _, _, _, _, _, _, _, _, _, _, _, _, _, _, _, _, _, _, _, _, _, _, _, _, _, _, _, _, _, _, _, _, _, _, _, _, _, _, _, _, _, _, _, _, _, _, _, _, f 11, f 12, _, _, _, _, _, f 18, _, _, _, _, _, _, _, _, _, _, _, _, _], _⟩ _
                    rw [show f 12 = _ from h12]
                    rw [show f 18 = _ from h18]
                    rw [show f 11 = _ from h11]
                    clear h12 h18 h11
                    repeat (first | go_guarded | go_step)
                    exact hQ _ _ (Grow.refl _) rfl rfl
                  refine obls_cons (fun f w' hR hH Q hQ => ?_) ?_
                  · skip
                    have h19 := hH.get 0 (76, 19) rfl
                    have h11 := hH.get 1 (68, 11) rfl
                    clear hH
                    refine wpList_view ?_; show wpList _ _ _ [_] ⟨#[_, _, _, _, _, _, _, _, _, _, _, _, _, _, _, _, _, _, _, _, _, _, _, _, _, _, _, _, _, _, _, _, _, _, _, _, _, _, _, _, _, _, _, _, _, _, _, _, _, _, _, _, _, _, _, _, _, _, _, _, _, _, _, _, _, _, _, _, f 11, _, _, _, _, _, _, _, f 19, _, _, _, _, _, _, _, _, _, _, _, _], _⟩ _
                    rw [show f 19 = _ from h19]
                    rw [show f 11 = _ from h11]
                    clear h19 h11
                    repeat (first | go_guarded | go_step)
                    exact hQ _ _ (Grow.refl _) rfl rfl
                  refine obls_cons (fun f w' hR hH Q hQ => ?_) ?_
                  · skip
                    have h11 := hH.get 0 (68, 11) rfl
                    have h20 := hH.get 1 (77, 20) rfl
                    clear hH
                    refine wpList_view ?_; show wpList _ _ _ [_] ⟨#[_, _, _, _, _, _, _, _, _, _, _, _, _, _, _, _, _, _, _, _, _, _, _, _, _, _, _, _, _, _, _, _, _, _, _, _, _, _, _, _, _, _, _, _, _, _, _, _, _, _, _, _, _, _, _, _, _, _, _, _, _, _, _, _, _, _, _, _, f 11, _, _, _, _, _, _, _, _, f 20, _, _, _, _, _, _, _, _, _, _, _], _⟩ _
                    rw [show f 11 = _ from h11]
                    rw [show f 20 = _ from h20]
                    clear h11 h20
                    repeat (first | go_guarded | go_step)
                    exact hQ _ _ (Grow.refl _) rfl rfl
                  exact obls_nil
                case mono => exact ⟨Mono.veq _, Mono.veq _, Mono.veq _, Mono.veq _, Mono.veq _, Mono.veq _, Mono.veq _, Mono.veq _, Mono.veq _, Mono.veq _, Mono.veq _, Mono.veq _, Mono.veq _, Mono.veq _, Mono.veq _, Mono.veq _, Mono.veq _, Mono.veq _, Mono.veq _, Mono.veq _, Mono.veq _, Mono.veq _, trivial⟩
                case tail =>
                  intro f w' hR hH
                  have q21 := hH.get 21 (78, 21) rfl
                  clear hH
                  refine wpList_merge (idx := [none, none, none, none, none, none, none, none, none, none, none, none, none, none, none, none, none, none, none, none, none, none, none, none, none, none, none, none, none, none, none, none, none, none, none, none, none, none, none, none, none, none, none, none, none, none, none, none, none, none, none, none, none, none, none, none, none, some 0, some 1, some 2, some 3, some 4, some 5, some 6, some 7, some 8, some 9, some 10, some 11, some 12, some 13, some 14, some 15, some 16, some 17, some 18, some 19, some 20, some 21, none, none, none, none, none, none, none, none, none, none]) (by kernel_rfl) ?_; show wpList _ _ _ [] ⟨#[_, _, _, _, _, _, _, _, _, _, _, _, _, _, _, _, _, _, _, _, _, _, _, _, _, _, _, _, _, _, _, _, _, _, _, _, _, _, _, _, _, _, _, _, _, _, _, _, _, _, _, _, _, _, _, _, _, f 0, f 1, f 2, f 3, f 4, f 5, f 6, f 7, f 8, f 9, f 10, f 11, f 12, f 13, f 14, f 15, f 16, f 17, f 18, f 19, f 20, f 21, _, _, _, _, _, _, _, _, _, _], _⟩ _
                  rw [show f 21 = _ from q21]
                  clear q21
                  have HG := Lib.hid hR
                  clear hR
                  go_wp2_with fail
                  go_roundw
                  case rel => exact ⟨m + 1, by omega, by go_num, by unfold passL; rw [take_fold _ _ HP.out]; show RB _ _ (if (p1 == x) then addB _ p2 else _) _; rw [HE.out, if_neg (by decide), show (L.take m).foldl (fun o p => if p.1 == x then addB o p.2 else o) o0 = o from HOM.out.symm]; first | exact HRB.out.grow HG.out | (have h := HRB.out.grow HG.out; rw [← HLO.out] at h; exact h)⟩
                  case measure => simp [intOf] <;> omega
              · cases h2
                · go_wp2_with fail
                  apply (fun (v0 v1 v2 v3 v4 v5 v6 v7 v8 v9 v10 v11 v12 v13 v14 v15 v16 v17 v18 v19 v20 v21 : Value) mono obl tail => wp_region_par (R := Grow) (Φ := phi [veq v0, veq v1, veq v2, veq v3, veq v4, veq v5, veq v6, veq v7, veq v8, veq v9, veq v10, veq v11, veq v12, veq v13, veq v14, veq v15, veq v16, veq v17, veq v18, veq v19, veq v20, veq v21]) (m := 22) (dls := [[], [(57, 0)], [], [(58, 1), (59, 2)], [(60, 3)], [(61, 4)], [], [], [(63, 6), (64, 7)], [(65, 8)], [(62, 5), (66, 9)], [(67, 10)], [(68, 11)], [(68, 11)], [(70, 13), (68, 11)], [(68, 11)], [(71, 14), (72, 15), (68, 11)], [(73, 16), (68, 11)], [(74, 17), (68, 11)], [(69, 12), (75, 18), (68, 11)], [(76, 19), (68, 11)], [(68, 11), (77, 20)]]) (ds := [57, 58, 59, 60, 61, 62, 63, 64, 65, 66, 67, 68, 69, 70, 71, 72, 73, 74, 75, 76, 77, 78]) (by kernel_rfl) (by kernel_rfl) (by decide) rfl (Grow.drew _) (fun _ _ _ => Grow.trans) (mono_phi mono) obl tail)
                  case obl =>
                    refine obls_cons (fun f w' hR hH Q hQ => ?_) ?_
                    · skip
                      clear hH
                      refine wpList_view ?_; show wpList _ _ _ [_] ⟨#[_, _, _, _, _, _, _, _, _, _, _, _, _, _, _, _, _, _, _, _, _, _, _, _, _, _, _, _, _, _, _, _, _, _, _, _, _, _, _, _, _, _, _, _, _, _, _, _, _, _, _, _, _, _, _, _, _, _, _, _, _, _, _, _, _, _, _, _, _, _, _, _, _, _, _, _, _, _, _, _, _, _, _, _, _, _, _, _, _], _⟩ _
                      repeat (first | go_guarded | go_step)
                      exact hQ _ _ (Grow.refl _) rfl rfl
                    refine obls_cons (fun f w' hR hH Q hQ => ?_) ?_
                    · skip
                      have h0 := hH.get 0 (57, 0) rfl
                      clear hH
                      refine wpList_view ?_; show wpList _ _ _ [_] ⟨#[_, _, _, _, _, _, _, _, _, _, _, _, _, _, _, _, _, _, _, _, _, _, _, _, _, _, _, _, _, _, _, _, _, _, _, _, _, _, _, _, _, _, _, _, _, _, _, _, _, _, _, _, _, _, _, _, _, f 0, _, _, _, _, _, _, _, _, _, _, _, _, _, _, _, _, _, _, _, _, _, _, _, _, _, _, _, _, _, _, _], _⟩ _
                      rw [show f 0 = _ from h0]
                      clear h0
                      have y1 := hR.cell HZ1.out
                      repeat (first | go_guarded | go_step)
                      exact hQ _ _ (Grow.refl _) rfl rfl
                    refine obls_cons (fun f w' hR hH Q hQ => ?_) ?_
                    · skip
                      clear hH
                      refine wpList_view ?_; show wpList _ _ _ [_] ⟨#[_, _, _, _, _, _, _, _, _, _, _, _, _, _, _, _, _, _, _, _, _, _, _, _, _, _, _, _, _, _, _, _, _, _, _, _, _, _, _, _, _, _, _, _, _, _, _, _, _, _, _, _, _, _, _, _, _, _, _, _, _, _, _, _, _, _, _, _, _, _, _, _, _, _, _, _, _, _, _, _, _, _, _, _, _, _, _, _, _], _⟩ _
                      repeat (first | go_guarded | go_step)
                      exact hQ _ _ (Grow.refl _) rfl rfl
                    refine obls_cons (fun f w' hR hH Q hQ => ?_) ?_
                    · skip
                      have h1 := hH.get 0 (58, 1) rfl
                      have h2 := hH.get 1 (59, 2) rfl
                      clear hH
                      refine wpList_view ?_; show wpList _ _ _ [_] ⟨#[_, _, _, _, _, _, _, _, _, _, _, _, _, _, _, _, _, _, _, _, _, _, _, _, _, _, _, _, _, _, _, _, _, _, _, _, _, _, _, _, _, _, _, _, _, _, _, _, _, _, _, _, _, _, _, _, _, _, f 1, f 2, _, _, _, _, _, _, _, _, _, _, _, _, _, _, _, _, _, _, _, _, _, _, _, _, _, _, _, _, _], _⟩ _
                      rw [show f 1 = _ from h1]
                      rw [show f 2 = _ from h2]
                      clear h1 h2
                      repeat (first | go_guarded | go_step)
                      exact hQ _ _ (Grow.refl _) rfl rfl
                    refine obls_cons (fun f w' hR hH Q hQ => ?_) ?_
                    · skip
                      have h3 := hH.get 0 (60, 3) rfl
                      clear hH
                      refine wpList_view ?_; show wpList _ _ _ [_] ⟨#[_, _, _, _, _, _, _, _, _, _, _, _, _, _, _, _, _, _, _, _, _, _, _, _, _, _, _, _, _, _, _, _, _, _, _, _, _, _, _, _, _, _, _, _, _, _, _, _, _, _, _, _, _, _, _, _, _, _, _, _, f 3, _, _, _, _, _, _, _, _, _, _, _, _, _, _, _, _, _, _, _, _, _, _, _, _, _, _, _, _], _⟩ _
                      rw [show f 3 = _ from h3]
                      clear h3
                      repeat (first | go_guarded | go_step)
                      exact hQ _ _ (Grow.refl _) rfl rfl
                    refine obls_cons (fun f w' hR hH Q hQ => ?_) ?_
                    · skip
                      have h4 := hH.get 0 (61, 4) rfl
                      clear hH
                      refine wpList_view ?_; show wpList _ _ _ [_] ⟨#[_, _, _, _, _, _, _, _, _, _, _, _, _, _, _, _, _, _, _, _, _, _, _, _, _, _, _, _, _, _, _, _, _, _, _, _, _, _, _, _, _, _, _, _, _, _, _, _, _, _, _, _, _, _, _, _, _, _, _, _, _, f 4, _, _, _, _, _, _, _, _, _, _, _, _, _, _, _, _, _, _, _, _, _, _, _, _, _, _, _], _⟩ _
                      rw [show f 4 = _ from h4]
                      clear h4
                      have y2 := hR.cell HQ0.out
                      rw [Nat.add_zero] at y2
                      repeat (first | go_guarded | go_step)
                      exact hQ _ _ (Grow.refl _) rfl rfl
                    refine obls_cons (fun f w' hR hH Q hQ => ?_) ?_
                    · skip
                      clear hH
                      refine wpList_view ?_; show wpList _ _ _ [_] ⟨#[_, _, _, _, _, _, _, _, _, _, _, _, _, _, _, _, _, _, _, _, _, _, _, _, _, _, _, _, _, _, _, _, _, _, _, _, _, _, _, _, _, _, _, _, _, _, _, _, _, _, _, _, _, _, _, _, _, _, _, _, _, _, _, _, _, _, _, _, _, _, _, _, _, _, _, _, _, _, _, _, _, _, _, _, _, _, _, _, _], _⟩ _
                      repeat (first | go_guarded | go_step)
                      exact hQ _ _ (Grow.refl _) rfl rfl
                    refine obls_cons (fun f w' hR hH Q hQ => ?_) ?_
                    · skip
                      clear hH
                      refine wpList_view ?_; show wpList _ _ _ [_] ⟨#[_, _, _, _, _, _, _, _, _, _, _, _, _, _, _, _, _, _, _, _, _, _, _, _, _, _, _, _, _, _, _, _, _, _, _, _, _, _, _, _, _, _, _, _, _, _, _, _, _, _, _, _, _, _, _, _, _, _, _, _, _, _, _, _, _, _, _, _, _, _, _, _, _, _, _, _, _, _, _, _, _, _, _, _, _, _, _, _, _], _⟩ _
                      repeat (first | go_guarded | go_step)
                      exact hQ _ _ (Grow.refl _) rfl rfl
                    refine obls_cons (fun f w' hR hH Q hQ => ?_) ?_
                    · skip
                      have h6 := hH.get 0 (63, 6) rfl
                      have h7 := hH.get 1 (64, 7) rfl
                      clear hH
                      refine wpList_view ?_; show wpList _ _ _ [_] ⟨#[_, _, _, _, _, _, _, _, _, _, _, _, _, _, _, _, _, _, _, _, _, _, _, _, _, _, _, _, _, _, _, _, _, _, _, _, _, _, _, _, _, _, _, _, _, _, _, _, _, _, _, _, _, _, _, _, _, _, _, _, _, _, _, f 6, f 7, _, _, _, _, _, _, _, _, _, _, _, _, _, _, _, _, _, _, _, _, _, _, _, _], _⟩ _
                      rw [show f 6 = _ from h6]
                      rw [show f 7 = _ from h7]
                      clear h6 h7
                      repeat (first | go_guarded | go_step)
                      exact hQ _ _ (Grow.refl _) rfl rfl
                    refine obls_cons (fun f w' hR hH Q hQ => ?_) ?_
                    · skip
                      have h8 := hH.get 0 (65, 8) rfl
                      clear hH
                      refine wpList_view ?_; show wpList _ _ _ [_] ⟨#[_, _, _, _, _, _, _, _, _, _, _, _, _, _, _, _, _, _, _, _, _, _, _, _, _, _, _, _, _, _, _, _, _, _, _, _, _, _, _, _, _, _, _, _, _, _, _, _, _, _, _, _, _, _, _, _, _, _, _, _, _, _, _, _, _, f 8, _, _, _, _, _, _, _, _, _, _, _, _, _, _, _, _, _, _, _, _, _, _, _], _⟩ _
                      rw [show f 8 = _ from h8]
                      clear h8
                      have y3 := hR.cell HC6.out
                      repeat (first | go_guarded | go_step)
                      exact hQ _ _ (Grow.refl _) rfl rfl
                    refine obls_cons (fun f w' hR hH Q hQ => ?_) ?_
                    · skip
                      have h5 := hH.get 0 (62, 5) rfl
                      have h9 := hH.get 1 (66, 9) rfl
                      clear hH
                      refine wpList_view ?_; show wpList _ _ _ [_] ⟨#[_, _, _, _, _, _, _, _, _, _, _, _, _, _, _, _, _, _, _, _, _, _, _, _, _, _, _, _, _, _, _, _, _, _, _, _, _, _, _, _, _, _, _, _, _, _, _, _, _, _, _, _, _, _, _, _, _, _, _, _, _, _, f 5, _, _, _, f 9, _, _, _, _, _, _, _, _, _, _, _, _, _, _, _, _, _, _, _, _, _, _], _⟩ _
                      rw [show f 5 = _ from h5]
                      rw [show f 9 = _ from h9]
                      clear h5 h9
                      repeat (first | go_guarded | go_step)
                      exact hQ _ _ (Grow.refl _) rfl rfl
                    refine obls_cons (fun f w' hR hH Q hQ => ?_) ?_
                    · skip
                      have h10 := hH.get 0 (67, 10) rfl
                      clear hH
                      refine wpList_view ?_; show wpList _ _ _ [_] ⟨#[_, _, _, _, _, _, _, _, _, _, _, _, _, _, _, _, _, _, _, _, _, _, _, _, _, _, _, _, _, _, _, _, _, _, _, _, _, _, _, _, _, _, _, _, _, _, _, _, _, _, _, _, _, _, _, _, _, _, _, _, _, _, _, _, _, _, _, f 10, _, _, _, _, _, _, _, _, _, _, _, _, _, _, _, _, _, _, _, _, _], _⟩ _
                      rw [show f 10 = _ from h10]
                      clear h10
                      repeat (first | go_guarded | go_step)
                      exact hQ _ _ (Grow.refl _) rfl rfl
                    refine obls_cons (fun f w' hR hH Q hQ => ?_) ?_
                    · skip
                      have h11 := hH.get 0 (68, 11) rfl
                      clear hH
                      refine wpList_view ?_; show wpList _ _ _ [_] ⟨#[_, _, _, _, _, _, _, _, _, _, _, _, _, _, _, _, _, _, _, _, _, _, _, _, _, _, _, _, _, _, _, _, _, _, _, _, _, _, _, _, _, _, _, _, _, _, _, _, _, _, _, _, _, _, _, _, _, _, _, _, _, _, _, _, _, _, _, _, f 11, _, _, _, _, _, _, _, _, _, _, _, _, _, _, _, _, _, _, _, _], _⟩ _
                      rw [show f 11 = _ from h11]
                      clear h11
                      repeat (first | go_guarded | go_step)
                      exact hQ _ _ (Grow.refl _) rfl rfl
                    refine obls_cons (fun f w' hR hH Q hQ => ?_) ?_
                    · skip
                      have h11 := hH.get 0 (68, 11) rfl
                      clear hH
                      refine wpList_view ?_; show wpList _ _ _ [_] ⟨#[_, _, _, _, _, _, _, _, _, _, _, _, _, _, _, _, _, _, _, _, _, _, _, _, _, _, _, _, _, _, _, _, _, _, _, _, _, _, _, _, _, _, _, _, _, _, _, _, _, _, _, _, _, _, _, _, _, _, _, _, _, _, _, _, _, _, _, _, f 11, _, _, _, _, _, _, _, _, _, _, _, _, _, _, _, _, _, _, _, _], _⟩ _
                      rw [show f 11 = _ from h11]
                      clear h11
                      repeat (first | go_guarded | go_step)
                      exact hQ _ _ (Grow.refl _) rfl rfl
                    refine obls_cons (fun f w' hR hH Q hQ => ?_) ?_
                    · skip
                      have h13 := hH.get 0 (70, 13) rfl
                      have h11 := hH.get 1 (68, 11) rfl
                      clear hH
                      refine wpList_view ?_; show wpList _ _ _ [_] ⟨#[_, _, _, _, _, _, _, _, _, _, _, _, _, _, _, _, _, _, _, _, _, _, _, _, _, _, _, _, _, _, _, _, _, _, _, _, _, _, _, _, _, _, _, _, _, _, _, _, _, _, _, _, _, _, _, _, _, _, _, _, _, _, _, _, _, _, _, _, f 11, _, f 13, _, _, _, _, _, _, _, _, _, _, _, _, _, _, _, _, _, _], _⟩ _
                      rw [show f 13 = _ from h13]
                      rw [show f 11 = _ from h11]
                      clear h13 h11
                      have y1 := hR.cell HZ1.out
                      repeat (first | go_guarded | go_step)
                      exact hQ _ _ (Grow.refl _) rfl rfl
                    refine obls_cons (fun f w' hR hH Q hQ => ?_) ?_
                    · skip
                      have h11 := hH.get 0 (68, 11) rfl
                      clear hH
                      refine wpList_view ?_; show wpList _ _ _ [_] ⟨#[_, _, _, _, _, _, _, _, _, _, _, _, _, _, _, _, _, _, _, _, _, _, _, _, _, _, _, _, _, _, _, _, _, _, _, _, _, _, _, _, _, _, _, _, _, _, _, _, _, _, _, _, _, _, _, _, _, _, _, _, _, _, _, _, _, _, _, _, f 11, _, _, _, _, _, _, _, _, _, _, _, _, _, _, _, _, _, _, _, _], _⟩ _
                      rw [show f 11 = _ from h11]
                      clear h11
                      repeat (first | go_guarded | go_step)
                      exact hQ _ _ (Grow.refl _) rfl rfl
                    refine obls_cons (fun f w' hR hH Q hQ => ?_) ?_
                    · skip
                      have h14 := hH.get 0 (71, 14) rfl
                      have h15 := hH.get 1 (72, 15) rfl
                      have h11 := hH.get 2 (68, 11) rfl
                      clear hH
                      refine wpList_merge (idx := [none, none, none, none, none, none, none, none, none, none, none, none, none, none, none, none, none, none, none, none, none, none, none, none, none, none, none, none, none, none, none, none, none, none, none, none, none, none, none, none, none, none, none, none, none, none, none, none, none, none, none, none, none, none, none, none, none, none, none, none, none, none, none, none, none, none, none, none, some 11, none, none, some 14, some 15, none, none, none, none, none, none, none, none, none, none, none, none, none, none, none, none]) (by kernel_rfl) ?_; show wpList _ _ _ [_] ⟨#[_, _, _, _, _, _, _, _, _, _, _, _, _, _, _, _, _, _, _, _, _, _, _, _, _, _, _, _, _, _, _, _, _, _, _, _, _, _, _, _, _, _, _, _, _, _, _, _, _, _, _, _, _, _, _, _, _, _, _, _, _, _, _, _, _, _, _, _, f 11, _, _, f 14, f 15, _, _, _, _, _, _, _, _, _, _, _, _, _, _, _, _], _⟩ _
                      rw [show f 14 = _ from h14]
                      rw [show f 15 = _ from h15]
                      rw [show f 11 = _ from h11]
                      clear h14 h15 h11
                      repeat (first | go_guarded | go_step)
                      exact hQ _ _ (Grow.refl _) rfl rfl
                    refine obls_cons (fun f w' hR hH Q hQ => ?_) ?_
                    · skip
                      have h16 := hH.get 0 (73, 16) rfl
                      have h11 := hH.get 1 (68, 11) rfl
                      clear hH
                      refine wpList_view ?_; show wpList _ _ _ [_] ⟨#[_, _, _, _, _, _, _, _, _, _, _, _, _, _, _, _, _, _, _, _, _, _, _, _, _, _, _, _, _, _, _, _, _, _, _, _, _, _, _, _, _, _, _, _, _, _, _, _, _, _, _, _, _, _, _, _, _, _, _, _, _, _, _, _, _, _, _, _, f 11, _, _, _, _, f 16, _, _, _, _, _, _, _, _, _, _, _, _, _, _, _], _⟩ _
                      rw [show f 16 = _ from h16]
                      rw [show f 11 = _ from h11]
                      clear h16 h11
                      repeat (first | go_guarded | go_step)
                      exact hQ _ _ (Grow.refl _) rfl rfl
                    refine obls_cons (fun f w' hR hH Q hQ => ?_) ?_
                    · skip
                      have h17 := hH.get 0 (74, 17) rfl
                      have h11 := hH.get 1 (68, 11) rfl
                      clear hH
                      refine wpList_view ?_; show wpList _ _ _ [_] ⟨#[_, _, _, _, _, _, _, _, _, _, _, _, _, _, _, _, _, _, _, _, _, _, _, _, _, _, _, _, _, _, _, _, _, _, _, _, _, _, _, _, _, _, _, _, _, _, _, _, _, _, _, _, _, _, _, _, _, _, _, _, _, _, _, _, _, _, _, _, f 11, _, _, _, _, _, f 17, _, _, _, _, _, _, _, _, _, _, _, _, _, _], _⟩ _
                      rw [show f 17 = _ from h17]
                      rw [show f 11 = _ from h11]
                      clear h17 h11
                      have y4 := hR.cell HQ1.out
                      repeat (first | go_guarded | go_step)
                      exact hQ _ _ (Grow.refl _) rfl rfl
                    refine obls_cons (fun f w' hR hH Q hQ => ?_) ?_
                    · skip
                      have h12 := hH.get 0 (69, 12) rfl
                      have h18 := hH.get 1 (75, 18) rfl
                      have h11 := hH.get 2 (68, 11) rfl
                      clear hH
                      refine wpList_merge (idx := [none, none, none, none, none, none, none, none, none, none, none, none, none, none, none, none, none, none, none, none, none, none, none, none, none, none, none, none, none, none, none, none, none, none, none, none, none, none, none, none, none, none, none, none, none, none, none, none, none, none, none, none, none, none, none, none, none, none, none, none, none, none, none, none, none, none, none, none, some 11, some 12, none, none, none, none, none, some 18, none, none, none, none, none, none, none, none, none, none, none, none, none]) (by kernel_rfl) ?_; show wpList _ _ _ [_] ⟨#[_, _, _, _, _, _, _, _, _, _, _, _, _, _, _, _, _, _, _, _, _, _, _, _, _, _, _, _, _, _, _, _, _, _, _, _, _, _, _, _, _, _, _, _, _, _, _, _, _, _, _, _, _, _, _, _, _, _, _, _, _, _, _, _, _, _, _, _, f 11, f 12, _, _, _, _, _, f 18, _, _, _, _, _, _, _, _, _, _, _, _, _], _⟩ _
                      rw [show f 12 = _ from h12]
                      rw [show f 18 = _ from h18]
                      rw [show f 11 = _ from h11]
                      clear h12 h18 h11
                      go_wp2_with (go_at_call 51; refine (HIN.out w' hR).mono ?_; rintro e w1 ⟨rfl, rfl⟩)
                      exact hQ _ _ (Grow.refl _) rfl rfl
                    refine obls_cons (fun f w' hR hH Q hQ => ?_) ?_
                    · skip
                      have h19 := hH.get 0 (76, 19) rfl
                      have h11 := hH.get 1 (68, 11) rfl
                      clear hH
                      refine wpList_view ?_; show wpList _ _ _ [_] ⟨#[_, _, _, _, _, _, _, _, _, _, _, _, _, _, _, _, _, _, _, _, _, _, _, _, _, _, _, _, _, _, _, _, _, _, _, _, _, _, _, _, _, _, _, _, _, _, _, _, _, _, _, _, _, _, _, _, _, _, _, _, _, _, _, _, _, _, _, _, f 11, _, _, _, _, _, _, _, f 19, _, _, _, _, _, _, _, _, _, _, _, _], _⟩ _
                      rw [show f 19 = _ from h19]
                      rw [show f 11 = _ from h11]
                      clear h19 h11
                      repeat (first | go_guarded | go_step)
                      exact hQ _ _ (Grow.refl _) rfl rfl
                    refine obls_cons (fun f w' hR hH Q hQ => ?_) ?_
                    · skip
                      have h11 := hH.get 0 (68, 11) rfl
                      have h20 := hH.get 1 (77, 20) rfl
                      clear hH
                      refine wpList_view ?_; show wpList _ _ _ [_] ⟨#[_, _, _, _, _, _, _, _, _, _, _, _, _, _, _, _, _, _, _, _, _, _, _, _, _, _, _, _, _, _, _, _, _, _, _, _, _, _, _, _, _, _, _, _, _, _, _, _, _, _, _, _, _, _, _, _, _, _, _, _, _, _, _, _, _, _, _, _, f 11, _, _, _, _, _, _, _, _, f 20, _, _, _, _, _, _, _, _, _, _, _], _⟩ _
                      rw [show f 11 = _ from h11]
                      rw [show f 20 = _ from h20]
                      clear h11 h20
                      repeat (first | go_guarded | go_step)
                      exact hQ _ _ (Grow.refl _) rfl rfl
                    exact obls_nil
                  case mono => exact ⟨Mono.veq _, Mono.veq _, Mono.veq _, Mono.veq _, Mono.veq _, Mono.veq _, Mono.veq _, Mono.veq _, Mono.veq _, Mono.veq _, Mono.veq _, Mono.veq _, Mono.veq _, Mono.veq _, Mono.veq _, Mono.veq _, Mono.veq _, Mono.veq _, Mono.veq _, Mono.veq _, Mono.veq _, Mono.veq _, trivial⟩
                  case tail =>
                    intro f w' hR hH
                    have q21 := hH.get 21 (78, 21) rfl
                    clear hH
                    refine wpList_merge (idx := [none, none, none, none, none, none, none, none, none, none, none, none, none, none, none, none, none, none, none, none, none, none, none, none, none, none, none, none, none, none, none, none, none, none, none, none, none, none, none, none, none, none, none, none, none, none, none, none, none, none, none, none, none, none, none, none, none, some 0, some 1, some 2, some 3, some 4, some 5, some 6, some 7, some 8, some 9, some 10, some 11, some 12, some 13, some 14, some 15, some 16, some 17, some 18, some 19, some 20, some 21, none, none, none, none, none, none, none, none, none, none]) (by kernel_rfl) ?_; show wpList _ _ _ [] ⟨#[_, _, _, _, _, _, _, _, _, _, _, _, _, _, _, _, _, _, _, _, _, _, _, _, _, _, _, _, _, _, _, _, _, _, _, _, _, _, _, _, _, _, _, _, _, _, _, _, _, _, _, _, _, _, _, _, _, f 0, f 1, f 2, f 3, f 4, f 5, f 6, f 7, f 8, f 9, f 10, f 11, f 12, f 13, f 14, f 15, f 16, f 17, f 18, f 19, f 20, f 21, _, _, _, _, _, _, _, _, _, _], _⟩ _
                    rw [show f 21 = _ from q21]
                    clear q21
                    obtain ⟨wq, hwq⟩ : ∃ wq, wq = w' := ⟨_, rfl⟩
                    rw [← hwq] at hR ⊢
                    have HRBq := Lib.hid (HRB.out.grow hR)
                    have y1 := hR.cell HZ1.out
                    have y4 := hR.cell HQ1.out
                    have hown := HRBq.out.own
                    rw [← HLO.out] at hown
                    have hsz : W1.heap.size ≤ wq.heap.size := HRBq.out.g.size
                    clear hwq hR HIN
                    go_wp2_with (at_builtin; refine append_fresh 8 Try.underlying23 iI iIz iIs iIb rfl rfl _ _ rfl W1.heap.size _ _ _ hown rfl rfl rfl hlim hlim2 hsz ?_; intro v1 w1 hown1 hgb1 hh1)
                    have HRB2 : Hid (RB W1 v1 (o ++ [p2]) w1) := Lib.hid ⟨grow_by (HRBq.out.g.trans (Grow.alloc wq _)) hgb1 (own_base hown), by rw [List.length_append, List.map_append]; have h1 := hown1; rw [HLO.out] at h1; exact h1⟩
                    obtain ⟨A1, c1, rfl, -, -, -⟩ := own_form hown1
                    clear hown1 hgb1 hh1 hown hsz hlim hlim2 y1 y4
                    go_wp2_with fail
                    go_roundw
                    case rel => exact ⟨m + 1, by omega, by go_num, by unfold passL; rw [take_fold _ _ HP.out]; show RB _ _ (if (p1 == x) then addB _ p2 else _) _; rw [HE.out, if_pos rfl, show (L.take m).foldl (fun o p => if p.1 == x then addB o p.2 else o) o0 = o from HOM.out.symm, addB_hasn HH2.out.symm]; exact HRB2.out⟩
                    case measure => simp [intOf] <;> omega
                · go_wp2_with fail
                  apply (fun (v0 v1 v2 v3 v4 v5 v6 v7 v8 v9 v10 v11 v12 v13 v14 v15 v16 v17 v18 v19 v20 v21 : Value) mono obl tail => wp_region_par (R := Grow) (Φ := phi [veq v0, veq v1, veq v2, veq v3, veq v4, veq v5, veq v6, veq v7, veq v8, veq v9, veq v10, veq v11, veq v12, veq v13, veq v14, veq v15, veq v16, veq v17, veq v18, veq v19, veq v20, veq v21]) (m := 22) (dls := [[], [(57, 0)], [], [(58, 1), (59, 2)], [(60, 3)], [(61, 4)], [], [], [(63, 6), (64, 7)], [(65, 8)], [(62, 5), (66, 9)], [(67, 10)], [(68, 11)], [(68, 11)], [(70, 13), (68, 11)], [(68, 11)], [(71, 14), (72, 15), (68, 11)], [(73, 16), (68, 11)], [(74, 17), (68, 11)], [(69, 12), (75, 18), (68, 11)], [(76, 19), (68, 11)], [(68, 11), (77, 20)]]) (ds := [57, 58, 59, 60, 61, 62, 63, 64, 65, 66, 67, 68, 69, 70, 71, 72, 73, 74, 75, 76, 77, 78]) (by kernel_rfl) (by kernel_rfl) (by decide) rfl (Grow.drew _) (fun _ _ _ => Grow.trans) (mono_phi mono) obl tail)
                  case obl =>
                    refine obls_cons (fun f w' hR hH Q hQ => ?_) ?_
                    · skip
                      clear hH
                      refine wpList_view ?_; show wpList _ _ _ [_] ⟨#[_, _, _, _, _, _, _, _, _, _, _, _, _, _, _, _, _, _, _, _, _, _, _, _, _, _, _, _, _, _, _, _, _, _, _, _, _, _, _, _, _, _, _, _, _, _, _, _, _, _, _, _, _, _, _, _, _, _, _, _, _, _, _, _, _, _, _, _, _, _, _, _, _, _, _, _, _, _, _, _, _, _, _, _, _, _, _, _, _], _⟩ _
                      repeat (first | go_guarded | go_step)
                      exact hQ _ _ (Grow.refl _) rfl rfl
                    refine obls_cons (fun f w' hR hH Q hQ => ?_) ?_
                    · skip
                      have h0 := hH.get 0 (57, 0) rfl
                      clear hH
                      refine wpList_view ?_; show wpList _ _ _ [_] ⟨#[_, _, _, _, _, _, _, _, _, _, _, _, _, _, _, _, _, _, _, _, _, _, _, _, _, _, _, _, _, _, _, _, _, _, _, _, _, _, _, _, _, _, _, _, _, _, _, _, _, _, _, _, _, _, _, _, _, f 0, _, _, _, _, _, _, _, _, _, _, _, _, _, _, _, _, _, _, _, _, _, _, _, _, _, _, _, _, _, _, _], _⟩ _
                      rw [show f 0 = _ from h0]
                      clear h0
                      have y1 := hR.cell HZ1.out
                      repeat (first | go_guarded | go_step)
                      exact hQ _ _ (Grow.refl _) rfl rfl
                    refine obls_cons (fun f w' hR hH Q hQ => ?_) ?_
                    · skip
                      clear hH
                      refine wpList_view ?_; show wpList _ _ _ [_] ⟨#[_, _, _, _, _, _, _, _, _, _, _, _, _, _, _, _, _, _, _, _, _, _, _, _, _, _, _, _, _, _, _, _, _, _, _, _, _, _, _, _, _, _, _, _, _, _, _, _, _, _, _, _, _, _, _, _, _, _, _, _, _, _, _, _, _, _, _, _, _, _, _, _, _, _, _, _, _, _, _, _, _, _, _, _, _, _, _, _, _], _⟩ _
                      repeat (first | go_guarded | go_step)
                      exact hQ _ _ (Grow.refl _) rfl rfl
                    refine obls_cons (fun f w' hR hH Q hQ => ?_) ?_
                    · skip
                      have h1 := hH.get 0 (58, 1) rfl
                      have h2 := hH.get 1 (59, 2) rfl
                      clear hH
                      refine wpList_view ?_; show wpList _ _ _ [_] ⟨#[_, _, _, _, _, _, _, _, _, _, _, _, _, _, _, _, _, _, _, _, _, _, _, _, _, _, _, _, _, _, _, _, _, _, _, _, _, _, _, _, _, _, _, _, _, _, _, _, _, _, _, _, _, _, _, _, _, _, f 1, f 2, _, _, _, _, _, _, _, _, _, _, _, _, _, _, _, _, _, _, _, _, _, _, _, _, _, _, _, _, _], _⟩ _
                      rw [show f 1 = _ from h1]
                      rw [show f 2 = _ from h2]
                      clear h1 h2
                      repeat (first | go_guarded | go_step)
                      exact hQ _ _ (Grow.refl _) rfl rfl
                    refine obls_cons (fun f w' hR hH Q hQ => ?_) ?_
                    · skip
                      have h3 := hH.get 0 (60, 3) rfl
                      clear hH
                      refine wpList_view ?_; show wpList _ _ _ [_] ⟨#[_, _, _, _, _, _, _, _, _, _, _, _, _, _, _, _, _, _, _, _, _, _, _, _, _, _, _, _, _, _, _, _, _, _, _, _, _, _, _, _, _, _, _, _, _, _, _, _, _, _, _, _, _, _, _, _, _, _, _, _, f 3, _, _, _, _, _, _, _, _, _, _, _, _, _, _, _, _, _, _, _, _, _, _, _, _, _, _, _, _], _⟩ _
                      rw [show f 3 = _ from h3]
                      clear h3
                      repeat (first | go_guarded | go_step)
                      exact hQ _ _ (Grow.refl _) rfl rfl
                    refine obls_cons (fun f w' hR hH Q hQ => ?_) ?_
                    · skip
                      have h4 := hH.get 0 (61, 4) rfl
                      clear hH
                      refine wpList_view ?_; show wpList _ _ _ [_] ⟨#[_, _, _, _, _, _, _, _, _, _, _, _, _, _, _, _, _, _, _, _, _, _, _, _, _, _, _, _, _, _, _, _, _, _, _, _, _, _, _, _, _, _, _, _, _, _, _, _, _, _, _, _, _, _, _, _, _, _, _, _, _, f 4, _, _, _, _, _, _, _, _, _, _, _, _, _, _, _, _, _, _, _, _, _, _, _, _, _, _, _], _⟩ _
                      rw [show f 4 = _ from h4]
                      clear h4
                      have y2 := hR.cell HQ0.out
                      rw [Nat.add_zero] at y2
                      repeat (first | go_guarded | go_step)
                      exact hQ _ _ (Grow.refl _) rfl rfl
                    refine obls_cons (fun f w' hR hH Q hQ => ?_) ?_
                    · skip
                      clear hH
                      refine wpList_view ?_; show wpList _ _ _ [_] ⟨#[_, _, _, _, _, _, _, _, _, _, _, _, _, _, _, _, _, _, _, _, _, _, _, _, _, _, _, _, _, _, _, _, _, _, _, _, _, _, _, _, _, _, _, _, _, _, _, _, _, _, _, _, _, _, _, _, _, _, _, _, _, _, _, _, _, _, _, _, _, _, _, _, _, _, _, _, _, _, _, _, _, _, _, _, _, _, _, _, _], _⟩ _
                      repeat (first | go_guarded | go_step)
                      exact hQ _ _ (Grow.refl _) rfl rfl
                    refine obls_cons (fun f w' hR hH Q hQ => ?_) ?_
                    · skip
                      clear hH
                      refine wpList_view ?_; show wpList _ _ _ [_] ⟨#[_, _, _, _, _, _, _, _, _, _, _, _, _, _, _, _, _, _, _, _, _, _, _, _, _, _, _, _, _, _, _, _, _, _, _, _, _, _, _, _, _, _, _, _, _, _, _, _, _, _, _, _, _, _, _, _, _, _, _, _, _, _, _, _, _, _, _, _, _, _, _, _, _, _, _, _, _, _, _, _, _, _, _, _, _, _, _, _, _], _⟩ _
                      repeat (first | go_guarded | go_step)
                      exact hQ _ _ (Grow.refl _) rfl rfl
                    refine obls_cons (fun f w' hR hH Q hQ => ?_) ?_
                    · skip
                      have h6 := hH.get 0 (63, 6) rfl
                      have h7 := hH.get 1 (64, 7) rfl
                      clear hH
                      refine wpList_view ?_; show wpList _ _ _ [_] ⟨#[_, _, _, _, _, _, _, _, _, _, _, _, _, _, _, _, _, _, _, _, _, _, _, _, _, _, _, _, _, _, _, _, _, _, _, _, _, _, _, _, _, _, _, _, _, _, _, _, _, _, _, _, _, _, _, _, _, _, _, _, _, _, _, f 6, f 7, _, _, _, _, _, _, _, _, _, _, _, _, _, _, _, _, _, _, _, _, _, _, _, _], _⟩ _
                      rw [show f 6 = _ from h6]
                      rw [show f 7 = _ from h7]
                      clear h6 h7
                      repeat (first | go_guarded | go_step)
                      exact hQ _ _ (Grow.refl _) rfl rfl
                    refine obls_cons (fun f w' hR hH Q hQ => ?_) ?_
                    · skip
                      have h8 := hH.get 0 (65, 8) rfl
                      clear hH
                      refine wpList_view ?_; show wpList _ _ _ [_] ⟨#[_, _, _, _, _, _, _, _, _, _, _, _, _, _, _, _, _, _, _, _, _, _, _, _, _, _, _, _, _, _, _, _, _, _, _, _, _, _, _, _, _, _, _, _, _, _, _, _, _, _, _, _, _, _, _, _, _, _, _, _, _, _, _, _, _, f 8, _, _, _, _, _, _, _, _, _, _, _, _, _, _, _, _, _, _, _, _, _, _, _], _⟩ _
                      rw [show f 8 = _ from h8]
                      clear h8
                      have y3 := hR.cell HC6.out
                      repeat (first | go_guarded | go_step)
                      exact hQ _ _ (Grow.refl _) rfl rfl
                    refine obls_cons (fun f w' hR hH Q hQ => ?_) ?_
                    · skip
                      have h5 := hH.get 0 (62, 5) rfl
                      have h9 := hH.get 1 (66, 9) rfl
                      clear hH
                      refine wpList_view ?_; show wpList _ _ _ [_] ⟨#[_, _, _, _, _, _, _, _, _, _, _, _, _, _, _, _, _, _, _, _, _, _, _, _, _, _, _, _, _, _, _, _, _, _, _, _, _, _, _, _, _, _, _, _, _, _, _, _, _, _, _, _, _, _, _, _, _, _, _, _, _, _, f 5, _, _, _, f 9, _, _, _, _, _, _, _, _, _, _, _, _, _, _, _, _, _, _, _, _, _, _], _⟩ _
                      rw [show f 5 = _ from h5]
                      rw [show f 9 = _ from h9]
                      clear h5 h9
                      repeat (first | go_guarded | go_step)
                      exact hQ _ _ (Grow.refl _) rfl rfl
                    refine obls_cons (fun f w' hR hH Q hQ => ?_) ?_
                    · skip
                      have h10 := hH.get 0 (67, 10) rfl
                      clear hH
                      refine wpList_view ?_; show wpList _ _ _ [_] ⟨#[_, _, _, _, _, _, _, _, _, _, _, _, _, _, _, _, _, _, _, _, _, _, _, _, _, _, _, _, _, _, _, _, _, _, _, _, _, _, _, _, _, _, _, _, _, _, _, _, _, _, _, _, _, _, _, _, _, _, _, _, _, _, _, _, _, _, _, f 10, _, _, _, _, _, _, _, _, _, _, _, _, _, _, _, _, _, _, _, _, _], _⟩ _
                      rw [show f 10 = _ from h10]
                      clear h10
                      repeat (first | go_guarded | go_step)
                      exact hQ _ _ (Grow.refl _) rfl rfl
                    refine obls_cons (fun f w' hR hH Q hQ => ?_) ?_
                    · skip
                      have h11 := hH.get 0 (68, 11) rfl
                      clear hH
                      refine wpList_view ?_; show wpList _ _ _ [_] ⟨#[_, _, _, _, _, _, _, _, _, _, _, _, _, _, _, _, _, _, _, _, _, _, _, _, _, _, _, _, _, _, _, _, _, _, _, _, _, _, _, _, _, _, _, _, _, _, _, _, _, _, _, _, _, _, _, _, _, _, _, _, _, _, _, _, _, _, _, _, f 11, _, _, _, _, _, _, _, _, _, _, _, _, _, _, _, _, _, _, _, _], _⟩ _
                      rw [show f 11 = _ from h11]
                      clear h11
                      repeat (first | go_guarded | go_step)
                      exact hQ _ _ (Grow.refl _) rfl rfl
                    refine obls_cons (fun f w' hR hH Q hQ => ?_) ?_
                    · skip
                      have h11 := hH.get 0 (68, 11) rfl
                      clear hH
                      refine wpList_view ?_; show wpList _ _ _ [_] ⟨#[_, _, _, _, _, _, _, _, _, _, _, _, _, _, _, _, _, _, _, _, _, _, _, _, _, _, _, _, _, _, _, _, _, _, _, _, _, _, _, _, _, _, _, _, _, _, _, _, _, _, _, _, _, _, _, _, _, _, _, _, _, _, _, _, _, _, _, _, f 11, _, _, _, _, _, _, _, _, _, _, _, _, _, _, _, _, _, _, _, _], _⟩ _
                      rw [show f 11 = _ from h11]
                      clear h11
                      repeat (first | go_guarded | go_step)
                      exact hQ _ _ (Grow.refl _) rfl rfl
                    refine obls_cons (fun f w' hR hH Q hQ => ?_) ?_
                    · skip
                      have h13 := hH.get 0 (70, 13) rfl
                      have h11 := hH.get 1 (68, 11) rfl
                      clear hH
                      refine wpList_view ?_; show wpList _ _ _ [_] ⟨#[_, _, _, _, _, _, _, _, _, _, _, _, _, _, _, _, _, _, _, _, _, _, _, _, _, _, _, _, _, _, _, _, _, _, _, _, _, _, _, _, _, _, _, _, _, _, _, _, _, _, _, _, _, _, _, _, _, _, _, _, _, _, _, _, _, _, _, _, f 11, _, f 13, _, _, _, _, _, _, _, _, _, _, _, _, _, _, _, _, _, _], _⟩ _
                      rw [show f 13 = _ from h13]
                      rw [show f 11 = _ from h11]
                      clear h13 h11
                      have y1 := hR.cell HZ1.out
                      repeat (first | go_guarded | go_step)
                      exact hQ _ _ (Grow.refl _) rfl rfl
                    refine obls_cons (fun f w' hR hH Q hQ => ?_) ?_
                    · skip
                      have h11 := hH.get 0 (68, 11) rfl
                      clear hH
                      refine wpList_view ?_; show wpList _ _ _ [_] ⟨#[_, _, _, _, _, _, _, _, _, _, _, _, _, _, _, _, _, _, _, _, _, _, _, _, _, _, _, _, _, _, _, _, _, _, _, _, _, _, _, _, _, _, _, _, _, _, _, _, _, _, _, _, _, _, _, _, _, _, _, _, _, _, _, _, _, _, _, _, f 11, _, _, _, _, _, _, _, _, _, _, _, _, _, _, _, _, _, _, _, _], _⟩ _
                      rw [show f 11 = _ from h11]
                      clear h11
                      repeat (first | go_guarded | go_step)
                      exact hQ _ _ (Grow.refl _) rfl rfl
                    refine obls_cons (fun f w' hR hH Q hQ => ?_) ?_
                    · skip
                      have h14 := hH.get 0 (71, 14) rfl
                      have h15 := hH.get 1 (72, 15) rfl
                      have h11 := hH.get 2 (68, 11) rfl
                      clear hH
                      refine wpList_merge (idx := [none, none, none, none, none, none, none, none, none, none, none, none, none, none, none, none, none, none, none, none, none, none, none, none, none, none, none, none, none, none, none, none, none, none, none, none, none, none, none, none, none, none, none, none, none, none, none, none, none, none, none, none, none, none, none, none, none, none, none, none, none, none, none, none, none, none, none, none, some 11, none, none, some 14, some 15, none, none, none, none, none, none, none, none, none, none, none, none, none, none, none, none]) (by kernel_rfl) ?_; show wpList _ _ _ [_] ⟨#[_, _, _, _, _, _, _, _, _, _, _, _, _, _, _, _, _, _, _, _, _, _, _, _, _, _, _, _, _, _, _, _, _, _, _, _, _, _, _, _, _, _, _, _, _, _, _, _, _, _, _, _, _, _, _, _, _, _, _, _, _, _, _, _, _, _, _, _, f 11, _, _, f 14, f 15, _, _, _, _, _, _, _, _, _, _, _, _, _, _, _, _], _⟩ _
                      rw [show f 14 = _ from h14]
                      rw [show f 15 = _ from h15]
                      rw [show f 11 = _ from h11]
                      clear h14 h15 h11
                      repeat (first | go_guarded | go_step)
                      exact hQ _ _ (Grow.refl _) rfl rfl
                    refine obls_cons (fun f w' hR hH Q hQ => ?_) ?_
                    · skip
                      have h16 := hH.get 0 (73, 16) rfl
                      have h11 := hH.get 1 (68, 11) rfl
                      clear hH
                      refine wpList_view ?_; show wpList _ _ _ [_] ⟨#[_, _, _, _, _, _, _, _, _, _, _, _, _, _, _, _, _, _, _, _, _, _, _, _, _, _, _, _, _, _, _, _, _, _, _, _, _, _, _, _, _, _, _, _, _, _, _, _, _, _, _, _, _, _, _, _, _, _, _, _, _, _, _, _, _, _, _, _, f 11, _, _, _, _, f 16, _, _, _, _, _, _, _, _, _, _, _, _, _, _, _], _⟩ _
                      rw [show f 16 = _ from h16]
                      rw [show f 11 = _ from h11]
                      clear h16 h11
                      repeat (first | go_guarded | go_step)
                      exact hQ _ _ (Grow.refl _) rfl rfl
                    refine obls_cons (fun f w' hR hH Q hQ => ?_) ?_
                    · skip
                      have h17 := hH.get 0 (74, 17) rfl
                      have h11 := hH.get 1 (68, 11) rfl
                      clear hH
                      refine wpList_view ?_; show wpList _ _ _ [_] ⟨#[_, _, _, _, _, _, _, _, _, _, _, _, _, _, _, _, _, _, _, _, _, _, _, _, _, _, _, _, _, _, _, _, _, _, _, _, _, _, _, _, _, _, _, _, _, _, _, _, _, _, _, _, _, _, _, _, _, _, _, _, _, _, _, _, _, _, _, _, f 11, _, _, _, _, _, f 17, _, _, _, _, _, _, _, _, _, _, _, _, _, _], _⟩ _
                      rw [show f 17 = _ from h17]
                      rw [show f 11 = _ from h11]
                      clear h17 h11
                      have y4 := hR.cell HQ1.out
                      repeat (first | go_guarded | go_step)
                      exact hQ _ _ (Grow.refl _) rfl rfl
                    refine obls_cons (fun f w' hR hH Q hQ => ?_) ?_
                    · skip
                      have h12 := hH.get 0 (69, 12) rfl
                      have h18 := hH.get 1 (75, 18) rfl
                      have h11 := hH.get 2 (68, 11) rfl
                      clear hH
                      refine wpList_merge (idx := [none, none, none, none, none, none, none, none, none, none, none, none, none, none, none, none, none, none, none, none, none, none, none, none, none, none, none, none, none, none, none, none, none, none, none, none, none, none, none, none, none, none, none, none, none, none, none, none, none, none, none, none, none, none, none, none, none, none, none, none, none, none, none, none, none, none, none, none, some 11, some 12, none, none, none, none, none, some 18, none, none, none, none, none, none, none, none, none, none, none, none, none]) (by kernel_rfl) ?_; show wpList _ _ _ [_] ⟨#[_, _, _, _, _, _, _, _, _, _, _, _, _, _, _, _, _, _, _, _, _, _, _, _, _, _, _, _, _, _, _, _, _, _, _, _, _, _, _, _, _, _, _, _, _, _, _, _, _, _, _, _, _, _, _, _, _, _, _, _, _, _, _, _, _, _, _, _, f 11, f 12, _, _, _, _, _, f 18, _, _, _, _, _, _, _, _, _, _, _, _, _], _⟩ _
                      rw [show f 12 = _ from h12]
                      rw [show f 18 = _ from h18]
                      rw [show f 11 = _ from h11]
                      clear h12 h18 h11
                      go_wp2_with (go_at_call 51; refine (HIN.out w' hR).mono ?_; rintro e w1 ⟨rfl, rfl⟩)
                      exact hQ _ _ (Grow.refl _) rfl rfl
                    refine obls_cons (fun f w' hR hH Q hQ => ?_) ?_
                    · skip
                      have h19 := hH.get 0 (76, 19) rfl
                      have h11 := hH.get 1 (68, 11) rfl
                      clear hH
                      refine wpList_view ?_; show wpList _ _ _ [_] ⟨#[_, _, _, _, _, _, _, _, _, _, _, _, _, _, _, _, _, _, _, _, _, _, _, _, _, _, _, _, _, _, _, _, _, _, _, _, _, _, _, _, _, _, _, _, _, _, _, _, _, _, _, _, _, _, _, _, _, _, _, _, _, _, _, _, _, _, _, _, f 11, _, _, _, _, _, _, _, f 19, _, _, _, _, _, _, _, _, _, _, _, _], _⟩ _
                      rw [show f 19 = _ from h19]
                      rw [show f 11 = _ from h11]
                      clear h19 h11
                      repeat (first | go_guarded | go_step)
                      exact hQ _ _ (Grow.refl _) rfl rfl
                    refine obls_cons (fun f w' hR hH Q hQ => ?_) ?_
                    · skip
                      have h11 := hH.get 0 (68, 11) rfl
                      have h20 := hH.get 1 (77, 20) rfl
                      clear hH
                      refine wpList_view ?_; show wpList _ _ _ [_] ⟨#[_, _, _, _, _, _, _, _, _, _, _, _, _, _, _, _, _, _, _, _, _, _, _, _, _, _, _, _, _, _, _, _, _, _, _, _, _, _, _, _, _, _, _, _, _, _, _, _, _, _, _, _, _, _, _, _, _, _, _, _, _, _, _, _, _, _, _, _, f 11, _, _, _, _, _, _, _, _, f 20, _, _, _, _, _, _, _, _, _, _, _], _⟩ _
                      rw [show f 11 = _ from h11]
                      rw [show f 20 = _ from h20]
                      clear h11 h20
                      repeat (first | go_guarded | go_step)
                      exact hQ _ _ (Grow.refl _) rfl rfl
                    exact obls_nil
                  case mono => exact ⟨Mono.veq _, Mono.veq _, Mono.veq _, Mono.veq _, Mono.veq _, Mono.veq _, Mono.veq _, Mono.veq _, Mono.veq _, Mono.veq _, Mono.veq _, Mono.veq _, Mono.veq _, Mono.veq _, Mono.veq _, Mono.veq _, Mono.veq _, Mono.veq _, Mono.veq _, Mono.veq _, Mono.veq _, Mono.veq _, trivial⟩
                  case tail =>
                    intro f w' hR hH
                    have q21 := hH.get 21 (78, 21) rfl
                    clear hH
                    refine wpList_merge (idx := [none, none, none, none, none, none, none, none, none, none, none, none, none, none, none, none, none, none, none, none, none, none, none, none, none, none, none, none, none, none, none, none, none, none, none, none, none, none, none, none, none, none, none, none, none, none, none, none, none, none, none, none, none, none, none, none, none, some 0, some 1, some 2, some 3, some 4, some 5, some 6, some 7, some 8, some 9, some 10, some 11, some 12, some 13, some 14, some 15, some 16, some 17, some 18, some 19, some 20, some 21, none, none, none, none, none, none, none, none, none, none]) (by kernel_rfl) ?_; show wpList _ _ _ [] ⟨#[_, _, _, _, _, _, _, _, _, _, _, _, _, _, _, _, _, _, _, _, _, _, _, _, _, _, _, _, _, _, _, _, _, _, _, _, _, _, _, _, _, _, _, _, _, _, _, _, _, _, _, _, _, _, _, _, _, f 0, f 1, f 2, f 3, f 4, f 5, f 6, f 7, f 8, f 9, f 10, f 11, f 12, f 13, f 14, f 15, f 16, f 17, f 18, f 19, f 20, f 21, _, _, _, _, _, _, _, _, _, _], _⟩ _
                    rw [show f 21 = _ from q21]
                    clear q21
                    have HG := Lib.hid hR
                    clear hR
                    go_wp2_with fail
                    go_roundw
                    case rel => exact ⟨m + 1, by omega, by go_num, by unfold passL; rw [take_fold _ _ HP.out]; show RB _ _ (if (p1 == x) then addB _ p2 else _) _; rw [HE.out, if_pos rfl, show (L.take m).foldl (fun o p => if p.1 == x then addB o p.2 else o) o0 = o from HOM.out.symm, addB_has HH2.out.symm]; first | exact HRB.out.grow HG.out | (have h := HRB.out.grow HG.out; rw [← HLO.out] at h; exact h)⟩
                    case measure => simp [intOf] <;> omega
            · obtain rfl : m = k := by omega
              have htk2 : L.take m = L := List.take_of_length_le (by rw [← HLN.out]; exact Nat.le_refl _)
              rw [htk2] at rb
              obtain ⟨A6, c6, e6, -⟩ := own_form rb.own
              obtain ⟨l6, hl6⟩ : ∃ l, l = (passL L x o0).length := ⟨_, rfl⟩
              rw [← hl6] at e6
              subst e6
              have HRB2 := Lib.hid rb
              clear rb htk2 hl6
              go_wp2_with fail
              go_roundw
              case rel => exact ⟨t + 1, _, by have := HT.out; omega, by go_num, Lib.hid (.inl ⟨HF.out.1, found_next HF.out.2 HXO.out⟩), HRB2.out⟩
              case measure => have := HT.out; simp [intOf] <;> omega
        · have HEND : Hid (IntsV wr (.slice A5 lo c5) o ∧ o.length ≤ k ∧ (∀ j : Nat, j ∈ o ↔ (0 ≤ i ∧ leadB L i.toNat j = true)) ∧ Grow w wr) := Lib.hid ⟨HRB.out.ints, by rw [← HLO.out]; exact hol, fun j => by
            rcases HS.out with ⟨h0, hf⟩ | ⟨h0, rfl⟩
            · rw [hf.all (by rw [← HLO.out]; omega) j]; simp [h0]
            · simp only [List.not_mem_nil, false_iff]; omega, HG1.out.trans HRB.out.g⟩
          clear HREC HBX HRB HS HLO
          go_wp2_with fail
          go_ret
          exact ⟨_, o, rfl, HEND.out⟩
end Go.Proofs.Ytbcifodifadoiaa.reW
