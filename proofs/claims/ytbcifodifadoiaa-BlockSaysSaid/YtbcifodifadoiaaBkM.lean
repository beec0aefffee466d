/- BlockSays (printed by gen_bkm.py). -/
import Derived.Test.YtbcifodifadoiaaBkR4
namespace Go.Proofs.Ytbcifodifadoiaa.bk
open Go Go.RowKit Go.Par Go.Kit Go.Proofs.Ytbcifodifadoiaa.Bk Go.Proofs.Ytbcifodifadoiaa.reW Go.Proofs.Ytbcifodifadoiaa.mkW Go.Proofs.Ytbcifodifadoiaa.Re

set_option maxRecDepth 100000 in
set_option maxHeartbeats 4000000 in
theorem rthings_any {w0 : World} {P : Nat → Prop} {v : Value} {ts : List T} (h : TsV w0 P v ts) : ∀ w, Grow w0 w → (thingsL ts).length ≤ 1000000 →
    Calls Try.prog 15 #[v] w fun e w' => ∃ v', e = .returned v' ∧ OwnI w' w.heap.size v' (thingsL ts) ∧ Grow w w' := by
  induction h with
  | mk A n c qs ts he hc hm hr hP hs ih =>
    intro w hw hlen
    unfold maxLen at hm
    have hn : n ≤ 9223372036854775807 := by omega
    have HR := Lib.hid hr
    have HIH := Lib.hid ih
    have HS := Lib.hid hs
    have HE := Lib.hid he
    have HLEN := Lib.hid hlen
    have HW := Lib.hid hw
    have htl : ts.length = n := by rw [he, List.length_map]; exact hr.1
    have HTL := Lib.hid htl
    clear hr ih he hlen hw hs hP hc hm htl
    go_enter Try.func15, Try.ntmps15
    go_wp2_with fail
    go_loopw [3, 4] (fun o' k' wr => ∃ (k : Nat) (v : Value), k ≤ n ∧ k' = .int .i64 (k : Int) ∧ v = o' ∧ OwnI wr w.heap.size v (thingsL (ts.take k)) ∧ Grow w wr) (fun _ k' _ => n - (intOf k').toNat)
    case atStart => exact ⟨0, _, by omega, rfl, rfl, OwnI.nil _ _, Grow.refl w⟩
    case round =>
      obtain ⟨k, v, hk, rfl, rfl, ho, hg⟩ := hrel
      by_cases hlt : k < n
      · obtain ⟨b, off, q, rfl, hx, hcs⟩ := HR.out.at_ (by decide) hlt
        obtain ⟨t, u⟩ := q
        have hgw := HW.out.trans hg
        have c0 := hgw.cell (hcs 0 _ rfl)
        have c1 := hgw.cell (hcs 1 _ rfl)
        have c2 := hgw.cell (hcs 2 _ rfl)
        dsimp only at c0 c1 c2
        rw [Nat.add_zero] at c0
        have t1 : decide (k < n) = true := decide_eq_true hlt
        have t1' : decide ((k : Int) < (n : Int)) = true := decide_eq_true (by omega)
        have hmem : (t, u) ∈ qs := List.mem_of_getElem? hx
        have hxt : ts[k]? = some t := by rw [HE.out, List.getElem?_map, hx]; rfl
        have hts : thingsL (ts.take (k + 1)) = thingsL (ts.take k) ++ t.things := by rw [takeS hxt, thingsL_app, thingsL_one]
        have hle := things_take ts (k + 1)
        rw [hts, List.length_append] at hle
        obtain ⟨Q, hQ⟩ : ∃ Q, Q = thingsL (ts.take k) := ⟨_, rfl⟩
        rw [← hQ] at ho hts hle
        obtain ⟨lq, hlq⟩ : ∃ lq, lq = Q.length := ⟨_, rfl⟩
        obtain ⟨z, hz⟩ : ∃ z, z = t.n := ⟨_, rfl⟩
        obtain ⟨kd, hkd⟩ : ∃ kd, kd = t.kind := ⟨_, rfl⟩
        rw [← hkd] at c0
        rw [← hz] at c1
        have hi := HIH.out (t, u) hmem
        obtain ⟨A', c', qs', hu, -⟩ := (HS.out (t, u) hmem).form
        dsimp only at hu hi
        subst hu
        obtain ⟨m', hm'⟩ : ∃ m', m' = t.subs.length := ⟨_, rfl⟩
        rw [← hm'] at c2 hi
        obtain ⟨W1, hW1⟩ : ∃ W, W = wr := ⟨_, rfl⟩
        have hg1 : Grow wr W1 := by rw [hW1]; exact Grow.refl _
        have ho1 : W1.ownsRow w.heap.size 3 1 v lq (Q.map iv) := by rw [hlq]; exact ho.grow hg1
        obtain ⟨Av, cv, rfl, -, -, -⟩ := own_form ho1
        have HO1 := Lib.hid ho1
        have HG1 := Lib.hid (hg.trans hg1)
        have HGW := Lib.hid (hgw.trans hg1)
        have HTS := Lib.hid hts
        have HLE := Lib.hid (Nat.le_trans hle HLEN.out)
        have HLT := Lib.hid hlt
        have HLQ := Lib.hid hlq
        have HI := Lib.hid hi
        have HKD := Lib.hid hkd
        have HZ := Lib.hid hz
        clear ho hg hgw hts hle hmem hlt hlq hx hxt hcs hk hQ hz hkd hi hm' hg1 ho1
        rw [← hW1] at c0 c1 c2 ⊢
        clear hW1
        by_cases hk1 : kd = 1
        · have s1 : (kd == 1) = true := by rw [hk1]; rfl
          have hth : t.things = [z] := by rw [things_eq, ← HKD.out, if_pos hk1, HZ.out]
          have HTH := Lib.hid hth
          clear hk1 hth
          go_wp2_with (at_builtin; refine wpList_append_row rfl _ _ _ rfl w.heap.size 3 _ _ 1 8 Try.underlying23 iI iIz iIs iIb rfl (by decide) (.slice Av lq cv) lq (Q.map iv) rfl (own_grow HO1.out (Grow.alloc W1 (.cells #[.int .i64 z] 3))) (some ⟨W1.heap.size, 0, none⟩) 1 1 [.int .i64 z] rfl (Row.new W1 [.int .i64 z] 3 (0, 0)) one1 (by have h1 := HLE.out; rw [HTH.out, ← HLQ.out] at h1; simp only [List.length_singleton] at h1; unfold maxLen; omega) (by have h1 := HLE.out; rw [HTH.out, ← HLQ.out] at h1; simp only [List.length_singleton] at h1; omega) (Nat.le_trans HG1.out.size (Grow.alloc W1 (.cells #[.int .i64 z] 3)).size) ?_; intro v1 w1 hown1 hgb1 hnb1; obtain ⟨Aw, cw, rfl, -, -, -⟩ := own_form hown1)
          have hoi : OwnI w1 w.heap.size (.slice Aw (lq + 1) cw) (Q ++ [z]) := OwnI.next (m := [z]) (by rw [HLQ.out]; rfl) hown1
          have hgr := grow_by (HG1.out.trans (Grow.alloc W1 (.cells #[.int .i64 z] 3))) hgb1 (own_base HO1.out)
          have HOI := Lib.hid hoi
          have HGR := Lib.hid hgr
          clear hown1 hgb1 hnb1 hoi hgr
          go_roundw
          case rel => exact ⟨k + 1, _, by have := HLT.out; omega, by go_num, rfl, by rw [HTS.out, HTH.out]; exact HOI.out, HGR.out⟩
          case measure => have := HLT.out; simp [intOf] <;> omega
        · have s1 : (kd == 1) = false := beq_false_of_ne hk1
          have hth : t.things = thingsL t.subs := by rw [things_eq, ← HKD.out, if_neg hk1]
          have HTH := Lib.hid hth
          have HCA := Lib.hid (HI.out W1 HGW.out (by have h1 := HLE.out; rw [hth] at h1; omega))
          clear hk1 hth
          go_wp2_with fail
          refine HCA.out.mono ?_
          rintro e w2 ⟨v2, rfl, ho2, hg2⟩
          obtain ⟨A2, d2, rfl, -, -, hr2⟩ := ho2.form
          obtain ⟨S, hS⟩ : ∃ S, S = thingsL t.subs := ⟨_, rfl⟩
          obtain ⟨ls, hls⟩ : ∃ ls, ls = S.length := ⟨_, rfl⟩
          rw [← hS, ← hls] at hr2
          rw [← hS, ← hls]
          have hle2 : lq + ls ≤ 1000000 := by have h1 := HLE.out; rw [HTH.out, ← HLQ.out, ← hS, ← hls] at h1; exact h1
          have HR2 := Lib.hid hr2
          have HG2 := Lib.hid hg2
          have HSS := Lib.hid hS
          have HLS := Lib.hid hls
          have HLE2 := Lib.hid hle2
          have HGG2 := Lib.hid (HG1.out.trans hg2)
          clear ho2 hg2 hr2 hS hls hle2 HCA
          go_wp2_with (at_builtin; refine wpList_append_row rfl _ _ _ rfl w.heap.size 3 _ _ 1 8 Try.underlying23 iI iIz iIs iIb rfl (by decide) (.slice Av lq cv) lq (Q.map iv) rfl (own_grow HO1.out HG2.out) A2 ls d2 (S.map iv) rfl (by rw [Nat.mul_one]; exact HR2.out) (oneI S) (by have := HLE2.out; unfold maxLen; omega) (by have := HLE2.out; omega) HGG2.out.size ?_; intro v1 w1 hown1 hgb1 hnb1; obtain ⟨Aw, cw, rfl, -, -, -⟩ := own_form hown1)
          have hoi : OwnI w1 w.heap.size (.slice Aw (lq + ls) cw) (Q ++ S) := OwnI.next (by rw [HLQ.out, HLS.out]) hown1
          have hgr := grow_by HGG2.out hgb1 (own_base HO1.out)
          have HOI := Lib.hid hoi
          have HGR := Lib.hid hgr
          clear hown1 hgb1 hnb1 hoi hgr
          go_roundw
          case rel => exact ⟨k + 1, _, by have := HLT.out; omega, by go_num, rfl, by rw [HTS.out, HTH.out, ← HSS.out]; exact HOI.out, HGR.out⟩
          case measure => have := HLT.out; simp [intOf] <;> omega
      · obtain rfl : k = n := by omega
        have t1 : decide (k < k) = false := decide_eq_false hlt
        rw [List.take_of_length_le (by rw [HTL.out]; exact Nat.le_refl _)] at ho
        have HO := Lib.hid ho
        have HG := Lib.hid hg
        obtain ⟨Av, cv, rfl, -⟩ := ho.form
        clear ho hg hk hlt
        go_wp2_with fail
        go_ret
        exact ⟨_, rfl, HO.out, HG.out⟩
set_option maxRecDepth 100000 in
set_option maxHeartbeats 4000000 in
theorem rodd_any {w0 : World} {P : Nat → Prop} {v : Value} {ts : List T} (h : TsV w0 P v ts) : ∀ w, Grow w0 w → oddL ts ≤ 1000000 →
    Calls Try.prog 17 #[v] w fun e w' => e = .returned (.int .i64 (oddL ts : Int)) ∧ Grow w w' := by
  induction h with
  | mk A n c qs ts he hc hm hr hP hs ih =>
    intro w hw hlen
    unfold maxLen at hm
    have hn : n ≤ 9223372036854775807 := by omega
    have HR := Lib.hid hr
    have HIH := Lib.hid ih
    have HS := Lib.hid hs
    have HE := Lib.hid he
    have HLEN := Lib.hid hlen
    have HW := Lib.hid hw
    have htl : ts.length = n := by rw [he, List.length_map]; exact hr.1
    have HTL := Lib.hid htl
    obtain ⟨z, hz⟩ : ∃ z, z = oddL ts := ⟨_, rfl⟩
    rw [← hz]
    have HZ := Lib.hid hz
    clear hr ih he hlen hw hs hP hc hm htl hz
    go_enter Try.func17, Try.ntmps17
    go_wp2_with fail
    go_loopw [3, 4] (fun o' k' wr => ∃ (k m : Nat), k ≤ n ∧ k' = .int .i64 (k : Int) ∧ o' = .int .i64 (m : Int) ∧ m = oddL (ts.take k) ∧ Grow w wr) (fun _ k' _ => n - (intOf k').toNat)
    case atStart => exact ⟨0, 0, by omega, rfl, rfl, rfl, Grow.refl w⟩
    case round =>
      obtain ⟨k, m, hk, rfl, rfl, ho, hg⟩ := hrel
      by_cases hlt : k < n
      · obtain ⟨b, off, q, rfl, hx, hcs⟩ := HR.out.at_ (by decide) hlt
        obtain ⟨t, u⟩ := q
        have hgw := HW.out.trans hg
        have c0 := hgw.cell (hcs 0 _ rfl)
        have c1 := hgw.cell (hcs 1 _ rfl)
        have c2 := hgw.cell (hcs 2 _ rfl)
        dsimp only at c0 c1 c2
        rw [Nat.add_zero] at c0
        have t1 : decide (k < n) = true := decide_eq_true hlt
        have t1' : decide ((k : Int) < (n : Int)) = true := decide_eq_true (by omega)
        have hmem : (t, u) ∈ qs := List.mem_of_getElem? hx
        have hxt : ts[k]? = some t := by rw [HE.out, List.getElem?_map, hx]; rfl
        have hts : oddL (ts.take (k + 1)) = oddL (ts.take k) + t.odd := by rw [takeS hxt, oddL_app, oddL_one]
        have hle := odd_take ts (k + 1)
        rw [hts, ← ho] at hle
        rw [← ho] at hts
        obtain ⟨kd, hkd⟩ : ∃ kd, kd = t.kind := ⟨_, rfl⟩
        rw [← hkd] at c0
        have hi := HIH.out (t, u) hmem
        obtain ⟨A', c', qs', hu, -⟩ := (HS.out (t, u) hmem).form
        dsimp only at hu hi
        subst hu
        obtain ⟨m', hm'⟩ : ∃ m', m' = t.subs.length := ⟨_, rfl⟩
        rw [← hm'] at c2 hi
        obtain ⟨W1, hW1⟩ : ∃ W, W = wr := ⟨_, rfl⟩
        have hg1 : Grow wr W1 := by rw [hW1]; exact Grow.refl _
        have HG1 := Lib.hid (hg.trans hg1)
        have HGW := Lib.hid (hgw.trans hg1)
        have HTS := Lib.hid hts
        have HLE := Lib.hid (Nat.le_trans hle HLEN.out)
        have HLT := Lib.hid hlt
        have HI := Lib.hid hi
        have hle2 : m ≤ 1000000 := by have := HLE.out; omega
        have hod := odd_eq t
        rw [← hkd] at hod
        have HOD := Lib.hid hod
        clear ho hg hgw hts hle hmem hlt hx hxt hcs hk hkd hi hm' hg1 hod
        rw [← hW1] at c0 c1 c2 ⊢
        clear hW1
        by_cases hk1 : kd = 1
        · subst hk1
          have hto : t.odd = 0 := by rw [HOD.out]; rfl
          have HTO := Lib.hid hto
          clear hto
          go_wp2_with fail
          go_roundw
          case rel => exact ⟨k + 1, m, by have := HLT.out; omega, by go_num, rfl, by rw [HTS.out, HTO.out, Nat.add_zero], HG1.out⟩
          case measure => have := HLT.out; simp [intOf] <;> omega
        · have s1 : (kd == 1) = false := beq_false_of_ne hk1
          have s1' : (kd != 1) = true := bne_iff_ne.2 hk1
          rw [if_neg hk1] at HOD
          have hsb : oddL t.subs ≤ 1000000 := by have h1 := HLE.out; have h2 := HOD.out; omega
          have HCA := Lib.hid (HI.out W1 HGW.out hsb)
          obtain ⟨os, hos⟩ : ∃ os, os = oddL t.subs := ⟨_, rfl⟩
          rw [← hos] at HCA HOD
          have hq : (kd == 2 || kd == 3) = true ∨ ((kd == 2) = false ∧ (kd == 3) = false) := by
            cases h2 : kd == 2
            · cases h3 : kd == 3
              · exact .inr ⟨rfl, rfl⟩
              · exact .inl rfl
            · exact .inl rfl
          by_cases hk2 : kd = 2 ∨ kd = 3
          · have hto : t.odd = 1 + os := by rw [HOD.out, if_pos hk2]
            have hle3 : m + 1 + os ≤ 1000000 := by have h1 := HLE.out; omega
            have HTO := Lib.hid hto
            clear hto hq hsb hos hk1
            rcases hk2 with rfl | rfl
            all_goals
              go_wp2_with fail
              refine HCA.out.mono ?_
              rintro e w2 ⟨rfl, hg2⟩
              have HG2 := Lib.hid (HG1.out.trans hg2)
              clear hg2
              go_wp2_with fail
              go_roundw
              case rel => exact ⟨k + 1, m + 1 + os, by have := HLT.out; omega, by go_num, by go_num, by rw [HTS.out, HTO.out, Nat.add_assoc], HG2.out⟩
              case measure => have := HLT.out; simp [intOf] <;> omega
          · have hto : t.odd = os := by rw [HOD.out, if_neg hk2, Nat.zero_add]
            have hle3 : m + os ≤ 1000000 := by have h1 := HLE.out; omega
            have HTO := Lib.hid hto
            obtain ⟨s2, s3⟩ : (kd == 2) = false ∧ (kd == 3) = false := ⟨beq_false_of_ne fun h => hk2 (.inl h), beq_false_of_ne fun h => hk2 (.inr h)⟩
            clear hto hq hsb hos hk1 hk2
            go_wp2_with fail
            refine HCA.out.mono ?_
            rintro e w2 ⟨rfl, hg2⟩
            have HG2 := Lib.hid (HG1.out.trans hg2)
            clear hg2
            go_wp2_with fail
            go_roundw
            case rel => exact ⟨k + 1, m + os, by have := HLT.out; omega, by go_num, by go_num, by rw [HTS.out, HTO.out], HG2.out⟩
            case measure => have := HLT.out; simp [intOf] <;> omega
      · obtain rfl : k = n := by omega
        have t1 : decide (k < k) = false := decide_eq_false hlt
        rw [List.take_of_length_le (by rw [HTL.out]; exact Nat.le_refl _), ← HZ.out] at ho
        subst ho
        have HG := Lib.hid hg
        clear hg hk hlt
        go_wp2_with fail
        go_ret
        exact ⟨rfl, HG.out⟩
set_option maxRecDepth 100000 in
set_option maxHeartbeats 2000000 in
theorem same_any {w0 : World} {P : Nat → Prop} {v : Value} {ts : List T} (h : TsV w0 P v ts) : ∀ {P2 : Nat → Prop} {v2 : Value}, TsV w0 P2 v2 ts → ∀ w, Grow w0 w →
    Calls Try.prog 12 #[v, v2] w fun e w' => e = .returned (.bool true) ∧ Grow w w' := by
  induction h with
  | mk A n c qs ts he hc hm hr hP hs ih =>
    intro P2 v2 h2 w hw
    obtain ⟨A2, c2, qs2, rfl, he2, -, -, hr2, -, hs2⟩ := h2.form
    unfold maxLen at hm
    have hn : n ≤ 9223372036854775807 := by omega
    have htl : ts.length = n := by rw [he, List.length_map]; exact hr.1
    rw [htl] at hr2 ⊢
    have HR := Lib.hid hr
    have HR2 := Lib.hid hr2
    have HIH := Lib.hid ih
    have HS := Lib.hid hs
    have HS2 := Lib.hid hs2
    have HE := Lib.hid he
    have HE2 := Lib.hid he2
    have HW := Lib.hid hw
    have t0 : ((n : Int) == (n : Int)) = true := beq_self_eq_true _
    clear hr hr2 ih hs hs2 he he2 hw hP hc hm htl h2
    go_enter Try.func12, Try.ntmps12
    go_wp2_with fail
    clear t0
    go_loopw [5] (fun k' wr => ∃ k : Nat, k ≤ n ∧ k' = .int .i64 (k : Int) ∧ Grow w wr) (fun k' _ => n - (intOf k').toNat)
    case atStart => exact ⟨0, by omega, rfl, Grow.refl w⟩
    case round =>
      obtain ⟨k, hk, rfl, hg⟩ := hrel
      by_cases hlt : k < n
      · obtain ⟨b, off, q, rfl, hx, hcs⟩ := HR.out.at_ (by decide) hlt
        obtain ⟨b2, off2, q2, rfl, hx2, hcs2⟩ := HR2.out.at_ (by decide) hlt
        have hq : q.1 = q2.1 := by
          have h1 := congrArg (fun l => l[k]?) (HE.out.symm.trans HE2.out)
          simp only [List.getElem?_map, hx, hx2, Option.map_some, Option.some.injEq] at h1
          exact h1
        obtain ⟨t, u⟩ := q
        obtain ⟨t2, u2⟩ := q2
        dsimp only at hq
        subst hq
        have hgw := HW.out.trans hg
        have c0 := hgw.cell (hcs 0 _ rfl)
        have c1 := hgw.cell (hcs 1 _ rfl)
        have c2 := hgw.cell (hcs 2 _ rfl)
        have d0 := hgw.cell (hcs2 0 _ rfl)
        have d1 := hgw.cell (hcs2 1 _ rfl)
        have d2 := hgw.cell (hcs2 2 _ rfl)
        dsimp only at c0 c1 c2 d0 d1 d2
        rw [Nat.add_zero] at c0 d0
        have t1 : decide (k < n) = true := decide_eq_true hlt
        have t1' : decide ((k : Int) < (n : Int)) = true := decide_eq_true (by omega)
        have hmem : (t, u) ∈ qs := List.mem_of_getElem? hx
        have hmem2 : (t, u2) ∈ qs2 := List.mem_of_getElem? hx2
        have hi := HIH.out (t, u) hmem (HS2.out (t, u2) hmem2)
        obtain ⟨A', c', qs', hu, -⟩ := (HS.out (t, u) hmem).form
        obtain ⟨A'', c'', qs'', hu2, -⟩ := (HS2.out (t, u2) hmem2).form
        dsimp only at hu hu2 hi
        subst hu
        subst hu2
        obtain ⟨m', hm'⟩ : ∃ m', m' = t.subs.length := ⟨_, rfl⟩
        rw [← hm'] at c2 d2 hi
        obtain ⟨kd, hkd⟩ : ∃ kd, kd = t.kind := ⟨_, rfl⟩
        obtain ⟨z, hz⟩ : ∃ z, z = t.n := ⟨_, rfl⟩
        rw [← hkd] at c0 d0
        rw [← hz] at c1 d1
        have e1 : (kd == kd) = true := beq_self_eq_true _
        have e2 : (kd != kd) = false := by unfold bne; rw [e1]; rfl
        have e3 : (z == z) = true := beq_self_eq_true _
        have e4 : (z != z) = false := by unfold bne; rw [e3]; rfl
        have HC0 := Lib.hid c0
        have HC1 := Lib.hid c1
        have HC2 := Lib.hid c2
        have HD0 := Lib.hid d0
        have HD1 := Lib.hid d1
        have HD2 := Lib.hid d2
        have HI := Lib.hid (fun (w' : World) (hR : Grow wr w') => hi w' (hgw.trans hR))
        have HG := Lib.hid hg
        have HLT := Lib.hid hlt
        have hk9 : k < n := hlt
        clear hx hx2 hcs hcs2 hgw c0 c1 c2 d0 d1 d2 hmem hmem2 hi hm' hkd hz hg hk hlt
        go_wp2_with fail
        apply (fun (v0 v1 v2 v3 v4 v5 v6 v7 v8 v9 v10 v11 v12 v13 v14 v15 v16 v17 v18 v19 v20 v21 v22 v23 v24 v25 v26 v27 v28 v29 v30 v31 v32 v33 v34 v35 v36 v37 : Value) mono obl tail => wp_region_par (R := Grow) (Φ := phi [veq v0, veq v1, veq v2, veq v3, veq v4, veq v5, veq v6, veq v7, veq v8, veq v9, veq v10, veq v11, veq v12, veq v13, veq v14, veq v15, veq v16, veq v17, veq v18, veq v19, veq v20, veq v21, veq v22, veq v23, veq v24, veq v25, veq v26, veq v27, veq v28, veq v29, veq v30, veq v31, veq v32, veq v33, veq v34, veq v35, veq v36, veq v37]) (m := 38) (dls := [[], [], [(17, 0), (18, 1)], [(19, 2)], [(20, 3)], [], [], [(22, 5), (23, 6)], [(24, 7)], [(25, 8)], [(21, 4), (26, 9)], [(27, 10)], [(28, 11)], [(28, 11)], [(29, 12), (30, 13), (28, 11)], [(31, 14), (28, 11)], [(32, 15), (28, 11)], [(28, 11)], [(28, 11)], [(34, 17), (35, 18), (28, 11)], [(36, 19), (28, 11)], [(37, 20), (28, 11)], [(33, 16), (38, 21), (28, 11)], [(28, 11), (39, 22)], [(40, 23)], [(41, 24)], [(41, 24)], [(42, 25), (43, 26), (41, 24)], [(44, 27), (41, 24)], [(45, 28), (41, 24)], [(41, 24)], [(41, 24)], [(47, 30), (48, 31), (41, 24)], [(49, 32), (41, 24)], [(50, 33), (41, 24)], [(46, 29), (51, 34), (41, 24)], [(52, 35), (41, 24)], [(41, 24), (53, 36)]]) (ds := [17, 18, 19, 20, 21, 22, 23, 24, 25, 26, 27, 28, 29, 30, 31, 32, 33, 34, 35, 36, 37, 38, 39, 40, 41, 42, 43, 44, 45, 46, 47, 48, 49, 50, 51, 52, 53, 54]) (by kernel_rfl) (by kernel_rfl) (by decide) rfl (Grow.drew _) (fun _ _ _ => Grow.trans) (mono_phi mono) obl tail)
        case obl =>
          refine obls_frame (fun a1 ha => ?_)
          have hsz := rd_size (n := 55) ha rfl
          have e0 := rd_slot 0 ha rfl
          have e5 := rd_slot 5 ha rfl
          have e1 := rd_slot 1 ha rfl
          clear ha
          refine obls_cons (fun f w' hR hH Q0 hQ0 => ?_) ?_
          · skip
            have s0 := sv_off f [] e0 rfl
            refine small_v hsz [(0, _)] ⟨some 1, (Op.move (.tmp 0)), 30, "", #[], none⟩ [_, undef] 1 rfl rfl ⟨s0, trivial⟩ rfl rfl hQ0 ?_
            clear hQ0 hH s0
            intro Q hQ
            repeat go_step
            exact hQ _ _ (Grow.refl _) rfl rfl
          refine obls_cons (fun f w' hR hH Q0 hQ0 => ?_) ?_
          · skip
            have s5 := sv_off f [] e5 rfl
            refine small_v hsz [(5, _)] ⟨some 1, (Op.move (.tmp 0)), 3, "", #[], none⟩ [_, undef] 1 rfl rfl ⟨s5, trivial⟩ rfl rfl hQ0 ?_
            clear hQ0 hH s5
            intro Q hQ
            repeat go_step
            exact hQ _ _ (Grow.refl _) rfl rfl
          refine obls_cons (fun f w' hR hH Q0 hQ0 => ?_) ?_
          · skip
            have s17 := (sv_at 17 0 hsz f [(17, 0), (18, 1)] rfl).trans (show f 0 = _ from hH.get 0 (17, 0) rfl)
            have s18 := (sv_at 18 1 hsz f [(17, 0), (18, 1)] rfl).trans (show f 1 = _ from hH.get 1 (18, 1) rfl)
            refine small_v hsz [(17, _), (18, _)] ⟨some 2, (Op.indexAddr 30 (.tmp 0) (.tmp 1)), 0, "", #[], none⟩ [_, _, undef] 2 rfl rfl ⟨s17, s18, trivial⟩ rfl rfl hQ0 ?_
            clear hQ0 hH s17 s18
            intro Q hQ
            have hlt := HLT.out
            repeat go_step
            exact hQ _ _ (Grow.refl _) rfl rfl
          refine obls_cons (fun f w' hR hH Q0 hQ0 => ?_) ?_
          · skip
            have s19 := (sv_at 19 2 hsz f [(19, 2)] rfl).trans (show f 2 = _ from hH.get 0 (19, 2) rfl)
            refine small_v hsz [(19, _)] ⟨some 1, (Op.fieldAddr 43 (.tmp 0) 0), 0, "", #[], none⟩ [_, undef] 1 rfl rfl ⟨s19, trivial⟩ rfl rfl hQ0 ?_
            clear hQ0 hH s19
            intro Q hQ
            repeat go_step
            exact hQ _ _ (Grow.refl _) rfl rfl
          refine obls_cons (fun f w' hR hH Q0 hQ0 => ?_) ?_
          · skip
            have s20 := (sv_at 20 3 hsz f [(20, 3)] rfl).trans (show f 3 = _ from hH.get 0 (20, 3) rfl)
            refine small_v hsz [(20, _)] ⟨some 1, (Op.load 3 (.tmp 0)), 3, "", #[], none⟩ [_, undef] 1 rfl rfl ⟨s20, trivial⟩ rfl rfl hQ0 ?_
            clear hQ0 hH s20
            intro Q hQ
            have y0 := hR.cell HC0.out
            repeat go_step
            exact hQ _ _ (Grow.refl _) rfl rfl
          refine obls_cons (fun f w' hR hH Q0 hQ0 => ?_) ?_
          · skip
            have s1 := sv_off f [] e1 rfl
            refine small_v hsz [(1, _)] ⟨some 1, (Op.move (.tmp 0)), 32, "", #[], none⟩ [_, undef] 1 rfl rfl ⟨s1, trivial⟩ rfl rfl hQ0 ?_
            clear hQ0 hH s1
            intro Q hQ
            repeat go_step
            exact hQ _ _ (Grow.refl _) rfl rfl
          refine obls_cons (fun f w' hR hH Q0 hQ0 => ?_) ?_
          · skip
            have s5 := sv_off f [] e5 rfl
            refine small_v hsz [(5, _)] ⟨some 1, (Op.move (.tmp 0)), 3, "", #[], none⟩ [_, undef] 1 rfl rfl ⟨s5, trivial⟩ rfl rfl hQ0 ?_
            clear hQ0 hH s5
            intro Q hQ
            repeat go_step
            exact hQ _ _ (Grow.refl _) rfl rfl
          refine obls_cons (fun f w' hR hH Q0 hQ0 => ?_) ?_
          · skip
            have s22 := (sv_at 22 5 hsz f [(22, 5), (23, 6)] rfl).trans (show f 5 = _ from hH.get 0 (22, 5) rfl)
            have s23 := (sv_at 23 6 hsz f [(22, 5), (23, 6)] rfl).trans (show f 6 = _ from hH.get 1 (23, 6) rfl)
            refine small_v hsz [(22, _), (23, _)] ⟨some 2, (Op.indexAddr 32 (.tmp 0) (.tmp 1)), 0, "", #[], none⟩ [_, _, undef] 2 rfl rfl ⟨s22, s23, trivial⟩ rfl rfl hQ0 ?_
            clear hQ0 hH s22 s23
            intro Q hQ
            have hlt := HLT.out
            repeat go_step
            exact hQ _ _ (Grow.refl _) rfl rfl
          refine obls_cons (fun f w' hR hH Q0 hQ0 => ?_) ?_
          · skip
            have s24 := (sv_at 24 7 hsz f [(24, 7)] rfl).trans (show f 7 = _ from hH.get 0 (24, 7) rfl)
            refine small_v hsz [(24, _)] ⟨some 1, (Op.fieldAddr 62 (.tmp 0) 0), 0, "", #[], none⟩ [_, undef] 1 rfl rfl ⟨s24, trivial⟩ rfl rfl hQ0 ?_
            clear hQ0 hH s24
            intro Q hQ
            repeat go_step
            exact hQ _ _ (Grow.refl _) rfl rfl
          refine obls_cons (fun f w' hR hH Q0 hQ0 => ?_) ?_
          · skip
            have s25 := (sv_at 25 8 hsz f [(25, 8)] rfl).trans (show f 8 = _ from hH.get 0 (25, 8) rfl)
            refine small_v hsz [(25, _)] ⟨some 1, (Op.load 3 (.tmp 0)), 3, "", #[], none⟩ [_, undef] 1 rfl rfl ⟨s25, trivial⟩ rfl rfl hQ0 ?_
            clear hQ0 hH s25
            intro Q hQ
            have y0 := hR.cell HD0.out
            repeat go_step
            exact hQ _ _ (Grow.refl _) rfl rfl
          refine obls_cons (fun f w' hR hH Q0 hQ0 => ?_) ?_
          · skip
            have s21 := (sv_at 21 4 hsz f [(21, 4), (26, 9)] rfl).trans (show f 4 = _ from hH.get 0 (21, 4) rfl)
            have s26 := (sv_at 26 9 hsz f [(21, 4), (26, 9)] rfl).trans (show f 9 = _ from hH.get 1 (26, 9) rfl)
            refine small_v hsz [(21, _), (26, _)] ⟨some 2, (Op.binOp BinOp.neq 3 (.tmp 0) (.tmp 1) 3), 4, "", #[], none⟩ [_, _, undef] 2 rfl rfl ⟨s21, s26, trivial⟩ rfl rfl hQ0 ?_
            clear hQ0 hH s21 s26
            intro Q hQ
            repeat go_step
            exact hQ _ _ (Grow.refl _) rfl rfl
          refine obls_cons (fun f w' hR hH Q0 hQ0 => ?_) ?_
          · skip
            have s27 := (sv_at 27 10 hsz f [(27, 10)] rfl).trans (show f 10 = _ from hH.get 0 (27, 10) rfl)
            refine small_v hsz [(27, _)] ⟨some 1, (Op.move (.tmp 0)), 4, "", #[], none⟩ [_, undef] 1 rfl rfl ⟨s27, trivial⟩ rfl rfl hQ0 ?_
            clear hQ0 hH s27
            intro Q hQ
            repeat go_step
            exact hQ _ _ (Grow.refl _) rfl rfl
          refine obls_cons (fun f w' hR hH Q0 hQ0 => ?_) ?_
          · skip
            have s0 := sv_off f [(28, 11)] e0 rfl
            have s28 := (sv_at 28 11 hsz f [(28, 11)] rfl).trans (show f 11 = _ from hH.get 0 (28, 11) rfl)
            first
              | exact skip_v hsz rfl ((wanted_some (b := true) rfl rfl s28).trans rfl) hQ0 (Grow.refl _) rfl
              | exact skip_v hsz rfl (wanted_undef rfl rfl s28) hQ0 (Grow.refl _) rfl
              | refine small_v hsz [(0, _)] ⟨some 1, (Op.move (.tmp 0)), 30, "", #[], none⟩ [_, undef] 1 rfl ((wanted_some (b := false) rfl rfl s28).trans rfl) ⟨s0, trivial⟩ rfl rfl hQ0 ?_
                clear hQ0 hH s0 s28
                intro Q hQ
                repeat go_step
                exact hQ _ _ (Grow.refl _) rfl rfl
          refine obls_cons (fun f w' hR hH Q0 hQ0 => ?_) ?_
          · skip
            have s5 := sv_off f [(28, 11)] e5 rfl
            have s28 := (sv_at 28 11 hsz f [(28, 11)] rfl).trans (show f 11 = _ from hH.get 0 (28, 11) rfl)
            first
              | exact skip_v hsz rfl ((wanted_some (b := true) rfl rfl s28).trans rfl) hQ0 (Grow.refl _) rfl
              | exact skip_v hsz rfl (wanted_undef rfl rfl s28) hQ0 (Grow.refl _) rfl
              | refine small_v hsz [(5, _)] ⟨some 1, (Op.move (.tmp 0)), 3, "", #[], none⟩ [_, undef] 1 rfl ((wanted_some (b := false) rfl rfl s28).trans rfl) ⟨s5, trivial⟩ rfl rfl hQ0 ?_
                clear hQ0 hH s5 s28
                intro Q hQ
                repeat go_step
                exact hQ _ _ (Grow.refl _) rfl rfl
          refine obls_cons (fun f w' hR hH Q0 hQ0 => ?_) ?_
          · skip
            have s29 := (sv_at 29 12 hsz f [(29, 12), (30, 13), (28, 11)] rfl).trans (show f 12 = _ from hH.get 0 (29, 12) rfl)
            have s30 := (sv_at 30 13 hsz f [(29, 12), (30, 13), (28, 11)] rfl).trans (show f 13 = _ from hH.get 1 (30, 13) rfl)
            have s28 := (sv_at 28 11 hsz f [(29, 12), (30, 13), (28, 11)] rfl).trans (show f 11 = _ from hH.get 2 (28, 11) rfl)
            first
              | exact skip_v hsz rfl ((wanted_some (b := true) rfl rfl s28).trans rfl) hQ0 (Grow.refl _) rfl
              | exact skip_v hsz rfl (wanted_undef rfl rfl s28) hQ0 (Grow.refl _) rfl
              | refine small_v hsz [(29, _), (30, _)] ⟨some 2, (Op.indexAddr 30 (.tmp 0) (.tmp 1)), 0, "", #[], none⟩ [_, _, undef] 2 rfl ((wanted_some (b := false) rfl rfl s28).trans rfl) ⟨s29, s30, trivial⟩ rfl rfl hQ0 ?_
                clear hQ0 hH s29 s30 s28
                intro Q hQ
                have hlt := HLT.out
                repeat go_step
                exact hQ _ _ (Grow.refl _) rfl rfl
          refine obls_cons (fun f w' hR hH Q0 hQ0 => ?_) ?_
          · skip
            have s31 := (sv_at 31 14 hsz f [(31, 14), (28, 11)] rfl).trans (show f 14 = _ from hH.get 0 (31, 14) rfl)
            have s28 := (sv_at 28 11 hsz f [(31, 14), (28, 11)] rfl).trans (show f 11 = _ from hH.get 1 (28, 11) rfl)
            first
              | exact skip_v hsz rfl ((wanted_some (b := true) rfl rfl s28).trans rfl) hQ0 (Grow.refl _) rfl
              | exact skip_v hsz rfl (wanted_undef rfl rfl s28) hQ0 (Grow.refl _) rfl
              | refine small_v hsz [(31, _)] ⟨some 1, (Op.fieldAddr 43 (.tmp 0) 1), 0, "", #[], none⟩ [_, undef] 1 rfl ((wanted_some (b := false) rfl rfl s28).trans rfl) ⟨s31, trivial⟩ rfl rfl hQ0 ?_
                clear hQ0 hH s31 s28
                intro Q hQ
                repeat go_step
                exact hQ _ _ (Grow.refl _) rfl rfl
          refine obls_cons (fun f w' hR hH Q0 hQ0 => ?_) ?_
          · skip
            have s32 := (sv_at 32 15 hsz f [(32, 15), (28, 11)] rfl).trans (show f 15 = _ from hH.get 0 (32, 15) rfl)
            have s28 := (sv_at 28 11 hsz f [(32, 15), (28, 11)] rfl).trans (show f 11 = _ from hH.get 1 (28, 11) rfl)
            first
              | exact skip_v hsz rfl ((wanted_some (b := true) rfl rfl s28).trans rfl) hQ0 (Grow.refl _) rfl
              | exact skip_v hsz rfl (wanted_undef rfl rfl s28) hQ0 (Grow.refl _) rfl
              | refine small_v hsz [(32, _)] ⟨some 1, (Op.load 3 (.tmp 0)), 3, "", #[], none⟩ [_, undef] 1 rfl ((wanted_some (b := false) rfl rfl s28).trans rfl) ⟨s32, trivial⟩ rfl rfl hQ0 ?_
                clear hQ0 hH s32 s28
                intro Q hQ
                have y0 := hR.cell HC1.out
                repeat go_step
                exact hQ _ _ (Grow.refl _) rfl rfl
          refine obls_cons (fun f w' hR hH Q0 hQ0 => ?_) ?_
          · skip
            have s1 := sv_off f [(28, 11)] e1 rfl
            have s28 := (sv_at 28 11 hsz f [(28, 11)] rfl).trans (show f 11 = _ from hH.get 0 (28, 11) rfl)
            first
              | exact skip_v hsz rfl ((wanted_some (b := true) rfl rfl s28).trans rfl) hQ0 (Grow.refl _) rfl
              | exact skip_v hsz rfl (wanted_undef rfl rfl s28) hQ0 (Grow.refl _) rfl
              | refine small_v hsz [(1, _)] ⟨some 1, (Op.move (.tmp 0)), 32, "", #[], none⟩ [_, undef] 1 rfl ((wanted_some (b := false) rfl rfl s28).trans rfl) ⟨s1, trivial⟩ rfl rfl hQ0 ?_
                clear hQ0 hH s1 s28
                intro Q hQ
                repeat go_step
                exact hQ _ _ (Grow.refl _) rfl rfl
          refine obls_cons (fun f w' hR hH Q0 hQ0 => ?_) ?_
          · skip
            have s5 := sv_off f [(28, 11)] e5 rfl
            have s28 := (sv_at 28 11 hsz f [(28, 11)] rfl).trans (show f 11 = _ from hH.get 0 (28, 11) rfl)
            first
              | exact skip_v hsz rfl ((wanted_some (b := true) rfl rfl s28).trans rfl) hQ0 (Grow.refl _) rfl
              | exact skip_v hsz rfl (wanted_undef rfl rfl s28) hQ0 (Grow.refl _) rfl
              | refine small_v hsz [(5, _)] ⟨some 1, (Op.move (.tmp 0)), 3, "", #[], none⟩ [_, undef] 1 rfl ((wanted_some (b := false) rfl rfl s28).trans rfl) ⟨s5, trivial⟩ rfl rfl hQ0 ?_
                clear hQ0 hH s5 s28
                intro Q hQ
                repeat go_step
                exact hQ _ _ (Grow.refl _) rfl rfl
          refine obls_cons (fun f w' hR hH Q0 hQ0 => ?_) ?_
          · skip
            have s34 := (sv_at 34 17 hsz f [(34, 17), (35, 18), (28, 11)] rfl).trans (show f 17 = _ from hH.get 0 (34, 17) rfl)
            have s35 := (sv_at 35 18 hsz f [(34, 17), (35, 18), (28, 11)] rfl).trans (show f 18 = _ from hH.get 1 (35, 18) rfl)
            have s28 := (sv_at 28 11 hsz f [(34, 17), (35, 18), (28, 11)] rfl).trans (show f 11 = _ from hH.get 2 (28, 11) rfl)
            first
              | exact skip_v hsz rfl ((wanted_some (b := true) rfl rfl s28).trans rfl) hQ0 (Grow.refl _) rfl
              | exact skip_v hsz rfl (wanted_undef rfl rfl s28) hQ0 (Grow.refl _) rfl
              | refine small_v hsz [(34, _), (35, _)] ⟨some 2, (Op.indexAddr 32 (.tmp 0) (.tmp 1)), 0, "", #[], none⟩ [_, _, undef] 2 rfl ((wanted_some (b := false) rfl rfl s28).trans rfl) ⟨s34, s35, trivial⟩ rfl rfl hQ0 ?_
                clear hQ0 hH s34 s35 s28
                intro Q hQ
                have hlt := HLT.out
                repeat go_step
                exact hQ _ _ (Grow.refl _) rfl rfl
          refine obls_cons (fun f w' hR hH Q0 hQ0 => ?_) ?_
          · skip
            have s36 := (sv_at 36 19 hsz f [(36, 19), (28, 11)] rfl).trans (show f 19 = _ from hH.get 0 (36, 19) rfl)
            have s28 := (sv_at 28 11 hsz f [(36, 19), (28, 11)] rfl).trans (show f 11 = _ from hH.get 1 (28, 11) rfl)
            first
              | exact skip_v hsz rfl ((wanted_some (b := true) rfl rfl s28).trans rfl) hQ0 (Grow.refl _) rfl
              | exact skip_v hsz rfl (wanted_undef rfl rfl s28) hQ0 (Grow.refl _) rfl
              | refine small_v hsz [(36, _)] ⟨some 1, (Op.fieldAddr 62 (.tmp 0) 1), 0, "", #[], none⟩ [_, undef] 1 rfl ((wanted_some (b := false) rfl rfl s28).trans rfl) ⟨s36, trivial⟩ rfl rfl hQ0 ?_
                clear hQ0 hH s36 s28
                intro Q hQ
                repeat go_step
                exact hQ _ _ (Grow.refl _) rfl rfl
          refine obls_cons (fun f w' hR hH Q0 hQ0 => ?_) ?_
          · skip
            have s37 := (sv_at 37 20 hsz f [(37, 20), (28, 11)] rfl).trans (show f 20 = _ from hH.get 0 (37, 20) rfl)
            have s28 := (sv_at 28 11 hsz f [(37, 20), (28, 11)] rfl).trans (show f 11 = _ from hH.get 1 (28, 11) rfl)
            first
              | exact skip_v hsz rfl ((wanted_some (b := true) rfl rfl s28).trans rfl) hQ0 (Grow.refl _) rfl
              | exact skip_v hsz rfl (wanted_undef rfl rfl s28) hQ0 (Grow.refl _) rfl
              | refine small_v hsz [(37, _)] ⟨some 1, (Op.load 3 (.tmp 0)), 3, "", #[], none⟩ [_, undef] 1 rfl ((wanted_some (b := false) rfl rfl s28).trans rfl) ⟨s37, trivial⟩ rfl rfl hQ0 ?_
                clear hQ0 hH s37 s28
                intro Q hQ
                have y0 := hR.cell HD1.out
                repeat go_step
                exact hQ _ _ (Grow.refl _) rfl rfl
          refine obls_cons (fun f w' hR hH Q0 hQ0 => ?_) ?_
          · skip
            have s33 := (sv_at 33 16 hsz f [(33, 16), (38, 21), (28, 11)] rfl).trans (show f 16 = _ from hH.get 0 (33, 16) rfl)
            have s38 := (sv_at 38 21 hsz f [(33, 16), (38, 21), (28, 11)] rfl).trans (show f 21 = _ from hH.get 1 (38, 21) rfl)
            have s28 := (sv_at 28 11 hsz f [(33, 16), (38, 21), (28, 11)] rfl).trans (show f 11 = _ from hH.get 2 (28, 11) rfl)
            first
              | exact skip_v hsz rfl ((wanted_some (b := true) rfl rfl s28).trans rfl) hQ0 (Grow.refl _) rfl
              | exact skip_v hsz rfl (wanted_undef rfl rfl s28) hQ0 (Grow.refl _) rfl
              | refine small_v hsz [(33, _), (38, _)] ⟨some 2, (Op.binOp BinOp.neq 3 (.tmp 0) (.tmp 1) 3), 4, "", #[], none⟩ [_, _, undef] 2 rfl ((wanted_some (b := false) rfl rfl s28).trans rfl) ⟨s33, s38, trivial⟩ rfl rfl hQ0 ?_
                clear hQ0 hH s33 s38 s28
                intro Q hQ
                repeat go_step
                exact hQ _ _ (Grow.refl _) rfl rfl
          refine obls_cons (fun f w' hR hH Q0 hQ0 => ?_) ?_
          · skip
            have s28 := (sv_at 28 11 hsz f [(28, 11), (39, 22)] rfl).trans (show f 11 = _ from hH.get 0 (28, 11) rfl)
            have s39 := (sv_at 39 22 hsz f [(28, 11), (39, 22)] rfl).trans (show f 22 = _ from hH.get 1 (39, 22) rfl)
            refine small_v hsz [(28, _), (39, _)] ⟨some 2, (Op.pick (.tmp 0) (Operand.const (Value.bool true)) (.tmp 1)), 4, "", #[], none⟩ [_, _, undef] 2 rfl rfl ⟨s28, s39, trivial⟩ rfl rfl hQ0 ?_
            clear hQ0 hH s28 s39
            intro Q hQ
            repeat go_step
            exact hQ _ _ (Grow.refl _) rfl rfl
          refine obls_cons (fun f w' hR hH Q0 hQ0 => ?_) ?_
          · skip
            have s40 := (sv_at 40 23 hsz f [(40, 23)] rfl).trans (show f 23 = _ from hH.get 0 (40, 23) rfl)
            refine small_v hsz [(40, _)] ⟨some 1, (Op.move (.tmp 0)), 4, "", #[], none⟩ [_, undef] 1 rfl rfl ⟨s40, trivial⟩ rfl rfl hQ0 ?_
            clear hQ0 hH s40
            intro Q hQ
            repeat go_step
            exact hQ _ _ (Grow.refl _) rfl rfl
          refine obls_cons (fun f w' hR hH Q0 hQ0 => ?_) ?_
          · skip
            have s0 := sv_off f [(41, 24)] e0 rfl
            have s41 := (sv_at 41 24 hsz f [(41, 24)] rfl).trans (show f 24 = _ from hH.get 0 (41, 24) rfl)
            first
              | exact skip_v hsz rfl ((wanted_some (b := true) rfl rfl s41).trans rfl) hQ0 (Grow.refl _) rfl
              | exact skip_v hsz rfl (wanted_undef rfl rfl s41) hQ0 (Grow.refl _) rfl
              | refine small_v hsz [(0, _)] ⟨some 1, (Op.move (.tmp 0)), 30, "", #[], none⟩ [_, undef] 1 rfl ((wanted_some (b := false) rfl rfl s41).trans rfl) ⟨s0, trivial⟩ rfl rfl hQ0 ?_
                clear hQ0 hH s0 s41
                intro Q hQ
                repeat go_step
                exact hQ _ _ (Grow.refl _) rfl rfl
          refine obls_cons (fun f w' hR hH Q0 hQ0 => ?_) ?_
          · skip
            have s5 := sv_off f [(41, 24)] e5 rfl
            have s41 := (sv_at 41 24 hsz f [(41, 24)] rfl).trans (show f 24 = _ from hH.get 0 (41, 24) rfl)
            first
              | exact skip_v hsz rfl ((wanted_some (b := true) rfl rfl s41).trans rfl) hQ0 (Grow.refl _) rfl
              | exact skip_v hsz rfl (wanted_undef rfl rfl s41) hQ0 (Grow.refl _) rfl
              | refine small_v hsz [(5, _)] ⟨some 1, (Op.move (.tmp 0)), 3, "", #[], none⟩ [_, undef] 1 rfl ((wanted_some (b := false) rfl rfl s41).trans rfl) ⟨s5, trivial⟩ rfl rfl hQ0 ?_
                clear hQ0 hH s5 s41
                intro Q hQ
                repeat go_step
                exact hQ _ _ (Grow.refl _) rfl rfl
          refine obls_cons (fun f w' hR hH Q0 hQ0 => ?_) ?_
          · skip
            have s42 := (sv_at 42 25 hsz f [(42, 25), (43, 26), (41, 24)] rfl).trans (show f 25 = _ from hH.get 0 (42, 25) rfl)
            have s43 := (sv_at 43 26 hsz f [(42, 25), (43, 26), (41, 24)] rfl).trans (show f 26 = _ from hH.get 1 (43, 26) rfl)
            have s41 := (sv_at 41 24 hsz f [(42, 25), (43, 26), (41, 24)] rfl).trans (show f 24 = _ from hH.get 2 (41, 24) rfl)
            first
              | exact skip_v hsz rfl ((wanted_some (b := true) rfl rfl s41).trans rfl) hQ0 (Grow.refl _) rfl
              | exact skip_v hsz rfl (wanted_undef rfl rfl s41) hQ0 (Grow.refl _) rfl
              | refine small_v hsz [(42, _), (43, _)] ⟨some 2, (Op.indexAddr 30 (.tmp 0) (.tmp 1)), 0, "", #[], none⟩ [_, _, undef] 2 rfl ((wanted_some (b := false) rfl rfl s41).trans rfl) ⟨s42, s43, trivial⟩ rfl rfl hQ0 ?_
                clear hQ0 hH s42 s43 s41
                intro Q hQ
                have hlt := HLT.out
                repeat go_step
                exact hQ _ _ (Grow.refl _) rfl rfl
          refine obls_cons (fun f w' hR hH Q0 hQ0 => ?_) ?_
          · skip
            have s44 := (sv_at 44 27 hsz f [(44, 27), (41, 24)] rfl).trans (show f 27 = _ from hH.get 0 (44, 27) rfl)
            have s41 := (sv_at 41 24 hsz f [(44, 27), (41, 24)] rfl).trans (show f 24 = _ from hH.get 1 (41, 24) rfl)
            first
              | exact skip_v hsz rfl ((wanted_some (b := true) rfl rfl s41).trans rfl) hQ0 (Grow.refl _) rfl
              | exact skip_v hsz rfl (wanted_undef rfl rfl s41) hQ0 (Grow.refl _) rfl
              | refine small_v hsz [(44, _)] ⟨some 1, (Op.fieldAddr 43 (.tmp 0) 2), 0, "", #[], none⟩ [_, undef] 1 rfl ((wanted_some (b := false) rfl rfl s41).trans rfl) ⟨s44, trivial⟩ rfl rfl hQ0 ?_
                clear hQ0 hH s44 s41
                intro Q hQ
                repeat go_step
                exact hQ _ _ (Grow.refl _) rfl rfl
          refine obls_cons (fun f w' hR hH Q0 hQ0 => ?_) ?_
          · skip
            have s45 := (sv_at 45 28 hsz f [(45, 28), (41, 24)] rfl).trans (show f 28 = _ from hH.get 0 (45, 28) rfl)
            have s41 := (sv_at 41 24 hsz f [(45, 28), (41, 24)] rfl).trans (show f 24 = _ from hH.get 1 (41, 24) rfl)
            first
              | exact skip_v hsz rfl ((wanted_some (b := true) rfl rfl s41).trans rfl) hQ0 (Grow.refl _) rfl
              | exact skip_v hsz rfl (wanted_undef rfl rfl s41) hQ0 (Grow.refl _) rfl
              | refine small_v hsz [(45, _)] ⟨some 1, (Op.load 30 (.tmp 0)), 30, "", #[], none⟩ [_, undef] 1 rfl ((wanted_some (b := false) rfl rfl s41).trans rfl) ⟨s45, trivial⟩ rfl rfl hQ0 ?_
                clear hQ0 hH s45 s41
                intro Q hQ
                have y0 := hR.cell HC2.out
                repeat go_step
                exact hQ _ _ (Grow.refl _) rfl rfl
          refine obls_cons (fun f w' hR hH Q0 hQ0 => ?_) ?_
          · skip
            have s1 := sv_off f [(41, 24)] e1 rfl
            have s41 := (sv_at 41 24 hsz f [(41, 24)] rfl).trans (show f 24 = _ from hH.get 0 (41, 24) rfl)
            first
              | exact skip_v hsz rfl ((wanted_some (b := true) rfl rfl s41).trans rfl) hQ0 (Grow.refl _) rfl
              | exact skip_v hsz rfl (wanted_undef rfl rfl s41) hQ0 (Grow.refl _) rfl
              | refine small_v hsz [(1, _)] ⟨some 1, (Op.move (.tmp 0)), 32, "", #[], none⟩ [_, undef] 1 rfl ((wanted_some (b := false) rfl rfl s41).trans rfl) ⟨s1, trivial⟩ rfl rfl hQ0 ?_
                clear hQ0 hH s1 s41
                intro Q hQ
                repeat go_step
                exact hQ _ _ (Grow.refl _) rfl rfl
          refine obls_cons (fun f w' hR hH Q0 hQ0 => ?_) ?_
          · skip
            have s5 := sv_off f [(41, 24)] e5 rfl
            have s41 := (sv_at 41 24 hsz f [(41, 24)] rfl).trans (show f 24 = _ from hH.get 0 (41, 24) rfl)
            first
              | exact skip_v hsz rfl ((wanted_some (b := true) rfl rfl s41).trans rfl) hQ0 (Grow.refl _) rfl
              | exact skip_v hsz rfl (wanted_undef rfl rfl s41) hQ0 (Grow.refl _) rfl
              | refine small_v hsz [(5, _)] ⟨some 1, (Op.move (.tmp 0)), 3, "", #[], none⟩ [_, undef] 1 rfl ((wanted_some (b := false) rfl rfl s41).trans rfl) ⟨s5, trivial⟩ rfl rfl hQ0 ?_
                clear hQ0 hH s5 s41
                intro Q hQ
                repeat go_step
                exact hQ _ _ (Grow.refl _) rfl rfl
          refine obls_cons (fun f w' hR hH Q0 hQ0 => ?_) ?_
          · skip
            have s47 := (sv_at 47 30 hsz f [(47, 30), (48, 31), (41, 24)] rfl).trans (show f 30 = _ from hH.get 0 (47, 30) rfl)
            have s48 := (sv_at 48 31 hsz f [(47, 30), (48, 31), (41, 24)] rfl).trans (show f 31 = _ from hH.get 1 (48, 31) rfl)
            have s41 := (sv_at 41 24 hsz f [(47, 30), (48, 31), (41, 24)] rfl).trans (show f 24 = _ from hH.get 2 (41, 24) rfl)
            first
              | exact skip_v hsz rfl ((wanted_some (b := true) rfl rfl s41).trans rfl) hQ0 (Grow.refl _) rfl
              | exact skip_v hsz rfl (wanted_undef rfl rfl s41) hQ0 (Grow.refl _) rfl
              | refine small_v hsz [(47, _), (48, _)] ⟨some 2, (Op.indexAddr 32 (.tmp 0) (.tmp 1)), 0, "", #[], none⟩ [_, _, undef] 2 rfl ((wanted_some (b := false) rfl rfl s41).trans rfl) ⟨s47, s48, trivial⟩ rfl rfl hQ0 ?_
                clear hQ0 hH s47 s48 s41
                intro Q hQ
                have hlt := HLT.out
                repeat go_step
                exact hQ _ _ (Grow.refl _) rfl rfl
          refine obls_cons (fun f w' hR hH Q0 hQ0 => ?_) ?_
          · skip
            have s49 := (sv_at 49 32 hsz f [(49, 32), (41, 24)] rfl).trans (show f 32 = _ from hH.get 0 (49, 32) rfl)
            have s41 := (sv_at 41 24 hsz f [(49, 32), (41, 24)] rfl).trans (show f 24 = _ from hH.get 1 (41, 24) rfl)
            first
              | exact skip_v hsz rfl ((wanted_some (b := true) rfl rfl s41).trans rfl) hQ0 (Grow.refl _) rfl
              | exact skip_v hsz rfl (wanted_undef rfl rfl s41) hQ0 (Grow.refl _) rfl
              | refine small_v hsz [(49, _)] ⟨some 1, (Op.fieldAddr 62 (.tmp 0) 2), 0, "", #[], none⟩ [_, undef] 1 rfl ((wanted_some (b := false) rfl rfl s41).trans rfl) ⟨s49, trivial⟩ rfl rfl hQ0 ?_
                clear hQ0 hH s49 s41
                intro Q hQ
                repeat go_step
                exact hQ _ _ (Grow.refl _) rfl rfl
          refine obls_cons (fun f w' hR hH Q0 hQ0 => ?_) ?_
          · skip
            have s50 := (sv_at 50 33 hsz f [(50, 33), (41, 24)] rfl).trans (show f 33 = _ from hH.get 0 (50, 33) rfl)
            have s41 := (sv_at 41 24 hsz f [(50, 33), (41, 24)] rfl).trans (show f 24 = _ from hH.get 1 (41, 24) rfl)
            first
              | exact skip_v hsz rfl ((wanted_some (b := true) rfl rfl s41).trans rfl) hQ0 (Grow.refl _) rfl
              | exact skip_v hsz rfl (wanted_undef rfl rfl s41) hQ0 (Grow.refl _) rfl
              | refine small_v hsz [(50, _)] ⟨some 1, (Op.load 32 (.tmp 0)), 32, "", #[], none⟩ [_, undef] 1 rfl ((wanted_some (b := false) rfl rfl s41).trans rfl) ⟨s50, trivial⟩ rfl rfl hQ0 ?_
                clear hQ0 hH s50 s41
                intro Q hQ
                have y0 := hR.cell HD2.out
                repeat go_step
                exact hQ _ _ (Grow.refl _) rfl rfl
          refine obls_cons (fun f w' hR hH Q0 hQ0 => ?_) ?_
          · skip
            have s46 := (sv_at 46 29 hsz f [(46, 29), (51, 34), (41, 24)] rfl).trans (show f 29 = _ from hH.get 0 (46, 29) rfl)
            have s51 := (sv_at 51 34 hsz f [(46, 29), (51, 34), (41, 24)] rfl).trans (show f 34 = _ from hH.get 1 (51, 34) rfl)
            have s41 := (sv_at 41 24 hsz f [(46, 29), (51, 34), (41, 24)] rfl).trans (show f 24 = _ from hH.get 2 (41, 24) rfl)
            first
              | exact skip_v hsz rfl ((wanted_some (b := true) rfl rfl s41).trans rfl) hQ0 (Grow.refl _) rfl
              | exact skip_v hsz rfl (wanted_undef rfl rfl s41) hQ0 (Grow.refl _) rfl
              | refine small_v hsz [(46, _), (51, _)] ⟨some 2, (Op.call (Call.mk (Callee.value (Operand.func 12)) #[(.tmp 0), (.tmp 1)] #[30, 32])), 4, "", #[], none⟩ [_, _, undef] 2 rfl ((wanted_some (b := false) rfl rfl s41).trans rfl) ⟨s46, s51, trivial⟩ rfl (ren_call rfl rfl) hQ0 ?_
                clear hQ0 hH s46 s51 s41
                intro Q hQ
                go_wp2_with (go_at_call 12; refine ((HI.out w' hR)).mono ?_; rintro e w1 ⟨rfl, hg1⟩)
                exact hQ _ _ hg1 rfl rfl
          refine obls_cons (fun f w' hR hH Q0 hQ0 => ?_) ?_
          · skip
            have s52 := (sv_at 52 35 hsz f [(52, 35), (41, 24)] rfl).trans (show f 35 = _ from hH.get 0 (52, 35) rfl)
            have s41 := (sv_at 41 24 hsz f [(52, 35), (41, 24)] rfl).trans (show f 24 = _ from hH.get 1 (41, 24) rfl)
            first
              | exact skip_v hsz rfl ((wanted_some (b := true) rfl rfl s41).trans rfl) hQ0 (Grow.refl _) rfl
              | exact skip_v hsz rfl (wanted_undef rfl rfl s41) hQ0 (Grow.refl _) rfl
              | refine small_v hsz [(52, _)] ⟨some 1, (Op.unOp UnOp.not 4 (.tmp 0)), 4, "", #[], none⟩ [_, undef] 1 rfl ((wanted_some (b := false) rfl rfl s41).trans rfl) ⟨s52, trivial⟩ rfl rfl hQ0 ?_
                clear hQ0 hH s52 s41
                intro Q hQ
                repeat go_step
                exact hQ _ _ (Grow.refl _) rfl rfl
          refine obls_cons (fun f w' hR hH Q0 hQ0 => ?_) ?_
          · skip
            have s41 := (sv_at 41 24 hsz f [(41, 24), (53, 36)] rfl).trans (show f 24 = _ from hH.get 0 (41, 24) rfl)
            have s53 := (sv_at 53 36 hsz f [(41, 24), (53, 36)] rfl).trans (show f 36 = _ from hH.get 1 (53, 36) rfl)
            refine small_v hsz [(41, _), (53, _)] ⟨some 2, (Op.pick (.tmp 0) (Operand.const (Value.bool true)) (.tmp 1)), 4, "", #[], none⟩ [_, _, undef] 2 rfl rfl ⟨s41, s53, trivial⟩ rfl rfl hQ0 ?_
            clear hQ0 hH s41 s53
            intro Q hQ
            repeat go_step
            exact hQ _ _ (Grow.refl _) rfl rfl
          exact obls_nil
        case mono => exact ⟨Mono.veq _, Mono.veq _, Mono.veq _, Mono.veq _, Mono.veq _, Mono.veq _, Mono.veq _, Mono.veq _, Mono.veq _, Mono.veq _, Mono.veq _, Mono.veq _, Mono.veq _, Mono.veq _, Mono.veq _, Mono.veq _, Mono.veq _, Mono.veq _, Mono.veq _, Mono.veq _, Mono.veq _, Mono.veq _, Mono.veq _, Mono.veq _, Mono.veq _, Mono.veq _, Mono.veq _, Mono.veq _, Mono.veq _, Mono.veq _, Mono.veq _, Mono.veq _, Mono.veq _, Mono.veq _, Mono.veq _, Mono.veq _, Mono.veq _, Mono.veq _, trivial⟩
        case tail =>
          intro f w' hR hH
          have q37 := hH.get 37 (54, 37) rfl
          clear hH
          refine wpList_merge (idx := [none, none, none, none, none, none, none, none, none, none, none, none, none, none, none, none, none, some 0, some 1, some 2, some 3, some 4, some 5, some 6, some 7, some 8, some 9, some 10, some 11, some 12, some 13, some 14, some 15, some 16, some 17, some 18, some 19, some 20, some 21, some 22, some 23, some 24, some 25, some 26, some 27, some 28, some 29, some 30, some 31, some 32, some 33, some 34, some 35, some 36, some 37]) (by kernel_rfl) ?_; show wpList _ _ _ [] ⟨#[_, _, _, _, _, _, _, _, _, _, _, _, _, _, _, _, _, f 0, f 1, f 2, f 3, f 4, f 5, f 6, f 7, f 8, f 9, f 10, f 11, f 12, f 13, f 14, f 15, f 16, f 17, f 18, f 19, f 20, f 21, f 22, f 23, f 24, f 25, f 26, f 27, f 28, f 29, f 30, f 31, f 32, f 33, f 34, f 35, f 36, f 37], _⟩ _
          rw [show f 37 = _ from q37]
          clear q37
          have HG9 := Lib.hid (HG.out.trans hR)
          clear hR
          go_wp2_with fail
          go_roundw
          case rel => exact ⟨k + 1, by have := HLT.out; omega, by go_num, HG9.out⟩
          case measure => have := HLT.out; simp [intOf] <;> omega
      · obtain rfl : k = n := by omega
        have t1 : decide (k < k) = false := decide_eq_false hlt
        have HG := Lib.hid hg
        clear hg hk hlt
        go_wp2_with fail
        go_ret
        exact ⟨rfl, HG.out⟩
def TsT (ts : List T) : Value → World → Prop := fun u w => TsV w (fun _ => True) u ts
theorem TsT.mono {ts : List T} : Mono Grow (TsT ts) := fun _ _ _ h hg => h.grow hg
theorem vp_len9 (n : Nat) (xs : List (Int × Int)) : (vp n xs).length ≤ xs.length := by
  unfold vp
  rw [List.length_map]
  exact List.length_filter_le _ _
set_option maxRecDepth 100000 in
set_option maxHeartbeats 1000000 in
theorem says_walk (x : Int) (A1 : Option Addr) (n1 c1 : Nat) (xs : List (Int × Int)) (w : World) (hr : Go.Kit.Recs 2 prow w A1 n1 xs) (hxs : ∀ p ∈ xs, PairOk p) (hn1 : n1 ≤ maxLen) (A2 : Option Addr) (n2 c2 : Nat) (l : List Int) (hl : Nums w A2 n2 c2 l) :
    Calls Try.prog 3 #[.int .i64 x, .slice A1 n1 c1, .slice A2 n2 c2] w fun e w' => e = .returned (.bool true) ∧ Grow w w' := by
  have hn2 : n2 ≤ 9223372036854775807 := by have h1 := hl.nc; have h2 := hl.cm; unfold maxLen at h2; omega
  unfold maxLen at hn1
  by_cases h1 : 10 < x
  · have t1 : decide (10 < x) = true := decide_eq_true h1
    clear hr hxs hl h1
    go_enter Try.func3, Try.ntmps3
    go_wp2_with fail
    refine (works_any w).mono ?_
    rintro e w1 ⟨rfl, hg⟩
    have HG := Lib.hid hg
    clear hg
    go_wp2_with fail
    go_ret
    exact ⟨rfl, HG.out⟩
  · have t1 : decide (10 < x) = false := decide_eq_false h1
    by_cases h2 : 30 < n1
    · have t2 : decide (30 < n1) = true := decide_eq_true h2
      have t2' : decide ((30 : Int) < (n1 : Int)) = true := decide_eq_true (by omega)
      clear hr hxs hl h1 h2
      go_enter Try.func3, Try.ntmps3
      go_wp2_with fail
      refine (works_any w).mono ?_
      rintro e w1 ⟨rfl, hg⟩
      have HG := Lib.hid hg
      clear hg
      go_wp2_with fail
      go_ret
      exact ⟨rfl, HG.out⟩
    · have t2 : decide (30 < n1) = false := decide_eq_false h2
      have t2' : decide ((30 : Int) < (n1 : Int)) = false := decide_eq_false (by omega)
      by_cases h3 : 10 < n2
      · have t3 : decide (10 < n2) = true := decide_eq_true h3
        have t3' : decide ((10 : Int) < (n2 : Int)) = true := decide_eq_true (by omega)
        clear hr hxs hl h1 h2 h3
        go_enter Try.func3, Try.ntmps3
        go_wp2_with fail
        refine (works_any w).mono ?_
        rintro e w1 ⟨rfl, hg⟩
        have HG := Lib.hid hg
        clear hg
        go_wp2_with fail
        go_ret
        exact ⟨rfl, HG.out⟩
      · have t3 : decide (10 < n2) = false := decide_eq_false h3
        have t3' : decide ((10 : Int) < (n2 : Int)) = false := decide_eq_false (by omega)
        have hof := reW.of_any w x A1 n1 c1 xs hr (by omega) hxs
        have hrf : ∀ w', Grow w w' → Calls Try.prog 9 #[.int .i64 x, .slice A1 n1 c1] w' fun e w'' => ∃ v, e = .returned (.agg #[.int .i64 (clampN x : Int), v]) ∧ RefV w'' v (vp (clampN x) xs) ∧ Grow w' w'' := fun w' hg => ref_of w' x A1 n1 c1 xs (hr.grow hg) (by omega)
        obtain ⟨nR, hnR⟩ : ∃ nR, nR = clampN x := ⟨_, rfl⟩
        rw [← hnR] at hof hrf
        obtain ⟨LR, hLR⟩ : ∃ LR, LR = vp nR xs := ⟨_, rfl⟩
        rw [← hLR] at hof hrf
        have HLR : Hid (LR.length ≤ 1000000) := Lib.hid (by
          rw [hLR]
          have h8 := vp_len9 nR xs
          have h9 := hr.1
          omega)
        have HOF := Lib.hid hof
        have HRF := Lib.hid hrf
        have HL := Lib.hid hl
        have HLL := Lib.hid hl.len
        have hn10 : n2 ≤ 10 := by omega
        clear hof hrf hl hr hxs hLR hnR h1 h2 h3
        go_enter Try.func3, Try.ntmps3
        go_wp2_with fail
        refine HOF.out.mono ?_
        rintro e w2 ⟨gr, rfl, hrel, hg2⟩
        have HREL := Lib.hid hrel
        have HG2 := Lib.hid hg2
        have HRF2 := Lib.hid (HRF.out w2 hg2)
        clear hrel hg2 t1 t2 t2' t3 t3'
        go_wp2_with fail
        refine HRF2.out.mono ?_
        rintro e w3 ⟨v3, rfl, hv3, hg3⟩
        have HV3 := Lib.hid hv3
        obtain ⟨A3, c3, rfl, -⟩ := hv3
        obtain ⟨l3, hl3⟩ : ∃ l3, l3 = LR.length := ⟨_, rfl⟩
        rw [← hl3] at HV3 ⊢
        have HREL3 := Lib.hid (HREL.out.grow hg3)
        have HG3 := Lib.hid (HG2.out.trans hg3)
        obtain ⟨b8, hb8⟩ : ∃ b8, b8 = w3.heap.size := ⟨_, rfl⟩
        obtain ⟨W4, hW4⟩ : ∃ W, W = w3.alloc (.cells #[.int .i64 (nR : Int), .slice A3 l3 c3] TX8) := ⟨_, rfl⟩
        have hg4 : Grow w3 W4 := by rw [hW4]; exact Grow.alloc _ _
        have hbx : Blk W4 b8 TX8 [.int .i64 (nR : Int), .slice A3 l3 c3] := by rw [hW4]; exact Blk.new _ _ _ _ rfl hb8
        have HW4 := Lib.hid hW4
        have HB8 := Lib.hid hb8
        have HBX := Lib.hid hbx
        have HG4 := Lib.hid hg4
        clear hl3 hg3 hb8 hW4 hg4 hbx HRF2
        go_wp2_with fail
        rw [← HW4.out, ← HB8.out]
        obtain ⟨ts, hts⟩ : ∃ ts, ts = blocksF (aheadI (leadB LR)) (nearI (leadB LR)) n2 l := ⟨_, rfl⟩
        have hgw := HG3.out.trans HG4.out
        have HA : Hid (∀ w', Grow W4 w' → Calls Try.prog 10 #[.pointer (some ⟨gr, 0, none⟩), .slice A2 n2 c2] w' fun e w'' => ∃ u, e = .returned u ∧ TsV w'' (fun _ => True) u ts ∧ Grow w' w'') := Lib.hid fun w' hR => by
          rw [hts]
          refine (bk.of_any gr nR (leadB LR) n2 w' (HREL3.out.grow (HG4.out.trans hR)) A2 n2 c2 l (HL.out.grow (hgw.trans hR)) (Nat.le_refl _) (by omega)).mono ?_
          rintro e w'' ⟨u, rfl, h, hg⟩
          exact ⟨u, rfl, h.imp fun _ _ => trivial, hg⟩
        have HC : Hid (∀ w', Grow W4 w' → Calls Try.prog 11 #[.agg #[.int .i64 (nR : Int), .slice A3 l3 c3], .slice A2 n2 c2] w' fun e w'' => ∃ u, e = .returned u ∧ TsV w'' (fun _ => True) u ts ∧ Grow w' w'') := Lib.hid fun w' hR => by
          rw [hts]
          refine (ref_of_any (nR : Int) (.slice A3 l3 c3) LR HLR.out n2 w' (HV3.out.grow (HG4.out.trans hR)) A2 n2 c2 l (HL.out.grow (hgw.trans hR)) (Nat.le_refl _) (by omega)).mono ?_
          rintro e w'' ⟨u, rfl, h, hg⟩
          exact ⟨u, rfl, h.imp fun _ _ => trivial, hg⟩
        have HTL : Hid ((thingsL ts).length = n2 ∧ oddL ts ≤ n2) := Lib.hid ⟨by rw [hts, blocks_len (nearI_symm _) (by rw [HLL.out]; exact Nat.le_refl _)]; exact HLL.out, by rw [hts]; have := odd_le (B := aheadI (leadB LR)) (nearI_symm (leadB LR)) (l := l) (f := n2) (by rw [HLL.out]; exact Nat.le_refl _); rwa [HLL.out] at this⟩
        have HGW := Lib.hid hgw
        clear hts hgw
        apply (fun (v0 v1 v3 v4 : Value) mono obl tail => wp_region_par (R := Grow) (Φ := phi [veq v0, veq v1, (TsT ts), veq v3, veq v4, (TsT ts), (TsT ts), (TsT ts)]) (m := 8) (dls := [[], [], [(30, 0), (31, 1)], [], [], [(33, 3), (34, 4)], [(32, 2)], [(35, 5)]]) (ds := [30, 31, 32, 33, 34, 35, 9, 10]) (by kernel_rfl) (by kernel_rfl) (by decide) rfl (Grow.drew _) (fun _ _ _ => Grow.trans) (mono_phi mono) obl tail)
        case obl =>
          refine obls_frame (fun a1 ha => ?_)
          have hsz := rd_size (n := 57) ha rfl
          have e7 := rd_slot 7 ha rfl
          have e2 := rd_slot 2 ha rfl
          have e8 := rd_slot 8 ha rfl
          clear ha
          refine obls_cons (fun f w' hR hH Q0 hQ0 => ?_) ?_
          · skip
            have s7 := sv_off f [] e7 rfl
            refine small_v hsz [(7, _)] ⟨some 1, (Op.move (.tmp 0)), 25, "", #[], none⟩ [_, undef] 1 rfl rfl ⟨s7, trivial⟩ rfl rfl hQ0 ?_
            clear hQ0 hH s7
            intro Q hQ
            repeat go_step
            exact hQ _ _ (Grow.refl _) rfl rfl
          refine obls_cons (fun f w' hR hH Q0 hQ0 => ?_) ?_
          · skip
            have s2 := sv_off f [] e2 rfl
            refine small_v hsz [(2, _)] ⟨some 1, (Op.move (.tmp 0)), 23, "", #[], none⟩ [_, undef] 1 rfl rfl ⟨s2, trivial⟩ rfl rfl hQ0 ?_
            clear hQ0 hH s2
            intro Q hQ
            repeat go_step
            exact hQ _ _ (Grow.refl _) rfl rfl
          refine obls_cons (fun f w' hR hH Q0 hQ0 => ?_) ?_
          · skip
            have s30 := (sv_at 30 0 hsz f [(30, 0), (31, 1)] rfl).trans (show f 0 = _ from hH.get 0 (30, 0) rfl)
            have s31 := (sv_at 31 1 hsz f [(30, 0), (31, 1)] rfl).trans (show f 1 = _ from hH.get 1 (31, 1) rfl)
            refine small_v hsz [(30, _), (31, _)] ⟨some 2, (Op.call (Call.mk (Callee.value (Operand.func 10)) #[(.tmp 0), (.tmp 1)] #[25, 23])), 30, "", #[], none⟩ [_, _, undef] 2 rfl rfl ⟨s30, s31, trivial⟩ rfl (ren_call rfl rfl) hQ0 ?_
            clear hQ0 hH s30 s31
            intro Q hQ
            have HH := Lib.hid (HA.out w' hR)
            go_wp2_with (go_at_call 10; refine HH.out.mono ?_; rintro e w1 ⟨u9, rfl, hv9, hg9⟩)
            exact hQ _ _ hg9 hv9 rfl
          refine obls_cons (fun f w' hR hH Q0 hQ0 => ?_) ?_
          · skip
            have s8 := sv_off f [] e8 rfl
            refine small_v hsz [(8, _)] ⟨some 1, (Op.load 28 (.tmp 0)), 28, "", #[], none⟩ [_, undef] 1 rfl rfl ⟨s8, trivial⟩ rfl rfl hQ0 ?_
            clear hQ0 hH s8
            intro Q hQ
            have y0 := (HBX.out.grow hR).cell (i := 0) rfl
            have y1 := (HBX.out.grow hR).cell (i := 1) rfl
            repeat go_step
            exact hQ _ _ (Grow.refl _) rfl rfl
          refine obls_cons (fun f w' hR hH Q0 hQ0 => ?_) ?_
          · skip
            have s2 := sv_off f [] e2 rfl
            refine small_v hsz [(2, _)] ⟨some 1, (Op.move (.tmp 0)), 23, "", #[], none⟩ [_, undef] 1 rfl rfl ⟨s2, trivial⟩ rfl rfl hQ0 ?_
            clear hQ0 hH s2
            intro Q hQ
            repeat go_step
            exact hQ _ _ (Grow.refl _) rfl rfl
          refine obls_cons (fun f w' hR hH Q0 hQ0 => ?_) ?_
          · skip
            have s33 := (sv_at 33 3 hsz f [(33, 3), (34, 4)] rfl).trans (show f 3 = _ from hH.get 0 (33, 3) rfl)
            have s34 := (sv_at 34 4 hsz f [(33, 3), (34, 4)] rfl).trans (show f 4 = _ from hH.get 1 (34, 4) rfl)
            refine small_v hsz [(33, _), (34, _)] ⟨some 2, (Op.call (Call.mk (Callee.value (Operand.func 11)) #[(.tmp 0), (.tmp 1)] #[28, 23])), 32, "", #[], none⟩ [_, _, undef] 2 rfl rfl ⟨s33, s34, trivial⟩ rfl (ren_call rfl rfl) hQ0 ?_
            clear hQ0 hH s33 s34
            intro Q hQ
            have HH := Lib.hid (HC.out w' hR)
            go_wp2_with (go_at_call 11; refine HH.out.mono ?_; rintro e w1 ⟨u9, rfl, hv9, hg9⟩)
            exact hQ _ _ hg9 hv9 rfl
          refine obls_cons (fun f w' hR hH Q0 hQ0 => ?_) ?_
          · skip
            have h2 : (TsT ts) (f 2) w' := hH.get 0 (32, 2) rfl
            have s32 := sv_at 32 2 hsz f [(32, 2)] rfl
            obtain ⟨u2, hu2⟩ : ∃ u, f 2 = u := ⟨_, rfl⟩
            rw [hu2] at s32 h2
            clear hu2
            refine small_v hsz [(32, _)] ⟨some 1, (Op.assign (.tmp 0)), 30, "", #[], none⟩ [_, undef] 1 rfl rfl ⟨s32, trivial⟩ rfl rfl hQ0 ?_
            clear hQ0 hH s32
            intro Q hQ
            repeat go_step
            exact hQ _ _ (Grow.refl _) h2 rfl
          refine obls_cons (fun f w' hR hH Q0 hQ0 => ?_) ?_
          · skip
            have h5 : (TsT ts) (f 5) w' := hH.get 0 (35, 5) rfl
            have s35 := sv_at 35 5 hsz f [(35, 5)] rfl
            obtain ⟨u5, hu5⟩ : ∃ u, f 5 = u := ⟨_, rfl⟩
            rw [hu5] at s35 h5
            clear hu5
            refine small_v hsz [(35, _)] ⟨some 1, (Op.assign (.tmp 0)), 32, "", #[], none⟩ [_, undef] 1 rfl rfl ⟨s35, trivial⟩ rfl rfl hQ0 ?_
            clear hQ0 hH s35
            intro Q hQ
            repeat go_step
            exact hQ _ _ (Grow.refl _) h5 rfl
          exact obls_nil
        case mono => exact ⟨Mono.veq _, Mono.veq _, TsT.mono, Mono.veq _, Mono.veq _, TsT.mono, TsT.mono, TsT.mono, trivial⟩
        case tail =>
          intro f w' hR hH
          have q6 : (TsT ts) (f 6) w' := hH.get 6 (9, 6) rfl
          have q7 : (TsT ts) (f 7) w' := hH.get 7 (10, 7) rfl
          clear hH
          refine wpList_merge (idx := [none, none, none, none, none, none, none, none, none, some 6, some 7, none, none, none, none, none, none, none, none, none, none, none, none, none, none, none, none, none, none, none, some 0, some 1, some 2, some 3, some 4, some 5, none, none, none, none, none, none, none, none, none, none, none, none, none, none, none, none, none, none, none, none, none]) (by kernel_rfl) ?_; show wpList _ _ _ [] ⟨#[_, _, _, _, _, _, _, _, _, f 6, f 7, _, _, _, _, _, _, _, _, _, _, _, _, _, _, _, _, _, _, _, f 0, f 1, f 2, f 3, f 4, f 5, _, _, _, _, _, _, _, _, _, _, _, _, _, _, _, _, _, _, _, _, _], _⟩ _
          obtain ⟨x6, hx6⟩ : ∃ x, f 6 = x := ⟨_, rfl⟩
          rw [hx6] at q6 ⊢
          clear hx6
          obtain ⟨x7, hx7⟩ : ∃ x, f 7 = x := ⟨_, rfl⟩
          rw [hx7] at q7 ⊢
          clear hx7
          have hq6 : TsV w' (fun _ => True) x6 ts := q6
          have hq7 : TsV w' (fun _ => True) x7 ts := q7
          have HSM := Lib.hid (same_any hq6 hq7 w' (Grow.refl _))
          have HTH1 := Lib.hid (fun w9 hg => things_any hq6 w9 hg (by have := HTL.out.1; omega))
          have HTH2 := Lib.hid (fun w9 hg => rthings_any hq7 w9 hg (by have := HTL.out.1; omega))
          have HOD1 := Lib.hid (fun w9 hg => odd_any hq6 w9 hg (by have := HTL.out.2; omega))
          have HOD2 := Lib.hid (fun w9 hg => rodd_any hq7 w9 hg (by have := HTL.out.2; omega))
          obtain ⟨A6, c6, qs6, e6, -⟩ := hq6.form
          obtain ⟨A7, c7, qs7, e7, -⟩ := hq7.form
          subst e6
          subst e7
          obtain ⟨lt, hlt⟩ : ∃ lt, lt = ts.length := ⟨_, rfl⟩
          rw [← hlt] at HSM HTH1 HTH2 HOD1 HOD2 ⊢
          have HGA := Lib.hid (HGW.out.trans hR)
          clear q6 q7 hq6 hq7 hlt hR
          go_wp2_with fail
          refine HSM.out.mono ?_
          rintro e w5 ⟨rfl, hg5⟩
          have HT1 := Lib.hid (HTH1.out w5 hg5)
          have HG5 := Lib.hid hg5
          clear hg5
          go_wp2_with fail
          refine HT1.out.mono ?_
          rintro e w6 ⟨v6, rfl, ho6, hg6⟩
          obtain ⟨B6, d6, rfl, hd6, hm6, hr6⟩ := ho6.form
          have HR6 := Lib.hid hr6
          have HT2 := Lib.hid (HTH2.out w6 (HG5.out.trans hg6))
          have HG6 := Lib.hid (HG5.out.trans hg6)
          have HLN := Lib.hid (show (thingsL ts).length ≤ maxLen by omega)
          obtain ⟨lq, hlq⟩ : ∃ lq, lq = (thingsL ts).length := ⟨_, rfl⟩
          rw [← hlq] at HR6 HLN ⊢
          have HLQ := Lib.hid hlq
          clear ho6 hg6 hd6 hm6 hr6 hlq
          go_wp2_with fail
          refine HT2.out.mono ?_
          rintro e w7 ⟨v7, rfl, ho7, hg7⟩
          obtain ⟨B7, d7, rfl, -, -, hr7⟩ := ho7.form
          rw [← HLQ.out] at hr7 ⊢
          have HIS := Lib.hid (ints_same w7 B6 B7 lq d6 d7 (thingsL ts) (Row.grow HR6.out hg7) hr7 HLN.out)
          have HG7 := Lib.hid (HG6.out.trans hg7)
          clear ho7 hr7 hg7
          go_wp2_with fail
          refine HIS.out.mono ?_
          rintro e w8 ⟨rfl, hg8⟩
          have HG8 := Lib.hid (HG7.out.trans hg8)
          have HO1 := Lib.hid (HOD1.out w8 (HG7.out.trans hg8))
          clear hg8
          go_wp2_with fail
          refine HO1.out.mono ?_
          rintro e w9 ⟨rfl, hg9⟩
          have HG9 := Lib.hid (HG8.out.trans hg9)
          have HO2 := Lib.hid (HOD2.out w9 (HG8.out.trans hg9))
          obtain ⟨od, hod⟩ : ∃ od, od = oddL ts := ⟨_, rfl⟩
          rw [← hod] at HO2 ⊢
          have eo : ((od : Int) == (od : Int)) = true := beq_self_eq_true _
          clear hg9 hod
          go_wp2_with fail
          refine HO2.out.mono ?_
          rintro e w10 ⟨rfl, hg10⟩
          have HG10 := Lib.hid (HG9.out.trans hg10)
          clear hg10
          go_wp2_with fail
          refine (works_any w10).mono ?_
          rintro e w11 ⟨rfl, hg11⟩
          have HG11 := Lib.hid ((HGA.out.trans HG10.out).trans hg11)
          clear hg11
          go_wp2_with fail
          go_ret
          exact ⟨rfl, HG11.out⟩
end Go.Proofs.Ytbcifodifadoiaa.bk
