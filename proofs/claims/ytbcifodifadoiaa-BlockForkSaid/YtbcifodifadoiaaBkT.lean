/- The walks of block's some, Things, Odd. -/
import Derived.Test.YtbcifodifadoiaaBkC
namespace Go.Proofs.Ytbcifodifadoiaa.bk
open Go Go.RowKit Go.Par Go.Kit Go.Proofs.Ytbcifodifadoiaa.Bk Go.Proofs.Ytbcifodifadoiaa.reW Go.Proofs.Ytbcifodifadoiaa.mkW

theorem infoB : (Try.prog.info? TB).isSome = true := by kernel_rfl
theorem iB : Try.prog.info? TB = some ((Try.prog.info? TB).get infoB) := by simp
theorem iBs : ((Try.prog.info? TB).get infoB).size = 3 := by kernel_rfl
theorem iBz : ((Try.prog.info? TB).get infoB).zero = some (.agg #[.int .i64 0, .int .i64 0, .slice none 0 0]) := by kernel_rfl
theorem iBb : ((Try.prog.info? TB).get infoB).bytes = 40 := by kernel_rfl
theorem undB : Try.prog.underlying TB = some (.struct (Try.prog.fieldsOf TB)) := by kernel_rfl
theorem sizeB : (Try.prog.info? TB).map (·.size) = some 3 := by kernel_rfl
theorem one3 {k n : Int} {u : Value} (h : u.oneCell' = true) : ∀ x ∈ [.int .i64 k, .int .i64 n, u], Value.oneCell' x = true := by
  intro x hx
  simp only [List.mem_cons, List.not_mem_nil, or_false] at hx
  rcases hx with rfl | rfl | rfl
  · rfl
  · rfl
  · exact h
theorem one1 {z : Int} : ∀ x ∈ [Value.int .i64 z], Value.oneCell' x = true := by intro x hx; rw [List.mem_singleton.1 hx]; rfl
theorem oneI (l : List Int) : ∀ x ∈ l.map iv, Value.oneCell' x = true := by
  intro x hx
  obtain ⟨z, _, rfl⟩ := List.mem_map.1 hx
  rfl
theorem takeS {α : Type} {l : List α} {k : Nat} {x : α} (h : l[k]? = some x) : l.take (k + 1) = l.take k ++ [x] := by rw [List.take_add_one, h]; rfl
theorem things_eq (t : T) : t.things = if t.kind = 1 then [t.n] else thingsL t.subs := by cases t; rw [T.things]; rfl
theorem odd_eq (t : T) : t.odd = (if t.kind = 2 ∨ t.kind = 3 then 1 else 0) + (if t.kind = 1 then 0 else oddL t.subs) := by cases t; rw [T.odd]; rfl
theorem thingsL_app : ∀ a b : List T, thingsL (a ++ b) = thingsL a ++ thingsL b
  | [], b => rfl
  | x :: a, b => by rw [List.cons_append, thingsL, thingsL, thingsL_app a b, List.append_assoc]
theorem thingsL_one (t : T) : thingsL [t] = t.things := by rw [thingsL, thingsL, List.append_nil]
theorem oddL_app : ∀ a b : List T, oddL (a ++ b) = oddL a + oddL b
  | [], b => by rw [List.nil_append, oddL, Nat.zero_add]
  | x :: a, b => by rw [List.cons_append, oddL, oddL, oddL_app a b, Nat.add_assoc]
theorem oddL_one (t : T) : oddL [t] = t.odd := by rw [oddL, oddL, Nat.add_zero]
theorem things_take (ts : List T) (k : Nat) : (thingsL (ts.take k)).length ≤ (thingsL ts).length := by
  have e : thingsL ts = thingsL (ts.take k) ++ thingsL (ts.drop k) := by rw [← thingsL_app, List.take_append_drop]
  rw [e, List.length_append]; omega
theorem odd_take (ts : List T) (k : Nat) : oddL (ts.take k) ≤ oddL ts := by
  have e : oddL ts = oddL (ts.take k) + oddL (ts.drop k) := by rw [← oddL_app, List.take_append_drop]
  omega
theorem ltOwn {w : World} {base : Nat} {e : TypeId} {size n : Nat} {v : Value} {xs : List Value} (h : w.ownsRow base e size v n xs) : ∀ k, v.ownBlock = some k → k < w.heap.size := fun k hk => (h.lt k hk).2
set_option maxRecDepth 100000 in
set_option maxHeartbeats 2000000 in
theorem some_any (w : World) (A : Option Addr) (n c : Nat) (l : List Int) (hl : Nums w A n c l) (hn : n ≤ 1000000) :
    Calls Try.prog 40 #[.slice A n c] w fun e w' => ∃ v, e = .returned v ∧ TsV w' (fun k => w.heap.size ≤ k) v (l.map line) ∧ Grow w w' := by
  have HL := Lib.hid hl
  clear hl
  go_enter Try.func40, Try.ntmps40
  go_wp2_with fail
  go_loopw [3, 5, 8] (fun o' _ k' wr => ∃ (k : Nat) (v : Value) (qs : List (T × Value)), k ≤ n ∧ k' = .int .i64 (k : Int) ∧ v = o' ∧ OwnT wr w.heap.size TB v k qs ∧ qs.map Prod.fst = (l.take k).map line ∧ Grow w wr) (fun _ _ k' _ => n - (intOf k').toNat)
  case atStart => exact ⟨0, _, [], by omega, rfl, rfl, OwnT.nil _ _ _, rfl, Grow.refl w⟩
  case round =>
    obtain ⟨k, v, qs, hk, rfl, rfl, ho, hq, hg⟩ := hrel
    by_cases hlt : k < n
    · obtain ⟨b, off, z, rfl, hx, hcx, hxo⟩ := HL.out.at_ hlt
      have hcx := hg.cell hcx
      have t1 : decide (k < n) = true := decide_eq_true hlt
      have t1' : decide ((k : Int) < (n : Int)) = true := decide_eq_true (by omega)
      have HO := Lib.hid ho
      have HQ := Lib.hid hq
      have HG := Lib.hid hg
      have HX := Lib.hid hx
      have HLT := Lib.hid hlt
      have HHN := Lib.hid hn
      clear ho hq hg hx hxo hk hlt
      go_wp2_with (at_builtin; refine wpList_append_row rfl _ _ _ rfl w.heap.size TB _ _ 3 40 Try.underlying30 iB iBz iBs iBb rfl (by decide) v k (qs.map qcells).flatten rfl (own_grow HO.out.row (Grow.alloc wr (.cells #[.int .i64 1, .int .i64 z, .slice none 0 0] TB))) (some ⟨wr.heap.size, 0, none⟩) 1 1 [.int .i64 1, .int .i64 z, .slice none 0 0] rfl (Row.new wr [.int .i64 1, .int .i64 z, .slice none 0 0] TB (0, 0)) (one3 rfl) (by have := HLT.out; have := HHN.out; unfold maxLen; omega) (by have := HLT.out; have := HHN.out; omega) (Nat.le_trans HG.out.size (Grow.alloc wr (.cells #[.int .i64 1, .int .i64 z, .slice none 0 0] TB)).size) ?_; intro v1 w1 hown1 hgb1 hnb1; obtain ⟨Av, cv, rfl, -, -, -⟩ := own_form hown1)
      have hqn : TsV (wr.alloc (.cells #[.int .i64 1, .int .i64 z, .slice none 0 0] TB)) (fun k => wr.heap.size ≤ k) (.slice none 0 0) (line z).subs := TsV.nil _ _
      have hot := (HO.out.grow (Grow.alloc wr (.cells #[.int .i64 1, .int .i64 z, .slice none 0 0] TB))).app (q := (line z, .slice none 0 0)) hqn HG.out.size (ltOwn HO.out.row) hgb1 hown1 hnb1
      have HOT := Lib.hid hot
      have hgr := grow_by (HG.out.trans (Grow.alloc wr (.cells #[.int .i64 1, .int .i64 z, .slice none 0 0] TB))) hgb1 (own_base HO.out.row)
      have HGR := Lib.hid hgr
      clear hqn hot hgr hown1 hgb1 hnb1
      go_roundw
      case rel =>
        refine ⟨k + 1, _, qs ++ [(line z, .slice none 0 0)], by have := HLT.out; omega, by go_num, rfl, HOT.out, ?_, HGR.out⟩
        rw [List.map_append, HQ.out, takeS HX.out, List.map_append]
        rfl
      case measure => have := HLT.out; simp [intOf] <;> omega
    · obtain rfl : k = n := by omega
      have t1 : decide (k < k) = false := decide_eq_false hlt
      have htv := ho.tsV
      rw [hq, List.take_of_length_le (by rw [HL.out.len]; exact Nat.le_refl _)] at htv
      have HTV := Lib.hid htv
      obtain ⟨Av, cv, rfl, -, -, -⟩ := own_form ho.row
      have HG := Lib.hid hg
      clear ho hq hg htv hk hlt
      go_wp2_with fail
      go_ret
      exact ⟨_, rfl, HTV.out, HG.out⟩
set_option maxRecDepth 100000 in
set_option maxHeartbeats 4000000 in
theorem things_any {w0 : World} {P : Nat → Prop} {v : Value} {ts : List T} (h : TsV w0 P v ts) : ∀ w, Grow w0 w → (thingsL ts).length ≤ 1000000 →
    Calls Try.prog 14 #[v] w fun e w' => ∃ v', e = .returned v' ∧ OwnI w' w.heap.size v' (thingsL ts) ∧ Grow w w' := by
  induction h with
  | mk A n c qs ts he hc hm hr hP hs ih =>
    intro w hw hlen
    unfold maxLen at hm
    have hn : n ≤ 9223372036854775807 := by omega
    have HR := Lib.hid hr
    have HIH := Lib.hid ih
    have HS := Lib.hid hs
    have HE := Lib.hid he
    have HLEN := Lib.hid hlen
    have HW := Lib.hid hw
    have htl : ts.length = n := by rw [he, List.length_map]; exact hr.1
    have HTL := Lib.hid htl
    clear hr ih he hlen hw hs hP hc hm htl
    go_enter Try.func14, Try.ntmps14
    go_wp2_with fail
    go_loopw [3, 5, 8] (fun o' _ k' wr => ∃ (k : Nat) (v : Value), k ≤ n ∧ k' = .int .i64 (k : Int) ∧ v = o' ∧ OwnI wr w.heap.size v (thingsL (ts.take k)) ∧ Grow w wr) (fun _ _ k' _ => n - (intOf k').toNat)
    case atStart => exact ⟨0, _, by omega, rfl, rfl, OwnI.nil _ _, Grow.refl w⟩
    case round =>
      obtain ⟨k, v, hk, rfl, rfl, ho, hg⟩ := hrel
      by_cases hlt : k < n
      · obtain ⟨b, off, q, rfl, hx, hcs⟩ := HR.out.at_ (by decide) hlt
        obtain ⟨t, u⟩ := q
        have hgw := HW.out.trans hg
        have c0 := hgw.cell (hcs 0 _ rfl)
        have c1 := hgw.cell (hcs 1 _ rfl)
        have c2 := hgw.cell (hcs 2 _ rfl)
        dsimp only at c0 c1 c2
        rw [Nat.add_zero] at c0
        have t1 : decide (k < n) = true := decide_eq_true hlt
        have t1' : decide ((k : Int) < (n : Int)) = true := decide_eq_true (by omega)
        have hmem : (t, u) ∈ qs := List.mem_of_getElem? hx
        have hxt : ts[k]? = some t := by rw [HE.out, List.getElem?_map, hx]; rfl
        have hts : thingsL (ts.take (k + 1)) = thingsL (ts.take k) ++ t.things := by rw [takeS hxt, thingsL_app, thingsL_one]
        have hle := things_take ts (k + 1)
        rw [hts, List.length_append] at hle
        obtain ⟨Q, hQ⟩ : ∃ Q, Q = thingsL (ts.take k) := ⟨_, rfl⟩
        rw [← hQ] at ho hts hle
        obtain ⟨lq, hlq⟩ : ∃ lq, lq = Q.length := ⟨_, rfl⟩
        obtain ⟨z, hz⟩ : ∃ z, z = t.n := ⟨_, rfl⟩
        obtain ⟨kd, hkd⟩ : ∃ kd, kd = t.kind := ⟨_, rfl⟩
        rw [← hkd] at c0
        rw [← hz] at c1
        have hi := HIH.out (t, u) hmem
        obtain ⟨A', c', qs', hu, -⟩ := (HS.out (t, u) hmem).form
        dsimp only at hu hi
        subst hu
        obtain ⟨m', hm'⟩ : ∃ m', m' = t.subs.length := ⟨_, rfl⟩
        rw [← hm'] at c2 hi
        obtain ⟨W1, hW1⟩ : ∃ W, W = wr.alloc (.cells #[.int .i64 kd, .int .i64 z, .slice A' m' c'] TB) := ⟨_, rfl⟩
        obtain ⟨b1, hb1⟩ : ∃ b1, b1 = wr.heap.size := ⟨_, rfl⟩
        have hg1 : Grow wr W1 := by rw [hW1]; exact Grow.alloc _ _
        have hbx : Blk W1 b1 TB [.int .i64 kd, .int .i64 z, .slice A' m' c'] := by rw [hW1]; exact Blk.new _ _ _ _ rfl hb1
        have x0 := hbx.cell (i := 0) rfl
        have x1 := hbx.cell (i := 1) rfl
        have x2 := hbx.cell (i := 2) rfl
        have ho1 : W1.ownsRow w.heap.size 3 1 v lq (Q.map iv) := by rw [hlq]; exact ho.grow hg1
        obtain ⟨Av, cv, rfl, -, -, -⟩ := own_form ho1
        have HO1 := Lib.hid ho1
        have HG1 := Lib.hid (hg.trans hg1)
        have HGW := Lib.hid (hgw.trans hg1)
        have HTS := Lib.hid hts
        have HLE := Lib.hid (Nat.le_trans hle HLEN.out)
        have HLT := Lib.hid hlt
        have HLQ := Lib.hid hlq
        have HW1 := Lib.hid hW1
        have HB1 := Lib.hid hb1
        have HI := Lib.hid hi
        have HKD := Lib.hid hkd
        have HZ := Lib.hid hz
        clear ho hg hgw hts hle hmem hlt hlq hx hxt hcs hk hQ hz hkd hi hm' hW1 hb1 hg1 hbx ho1
        try dsimp only
        repeat (first | with_reducible (refine wp_region_cut (k := 5) ?_) | go_values | go_guarded | go_step | go_upon | go_back)
        rw [← HW1.out, ← HB1.out]
        clear c0 c1 c2
        unfold Cut
        by_cases hk1 : kd = 1
        · have s1 : (kd == 1) = true := by rw [hk1]; rfl
          have hth : t.things = [z] := by rw [things_eq, ← HKD.out, if_pos hk1, HZ.out]
          have HTH := Lib.hid hth
          clear hk1 hth
          go_wp2_with (at_builtin; refine wpList_append_row rfl _ _ _ rfl w.heap.size 3 _ _ 1 8 Try.underlying23 iI iIz iIs iIb rfl (by decide) (.slice Av lq cv) lq (Q.map iv) rfl (own_grow HO1.out (Grow.alloc W1 (.cells #[.int .i64 z] 3))) (some ⟨W1.heap.size, 0, none⟩) 1 1 [.int .i64 z] rfl (Row.new W1 [.int .i64 z] 3 (0, 0)) one1 (by have h1 := HLE.out; rw [HTH.out, ← HLQ.out] at h1; simp only [List.length_singleton] at h1; unfold maxLen; omega) (by have h1 := HLE.out; rw [HTH.out, ← HLQ.out] at h1; simp only [List.length_singleton] at h1; omega) (Nat.le_trans HG1.out.size (Grow.alloc W1 (.cells #[.int .i64 z] 3)).size) ?_; intro v1 w1 hown1 hgb1 hnb1; obtain ⟨Aw, cw, rfl, -, -, -⟩ := own_form hown1)
          have hoi : OwnI w1 w.heap.size (.slice Aw (lq + 1) cw) (Q ++ [z]) := OwnI.next (m := [z]) (by rw [HLQ.out]; rfl) hown1
          have hgr := grow_by (HG1.out.trans (Grow.alloc W1 (.cells #[.int .i64 z] 3))) hgb1 (own_base HO1.out)
          have HOI := Lib.hid hoi
          have HGR := Lib.hid hgr
          clear hown1 hgb1 hnb1 hoi hgr
          go_roundw
          case rel => exact ⟨k + 1, _, by have := HLT.out; omega, by go_num, rfl, by rw [HTS.out, HTH.out]; exact HOI.out, HGR.out⟩
          case measure => have := HLT.out; simp [intOf] <;> omega
        · have s1 : (kd == 1) = false := beq_false_of_ne hk1
          have hth : t.things = thingsL t.subs := by rw [things_eq, ← HKD.out, if_neg hk1]
          have HTH := Lib.hid hth
          have HCA := Lib.hid (HI.out W1 HGW.out (by have h1 := HLE.out; rw [hth] at h1; omega))
          clear hk1 hth
          go_wp2_with fail
          refine HCA.out.mono ?_
          rintro e w2 ⟨v2, rfl, ho2, hg2⟩
          obtain ⟨A2, d2, rfl, -, -, hr2⟩ := ho2.form
          obtain ⟨S, hS⟩ : ∃ S, S = thingsL t.subs := ⟨_, rfl⟩
          obtain ⟨ls, hls⟩ : ∃ ls, ls = S.length := ⟨_, rfl⟩
          rw [← hS, ← hls] at hr2
          rw [← hS, ← hls]
          have hle2 : lq + ls ≤ 1000000 := by have h1 := HLE.out; rw [HTH.out, ← HLQ.out, ← hS, ← hls] at h1; exact h1
          have HR2 := Lib.hid hr2
          have HG2 := Lib.hid hg2
          have HSS := Lib.hid hS
          have HLS := Lib.hid hls
          have HLE2 := Lib.hid hle2
          have HGG2 := Lib.hid (HG1.out.trans hg2)
          clear ho2 hg2 hr2 hS hls hle2 HCA
          go_wp2_with (at_builtin; refine wpList_append_row rfl _ _ _ rfl w.heap.size 3 _ _ 1 8 Try.underlying23 iI iIz iIs iIb rfl (by decide) (.slice Av lq cv) lq (Q.map iv) rfl (own_grow HO1.out HG2.out) A2 ls d2 (S.map iv) rfl (by rw [Nat.mul_one]; exact HR2.out) (oneI S) (by have := HLE2.out; unfold maxLen; omega) (by have := HLE2.out; omega) HGG2.out.size ?_; intro v1 w1 hown1 hgb1 hnb1; obtain ⟨Aw, cw, rfl, -, -, -⟩ := own_form hown1)
          have hoi : OwnI w1 w.heap.size (.slice Aw (lq + ls) cw) (Q ++ S) := OwnI.next (by rw [HLQ.out, HLS.out]) hown1
          have hgr := grow_by HGG2.out hgb1 (own_base HO1.out)
          have HOI := Lib.hid hoi
          have HGR := Lib.hid hgr
          clear hown1 hgb1 hnb1 hoi hgr
          go_roundw
          case rel => exact ⟨k + 1, _, by have := HLT.out; omega, by go_num, rfl, by rw [HTS.out, HTH.out, ← HSS.out]; exact HOI.out, HGR.out⟩
          case measure => have := HLT.out; simp [intOf] <;> omega
      · obtain rfl : k = n := by omega
        have t1 : decide (k < k) = false := decide_eq_false hlt
        rw [List.take_of_length_le (by rw [HTL.out]; exact Nat.le_refl _)] at ho
        have HO := Lib.hid ho
        have HG := Lib.hid hg
        obtain ⟨Av, cv, rfl, -⟩ := ho.form
        clear ho hg hk hlt
        go_wp2_with fail
        go_ret
        exact ⟨_, rfl, HO.out, HG.out⟩
set_option maxRecDepth 100000 in
set_option maxHeartbeats 4000000 in
theorem odd_any {w0 : World} {P : Nat → Prop} {v : Value} {ts : List T} (h : TsV w0 P v ts) : ∀ w, Grow w0 w → oddL ts ≤ 1000000 →
    Calls Try.prog 16 #[v] w fun e w' => e = .returned (.int .i64 (oddL ts : Int)) ∧ Grow w w' := by
  induction h with
  | mk A n c qs ts he hc hm hr hP hs ih =>
    intro w hw hlen
    unfold maxLen at hm
    have hn : n ≤ 9223372036854775807 := by omega
    have HR := Lib.hid hr
    have HIH := Lib.hid ih
    have HS := Lib.hid hs
    have HE := Lib.hid he
    have HLEN := Lib.hid hlen
    have HW := Lib.hid hw
    have htl : ts.length = n := by rw [he, List.length_map]; exact hr.1
    have HTL := Lib.hid htl
    obtain ⟨z, hz⟩ : ∃ z, z = oddL ts := ⟨_, rfl⟩
    rw [← hz]
    have HZ := Lib.hid hz
    clear hr ih he hlen hw hs hP hc hm htl hz
    go_enter Try.func16, Try.ntmps16
    go_wp2_with fail
    go_loopw [3, 5, 8] (fun o' _ k' wr => ∃ (k m : Nat), k ≤ n ∧ k' = .int .i64 (k : Int) ∧ o' = .int .i64 (m : Int) ∧ m = oddL (ts.take k) ∧ Grow w wr) (fun _ _ k' _ => n - (intOf k').toNat)
    case atStart => exact ⟨0, 0, by omega, rfl, rfl, rfl, Grow.refl w⟩
    case round =>
      obtain ⟨k, m, hk, rfl, rfl, ho, hg⟩ := hrel
      by_cases hlt : k < n
      · obtain ⟨b, off, q, rfl, hx, hcs⟩ := HR.out.at_ (by decide) hlt
        obtain ⟨t, u⟩ := q
        have hgw := HW.out.trans hg
        have c0 := hgw.cell (hcs 0 _ rfl)
        have c1 := hgw.cell (hcs 1 _ rfl)
        have c2 := hgw.cell (hcs 2 _ rfl)
        dsimp only at c0 c1 c2
        rw [Nat.add_zero] at c0
        have t1 : decide (k < n) = true := decide_eq_true hlt
        have t1' : decide ((k : Int) < (n : Int)) = true := decide_eq_true (by omega)
        have hmem : (t, u) ∈ qs := List.mem_of_getElem? hx
        have hxt : ts[k]? = some t := by rw [HE.out, List.getElem?_map, hx]; rfl
        have hts : oddL (ts.take (k + 1)) = oddL (ts.take k) + t.odd := by rw [takeS hxt, oddL_app, oddL_one]
        have hle := odd_take ts (k + 1)
        rw [hts, ← ho] at hle
        rw [← ho] at hts
        obtain ⟨kd, hkd⟩ : ∃ kd, kd = t.kind := ⟨_, rfl⟩
        rw [← hkd] at c0
        have hi := HIH.out (t, u) hmem
        obtain ⟨A', c', qs', hu, -⟩ := (HS.out (t, u) hmem).form
        dsimp only at hu hi
        subst hu
        obtain ⟨m', hm'⟩ : ∃ m', m' = t.subs.length := ⟨_, rfl⟩
        rw [← hm'] at c2 hi
        obtain ⟨W1, hW1⟩ : ∃ W, W = wr.alloc (.cells #[.int .i64 kd, .int .i64 t.n, .slice A' m' c'] TB) := ⟨_, rfl⟩
        obtain ⟨b1, hb1⟩ : ∃ b1, b1 = wr.heap.size := ⟨_, rfl⟩
        have hg1 : Grow wr W1 := by rw [hW1]; exact Grow.alloc _ _
        have hbx : Blk W1 b1 TB [.int .i64 kd, .int .i64 t.n, .slice A' m' c'] := by rw [hW1]; exact Blk.new _ _ _ _ rfl hb1
        have x0 := hbx.cell (i := 0) rfl
        have x2 := hbx.cell (i := 2) rfl
        have HG1 := Lib.hid (hg.trans hg1)
        have HGW := Lib.hid (hgw.trans hg1)
        have HTS := Lib.hid hts
        have HLE := Lib.hid (Nat.le_trans hle HLEN.out)
        have HLT := Lib.hid hlt
        have HW1 := Lib.hid hW1
        have HB1 := Lib.hid hb1
        have HI := Lib.hid hi
        have hle2 : m ≤ 1000000 := by have := HLE.out; omega
        have hod := odd_eq t
        rw [← hkd] at hod
        have HOD := Lib.hid hod
        clear ho hg hgw hts hle hmem hlt hx hxt hcs hk hkd hi hm' hW1 hb1 hg1 hbx hod
        try dsimp only
        repeat (first | with_reducible (refine wp_region_cut (k := 5) ?_) | go_values | go_guarded | go_step | go_upon | go_back)
        rw [← HW1.out, ← HB1.out]
        clear c0 c1 c2
        unfold Cut
        by_cases hk1 : kd = 1
        · subst hk1
          have hto : t.odd = 0 := by rw [HOD.out]; rfl
          have HTO := Lib.hid hto
          clear hto
          go_wp2_with fail
          go_roundw
          case rel => exact ⟨k + 1, m, by have := HLT.out; omega, by go_num, rfl, by rw [HTS.out, HTO.out, Nat.add_zero], HG1.out⟩
          case measure => have := HLT.out; simp [intOf] <;> omega
        · have s1 : (kd == 1) = false := beq_false_of_ne hk1
          have s1' : (kd != 1) = true := bne_iff_ne.2 hk1
          rw [if_neg hk1] at HOD
          have hsb : oddL t.subs ≤ 1000000 := by have h1 := HLE.out; have h2 := HOD.out; omega
          have HCA := Lib.hid (HI.out W1 HGW.out hsb)
          obtain ⟨os, hos⟩ : ∃ os, os = oddL t.subs := ⟨_, rfl⟩
          rw [← hos] at HCA HOD
          have hq : (kd == 2 || kd == 3) = true ∨ ((kd == 2) = false ∧ (kd == 3) = false) := by
            cases h2 : kd == 2
            · cases h3 : kd == 3
              · exact .inr ⟨rfl, rfl⟩
              · exact .inl rfl
            · exact .inl rfl
          by_cases hk2 : kd = 2 ∨ kd = 3
          · have hto : t.odd = 1 + os := by rw [HOD.out, if_pos hk2]
            have hle3 : m + 1 + os ≤ 1000000 := by have h1 := HLE.out; omega
            have HTO := Lib.hid hto
            clear hto hq hsb hos hk1
            rcases hk2 with rfl | rfl
            all_goals
              go_wp2_with fail
              refine HCA.out.mono ?_
              rintro e w2 ⟨rfl, hg2⟩
              have HG2 := Lib.hid (HG1.out.trans hg2)
              clear hg2
              go_wp2_with fail
              go_roundw
              case rel => exact ⟨k + 1, m + 1 + os, by have := HLT.out; omega, by go_num, by go_num, by rw [HTS.out, HTO.out, Nat.add_assoc], HG2.out⟩
              case measure => have := HLT.out; simp [intOf] <;> omega
          · have hto : t.odd = os := by rw [HOD.out, if_neg hk2, Nat.zero_add]
            have hle3 : m + os ≤ 1000000 := by have h1 := HLE.out; omega
            have HTO := Lib.hid hto
            obtain ⟨s2, s3⟩ : (kd == 2) = false ∧ (kd == 3) = false := ⟨beq_false_of_ne fun h => hk2 (.inl h), beq_false_of_ne fun h => hk2 (.inr h)⟩
            clear hto hq hsb hos hk1 hk2
            go_wp2_with fail
            refine HCA.out.mono ?_
            rintro e w2 ⟨rfl, hg2⟩
            have HG2 := Lib.hid (HG1.out.trans hg2)
            clear hg2
            go_wp2_with fail
            go_roundw
            case rel => exact ⟨k + 1, m + os, by have := HLT.out; omega, by go_num, by go_num, by rw [HTS.out, HTO.out], HG2.out⟩
            case measure => have := HLT.out; simp [intOf] <;> omega
      · obtain rfl : k = n := by omega
        have t1 : decide (k < k) = false := decide_eq_false hlt
        rw [List.take_of_length_le (by rw [HTL.out]; exact Nat.le_refl _), ← HZ.out] at ho
        subst ho
        have HG := Lib.hid hg
        clear hg hk hlt
        go_wp2_with fail
        go_ret
        exact ⟨rfl, HG.out⟩
end Go.Proofs.Ytbcifodifadoiaa.bk
