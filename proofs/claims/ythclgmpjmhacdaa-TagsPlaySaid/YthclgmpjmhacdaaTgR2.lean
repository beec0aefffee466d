/- The document's tags: without, Drop, Set. -/
import Derived.Test.YthclgmpjmhacdaaTgR
namespace Go.Proofs.Ythclgmpjmhacdaa.tg
open Go Go.RowKit Go.Par Go.Kit Go.Maps

theorem infoT : (Try.prog.info? TRT).isSome = true := by kernel_rfl
theorem iT : Try.prog.info? TRT = some ((Try.prog.info? TRT).get infoT) := by simp
theorem iTs : ((Try.prog.info? TRT).get infoT).size = 65 := by kernel_rfl
theorem iTz : ((Try.prog.info? TRT).get infoT).zero = some (.agg (.string ⟨#[]⟩ :: List.replicate 64 (.int .u16 0)).toArray) := by kernel_rfl
theorem iTb : ((Try.prog.info? TRT).get infoT).bytes = 144 := by kernel_rfl
theorem run_build_rt (w : World) (q : ByteArray) (cs : List Value) (hl : cs.length = 64) : (Instr.build TRT #[(0, .string q), (1, .agg cs.toArray)]).run Try.prog w = .ok (.agg (.string q :: cs).toArray) w := run_build_of TRT (Try.prog.fieldsOf TRT) (by kernel_rfl) (fun w => by kernel_rfl) (fun w => by kernel_rfl) w q cs hl
theorem run_bslice_rt (w : World) (row : List Value) (hl : row.length = 65) : (Instr.buildSlice 28 1 #[(0, .agg row.toArray)]).run Try.prog w = .ok (.slice (some ⟨w.heap.size, 0, none⟩) 1 1) (w.alloc (.cells row.toArray TRT)) := run_bslice_of 28 TRT (by kernel_rfl) (fun w => by kernel_rfl) (fun w => by kernel_rfl) w row hl
/-- a value is the slice of these tags -/
def RT (w : World) (v : Value) (L : List Tag) : Prop := ∃ A c, v = .slice A L.length c ∧ L.length ≤ c ∧ c ≤ maxLen ∧ Row w A (L.length * 65) (trows L)
theorem RT.grow {w w' : World} {v : Value} {L : List Tag} (h : RT w v L) (hg : Grow w w') : RT w' v L := let ⟨A, c, e, h1, h2, h3⟩ := h; ⟨A, c, e, h1, h2, h3.grow hg⟩
theorem RT.nil (w : World) : RT w (.slice none 0 0) [] := ⟨none, 0, rfl, Nat.le_refl _, Nat.zero_le _, Row.nil w none⟩
theorem RT.own {w : World} {B n : Nat} {v : Value} {L : List Tag} {xs : List Value} (h : w.ownsRow B TRT 65 v n xs) (hx : xs = trows L) (hn : n = L.length) : RT w v L := by
  subst hx hn
  obtain ⟨A, c, rfl, h1, h2, h3⟩ := own_form h
  exact ⟨A, c, rfl, h1, h2, h3⟩
theorem row_one {t : Tag} (h : VecOk t.2) : ∀ u ∈ trow t, u.oneCell' = true := fun u hu => by
  unfold trow at hu
  rcases List.mem_cons.1 hu with rfl | hu
  · rfl
  · exact (List.all_eq_true.1 (ints_ok h).2) u hu
theorem rows_one {L : List Tag} (h : ∀ t ∈ L, VecOk t.2) : ∀ u ∈ trows L, u.oneCell' = true := fun u hu => by
  unfold trows at hu
  obtain ⟨r, hr, hu⟩ := List.mem_flatten.1 hu
  obtain ⟨t, ht, rfl⟩ := List.mem_map.1 hr
  exact row_one (h t ht) u hu
theorem del_step {L : List Tag} {s : List UInt8} {k : Nat} {t : Tag} (h : L[k]? = some t) : delT (L.take (k + 1)) s = if t.1 = s then delT (L.take k) s else delT (L.take k) s ++ [t] := by
  obtain ⟨hk, rfl⟩ := List.getElem?_eq_some_iff.1 h
  unfold delT
  rw [List.take_succ_eq_append_getElem hk, List.filter_append]
  by_cases e : L[k].1 = s
  · rw [if_pos e, List.filter_cons_of_neg (by simp [e])]; simp
  · rw [if_neg e, List.filter_cons_of_pos (by simp [e])]; simp
theorem trows_snoc (L : List Tag) (t : Tag) : trows (L ++ [t]) = trows L ++ trow t := by simp [trows]
theorem trows_len {L : List Tag} (h : ∀ t ∈ L, VecOk t.2) : (trows L).length = L.length * 65 := by
  unfold trows
  rw [flatten_len (S := 65) _ (fun r hr => by obtain ⟨t, ht, rfl⟩ := List.mem_map.1 hr; exact trow_len (h t ht)), List.length_map]
theorem del_take_len (L : List Tag) (s : List UInt8) (k : Nat) : (delT (L.take k) s).length ≤ L.length := by
  unfold delT
  refine Nat.le_trans (List.length_filter_le _ _) ?_
  rw [List.length_take]
  omega
def WoI (W w : World) (L : List Tag) (s : List UInt8) (k : Nat) (v : Value) (m : Nat) (xs : List Value) : Prop := w.ownsRow W.heap.size TRT 65 v m xs ∧ xs = trows (delT (L.take k) s) ∧ m = (delT (L.take k) s).length ∧ Grow W w
set_option maxRecDepth 100000 in
set_option maxHeartbeats 2000000 in
theorem without_any (w : World) (A : Option Addr) (c : Nat) (L : List Tag) (hr : Row w A (L.length * 65) (trows L)) (hv : ∀ t ∈ L, VecOk t.2) (hm : L.length ≤ 1000) (s : List UInt8) :
    Calls Try.prog 42 #[.slice A L.length c, .string (str s)] w fun e w' => ∃ v, e = .returned v ∧ RT w' v (delT L s) ∧ Grow w w' := by
  obtain ⟨l, hl⟩ : ∃ l, l = L.length := ⟨_, rfl⟩
  obtain ⟨q, hq⟩ : ∃ q, q = str s := ⟨_, rfl⟩
  have HROW := Lib.hid hr
  rw [← hl] at hm
  rw [← hl, ← hq]
  have HQ := Lib.hid hq
  have HL := Lib.hid hl
  have HV := Lib.hid hv
  clear hr hv hl hq
  go_enter Try.func42, Try.ntmps42
  go_wp2_with fail
  go_loopw [5, 6] (fun o' k' wr => ∃ (k m : Nat) (v : Value) (xs : List Value), k ≤ l ∧ k' = .int .i64 (k : Int) ∧ v = o' ∧ WoI w wr L s k v m xs) (fun _ k' _ => l - (intOf k').toNat)
  case atStart => exact ⟨0, 0, _, [], by omega, rfl, rfl, World.ownsRow_nil _ _ _ _, by simp [delT, trows], by simp [delT], Grow.refl _⟩
  case round =>
    obtain ⟨k, m, v, xs, hk, rfl, rfl, hI⟩ := hrel
    obtain ⟨wa, rfl⟩ : ∃ wa, wa = wr := ⟨_, rfl⟩
    have HI := Lib.hid hI
    obtain ⟨A5, c5, rfl, -⟩ := own_form hI.1
    have hm5 : m ≤ l := by rw [hI.2.2.1, HL.out]; exact del_take_len L s k
    clear hI
    by_cases hlt : k < l
    · have t1 : decide (k < l) = true := decide_eq_true hlt
      have t1' : decide ((k : Int) < (l : Int)) = true := decide_eq_true (by omega)
      obtain ⟨t, ht⟩ : ∃ t, L[k]? = some t := ⟨_, List.getElem?_eq_getElem (by rw [← HL.out]; exact hlt)⟩
      obtain ⟨b, off, rfl, hc⟩ := rt_at (HROW.out.grow HI.out.2.2.2) HV.out ht
      have y0 : wa.cell? ⟨b, off + k * 65, none⟩ = some (.string (str t.1)) := hc 0 _ rfl
      obtain ⟨q2, hq2⟩ : ∃ q, q = str t.1 := ⟨_, rfl⟩
      rw [← hq2] at y0
      have he : (q2.toList == q.toList) = (t.1 == s) := by
        rw [hq2, HQ.out, show (str t.1).toList = t.1 from ByteArray.toList_mk _, show (str s).toList = s from ByteArray.toList_mk _]
      have hvk := HV.out t (List.mem_of_getElem? ht)
      have hr1 := row_one hvk
      have hrl := trow_len hvk
      have hst := del_step (s := s) ht
      obtain ⟨row, hrow⟩ : ∃ row, row = trow t := ⟨_, rfl⟩
      rw [← hrow] at hc hr1 hrl
      have HT := Lib.hid ht
      have HC := Lib.hid hc
      have HLT := Lib.hid hlt
      have HRW := Lib.hid hrow
      have HR1 := Lib.hid hr1
      have HRL := Lib.hid hrl
      have HST := Lib.hid hst
      have HS4 : Hid (w.heap.size ≤ wa.heap.size) := Lib.hid HI.out.2.2.2.size
      have HK : Hid (k < l ∧ m ≤ l ∧ l ≤ 1000) := Lib.hid ⟨hlt, hm5, hm⟩
      have hk9 : k < l := hlt
      clear hk ht hc hq2 hlt hrow hr1 hrl hvk hst hm5
      by_cases e : t.1 = s
      · have s1 : (q2.toList == q.toList) = true := by rw [he, e]; exact beq_self_eq_true _
        have HE := Lib.hid e
        clear he e
        go_wp2_with fail
        go_roundw
        case rel =>
          have hi := HI.out
          have hs := HST.out
          rw [if_pos HE.out] at hs
          exact ⟨k + 1, m, _, xs, by have := HLT.out; omega, by go_num, rfl, hi.1, by rw [hs]; exact hi.2.1, by rw [hs]; exact hi.2.2.1, hi.2.2.2⟩
        case measure => have := HLT.out; simp [intOf] <;> omega
      · have s1 : (q2.toList == q.toList) = false := by rw [he]; exact beq_false_of_ne e
        have HE := Lib.hid e
        have hbs := run_bslice_rt wa row HRL.out
        clear he e
        go_wp2_with (first | (refine load_cells rfl _ _ rfl b (off + k * 65) rfl row _ HC.out undRT rfl (by rw [sizeRT, HRL.out]) ?_) | (refine wpList_bslice1 rfl _ _ rfl (.agg row.toArray) _ rfl hbs ?_) | (at_builtin; refine wpList_append_row rfl _ _ _ rfl w.heap.size TRT _ _ 65 144 Try.underlying28 iT iTz iTs iTb rfl (by decide) (.slice A5 m c5) m xs rfl (own_grow HI.out.1 (Grow.alloc wa (.cells row.toArray TRT))) (some ⟨wa.heap.size, 0, none⟩) 1 1 row rfl (by have := Row.new wa row TRT (0, 0); rw [HRL.out] at this; exact this) HR1.out (by have := HK.out; unfold maxLen; omega) (by have := HK.out; omega) (Nat.le_trans HS4.out (Grow.alloc wa (.cells row.toArray TRT)).size) ?_; intro v1 w1 hown1 hgb1 _; obtain ⟨Av, cv, rfl, -, -, -⟩ := own_form hown1))
        have hni : WoI w w1 L s (k + 1) (.slice Av (m + 1) cv) (m + 1) (xs ++ row) := by
          have hi := HI.out
          have hs := HST.out
          rw [if_neg HE.out] at hs
          refine ⟨hown1, ?_, ?_, grow_by (hi.2.2.2.trans (Grow.alloc wa (.cells row.toArray TRT))) hgb1 fun k' hk' => own_base hi.1 k' hk'⟩
          · rw [hs, trows_snoc, hi.2.1, HRW.out]
          · rw [hs, List.length_append, ← hi.2.2.1]; rfl
        have HNI := Lib.hid hni
        clear hown1 hgb1 hni hbs y0
        go_roundw
        case rel => exact ⟨k + 1, m + 1, _, _, by have := HLT.out; omega, by go_num, rfl, HNI.out⟩
        case measure => have := HLT.out; simp [intOf] <;> omega
    · obtain rfl : k = l := by omega
      have t1 : decide (k < k) = false := decide_eq_false hlt
      have HEND : Hid (RT wa (.slice A5 m c5) (delT L s) ∧ Grow w wa) := Lib.hid (by
        obtain ⟨q1, q2, q3, q4⟩ := HI.out
        have e : L.take k = L := List.take_of_length_le (by rw [HL.out]; omega)
        rw [e] at q2 q3
        exact ⟨RT.own q1 q2 q3, q4⟩)
      clear hk hlt
      go_wp2_with fail
      go_ret
      exact ⟨_, rfl, HEND.out⟩
set_option maxRecDepth 100000 in
set_option maxHeartbeats 2000000 in
theorem rdrop_any (w : World) (v : Value) (L : List Tag) (hr : RT w v L) (hv : ∀ t ∈ L, VecOk t.2) (hm : L.length ≤ 1000) (s : List UInt8) :
    Calls Try.prog 15 #[v, .string (str s)] w fun e w' => (∃ v', e = .returned (.tuple #[v', .int .i64 (dropE L s)]) ∧ RT w' v' (delT L s)) ∧ Grow w w' := by
  obtain ⟨A, c, rfl, hc1, hc2, hrow⟩ := hr
  have hvg : VecOk (getT L s) := by
    cases h : hasT L s with
    | false => rw [getT_no h]; exact vec_zero
    | true => exact hv _ (getT_yes h)
  have HG := Lib.hid (rget_any w A c L hrow hv hm s)
  have HWO : Hid (∀ w1, Grow w w1 → Calls Try.prog 42 #[.slice A L.length c, .string (str s)] w1 fun e w' => ∃ v, e = .returned v ∧ RT w' v (delT L s) ∧ Grow w1 w') := Lib.hid fun w1 hg => without_any w1 A c L (hrow.grow hg) hv hm s
  obtain ⟨l, hl⟩ : ∃ l, l = L.length := ⟨_, rfl⟩
  obtain ⟨q, hq⟩ : ∃ q, q = str s := ⟨_, rfl⟩
  obtain ⟨y, hy⟩ : ∃ y, y = hasT L s := ⟨_, rfl⟩
  obtain ⟨er, her⟩ : ∃ er, er = dropE L s := ⟨_, rfl⟩
  obtain ⟨cs, hcs⟩ : ∃ cs, cs = ints .u16 (getT L s) := ⟨_, rfl⟩
  have hio := ints_ok hvg
  have HSAME : Hid (∀ w1, Grow w w1 → y = false → RT w1 (.slice A l c) (delT L s)) := Lib.hid fun w1 hg h => by
    rw [delT_id (hy.symm.trans h), hl]
    exact ⟨A, c, rfl, hc1, hc2, hrow.grow hg⟩
  unfold vv at HG
  rw [← hl, ← hq, ← hy, ← hcs] at HG
  rw [← hl, ← hq] at HWO
  rw [← hl, ← hq, ← her]
  have HER : Hid (er = if y then 0 else 6) := Lib.hid (by rw [her, hy]; rfl)
  rw [← hcs] at hio
  have HIO := Lib.hid hio
  clear hl hq hy her hcs hio hvg hrow hc1 hc2 hv hm
  go_enter Try.func15, Try.ntmps15
  go_wp2_with fail
  refine HG.out.mono ?_
  rintro e w1 ⟨rfl, hg1⟩
  have HG1 := Lib.hid hg1
  clear hg1 HG
  try dsimp only
  repeat (first | with_reducible (refine wp_region_cut (k := 2) ?_) | (refine store_blk rfl _ _ _ rfl w1.heap.size cs rfl rfl TV _ (Blk.new _ _ _ _ rfl rfl) (by rw [sizeV, HIO.out.1]) HIO.out.1.symm HIO.out.2 ?_) | go_values | go_guarded | go_step | go_upon | go_back)
  unfold Cut
  refine wp_named ?_
  intro W2 hW2
  have hg2 : Grow w W2 := by rw [hW2]; exact Grow.setRow (HG1.out.trans (Grow.alloc _ _)) (HG1.out.size) _
  have HG2 := Lib.hid hg2
  clear hW2 hg2
  cases y
  · have he : er = 6 := HER.out
    subst he
    go_wp2_with fail
    go_ret2
    exact ⟨⟨_, rfl, HSAME.out W2 HG2.out trivial⟩, HG2.out⟩
  · have he : er = 0 := HER.out
    subst he
    go_wp2_with fail
    refine (HWO.out W2 HG2.out).mono ?_
    rintro e w3 ⟨v3, rfl, h3, hg3⟩
    have HEND : Hid (RT w3 v3 (delT L s) ∧ Grow w w3) := Lib.hid ⟨h3, HG2.out.trans hg3⟩
    obtain ⟨A3, c3, rfl, -, -, -⟩ := h3
    clear hg3
    go_wp2_with fail
    go_ret2
    exact ⟨⟨_, rfl, HEND.out.1⟩, HEND.out.2⟩
theorem cut_while {D : List Tag} {p : Tag → Bool} {k : Nat} (hk : k ≤ D.length) (h1 : ∀ (j : Nat) (u : Tag), j < k → D[j]? = some u → p u = true) (h2 : k = D.length ∨ ∃ u, D[k]? = some u ∧ p u = false) :
    D.takeWhile p = D.take k ∧ D.dropWhile p = D.drop k := by
  induction D generalizing k with
  | nil => simp
  | cons a r ih =>
    cases k with
    | zero =>
      rcases h2 with h2 | ⟨u, hu, hp⟩
      · simp at h2
      · simp at hu; subst hu; simp [hp]
    | succ k =>
      have h0 := h1 0 a (by omega) rfl
      have := ih (k := k) (by simpa using hk) (fun j u hj hu => h1 (j + 1) u (by omega) (by simpa using hu)) (by
        rcases h2 with h2 | ⟨u, hu, hp⟩
        · exact .inl (by simpa using h2)
        · exact .inr ⟨u, by simpa using hu, hp⟩)
      simp [h0, this.1, this.2]
theorem trows_drop {L : List Tag} (h : ∀ t ∈ L, VecOk t.2) {k : Nat} : (trows L).drop (k * 65) = trows (L.drop k) := by
  rcases Nat.lt_or_ge k L.length with hk | hk
  · have e : trows L = trows (L.take k) ++ trows (L.drop k) := by
      unfold trows
      rw [← List.flatten_append, ← List.map_append, List.take_append_drop]
    have hl : (trows (L.take k)).length = k * 65 := by
      rw [trows_len fun t ht => h t (List.mem_of_mem_take ht), List.length_take]
      congr 1
      omega
    rw [e, ← hl, List.drop_left]
  · rw [List.drop_of_length_le hk, List.drop_of_length_le (by rw [trows_len h]; exact Nat.mul_le_mul_right _ hk)]
    rfl
def InI (W w : World) (D : List Tag) (k : Nat) (v : Value) (xs : List Value) : Prop := w.ownsRow W.heap.size TRT 65 v k xs ∧ xs = trows (D.take k) ∧ Grow W w
theorem trow_mk (s : List UInt8) (v : List Int) : Value.string (str s) :: ints .u16 v = trow (s, v) := rfl
set_option maxRecDepth 100000 in
set_option maxHeartbeats 4000000 in
theorem rset_any (w : World) (v : Value) (L : List Tag) (hr : RT w v L) (hv : ∀ t ∈ L, VecOk t.2) (hm : L.length ≤ 1000) (s : List UInt8) (hs : s.length ≤ maxLen) (x : List Int) (hx : VecOk x) :
    Calls Try.prog 13 #[v, .string (str s), vv x] w fun e w' => (∃ v', e = .returned (.tuple #[v', .int .i64 (setE L s x)]) ∧ RT w' v' (if setE L s x = 0 then setT L s x else L)) ∧ Grow w w' := by
  obtain ⟨A, c, rfl, hc1, hc2, hrow⟩ := hr
  have hvg : VecOk (getT L s) := by
    cases h : hasT L s with
    | false => rw [getT_no h]; exact vec_zero
    | true => exact hv _ (getT_yes h)
  have HRT : Hid (∀ w1, Grow w w1 → RT w1 (.slice A L.length c) L) := Lib.hid fun w1 hg => ⟨A, c, rfl, hc1, hc2, hrow.grow hg⟩
  have HNA : Hid (∀ w1, Calls Try.prog 35 #[.string (str s)] w1 fun e w' => e = .returned (.bool (nameB s)) ∧ w1 = w') := Lib.hid fun w1 => rname_any w1 s hs
  have HGO : Hid (∀ w1, Calls Try.prog 41 #[vv x] w1 fun e w' => e = .returned (.bool (goodV x)) ∧ Grow w1 w') := Lib.hid fun w1 => rgood_any w1 x hx
  have HGE : Hid (∀ w1, Grow w w1 → Calls Try.prog 18 #[.slice A L.length c, .string (str s)] w1 fun e w' => e = .returned (.tuple #[vv (getT L s), .bool (hasT L s)]) ∧ Grow w1 w') := Lib.hid fun w1 hg => rget_any w1 A c L (hrow.grow hg) hv hm s
  have HWO : Hid (∀ w1, Grow w w1 → Calls Try.prog 42 #[.slice A L.length c, .string (str s)] w1 fun e w' => ∃ v, e = .returned v ∧ RT w' v (delT L s) ∧ Grow w1 w') := Lib.hid fun w1 hg => without_any w1 A c L (hrow.grow hg) hv hm s
  have hE : setE L s x = if nameB s then (if goodV x then (if hasT L s || decide (L.length < 32) then 0 else 11) else 1) else 4 := rfl
  have hdl : (delT L s).length ≤ 1000 := Nat.le_trans (List.length_filter_le _ _) hm
  have hdv : ∀ t ∈ delT L s, VecOk t.2 := fun t ht => hv t (mem_del ht).2
  have hST : setT L s x = (delT L s).takeWhile (fun t => decide (t.1 < s)) ++ (s, x) :: (delT L s).dropWhile (fun t => decide (t.1 < s)) := rfl
  obtain ⟨er, her⟩ : ∃ er, er = setE L s x := ⟨_, rfl⟩
  obtain ⟨D, hD⟩ : ∃ D, D = delT L s := ⟨_, rfl⟩
  obtain ⟨l, hl⟩ : ∃ l, l = L.length := ⟨_, rfl⟩
  obtain ⟨q, hq⟩ : ∃ q, q = str s := ⟨_, rfl⟩
  obtain ⟨y, hy⟩ : ∃ y, y = hasT L s := ⟨_, rfl⟩
  obtain ⟨b1, hb1⟩ : ∃ b, b = nameB s := ⟨_, rfl⟩
  obtain ⟨b2, hb2⟩ : ∃ b, b = goodV x := ⟨_, rfl⟩
  obtain ⟨cs, hcs⟩ : ∃ cs, cs = ints .u16 (getT L s) := ⟨_, rfl⟩
  obtain ⟨cx, hcx⟩ : ∃ cs, cs = ints .u16 x := ⟨_, rfl⟩
  have hio := ints_ok hvg
  have hix := ints_ok hx
  obtain ⟨W1, hW1⟩ : ∃ W, W = w.alloc (.cells cx.toArray TV) := ⟨_, rfl⟩
  have hg1 : Grow w W1 := by rw [hW1]; exact Grow.alloc _ _
  have hbx : Blk W1 w.heap.size TV cx := by rw [hW1]; exact Blk.new _ _ _ _ rfl rfl
  unfold vv at HGE HGO ⊢
  rw [← her, ← hb1, ← hb2, ← hy, ← hl] at hE
  rw [← hD] at hST hdl hdv
  rw [← hl, ← hq, ← hy, ← hcs] at HGE
  rw [← hl, ← hq, ← hD] at HWO
  rw [← hq, ← hb1] at HNA
  rw [← hcx, ← hb2] at HGO
  rw [← hl] at HRT hm
  rw [← hl, ← hq, ← her, ← hcx]
  rw [← hcs] at hio
  rw [← hcx] at hix
  have HST := Lib.hid hST
  have HE := Lib.hid hE
  have HIO := Lib.hid hio
  have HIX := Lib.hid hix
  have HG1 := Lib.hid hg1
  have HBX := Lib.hid hbx
  have HW1 := Lib.hid hW1
  have HDL := Lib.hid hdl
  have HDV := Lib.hid hdv
  have HX := Lib.hid hx
  have HQ := Lib.hid hq
  have HCX := Lib.hid hcx
  have HM := Lib.hid hm
  obtain ⟨N, hN⟩ : ∃ N, N = setT L s x := ⟨_, rfl⟩
  rw [← hN] at HST ⊢
  clear hl hq hy her hcs hio hvg hrow hc1 hc2 hv hm hb1 hb2 hcx hix hW1 hg1 hbx hE hD hST hdl hdv hx hs hN
  go_enter Try.func13, Try.ntmps13
  try dsimp only
  repeat (first | with_reducible (refine wp_region_cut (k := 1) ?_) | go_values | go_guarded | go_step | go_upon | go_back)
  unfold Cut
  refine wp_named ?_
  intro W hW
  obtain rfl : W = W1 := hW.trans HW1.out.symm
  clear hW
  go_wp2_with fail
  refine (HNA.out _).mono ?_
  rintro e w1 ⟨rfl, rfl⟩
  cases b1
  · have he : er = 4 := HE.out
    subst he
    go_wp2_with fail
    go_ret2
    exact ⟨by first | exact HRT.out W HG1.out | simpa using HRT.out W HG1.out, HG1.out⟩
  · have hbx := HBX.out
    go_wp2_with (refine load_blk rfl _ _ rfl w.heap.size rfl _ _ _ hbx undV rfl (by rw [sizeV, HIX.out.1]) ?_)
    refine (HGO.out _).mono ?_
    rintro e w2 ⟨rfl, hg2⟩
    have HG2 := Lib.hid (HG1.out.trans hg2)
    have HB2 := Lib.hid (hbx.grow hg2)
    clear hg2 hbx
    cases b2
    · have he : er = 1 := HE.out
      subst he
      go_wp2_with fail
      go_ret2
      exact ⟨by first | exact HRT.out w2 HG2.out | simpa using HRT.out w2 HG2.out, HG2.out⟩
    · go_wp2_with fail
      refine (HGE.out w2 HG2.out).mono ?_
      rintro e w3 ⟨rfl, hg3⟩
      have HG3 := Lib.hid hg3
      clear hg3
      try dsimp only
      repeat (first | with_reducible (refine wp_region_cut (k := 6) ?_) | (refine store_blk rfl _ _ _ rfl w3.heap.size cs rfl rfl TV _ (Blk.new _ _ _ _ rfl rfl) (by rw [sizeV, HIO.out.1]) HIO.out.1.symm HIO.out.2 ?_) | go_values | go_guarded | go_step | go_upon | go_back)
      unfold Cut
      refine wp_named ?_
      intro W4 hW4
      have hg4 : Grow w2 W4 := by rw [hW4]; exact Grow.setRow (HG3.out.trans (Grow.alloc _ _)) (HG3.out.size) _
      have HB4 := Lib.hid (HB2.out.grow hg4)
      have HG4 := Lib.hid (HG2.out.trans hg4)
      clear hW4 hg4
      have htail : Hid (∀ Y, Y = y → er = 0 → (Y = false → l < 32) → True) := Lib.hid fun _ _ _ _ => trivial
      clear htail
      by_cases hz : y = false ∧ 32 ≤ l
      · obtain ⟨rfl, hk3⟩ := hz
        have he : er = 11 := by rw [HE.out]; simp; omega
        subst he
        have t1 : decide (32 ≤ l) = true := decide_eq_true hk3
        have t1' : decide ((32 : Int) ≤ (l : Int)) = true := decide_eq_true (by omega)
        go_wp2_with fail
        go_ret2
        exact ⟨by first | exact HRT.out W4 HG4.out | simpa using HRT.out W4 HG4.out, HG4.out⟩
      · have he : er = 0 := by
          rw [HE.out]
          cases y
          · simp at hz; simp; omega
          · simp
        subst he
        have HZ : Hid (y = true ∨ l < 32) := Lib.hid (by cases y; · simp at hz; exact .inr (by omega)
                                                         · exact .inl rfl)
        clear hz
        have hstep : Hid (∀ z : Bool, y = z → (z = false → decide ((32 : Int) ≤ (l : Int)) = false)) := Lib.hid fun z hz h0 => by
          rcases HZ.out with h | h
          · rw [hz, h0] at h; cases h
          · exact decide_eq_false (by omega)
        cases y
        · have t1 : decide ((32 : Int) ≤ (l : Int)) = false := hstep.out false rfl rfl
          have t1' : decide (32 ≤ l) = false := by rcases HZ.out with h | h; · cases h
                                                   · exact decide_eq_false (by omega)
          go_wp2_with fail
          clear t1 t1'
          refine (HWO.out W4 HG4.out).mono ?_
          rintro e w5 ⟨v5, rfl, h5, hg5⟩
          obtain ⟨A5, c5, rfl, d1, d2, hrow5⟩ := h5
          obtain ⟨dl, hdl⟩ : ∃ n, n = D.length := ⟨_, rfl⟩
          rw [← hdl] at d1 ⊢
          have hdl9 : dl ≤ 1000 := by rw [hdl]; exact HDL.out
          have HROW5 := Lib.hid hrow5
          rw [← hdl] at HROW5
          have HC5 := Lib.hid d1
          have HDLN := Lib.hid hdl
          have HG5 := Lib.hid (HG4.out.trans hg5)
          have HB5 := Lib.hid (HB4.out.grow hg5)
          clear hrow5 hg5 d1 d2 hdl
          go_wp2_with fail
          go_loopw [11, 12] (fun o' k' wr => ∃ (k : Nat) (v : Value) (xs : List Value), k ≤ dl ∧ k' = .int .i64 (k : Int) ∧ v = o' ∧ InI w5 wr D k v xs ∧ ∀ (j : Nat) (u : Tag), j < k → D[j]? = some u → decide (u.1 < s) = true) (fun _ k' _ => dl - (intOf k').toNat)
          case atStart => exact ⟨0, _, [], by omega, rfl, rfl, ⟨World.ownsRow_nil _ _ _ _, by simp [trows], Grow.refl _⟩, fun j u h => absurd h (by omega)⟩
          case round =>
            obtain ⟨k, v, xs, hk, rfl, rfl, hI, hal⟩ := hrel
            obtain ⟨wa, rfl⟩ : ∃ wa, wa = wr := ⟨_, rfl⟩
            have HI := Lib.hid hI
            have HAL := Lib.hid hal
            obtain ⟨A6, c6, rfl, -⟩ := own_form hI.1
            have HS4 : Hid (w5.heap.size ≤ wa.heap.size) := Lib.hid HI.out.2.2.size
            have HK : Hid (k ≤ dl ∧ dl ≤ 1000) := Lib.hid ⟨hk, hdl9⟩
            clear hI hal
            by_cases hlt : k < dl
            · have t1 : decide (k < dl) = true := decide_eq_true hlt
              have t1' : decide ((k : Int) < (dl : Int)) = true := decide_eq_true (by omega)
              obtain ⟨t, ht⟩ : ∃ t, D[k]? = some t := ⟨_, List.getElem?_eq_getElem (by rw [← HDLN.out]; exact hlt)⟩
              have hrw := HROW5.out.grow HI.out.2.2
              rw [HDLN.out] at hrw
              obtain ⟨b, off, rfl, hc⟩ := rt_at hrw HDV.out ht
              have y0 : wa.cell? ⟨b, off + k * 65, none⟩ = some (.string (str t.1)) := hc 0 _ rfl
              obtain ⟨q2, hq2⟩ : ∃ q, q = str t.1 := ⟨_, rfl⟩
              rw [← hq2] at y0
              have he : Op.bytesLess q2.toList q.toList = decide (t.1 < s) := by
                rw [hq2, HQ.out, show (str t.1).toList = t.1 from ByteArray.toList_mk _, show (str s).toList = s from ByteArray.toList_mk _, bytesLess_eq]
              have HT := Lib.hid ht
              have HC := Lib.hid hc
              have HLT := Lib.hid hlt
              have hk9 : k < dl := hlt
              clear ht hc hq2 hlt hrw
              by_cases e : t.1 < s
              · have s1 : Op.bytesLess q2.toList q.toList = true := by rw [he]; exact decide_eq_true e
                have HE := Lib.hid e
                have hvk := HDV.out t (List.mem_of_getElem? HT.out)
                obtain ⟨row, hrow⟩ : ∃ row, row = trow t := ⟨_, rfl⟩
                have HR1 : Hid (∀ u ∈ row, u.oneCell' = true) := Lib.hid (by rw [hrow]; exact row_one hvk)
                have HRL : Hid (row.length = 65) := Lib.hid (by rw [hrow]; exact trow_len hvk)
                have HRW := Lib.hid hrow
                rw [← hrow] at HC
                have hbs := run_bslice_rt wa row HRL.out
                clear he e hvk hrow hk
                go_wp2_with (first | (refine load_cells rfl _ _ rfl b (off + k * 65) rfl row _ HC.out undRT rfl (by rw [sizeRT, HRL.out]) ?_) | (refine wpList_bslice1 rfl _ _ rfl (.agg row.toArray) _ rfl hbs ?_) | (at_builtin; refine wpList_append_row rfl _ _ _ rfl w5.heap.size TRT _ _ 65 144 Try.underlying28 iT iTz iTs iTb rfl (by decide) (.slice A6 k c6) k xs rfl (own_grow HI.out.1 (Grow.alloc wa (.cells row.toArray TRT))) (some ⟨wa.heap.size, 0, none⟩) 1 1 row rfl (by have := Row.new wa row TRT (0, 0); rw [HRL.out] at this; exact this) HR1.out (by have := HK.out; unfold maxLen; omega) (by have := HK.out; omega) (Nat.le_trans HS4.out (Grow.alloc wa (.cells row.toArray TRT)).size) ?_; intro v1 w1 hown1 hgb1 _; obtain ⟨Av, cv, rfl, -, -, -⟩ := own_form hown1))
                have hni : InI w5 w1 D (k + 1) (.slice Av (k + 1) cv) (xs ++ row) := by
                  have hi := HI.out
                  refine ⟨hown1, ?_, grow_by (hi.2.2.trans (Grow.alloc wa (.cells row.toArray TRT))) hgb1 fun k' hk' => own_base hi.1 k' hk'⟩
                  rw [trows_step HT.out, hi.2.1, HRW.out]
                have HNI := Lib.hid hni
                clear hown1 hgb1 hni hbs y0
                go_roundw
                case rel =>
                  refine ⟨k + 1, _, _, by have := HLT.out; omega, by go_num, rfl, HNI.out, fun j u hj hu => ?_⟩
                  rcases Nat.lt_or_ge j k with h3 | h3
                  · exact HAL.out j u h3 hu
                  · obtain rfl : j = k := by omega
                    rw [HT.out] at hu
                    injection hu with hu
                    rw [← hu]; exact decide_eq_true HE.out
                case measure => have := HLT.out; simp [intOf] <;> omega
              · have s1 : Op.bytesLess q2.toList q.toList = false := by rw [he]; exact decide_eq_false e
                have HCU : Hid (D.takeWhile (fun t => decide (t.1 < s)) = D.take k ∧ D.dropWhile (fun t => decide (t.1 < s)) = D.drop k) := Lib.hid (cut_while (by rw [← HDLN.out]; exact hk) HAL.out (.inr ⟨t, HT.out, decide_eq_false e⟩))
                obtain ⟨A5, hA5⟩ : ∃ A, A = some (⟨b, off, none⟩ : Addr) := ⟨_, rfl⟩
                rw [← hA5] at HROW5
                clear he e
                subst hA5
                have hbx := HB5.out.grow HI.out.2.2
                have hbd := run_build_rt wa q cx HIX.out.1
                obtain ⟨row, hrow⟩ : ∃ row, row = Value.string q :: cx := ⟨_, rfl⟩
                rw [← hrow] at hbd
                have hrow2 : row = trow (s, x) := by rw [hrow, HQ.out, HCX.out]; rfl
                have HRL : Hid (row.length = 65) := Lib.hid (by rw [hrow2]; exact trow_len HX.out)
                have HR1 : Hid (∀ u ∈ row, u.oneCell' = true) := Lib.hid (by rw [hrow2]; exact row_one HX.out)
                have HROW2 := Lib.hid hrow2
                have hbs := run_bslice_rt wa row HRL.out
                have hsl := fun w => slice_loS (P := Try.prog) Try.underlying28 iT iTs (some (⟨b, off, none⟩ : Addr)) dl c5 k HK.out.1 w
                clear hrow hrow2 hk
                go_wp2_with (first | (refine load_blk rfl _ _ rfl w.heap.size rfl _ _ _ hbx undV rfl (by rw [sizeV, HIX.out.1]) ?_) | (refine wpList_build2 rfl _ _ _ rfl (.string q) (.agg cx.toArray) _ rfl rfl hbd ?_) | (refine wpList_bslice1 rfl _ _ rfl (.agg row.toArray) _ rfl hbs ?_) | (at_builtin; refine wpList_append_row rfl _ _ _ rfl w5.heap.size TRT _ _ 65 144 Try.underlying28 iT iTz iTs iTb rfl (by decide) (.slice A6 k c6) k xs rfl (own_grow HI.out.1 (Grow.alloc wa (.cells row.toArray TRT))) (some ⟨wa.heap.size, 0, none⟩) 1 1 row rfl (by have := Row.new wa row TRT (0, 0); rw [HRL.out] at this; exact this) HR1.out (by have := HK.out; unfold maxLen; omega) (by have := HK.out; omega) (Nat.le_trans HS4.out (Grow.alloc wa (.cells row.toArray TRT)).size) ?_; intro v1 w1 hown1 hgb1 _; obtain ⟨Av, cv, rfl, -, -, -⟩ := own_form hown1) | (at_builtin; refine wpList_append_row rfl _ _ _ rfl w5.heap.size TRT _ _ 65 144 Try.underlying28 iT iTz iTs iTb rfl (by decide) (.slice Av (k + 1) cv) (k + 1) (xs ++ row) rfl hown1 (cutS (some (⟨b, off, none⟩ : Addr)) c5 k 65) (dl - k) (c5 - k) ((trows D).drop (k * 65)) rfl (Row.cutS (HROW5.out.grow (grow_by (HI.out.2.2.trans (Grow.alloc wa (.cells row.toArray TRT))) hgb1 fun k' hk' => own_base HI.out.1 k' hk')) HK.out.1 HC5.out) (fun u hu => rows_one HDV.out u (List.mem_of_mem_drop hu)) (by have := HK.out; unfold maxLen; omega) (by have := HK.out; omega) (grow_by (HI.out.2.2.trans (Grow.alloc wa (.cells row.toArray TRT))) hgb1 fun k' hk' => own_base HI.out.1 k' hk').size ?_; intro v2 w2' hown2 hgb2 _; obtain ⟨Av2, cv2, rfl, -, -, -⟩ := own_form hown2))
                have hgg := grow_by (HI.out.2.2.trans (Grow.alloc wa (.cells row.toArray TRT))) hgb1 fun k' hk' => own_base HI.out.1 k' hk'
                have hg9 : Grow w w2' := HG5.out.trans (grow_by hgg hgb2 fun k' hk' => own_base hown1 k' hk')
                have hrt : RT w2' (.slice Av2 (k + 1 + (dl - k)) cv2) N := RT.own hown2 (by
                  rw [HI.out.2.1, HROW2.out, HST.out, HCU.out.1, HCU.out.2, trows_drop HDV.out]
                  simp [trows]) (by
                  rw [HST.out, HCU.out.1, HCU.out.2, List.length_append, List.length_cons, List.length_take, List.length_drop, ← HDLN.out]
                  have := HK.out
                  omega)
                have HEND := Lib.hid (And.intro hrt hg9)
                clear hrt hg9 hgg hown1 hown2 hgb1 hgb2 hbd hbs hsl hbx
                go_ret2
                exact ⟨⟨_, rfl, HEND.out.1⟩, HEND.out.2⟩
            · have t1 : decide (k < dl) = false := decide_eq_false hlt
              have t1' : decide ((k : Int) < (dl : Int)) = false := decide_eq_false (by omega)
              have HCU : Hid (D.takeWhile (fun t => decide (t.1 < s)) = D.take k ∧ D.dropWhile (fun t => decide (t.1 < s)) = D.drop k) := Lib.hid (cut_while (by rw [← HDLN.out]; exact hk) HAL.out (.inl (by rw [← HDLN.out]; omega)))
              clear hlt
              have hbx := HB5.out.grow HI.out.2.2
              have hbd := run_build_rt wa q cx HIX.out.1
              obtain ⟨row, hrow⟩ : ∃ row, row = Value.string q :: cx := ⟨_, rfl⟩
              rw [← hrow] at hbd
              have hrow2 : row = trow (s, x) := by rw [hrow, HQ.out, HCX.out]; rfl
              have HRL : Hid (row.length = 65) := Lib.hid (by rw [hrow2]; exact trow_len HX.out)
              have HR1 : Hid (∀ u ∈ row, u.oneCell' = true) := Lib.hid (by rw [hrow2]; exact row_one HX.out)
              have HROW2 := Lib.hid hrow2
              have hbs := run_bslice_rt wa row HRL.out
              have hsl := fun w => slice_loS (P := Try.prog) Try.underlying28 iT iTs A5 dl c5 k HK.out.1 w
              clear hrow hrow2 hk
              go_wp2_with (first | (refine load_blk rfl _ _ rfl w.heap.size rfl _ _ _ hbx undV rfl (by rw [sizeV, HIX.out.1]) ?_) | (refine wpList_build2 rfl _ _ _ rfl (.string q) (.agg cx.toArray) _ rfl rfl hbd ?_) | (refine wpList_bslice1 rfl _ _ rfl (.agg row.toArray) _ rfl hbs ?_) | (at_builtin; refine wpList_append_row rfl _ _ _ rfl w5.heap.size TRT _ _ 65 144 Try.underlying28 iT iTz iTs iTb rfl (by decide) (.slice A6 k c6) k xs rfl (own_grow HI.out.1 (Grow.alloc wa (.cells row.toArray TRT))) (some ⟨wa.heap.size, 0, none⟩) 1 1 row rfl (by have := Row.new wa row TRT (0, 0); rw [HRL.out] at this; exact this) HR1.out (by have := HK.out; unfold maxLen; omega) (by have := HK.out; omega) (Nat.le_trans HS4.out (Grow.alloc wa (.cells row.toArray TRT)).size) ?_; intro v1 w1 hown1 hgb1 _; obtain ⟨Av, cv, rfl, -, -, -⟩ := own_form hown1) | (at_builtin; refine wpList_append_row rfl _ _ _ rfl w5.heap.size TRT _ _ 65 144 Try.underlying28 iT iTz iTs iTb rfl (by decide) (.slice Av (k + 1) cv) (k + 1) (xs ++ row) rfl hown1 (cutS A5 c5 k 65) (dl - k) (c5 - k) ((trows D).drop (k * 65)) rfl (Row.cutS (HROW5.out.grow (grow_by (HI.out.2.2.trans (Grow.alloc wa (.cells row.toArray TRT))) hgb1 fun k' hk' => own_base HI.out.1 k' hk')) HK.out.1 HC5.out) (fun u hu => rows_one HDV.out u (List.mem_of_mem_drop hu)) (by have := HK.out; unfold maxLen; omega) (by have := HK.out; omega) (grow_by (HI.out.2.2.trans (Grow.alloc wa (.cells row.toArray TRT))) hgb1 fun k' hk' => own_base HI.out.1 k' hk').size ?_; intro v2 w2' hown2 hgb2 _; obtain ⟨Av2, cv2, rfl, -, -, -⟩ := own_form hown2))
              have hgg := grow_by (HI.out.2.2.trans (Grow.alloc wa (.cells row.toArray TRT))) hgb1 fun k' hk' => own_base HI.out.1 k' hk'
              have hg9 : Grow w w2' := HG5.out.trans (grow_by hgg hgb2 fun k' hk' => own_base hown1 k' hk')
              have hrt : RT w2' (.slice Av2 (k + 1 + (dl - k)) cv2) N := RT.own hown2 (by
                rw [HI.out.2.1, HROW2.out, HST.out, HCU.out.1, HCU.out.2, trows_drop HDV.out]
                simp [trows]) (by
                rw [HST.out, HCU.out.1, HCU.out.2, List.length_append, List.length_cons, List.length_take, List.length_drop, ← HDLN.out]
                have := HK.out
                omega)
              have HEND := Lib.hid (And.intro hrt hg9)
              clear hrt hg9 hgg hown1 hown2 hgb1 hgb2 hbd hbs hsl hbx
              go_ret2
              exact ⟨⟨_, rfl, HEND.out.1⟩, HEND.out.2⟩
        · go_wp2_with fail
          refine (HWO.out W4 HG4.out).mono ?_
          rintro e w5 ⟨v5, rfl, h5, hg5⟩
          obtain ⟨A5, c5, rfl, d1, d2, hrow5⟩ := h5
          obtain ⟨dl, hdl⟩ : ∃ n, n = D.length := ⟨_, rfl⟩
          rw [← hdl] at d1 ⊢
          have hdl9 : dl ≤ 1000 := by rw [hdl]; exact HDL.out
          have HROW5 := Lib.hid hrow5
          rw [← hdl] at HROW5
          have HC5 := Lib.hid d1
          have HDLN := Lib.hid hdl
          have HG5 := Lib.hid (HG4.out.trans hg5)
          have HB5 := Lib.hid (HB4.out.grow hg5)
          clear hrow5 hg5 d1 d2 hdl
          go_wp2_with fail
          go_loopw [11, 12] (fun o' k' wr => ∃ (k : Nat) (v : Value) (xs : List Value), k ≤ dl ∧ k' = .int .i64 (k : Int) ∧ v = o' ∧ InI w5 wr D k v xs ∧ ∀ (j : Nat) (u : Tag), j < k → D[j]? = some u → decide (u.1 < s) = true) (fun _ k' _ => dl - (intOf k').toNat)
          case atStart => exact ⟨0, _, [], by omega, rfl, rfl, ⟨World.ownsRow_nil _ _ _ _, by simp [trows], Grow.refl _⟩, fun j u h => absurd h (by omega)⟩
          case round =>
            obtain ⟨k, v, xs, hk, rfl, rfl, hI, hal⟩ := hrel
            obtain ⟨wa, rfl⟩ : ∃ wa, wa = wr := ⟨_, rfl⟩
            have HI := Lib.hid hI
            have HAL := Lib.hid hal
            obtain ⟨A6, c6, rfl, -⟩ := own_form hI.1
            have HS4 : Hid (w5.heap.size ≤ wa.heap.size) := Lib.hid HI.out.2.2.size
            have HK : Hid (k ≤ dl ∧ dl ≤ 1000) := Lib.hid ⟨hk, hdl9⟩
            clear hI hal
            by_cases hlt : k < dl
            · have t1 : decide (k < dl) = true := decide_eq_true hlt
              have t1' : decide ((k : Int) < (dl : Int)) = true := decide_eq_true (by omega)
              obtain ⟨t, ht⟩ : ∃ t, D[k]? = some t := ⟨_, List.getElem?_eq_getElem (by rw [← HDLN.out]; exact hlt)⟩
              have hrw := HROW5.out.grow HI.out.2.2
              rw [HDLN.out] at hrw
              obtain ⟨b, off, rfl, hc⟩ := rt_at hrw HDV.out ht
              have y0 : wa.cell? ⟨b, off + k * 65, none⟩ = some (.string (str t.1)) := hc 0 _ rfl
              obtain ⟨q2, hq2⟩ : ∃ q, q = str t.1 := ⟨_, rfl⟩
              rw [← hq2] at y0
              have he : Op.bytesLess q2.toList q.toList = decide (t.1 < s) := by
                rw [hq2, HQ.out, show (str t.1).toList = t.1 from ByteArray.toList_mk _, show (str s).toList = s from ByteArray.toList_mk _, bytesLess_eq]
              have HT := Lib.hid ht
              have HC := Lib.hid hc
              have HLT := Lib.hid hlt
              have hk9 : k < dl := hlt
              clear ht hc hq2 hlt hrw
              by_cases e : t.1 < s
              · have s1 : Op.bytesLess q2.toList q.toList = true := by rw [he]; exact decide_eq_true e
                have HE := Lib.hid e
                have hvk := HDV.out t (List.mem_of_getElem? HT.out)
                obtain ⟨row, hrow⟩ : ∃ row, row = trow t := ⟨_, rfl⟩
                have HR1 : Hid (∀ u ∈ row, u.oneCell' = true) := Lib.hid (by rw [hrow]; exact row_one hvk)
                have HRL : Hid (row.length = 65) := Lib.hid (by rw [hrow]; exact trow_len hvk)
                have HRW := Lib.hid hrow
                rw [← hrow] at HC
                have hbs := run_bslice_rt wa row HRL.out
                clear he e hvk hrow hk
                go_wp2_with (first | (refine load_cells rfl _ _ rfl b (off + k * 65) rfl row _ HC.out undRT rfl (by rw [sizeRT, HRL.out]) ?_) | (refine wpList_bslice1 rfl _ _ rfl (.agg row.toArray) _ rfl hbs ?_) | (at_builtin; refine wpList_append_row rfl _ _ _ rfl w5.heap.size TRT _ _ 65 144 Try.underlying28 iT iTz iTs iTb rfl (by decide) (.slice A6 k c6) k xs rfl (own_grow HI.out.1 (Grow.alloc wa (.cells row.toArray TRT))) (some ⟨wa.heap.size, 0, none⟩) 1 1 row rfl (by have := Row.new wa row TRT (0, 0); rw [HRL.out] at this; exact this) HR1.out (by have := HK.out; unfold maxLen; omega) (by have := HK.out; omega) (Nat.le_trans HS4.out (Grow.alloc wa (.cells row.toArray TRT)).size) ?_; intro v1 w1 hown1 hgb1 _; obtain ⟨Av, cv, rfl, -, -, -⟩ := own_form hown1))
                have hni : InI w5 w1 D (k + 1) (.slice Av (k + 1) cv) (xs ++ row) := by
                  have hi := HI.out
                  refine ⟨hown1, ?_, grow_by (hi.2.2.trans (Grow.alloc wa (.cells row.toArray TRT))) hgb1 fun k' hk' => own_base hi.1 k' hk'⟩
                  rw [trows_step HT.out, hi.2.1, HRW.out]
                have HNI := Lib.hid hni
                clear hown1 hgb1 hni hbs y0
                go_roundw
                case rel =>
                  refine ⟨k + 1, _, _, by have := HLT.out; omega, by go_num, rfl, HNI.out, fun j u hj hu => ?_⟩
                  rcases Nat.lt_or_ge j k with h3 | h3
                  · exact HAL.out j u h3 hu
                  · obtain rfl : j = k := by omega
                    rw [HT.out] at hu
                    injection hu with hu
                    rw [← hu]; exact decide_eq_true HE.out
                case measure => have := HLT.out; simp [intOf] <;> omega
              · have s1 : Op.bytesLess q2.toList q.toList = false := by rw [he]; exact decide_eq_false e
                have HCU : Hid (D.takeWhile (fun t => decide (t.1 < s)) = D.take k ∧ D.dropWhile (fun t => decide (t.1 < s)) = D.drop k) := Lib.hid (cut_while (by rw [← HDLN.out]; exact hk) HAL.out (.inr ⟨t, HT.out, decide_eq_false e⟩))
                obtain ⟨A5, hA5⟩ : ∃ A, A = some (⟨b, off, none⟩ : Addr) := ⟨_, rfl⟩
                rw [← hA5] at HROW5
                clear he e
                subst hA5
                have hbx := HB5.out.grow HI.out.2.2
                have hbd := run_build_rt wa q cx HIX.out.1
                obtain ⟨row, hrow⟩ : ∃ row, row = Value.string q :: cx := ⟨_, rfl⟩
                rw [← hrow] at hbd
                have hrow2 : row = trow (s, x) := by rw [hrow, HQ.out, HCX.out]; rfl
                have HRL : Hid (row.length = 65) := Lib.hid (by rw [hrow2]; exact trow_len HX.out)
                have HR1 : Hid (∀ u ∈ row, u.oneCell' = true) := Lib.hid (by rw [hrow2]; exact row_one HX.out)
                have HROW2 := Lib.hid hrow2
                have hbs := run_bslice_rt wa row HRL.out
                have hsl := fun w => slice_loS (P := Try.prog) Try.underlying28 iT iTs (some (⟨b, off, none⟩ : Addr)) dl c5 k HK.out.1 w
                clear hrow hrow2 hk
                go_wp2_with (first | (refine load_blk rfl _ _ rfl w.heap.size rfl _ _ _ hbx undV rfl (by rw [sizeV, HIX.out.1]) ?_) | (refine wpList_build2 rfl _ _ _ rfl (.string q) (.agg cx.toArray) _ rfl rfl hbd ?_) | (refine wpList_bslice1 rfl _ _ rfl (.agg row.toArray) _ rfl hbs ?_) | (at_builtin; refine wpList_append_row rfl _ _ _ rfl w5.heap.size TRT _ _ 65 144 Try.underlying28 iT iTz iTs iTb rfl (by decide) (.slice A6 k c6) k xs rfl (own_grow HI.out.1 (Grow.alloc wa (.cells row.toArray TRT))) (some ⟨wa.heap.size, 0, none⟩) 1 1 row rfl (by have := Row.new wa row TRT (0, 0); rw [HRL.out] at this; exact this) HR1.out (by have := HK.out; unfold maxLen; omega) (by have := HK.out; omega) (Nat.le_trans HS4.out (Grow.alloc wa (.cells row.toArray TRT)).size) ?_; intro v1 w1 hown1 hgb1 _; obtain ⟨Av, cv, rfl, -, -, -⟩ := own_form hown1) | (at_builtin; refine wpList_append_row rfl _ _ _ rfl w5.heap.size TRT _ _ 65 144 Try.underlying28 iT iTz iTs iTb rfl (by decide) (.slice Av (k + 1) cv) (k + 1) (xs ++ row) rfl hown1 (cutS (some (⟨b, off, none⟩ : Addr)) c5 k 65) (dl - k) (c5 - k) ((trows D).drop (k * 65)) rfl (Row.cutS (HROW5.out.grow (grow_by (HI.out.2.2.trans (Grow.alloc wa (.cells row.toArray TRT))) hgb1 fun k' hk' => own_base HI.out.1 k' hk')) HK.out.1 HC5.out) (fun u hu => rows_one HDV.out u (List.mem_of_mem_drop hu)) (by have := HK.out; unfold maxLen; omega) (by have := HK.out; omega) (grow_by (HI.out.2.2.trans (Grow.alloc wa (.cells row.toArray TRT))) hgb1 fun k' hk' => own_base HI.out.1 k' hk').size ?_; intro v2 w2' hown2 hgb2 _; obtain ⟨Av2, cv2, rfl, -, -, -⟩ := own_form hown2))
                have hgg := grow_by (HI.out.2.2.trans (Grow.alloc wa (.cells row.toArray TRT))) hgb1 fun k' hk' => own_base HI.out.1 k' hk'
                have hg9 : Grow w w2' := HG5.out.trans (grow_by hgg hgb2 fun k' hk' => own_base hown1 k' hk')
                have hrt : RT w2' (.slice Av2 (k + 1 + (dl - k)) cv2) N := RT.own hown2 (by
                  rw [HI.out.2.1, HROW2.out, HST.out, HCU.out.1, HCU.out.2, trows_drop HDV.out]
                  simp [trows]) (by
                  rw [HST.out, HCU.out.1, HCU.out.2, List.length_append, List.length_cons, List.length_take, List.length_drop, ← HDLN.out]
                  have := HK.out
                  omega)
                have HEND := Lib.hid (And.intro hrt hg9)
                clear hrt hg9 hgg hown1 hown2 hgb1 hgb2 hbd hbs hsl hbx
                go_ret2
                exact ⟨⟨_, rfl, HEND.out.1⟩, HEND.out.2⟩
            · have t1 : decide (k < dl) = false := decide_eq_false hlt
              have t1' : decide ((k : Int) < (dl : Int)) = false := decide_eq_false (by omega)
              have HCU : Hid (D.takeWhile (fun t => decide (t.1 < s)) = D.take k ∧ D.dropWhile (fun t => decide (t.1 < s)) = D.drop k) := Lib.hid (cut_while (by rw [← HDLN.out]; exact hk) HAL.out (.inl (by rw [← HDLN.out]; omega)))
              clear hlt
              have hbx := HB5.out.grow HI.out.2.2
              have hbd := run_build_rt wa q cx HIX.out.1
              obtain ⟨row, hrow⟩ : ∃ row, row = Value.string q :: cx := ⟨_, rfl⟩
              rw [← hrow] at hbd
              have hrow2 : row = trow (s, x) := by rw [hrow, HQ.out, HCX.out]; rfl
              have HRL : Hid (row.length = 65) := Lib.hid (by rw [hrow2]; exact trow_len HX.out)
              have HR1 : Hid (∀ u ∈ row, u.oneCell' = true) := Lib.hid (by rw [hrow2]; exact row_one HX.out)
              have HROW2 := Lib.hid hrow2
              have hbs := run_bslice_rt wa row HRL.out
              have hsl := fun w => slice_loS (P := Try.prog) Try.underlying28 iT iTs A5 dl c5 k HK.out.1 w
              clear hrow hrow2 hk
              go_wp2_with (first | (refine load_blk rfl _ _ rfl w.heap.size rfl _ _ _ hbx undV rfl (by rw [sizeV, HIX.out.1]) ?_) | (refine wpList_build2 rfl _ _ _ rfl (.string q) (.agg cx.toArray) _ rfl rfl hbd ?_) | (refine wpList_bslice1 rfl _ _ rfl (.agg row.toArray) _ rfl hbs ?_) | (at_builtin; refine wpList_append_row rfl _ _ _ rfl w5.heap.size TRT _ _ 65 144 Try.underlying28 iT iTz iTs iTb rfl (by decide) (.slice A6 k c6) k xs rfl (own_grow HI.out.1 (Grow.alloc wa (.cells row.toArray TRT))) (some ⟨wa.heap.size, 0, none⟩) 1 1 row rfl (by have := Row.new wa row TRT (0, 0); rw [HRL.out] at this; exact this) HR1.out (by have := HK.out; unfold maxLen; omega) (by have := HK.out; omega) (Nat.le_trans HS4.out (Grow.alloc wa (.cells row.toArray TRT)).size) ?_; intro v1 w1 hown1 hgb1 _; obtain ⟨Av, cv, rfl, -, -, -⟩ := own_form hown1) | (at_builtin; refine wpList_append_row rfl _ _ _ rfl w5.heap.size TRT _ _ 65 144 Try.underlying28 iT iTz iTs iTb rfl (by decide) (.slice Av (k + 1) cv) (k + 1) (xs ++ row) rfl hown1 (cutS A5 c5 k 65) (dl - k) (c5 - k) ((trows D).drop (k * 65)) rfl (Row.cutS (HROW5.out.grow (grow_by (HI.out.2.2.trans (Grow.alloc wa (.cells row.toArray TRT))) hgb1 fun k' hk' => own_base HI.out.1 k' hk')) HK.out.1 HC5.out) (fun u hu => rows_one HDV.out u (List.mem_of_mem_drop hu)) (by have := HK.out; unfold maxLen; omega) (by have := HK.out; omega) (grow_by (HI.out.2.2.trans (Grow.alloc wa (.cells row.toArray TRT))) hgb1 fun k' hk' => own_base HI.out.1 k' hk').size ?_; intro v2 w2' hown2 hgb2 _; obtain ⟨Av2, cv2, rfl, -, -, -⟩ := own_form hown2))
              have hgg := grow_by (HI.out.2.2.trans (Grow.alloc wa (.cells row.toArray TRT))) hgb1 fun k' hk' => own_base HI.out.1 k' hk'
              have hg9 : Grow w w2' := HG5.out.trans (grow_by hgg hgb2 fun k' hk' => own_base hown1 k' hk')
              have hrt : RT w2' (.slice Av2 (k + 1 + (dl - k)) cv2) N := RT.own hown2 (by
                rw [HI.out.2.1, HROW2.out, HST.out, HCU.out.1, HCU.out.2, trows_drop HDV.out]
                simp [trows]) (by
                rw [HST.out, HCU.out.1, HCU.out.2, List.length_append, List.length_cons, List.length_take, List.length_drop, ← HDLN.out]
                have := HK.out
                omega)
              have HEND := Lib.hid (And.intro hrt hg9)
              clear hrt hg9 hgg hown1 hown2 hgb1 hgb2 hbd hbs hsl hbx
              go_ret2
              exact ⟨⟨_, rfl, HEND.out.1⟩, HEND.out.2⟩
end Go.Proofs.Ythclgmpjmhacdaa.tg
