/- Tags: names of those of which something holds; Of, Within. -/
import Derived.Test.YthclgmpjmhacdaaTgJ
import Derived.Test.YthclgmpjmhacdaaTgK
namespace Go.Proofs.Ythclgmpjmhacdaa.tg
open Go Go.RowKit Go.Par Go.Kit Go.Maps

set_option maxRecDepth 100000 in
set_option maxHeartbeats 2000000 in
theorem of1_any (w : World) (g1 : Nat) (a v : List Int) (ha : VecOk a) (hv : VecOk v) (hb : Blk w g1 TV (ints .u16 v)) :
    Calls Try.prog 47 #[vv a, .pointer (some ⟨g1, 0, none⟩)] w fun e w' => e = .returned (.bool (a == v)) ∧ Grow w w' := by
  have hq := fun w1 => eqV w1 a v ha hv
  obtain ⟨q, hqq⟩ : ∃ q, q = (a == v) := ⟨_, rfl⟩
  rw [← hqq] at hq ⊢
  have hoa := ints_ok ha
  have hov := ints_ok hv
  unfold vv
  obtain ⟨ca, hca⟩ : ∃ A, A = ints .u16 a := ⟨_, rfl⟩
  obtain ⟨cv, hcv⟩ : ∃ A, A = ints .u16 v := ⟨_, rfl⟩
  rw [← hca] at hoa hq ⊢
  rw [← hcv] at hov hq hb
  have b1 : Blk (w.alloc (.cells ca.toArray TV)) w.heap.size TV ca := Blk.new _ _ _ _ rfl rfl
  have b2 : Blk (w.alloc (.cells ca.toArray TV)) g1 TV cv := hb.grow (Grow.alloc _ _)
  have y0 := hq (w.alloc (.cells ca.toArray TV))
  have HA := Lib.hid hoa.1
  have HB := Lib.hid hov.1
  clear hq hqq hca hcv hoa hov hb ha hv
  go_enter Try.func47, Try.ntmps47
  go_wp2_with (first | (refine load_blk rfl _ _ rfl w.heap.size rfl _ _ _ b1 undV rfl (by rw [sizeV, HA.out]) ?_) | (refine load_blk rfl _ _ rfl g1 rfl _ _ _ b2 undV rfl (by rw [sizeV, HB.out]) ?_))
  go_ret
  exact ⟨rfl, Grow.alloc _ _⟩
set_option maxRecDepth 100000 in
set_option maxHeartbeats 2000000 in
theorem within1_any (w : World) (g1 : Nat) (a v : List Int) (ha : VecOk a) (hv : VecOk v) (hb : Blk w g1 TV (ints .u16 v)) :
    Calls Try.prog 48 #[vv a, .pointer (some ⟨g1, 0, none⟩)] w fun e w' => e = .returned (.bool (withinV a v)) ∧ Grow w w' := by
  have hq := fun w1 => within_any w1 a v ha hv
  obtain ⟨q, hqq⟩ : ∃ q, q = withinV a v := ⟨_, rfl⟩
  rw [← hqq] at hq ⊢
  have hoa := ints_ok ha
  have hov := ints_ok hv
  unfold vv at hq ⊢
  obtain ⟨ca, hca⟩ : ∃ A, A = ints .u16 a := ⟨_, rfl⟩
  obtain ⟨cv, hcv⟩ : ∃ A, A = ints .u16 v := ⟨_, rfl⟩
  rw [← hca] at hoa hq ⊢
  rw [← hcv] at hov hq hb
  have b1 : Blk (w.alloc (.cells ca.toArray TV)) w.heap.size TV ca := Blk.new _ _ _ _ rfl rfl
  have b2 : Blk (w.alloc (.cells ca.toArray TV)) g1 TV cv := hb.grow (Grow.alloc _ _)
  have HA := Lib.hid hoa.1
  have HB := Lib.hid hov.1
  have HQ := Lib.hid hq
  clear hq hqq hca hcv hoa hov hb ha hv
  go_enter Try.func48, Try.ntmps48
  go_wp2_with (first | (refine load_blk rfl _ _ rfl w.heap.size rfl _ _ _ b1 undV rfl (by rw [sizeV, HA.out]) ?_) | (refine load_blk rfl _ _ rfl g1 rfl _ _ _ b2 undV rfl (by rw [sizeV, HB.out]) ?_))
  refine (HQ.out _).mono ?_
  rintro e w1 ⟨rfl, hg⟩
  have HG := Lib.hid ((Grow.alloc _ _).trans hg)
  clear hg b1 b2
  go_wp2_with fail
  go_ret
  exact ⟨rfl, HG.out⟩
theorem all1_any (w : World) (a : List Int) : Calls Try.prog 53 #[vv a] w fun e w' => e = .returned (.bool true) ∧ Grow w w' := by
  unfold vv
  obtain ⟨ca, hca⟩ : ∃ A, A = ints .u16 a := ⟨_, rfl⟩
  rw [← hca]
  clear hca
  go_enter Try.func53, Try.ntmps53
  go_wp2_with fail
  go_ret
  exact ⟨rfl, Grow.alloc _ _⟩
theorem names_nil (w : World) (fv : Value) : Calls Try.prog 46 #[.pointer none, fv] w fun e w' => e = .returned (.slice none 0 0) ∧ Grow w w' := by
  go_enter Try.func46, Try.ntmps46
  go_wp2_with fail
  go_ret
  exact ⟨rfl, Grow.refl _⟩
theorem infoS : (Try.prog.info? TS).isSome = true := by kernel_rfl
theorem iS : Try.prog.info? TS = some ((Try.prog.info? TS).get infoS) := by simp
theorem iSs : ((Try.prog.info? TS).get infoS).size = 1 := by kernel_rfl
theorem iSz : ((Try.prog.info? TS).get infoS).zero = some (.string ⟨#[]⟩) := by kernel_rfl
theorem iSb : ((Try.prog.info? TS).get infoS).bytes = 16 := by kernel_rfl
def strs (l : List (List UInt8)) : List Value := l.map fun s => .string (str s)
/-- the names of those of which p holds -/
def namesT (p : List Int → Bool) (L : List Tag) : List (List UInt8) := (L.filter fun t => p t.2).map (·.1)
theorem names_step {p : List Int → Bool} {L : List Tag} {k : Nat} {t : Tag} (h : L[k]? = some t) : namesT p (L.take (k + 1)) = if p t.2 then namesT p (L.take k) ++ [t.1] else namesT p (L.take k) := by
  obtain ⟨hk, rfl⟩ := List.getElem?_eq_some_iff.1 h
  unfold namesT
  rw [List.take_succ_eq_append_getElem hk, List.filter_append, List.map_append]
  cases hp : p L[k].2 <;> simp [hp]
theorem names_len (p : List Int → Bool) (L : List Tag) (k : Nat) : (namesT p (L.take k)).length ≤ L.length := by
  unfold namesT
  rw [List.length_map]
  refine Nat.le_trans (List.length_filter_le _ _) ?_
  rw [List.length_take]
  omega
theorem getT_at {L : List Tag} (hL : (L.map (·.1)).Nodup) {t : Tag} (h : t ∈ L) : getT L t.1 = t.2 := by
  have hy : hasT L t.1 = true := List.any_eq_true.2 ⟨t, h, by simp⟩
  have hm := getT_yes hy
  obtain ⟨i, hi, e1⟩ := List.getElem_of_mem h
  obtain ⟨j, hj, e2⟩ := List.getElem_of_mem hm
  have e : i = j := (List.getElem?_inj (by simpa using hi) hL).1 (by simp [hi, hj, e1, e2])
  subst e
  rw [e1] at e2
  rw [e2]
section
variable {w w' : World} {B g bs bn n m : Nat} {L L' : List Tag}
def NamesI (W w : World) (p : List Int → Bool) (L : List Tag) (k : Nat) (v : Value) (m : Nat) (xs : List Value) : Prop := w.ownsRow W.heap.size TS 1 v m xs ∧ xs = strs (namesT p (L.take k)) ∧ m = (namesT p (L.take k)).length ∧ Grow W w
-- NAMES
set_option maxRecDepth 100000 in
set_option maxHeartbeats 2000000 in
theorem names_of (h : TagI w B g bs bn n L) (hn : n ≤ 1000000) (g1 : Nat) (p : List Int → Bool)
    (hp : ∀ (a : List Int) (w1 : World), VecOk a → Grow w w1 → Calls Try.prog 47 #[vv a, .pointer (some ⟨g1, 0, none⟩)] w1 fun e w' => e = .returned (.bool (p a)) ∧ Grow w1 w') :
    Calls Try.prog 46 #[.pointer (some ⟨g, 0, none⟩), .func (.func 47) #[] #[.pointer (some ⟨g1, 0, none⟩)]] w fun e w' => ∃ v, e = .returned v ∧ w'.ownsRow w.heap.size TS 1 v (namesT p L).length (strs (namesT p L)) ∧ Grow w w' := by
  have x0 := h.bx.cell (i := 0) rfl
  have HK := Lib.hid (keys_any (some bs) w)
  have HS := Lib.hid (sorted_any bs n L w h.mt hn h.ok)
  have HT := Lib.hid h
  have HP := Lib.hid hp
  obtain ⟨l, hl⟩ : ∃ l, l = L.length := ⟨_, rfl⟩
  have hl32 : l ≤ 32 := by rw [hl]; exact h.ok.len
  rw [← hl] at HS
  have HLL := Lib.hid hl
  clear hp h hn hl
  go_enter Try.func46, Try.ntmps46
  go_wp2_with fail
  refine HK.out.mono ?_
  rintro e w1 ⟨rfl, rfl⟩
  go_wp2_with fail
  refine HS.out.mono ?_
  rintro e W3 ⟨v, rfl, ho, hg⟩
  obtain ⟨A, c, rfl, h1, h2, hr⟩ := own_form ho
  have HR := Lib.hid hr
  have HG := Lib.hid ((Grow.alloc _ _).trans hg)
  clear ho hg hr x0
  go_wp2_with fail
  go_loopw [5, 17] (fun o' i' wr => ∃ (k m : Nat) (v : Value) (xs : List Value), k ≤ l ∧ i' = .int .i64 (k : Int) ∧ v = o' ∧ NamesI W3 wr p L k v m xs) (fun _ i' _ => l - (intOf i').toNat)
  case atStart => exact ⟨0, 0, _, [], by omega, rfl, rfl, World.ownsRow_nil _ _ _ _, by simp [namesT, strs], by simp [namesT], Grow.refl _⟩
  case round =>
    obtain ⟨k, m, v, xs, hk, rfl, rfl, hI⟩ := hrel
    obtain ⟨wa, rfl⟩ : ∃ wa, wa = wr := ⟨_, rfl⟩
    have HI := Lib.hid hI
    obtain ⟨A5, c5, rfl, -⟩ := own_form hI.1
    clear hI
    by_cases hlt : k < l
    · have t1 : decide (k < l) = true := decide_eq_true hlt
      have t1' : decide ((k : Int) < (l : Int)) = true := decide_eq_true (by omega)
      obtain ⟨t, ht⟩ : ∃ t, L[k]? = some t := ⟨_, List.getElem?_eq_getElem (by rw [← HLL.out]; exact hlt)⟩
      obtain ⟨bb, off, rfl, hcc⟩ := HR.out.2 (by omega)
      have HTT := Lib.hid ht
      have HLT := Lib.hid hlt
      have hmem : t ∈ L := List.mem_of_getElem? ht
      have hq0 := hcc k (.string (str t.1)) (by rw [List.getElem?_map, List.getElem?_map, ht]; rfl)
      have hq := HI.out.2.2.2.cell hq0
      have hTa := HT.out.grow (HG.out.trans HI.out.2.2.2)
      have x0 := hTa.bx.cell (i := 0) rfl
      have hok := HT.out.ok.ok t hmem
      have hlen : t.1.length ≤ maxLen := by have := (name_le hok.1).1; unfold maxLen; omega
      have hl := hTa.mt.get hlen
      rw [getT_at HT.out.ok.nodup hmem] at hl
      have HCALL := Lib.hid (HP.out t.2 wa hok.2.1 (HG.out.trans HI.out.2.2.2))
      obtain ⟨q, hqq⟩ : ∃ q, q = str t.1 := ⟨_, rfl⟩
      obtain ⟨y, hy⟩ : ∃ y, y = p t.2 := ⟨_, rfl⟩
      rw [← hqq] at hq hl
      rw [← hy] at HCALL
      have HY := Lib.hid hy
      have HQQ := Lib.hid hqq
      unfold vv at hl HCALL
      clear hcc hq0 hTa hok hlen hmem ht hlt hqq hy
      go_wp2_with fail
      refine HCALL.out.mono ?_
      rintro e w4 ⟨rfl, hg4⟩
      have HG4 := Lib.hid hg4
      clear hg4 hq hl x0
      cases y
      · go_wp2_with fail
        go_roundw
        case rel =>
          refine ⟨k + 1, m, _, xs, by have := HLT.out; omega, by go_num, rfl, own_grow HI.out.1 HG4.out, ?_, ?_, HI.out.2.2.2.trans HG4.out⟩
          · rw [names_step HTT.out, ← HY.out]; exact HI.out.2.1
          · rw [names_step HTT.out, ← HY.out]; exact HI.out.2.2.1
        case measure => have := HLT.out; simp [intOf] <;> omega
      · have HM : Hid (m ≤ 32) := Lib.hid (by have h1 := HI.out.2.2.1; have := names_len p L k; have := HLL.out; omega)
        have HS4 : Hid (W3.heap.size ≤ w4.heap.size) := Lib.hid (Nat.le_trans HI.out.2.2.2.size HG4.out.size)
        go_wp2_with (at_builtin; refine wpList_append_row rfl _ _ _ rfl W3.heap.size TS _ _ 1 16 Try.underlying50 iS iSz iSs iSb rfl (by decide) (.slice A5 m c5) m xs rfl (own_grow (own_grow HI.out.1 HG4.out) (Grow.alloc w4 (.cells #[.string q] TS))) (some ⟨w4.heap.size, 0, none⟩) 1 1 [.string q] rfl (Row.new w4 [.string q] TS (0, 0)) (by intro u hu; rw [List.mem_singleton.1 hu]; rfl) (by have := HM.out; unfold maxLen; omega) (by have := HM.out; omega) (Nat.le_trans HS4.out (Grow.alloc w4 (.cells #[.string q] TS)).size) ?_; intro v1 w1 hown1 hgb1 _; obtain ⟨Av, cv, rfl, -, -, -⟩ := own_form hown1)
        have hni : NamesI W3 w1 p L (k + 1) (.slice Av (m + 1) cv) (m + 1) (xs ++ [.string q]) := by
          refine ⟨hown1, ?_, ?_, ?_⟩
          · rw [names_step HTT.out, ← HY.out, HI.out.2.1, HQQ.out]
            simp [strs]
          · rw [names_step HTT.out, ← HY.out, HI.out.2.2.1]
            simp
          · exact grow_by ((HI.out.2.2.2.trans HG4.out).trans (Grow.alloc w4 (.cells #[.string q] TS))) hgb1 fun k' hk' => own_base HI.out.1 k' hk'
        have HNI := Lib.hid hni
        clear hown1 hgb1 hni
        go_roundw
        case rel => exact ⟨k + 1, m + 1, _, _, by have := HLT.out; omega, by go_num, rfl, HNI.out⟩
        case measure => have := HLT.out; simp [intOf] <;> omega
    · obtain rfl : k = l := by omega
      have t1 : decide (k < k) = false := decide_eq_false (by omega)
      have HEND : Hid (wa.ownsRow w.heap.size TS 1 (.slice A5 m c5) (namesT p L).length (strs (namesT p L)) ∧ Grow w wa) := Lib.hid (by
        obtain ⟨q1, q2, q3, q4⟩ := HI.out
        have e : L.take k = L := List.take_of_length_le (by rw [HLL.out]; omega)
        rw [e] at q2 q3
        rw [← q3, ← q2]
        exact ⟨own_lower q1 (HG.out.size), HG.out.trans q4⟩)
      clear hk hlt
      go_wp2_with fail
      go_ret
      exact ⟨_, rfl, HEND.out⟩
set_option maxRecDepth 100000 in
set_option maxHeartbeats 2000000 in
theorem names_within (h : TagI w B g bs bn n L) (hn : n ≤ 1000000) (g1 : Nat) (p : List Int → Bool)
    (hp : ∀ (a : List Int) (w1 : World), VecOk a → Grow w w1 → Calls Try.prog 48 #[vv a, .pointer (some ⟨g1, 0, none⟩)] w1 fun e w' => e = .returned (.bool (p a)) ∧ Grow w1 w') :
    Calls Try.prog 46 #[.pointer (some ⟨g, 0, none⟩), .func (.func 48) #[] #[.pointer (some ⟨g1, 0, none⟩)]] w fun e w' => ∃ v, e = .returned v ∧ w'.ownsRow w.heap.size TS 1 v (namesT p L).length (strs (namesT p L)) ∧ Grow w w' := by
  have x0 := h.bx.cell (i := 0) rfl
  have HK := Lib.hid (keys_any (some bs) w)
  have HS := Lib.hid (sorted_any bs n L w h.mt hn h.ok)
  have HT := Lib.hid h
  have HP := Lib.hid hp
  obtain ⟨l, hl⟩ : ∃ l, l = L.length := ⟨_, rfl⟩
  have hl32 : l ≤ 32 := by rw [hl]; exact h.ok.len
  rw [← hl] at HS
  have HLL := Lib.hid hl
  clear hp h hn hl
  go_enter Try.func46, Try.ntmps46
  go_wp2_with fail
  refine HK.out.mono ?_
  rintro e w1 ⟨rfl, rfl⟩
  go_wp2_with fail
  refine HS.out.mono ?_
  rintro e W3 ⟨v, rfl, ho, hg⟩
  obtain ⟨A, c, rfl, h1, h2, hr⟩ := own_form ho
  have HR := Lib.hid hr
  have HG := Lib.hid ((Grow.alloc _ _).trans hg)
  clear ho hg hr x0
  go_wp2_with fail
  go_loopw [5, 17] (fun o' i' wr => ∃ (k m : Nat) (v : Value) (xs : List Value), k ≤ l ∧ i' = .int .i64 (k : Int) ∧ v = o' ∧ NamesI W3 wr p L k v m xs) (fun _ i' _ => l - (intOf i').toNat)
  case atStart => exact ⟨0, 0, _, [], by omega, rfl, rfl, World.ownsRow_nil _ _ _ _, by simp [namesT, strs], by simp [namesT], Grow.refl _⟩
  case round =>
    obtain ⟨k, m, v, xs, hk, rfl, rfl, hI⟩ := hrel
    obtain ⟨wa, rfl⟩ : ∃ wa, wa = wr := ⟨_, rfl⟩
    have HI := Lib.hid hI
    obtain ⟨A5, c5, rfl, -⟩ := own_form hI.1
    clear hI
    by_cases hlt : k < l
    · have t1 : decide (k < l) = true := decide_eq_true hlt
      have t1' : decide ((k : Int) < (l : Int)) = true := decide_eq_true (by omega)
      obtain ⟨t, ht⟩ : ∃ t, L[k]? = some t := ⟨_, List.getElem?_eq_getElem (by rw [← HLL.out]; exact hlt)⟩
      obtain ⟨bb, off, rfl, hcc⟩ := HR.out.2 (by omega)
      have HTT := Lib.hid ht
      have HLT := Lib.hid hlt
      have hmem : t ∈ L := List.mem_of_getElem? ht
      have hq0 := hcc k (.string (str t.1)) (by rw [List.getElem?_map, List.getElem?_map, ht]; rfl)
      have hq := HI.out.2.2.2.cell hq0
      have hTa := HT.out.grow (HG.out.trans HI.out.2.2.2)
      have x0 := hTa.bx.cell (i := 0) rfl
      have hok := HT.out.ok.ok t hmem
      have hlen : t.1.length ≤ maxLen := by have := (name_le hok.1).1; unfold maxLen; omega
      have hl := hTa.mt.get hlen
      rw [getT_at HT.out.ok.nodup hmem] at hl
      have HCALL := Lib.hid (HP.out t.2 wa hok.2.1 (HG.out.trans HI.out.2.2.2))
      obtain ⟨q, hqq⟩ : ∃ q, q = str t.1 := ⟨_, rfl⟩
      obtain ⟨y, hy⟩ : ∃ y, y = p t.2 := ⟨_, rfl⟩
      rw [← hqq] at hq hl
      rw [← hy] at HCALL
      have HY := Lib.hid hy
      have HQQ := Lib.hid hqq
      unfold vv at hl HCALL
      clear hcc hq0 hTa hok hlen hmem ht hlt hqq hy
      go_wp2_with fail
      refine HCALL.out.mono ?_
      rintro e w4 ⟨rfl, hg4⟩
      have HG4 := Lib.hid hg4
      clear hg4 hq hl x0
      cases y
      · go_wp2_with fail
        go_roundw
        case rel =>
          refine ⟨k + 1, m, _, xs, by have := HLT.out; omega, by go_num, rfl, own_grow HI.out.1 HG4.out, ?_, ?_, HI.out.2.2.2.trans HG4.out⟩
          · rw [names_step HTT.out, ← HY.out]; exact HI.out.2.1
          · rw [names_step HTT.out, ← HY.out]; exact HI.out.2.2.1
        case measure => have := HLT.out; simp [intOf] <;> omega
      · have HM : Hid (m ≤ 32) := Lib.hid (by have h1 := HI.out.2.2.1; have := names_len p L k; have := HLL.out; omega)
        have HS4 : Hid (W3.heap.size ≤ w4.heap.size) := Lib.hid (Nat.le_trans HI.out.2.2.2.size HG4.out.size)
        go_wp2_with (at_builtin; refine wpList_append_row rfl _ _ _ rfl W3.heap.size TS _ _ 1 16 Try.underlying50 iS iSz iSs iSb rfl (by decide) (.slice A5 m c5) m xs rfl (own_grow (own_grow HI.out.1 HG4.out) (Grow.alloc w4 (.cells #[.string q] TS))) (some ⟨w4.heap.size, 0, none⟩) 1 1 [.string q] rfl (Row.new w4 [.string q] TS (0, 0)) (by intro u hu; rw [List.mem_singleton.1 hu]; rfl) (by have := HM.out; unfold maxLen; omega) (by have := HM.out; omega) (Nat.le_trans HS4.out (Grow.alloc w4 (.cells #[.string q] TS)).size) ?_; intro v1 w1 hown1 hgb1 _; obtain ⟨Av, cv, rfl, -, -, -⟩ := own_form hown1)
        have hni : NamesI W3 w1 p L (k + 1) (.slice Av (m + 1) cv) (m + 1) (xs ++ [.string q]) := by
          refine ⟨hown1, ?_, ?_, ?_⟩
          · rw [names_step HTT.out, ← HY.out, HI.out.2.1, HQQ.out]
            simp [strs]
          · rw [names_step HTT.out, ← HY.out, HI.out.2.2.1]
            simp
          · exact grow_by ((HI.out.2.2.2.trans HG4.out).trans (Grow.alloc w4 (.cells #[.string q] TS))) hgb1 fun k' hk' => own_base HI.out.1 k' hk'
        have HNI := Lib.hid hni
        clear hown1 hgb1 hni
        go_roundw
        case rel => exact ⟨k + 1, m + 1, _, _, by have := HLT.out; omega, by go_num, rfl, HNI.out⟩
        case measure => have := HLT.out; simp [intOf] <;> omega
    · obtain rfl : k = l := by omega
      have t1 : decide (k < k) = false := decide_eq_false (by omega)
      have HEND : Hid (wa.ownsRow w.heap.size TS 1 (.slice A5 m c5) (namesT p L).length (strs (namesT p L)) ∧ Grow w wa) := Lib.hid (by
        obtain ⟨q1, q2, q3, q4⟩ := HI.out
        have e : L.take k = L := List.take_of_length_le (by rw [HLL.out]; omega)
        rw [e] at q2 q3
        rw [← q3, ← q2]
        exact ⟨own_lower q1 (HG.out.size), HG.out.trans q4⟩)
      clear hk hlt
      go_wp2_with fail
      go_ret
      exact ⟨_, rfl, HEND.out⟩
set_option maxRecDepth 100000 in
set_option maxHeartbeats 2000000 in
theorem names_all (h : TagI w B g bs bn n L) (hn : n ≤ 1000000) (p : List Int → Bool)
    (hp : ∀ (a : List Int) (w1 : World), VecOk a → Grow w w1 → Calls Try.prog 53 #[vv a] w1 fun e w' => e = .returned (.bool (p a)) ∧ Grow w1 w') :
    Calls Try.prog 46 #[.pointer (some ⟨g, 0, none⟩), .func (.func 53) #[] #[]] w fun e w' => ∃ v, e = .returned v ∧ w'.ownsRow w.heap.size TS 1 v (namesT p L).length (strs (namesT p L)) ∧ Grow w w' := by
  have x0 := h.bx.cell (i := 0) rfl
  have HK := Lib.hid (keys_any (some bs) w)
  have HS := Lib.hid (sorted_any bs n L w h.mt hn h.ok)
  have HT := Lib.hid h
  have HP := Lib.hid hp
  obtain ⟨l, hl⟩ : ∃ l, l = L.length := ⟨_, rfl⟩
  have hl32 : l ≤ 32 := by rw [hl]; exact h.ok.len
  rw [← hl] at HS
  have HLL := Lib.hid hl
  clear hp h hn hl
  go_enter Try.func46, Try.ntmps46
  go_wp2_with fail
  refine HK.out.mono ?_
  rintro e w1 ⟨rfl, rfl⟩
  go_wp2_with fail
  refine HS.out.mono ?_
  rintro e W3 ⟨v, rfl, ho, hg⟩
  obtain ⟨A, c, rfl, h1, h2, hr⟩ := own_form ho
  have HR := Lib.hid hr
  have HG := Lib.hid ((Grow.alloc _ _).trans hg)
  clear ho hg hr x0
  go_wp2_with fail
  go_loopw [5, 17] (fun o' i' wr => ∃ (k m : Nat) (v : Value) (xs : List Value), k ≤ l ∧ i' = .int .i64 (k : Int) ∧ v = o' ∧ NamesI W3 wr p L k v m xs) (fun _ i' _ => l - (intOf i').toNat)
  case atStart => exact ⟨0, 0, _, [], by omega, rfl, rfl, World.ownsRow_nil _ _ _ _, by simp [namesT, strs], by simp [namesT], Grow.refl _⟩
  case round =>
    obtain ⟨k, m, v, xs, hk, rfl, rfl, hI⟩ := hrel
    obtain ⟨wa, rfl⟩ : ∃ wa, wa = wr := ⟨_, rfl⟩
    have HI := Lib.hid hI
    obtain ⟨A5, c5, rfl, -⟩ := own_form hI.1
    clear hI
    by_cases hlt : k < l
    · have t1 : decide (k < l) = true := decide_eq_true hlt
      have t1' : decide ((k : Int) < (l : Int)) = true := decide_eq_true (by omega)
      obtain ⟨t, ht⟩ : ∃ t, L[k]? = some t := ⟨_, List.getElem?_eq_getElem (by rw [← HLL.out]; exact hlt)⟩
      obtain ⟨bb, off, rfl, hcc⟩ := HR.out.2 (by omega)
      have HTT := Lib.hid ht
      have HLT := Lib.hid hlt
      have hmem : t ∈ L := List.mem_of_getElem? ht
      have hq0 := hcc k (.string (str t.1)) (by rw [List.getElem?_map, List.getElem?_map, ht]; rfl)
      have hq := HI.out.2.2.2.cell hq0
      have hTa := HT.out.grow (HG.out.trans HI.out.2.2.2)
      have x0 := hTa.bx.cell (i := 0) rfl
      have hok := HT.out.ok.ok t hmem
      have hlen : t.1.length ≤ maxLen := by have := (name_le hok.1).1; unfold maxLen; omega
      have hl := hTa.mt.get hlen
      rw [getT_at HT.out.ok.nodup hmem] at hl
      have HCALL := Lib.hid (HP.out t.2 wa hok.2.1 (HG.out.trans HI.out.2.2.2))
      obtain ⟨q, hqq⟩ : ∃ q, q = str t.1 := ⟨_, rfl⟩
      obtain ⟨y, hy⟩ : ∃ y, y = p t.2 := ⟨_, rfl⟩
      rw [← hqq] at hq hl
      rw [← hy] at HCALL
      have HY := Lib.hid hy
      have HQQ := Lib.hid hqq
      unfold vv at hl HCALL
      clear hcc hq0 hTa hok hlen hmem ht hlt hqq hy
      go_wp2_with fail
      refine HCALL.out.mono ?_
      rintro e w4 ⟨rfl, hg4⟩
      have HG4 := Lib.hid hg4
      clear hg4 hq hl x0
      cases y
      · go_wp2_with fail
        go_roundw
        case rel =>
          refine ⟨k + 1, m, _, xs, by have := HLT.out; omega, by go_num, rfl, own_grow HI.out.1 HG4.out, ?_, ?_, HI.out.2.2.2.trans HG4.out⟩
          · rw [names_step HTT.out, ← HY.out]; exact HI.out.2.1
          · rw [names_step HTT.out, ← HY.out]; exact HI.out.2.2.1
        case measure => have := HLT.out; simp [intOf] <;> omega
      · have HM : Hid (m ≤ 32) := Lib.hid (by have h1 := HI.out.2.2.1; have := names_len p L k; have := HLL.out; omega)
        have HS4 : Hid (W3.heap.size ≤ w4.heap.size) := Lib.hid (Nat.le_trans HI.out.2.2.2.size HG4.out.size)
        go_wp2_with (at_builtin; refine wpList_append_row rfl _ _ _ rfl W3.heap.size TS _ _ 1 16 Try.underlying50 iS iSz iSs iSb rfl (by decide) (.slice A5 m c5) m xs rfl (own_grow (own_grow HI.out.1 HG4.out) (Grow.alloc w4 (.cells #[.string q] TS))) (some ⟨w4.heap.size, 0, none⟩) 1 1 [.string q] rfl (Row.new w4 [.string q] TS (0, 0)) (by intro u hu; rw [List.mem_singleton.1 hu]; rfl) (by have := HM.out; unfold maxLen; omega) (by have := HM.out; omega) (Nat.le_trans HS4.out (Grow.alloc w4 (.cells #[.string q] TS)).size) ?_; intro v1 w1 hown1 hgb1 _; obtain ⟨Av, cv, rfl, -, -, -⟩ := own_form hown1)
        have hni : NamesI W3 w1 p L (k + 1) (.slice Av (m + 1) cv) (m + 1) (xs ++ [.string q]) := by
          refine ⟨hown1, ?_, ?_, ?_⟩
          · rw [names_step HTT.out, ← HY.out, HI.out.2.1, HQQ.out]
            simp [strs]
          · rw [names_step HTT.out, ← HY.out, HI.out.2.2.1]
            simp
          · exact grow_by ((HI.out.2.2.2.trans HG4.out).trans (Grow.alloc w4 (.cells #[.string q] TS))) hgb1 fun k' hk' => own_base HI.out.1 k' hk'
        have HNI := Lib.hid hni
        clear hown1 hgb1 hni
        go_roundw
        case rel => exact ⟨k + 1, m + 1, _, _, by have := HLT.out; omega, by go_num, rfl, HNI.out⟩
        case measure => have := HLT.out; simp [intOf] <;> omega
    · obtain rfl : k = l := by omega
      have t1 : decide (k < k) = false := decide_eq_false (by omega)
      have HEND : Hid (wa.ownsRow w.heap.size TS 1 (.slice A5 m c5) (namesT p L).length (strs (namesT p L)) ∧ Grow w wa) := Lib.hid (by
        obtain ⟨q1, q2, q3, q4⟩ := HI.out
        have e : L.take k = L := List.take_of_length_le (by rw [HLL.out]; omega)
        rw [e] at q2 q3
        rw [← q3, ← q2]
        exact ⟨own_lower q1 (HG.out.size), HG.out.trans q4⟩)
      clear hk hlt
      go_wp2_with fail
      go_ret
      exact ⟨_, rfl, HEND.out⟩
-- SEMAN
end
end Go.Proofs.Ythclgmpjmhacdaa.tg
