/- Tags: Get, Drop, Set. -/
import Derived.Test.YthclgmpjmhacdaaTgT
namespace Go.Proofs.Ythclgmpjmhacdaa.tg
open Go Go.RowKit Go.Par Go.Kit

theorem ret_blk_tmp {P : Program} {a : Go.Act} {w : World} {fn : Func} {R : Ending → World → Prop} {p q : Tmp} {ty : TypeId} (hf : fn.results = #[.cell p ty, .tmp q]) (g : Nat) (t : TypeId) (cs : List Value) (d : TypeDesc) (u : Value)
    (hp : a.tmps.getD p undef = .pointer (some ⟨g, 0, none⟩)) (hg : Blk w g t cs) (hu : P.underlying ty = some d) (hd : (match d with | .struct _ | .array _ _ => true | _ => false) = true) (hi : (P.info? ty).map (·.size) = some cs.length)
    (hq : a.tmps.getD q undef = u) (hde : a.defers = []) (hR : R (.returned (.tuple #[.agg cs.toArray, u])) w) : bodyPost P fn R .ret a w := by
  subst hq
  refine bodyPost_ret ?_ hde hR
  have hp' : a.tmps[p]?.getD undef = .pointer (some ⟨g, 0, none⟩) := by simpa using hp
  simp [results, hf, hp', asAddr, run_loadVar_row w g t ty cs.toArray (0, 0) d hg hu hd (by simpa using hi)]
section
variable {w w' : World} {B g bs bn n m : Nat} {L L' : List Tag}
theorem forget_any (h : TagI w B g bs bn n L) (hn : n < 1000000) (s : List UInt8) (hs : s.length ≤ maxLen) :
    Calls Try.prog 45 #[.pointer (some ⟨g, 0, none⟩), .string (str s)] w fun e w' => (∃ v, e = .returned v) ∧ TagI w' B g bs bn (n + 3) (delT L s) ∧ Keep B (Kt bs bn) w w' := by
  cases hh : hasT L s with
  | true => exact forget_yes h hn s hs hh
  | false =>
    refine (forget_no h s hs hh).mono ?_
    rintro e w' ⟨h1, h2⟩
    rw [delT_id hh]
    have h3 := h.grow h2
    exact ⟨h1, ⟨h3.bx, h3.mt.mono (by omega), h3.mn.mono (by omega), h3.gB, h3.sB, h3.nB, h3.ne, h3.ok⟩, Keep.of h2 h.base⟩
theorem mem_set {α : Type} (p : α → Bool) (l : List α) (a x : α) : x ∈ l.takeWhile p ++ a :: l.dropWhile p ↔ x = a ∨ x ∈ l := by
  rw [List.mem_append, List.mem_cons]
  constructor
  · rintro (h | h | h)
    · exact .inr ((List.takeWhile_sublist p).subset h)
    · exact .inl h
    · exact .inr ((List.dropWhile_sublist p).subset h)
  · rintro (h | h)
    · exact .inr (.inl h)
    · rw [← List.takeWhile_append_dropWhile (p := p) (l := l), List.mem_append] at h
      rcases h with h | h
      · exact .inl h
      · exact .inr (.inr h)
def setT (L : List Tag) (s : List UInt8) (v : List Int) : List Tag := (delT L s).takeWhile (fun t => decide (t.1 < s)) ++ (s, v) :: (delT L s).dropWhile (fun t => decide (t.1 < s))
theorem mem_setT {s : List UInt8} {v : List Int} {t : Tag} : t ∈ setT L s v ↔ t = (s, v) ∨ t ∈ delT L s := mem_set _ _ _ _
theorem has_setT (s : List UInt8) (v : List Int) (x : List UInt8) : hasT (setT L s v) x = (x == s || hasT L x) := by
  rw [Bool.eq_iff_iff]
  have e : ∀ (l : List Tag), hasT l x = true ↔ ∃ t ∈ l, t.1 = x := fun l => by unfold hasT; rw [List.any_eq_true]; simp
  rw [e]
  simp only [mem_setT]
  rw [Bool.or_eq_true, beq_iff_eq]
  have hd := hasT_del L s x
  constructor
  · rintro ⟨t, rfl | ht, rfl⟩
    · exact .inl rfl
    · exact .inr ((e L).2 ⟨t, (mem_del ht).2, rfl⟩)
  · intro h
    by_cases hx : x = s
    · exact ⟨(s, v), .inl rfl, hx.symm⟩
    · rcases h with h | h
      · exact absurd h hx
      · have : hasT (delT L s) x = true := by rw [hd, h]; simp [hx]
        obtain ⟨t, ht, he⟩ := (e _).1 this
        exact ⟨t, .inr ht, he⟩
theorem count_setT (s : List UInt8) (v x : List Int) : countT (setT L s v) x = if x = v then countT (delT L s) v + 1 else countT (delT L s) x := by
  have hc : ∀ y, countT (delT L s) y = (((delT L s).takeWhile (fun t => decide (t.1 < s))).filter (fun t => t.2 == y)).length + (((delT L s).dropWhile (fun t => decide (t.1 < s))).filter (fun t => t.2 == y)).length := fun y => by
    unfold countT
    have : (((delT L s).takeWhile (fun t => decide (t.1 < s)) ++ (delT L s).dropWhile (fun t => decide (t.1 < s))).filter (fun t => t.2 == y)).length = ((delT L s).filter (fun t => t.2 == y)).length := by rw [List.takeWhile_append_dropWhile]
    rw [List.filter_append, List.length_append] at this
    rw [← this, Int.natCast_add]
  have h1 : countT (setT L s v) x = (((delT L s).takeWhile (fun t => decide (t.1 < s))).filter (fun t => t.2 == x)).length + (((s, v) :: (delT L s).dropWhile (fun t => decide (t.1 < s))).filter (fun t => t.2 == x)).length := by
    unfold countT setT
    rw [List.filter_append, List.length_append, Int.natCast_add]
  rw [h1]
  split
  · rename_i e
    subst e
    rw [hc, List.filter_cons_of_pos (by simp), List.length_cons, Int.natCast_add]
    exact (Int.add_assoc _ _ _).symm
  · rename_i e
    rw [hc, List.filter_cons_of_neg (by simp; exact fun h => e h.symm)]
theorem lt_of_not {a b : List UInt8} (h : ¬ a < b) (hne : a ≠ b) : b < a := Classical.byContradiction fun h2 => hne (List.le_antisymm (show a ≤ b from h2) (show b ≤ a from h))
theorem len_setT (s : List UInt8) (v : List Int) : (setT L s v).length = (delT L s).length + 1 := by
  unfold setT
  have : ((delT L s).takeWhile (fun t => decide (t.1 < s)) ++ (delT L s).dropWhile (fun t => decide (t.1 < s))).length = (delT L s).length := by rw [List.takeWhile_append_dropWhile]
  rw [List.length_append] at this
  rw [List.length_append, List.length_cons, ← Nat.add_assoc, this]
theorem head_drop {α : Type} {p : α → Bool} : ∀ {l : List α} {a : α} {r : List α}, l.dropWhile p = a :: r → p a = false
  | [], _, _, h => by cases h
  | x :: l, a, r, h => by
    rw [List.dropWhile_cons] at h
    split at h
    · exact head_drop h
    · rename_i hx
      injection h with h1 _
      rw [← h1]
      simpa using hx
theorem up_setT (h : L.Pairwise fun a b => a.1 < b.1) (s : List UInt8) (v : List Int) : (setT L s v).Pairwise fun a b => a.1 < b.1 := by
  have hd : (delT L s).Pairwise fun a b : Tag => a.1 < b.1 := h.filter _
  have hne : ∀ t ∈ delT L s, t.1 ≠ s := fun t ht => (mem_del ht).1
  unfold setT
  generalize delT L s = D at hd hne
  have h1 : ∀ t ∈ D.takeWhile (fun t => decide (t.1 < s)), t.1 < s := fun t ht => by
    have := List.all_takeWhile (p := fun t : Tag => decide (t.1 < s)) (l := D)
    rw [List.all_eq_true] at this
    simpa using this t ht
  have h2 : ∀ t ∈ D.dropWhile (fun t => decide (t.1 < s)), s < t.1 := by
    cases hdr : D.dropWhile (fun t => decide (t.1 < s)) with
    | nil => simp
    | cons a r =>
      have hp := head_drop hdr
      have hs : (a :: r).Sublist D := by rw [← hdr]; exact List.dropWhile_sublist _
      have ha : s < a.1 := lt_of_not (by simpa using hp) (hne a (hs.subset (by simp)))
      have hr := List.pairwise_cons.1 (hd.sublist hs)
      intro t ht
      rcases List.mem_cons.1 ht with rfl | ht
      · exact ha
      · exact List.lt_trans ha (hr.1 t ht)
  have h3 := hd.sublist (List.takeWhile_sublist (fun t : Tag => decide (t.1 < s)))
  have h4 := hd.sublist (List.dropWhile_sublist (fun t : Tag => decide (t.1 < s)))
  rw [List.pairwise_append]
  refine ⟨h3, List.pairwise_cons.2 ⟨h2, h4⟩, fun a ha b hb => ?_⟩
  rcases List.mem_cons.1 hb with rfl | hb
  · exact h1 a ha
  · exact List.lt_trans (h1 a ha) (h2 b hb)
theorem len_del {s : List UInt8} (h : hasT L s = true) : (delT L s).length + 1 ≤ L.length := by
  obtain ⟨t, ht, he⟩ := List.any_eq_true.1 h
  unfold delT
  have hlt := (List.length_filter_lt_length_iff_exists (p := fun t : Tag => t.1 != s)).2 ⟨t, ht, by simp [eq_of_beq he]⟩
  omega
theorem OkT.set (h : OkT L) {s : List UInt8} {v : List Int} (hs : nameB s = true) (hv : VecOk v) (hg : goodV v = true) (hl : hasT L s = true ∨ L.length < 32) : OkT (setT L s v) := by
  refine ⟨up_setT h.up s v, fun t ht => ?_, ?_⟩
  · rcases mem_setT.1 ht with rfl | ht
    · exact ⟨hs, hv, hg⟩
    · exact h.ok t (mem_del ht).2
  · rw [len_setT]
    have h1 := h.len
    have h2 : (delT L s).length ≤ L.length := List.length_filter_le _ _
    rcases hl with hl | hl
    · have := len_del hl
      omega
    · omega
theorem get_nil (w : World) (s : ByteArray) : Calls Try.prog 17 #[.pointer none, .string s] w fun e w' => e = .returned (.tuple #[vv (List.replicate 64 0), .bool false]) ∧ Grow w w' := by
  go_enter Try.func17, Try.ntmps17
  go_wp2_with (refine store_blk rfl _ _ _ rfl w.heap.size (List.replicate 64 (.int .u16 0)) rfl rfl TV _ (Blk.new _ _ _ _ rfl rfl) (by rw [sizeV]; rfl) rfl rfl ?_)
  exact ret_blk_tmp rfl w.heap.size _ _ _ _ rfl ((Blk.new _ _ _ _ rfl rfl).setRow _) undV rfl (by rw [sizeV]; rfl) rfl rfl ⟨rfl, Grow.setRow (Grow.alloc _ _) (Nat.le_refl _) _⟩
set_option maxRecDepth 100000 in
set_option maxHeartbeats 1000000 in
theorem get_any (h : TagI w B g bs bn n L) (s : List UInt8) (hs : s.length ≤ maxLen) :
    Calls Try.prog 17 #[.pointer (some ⟨g, 0, none⟩), .string (str s)] w fun e w' => e = .returned (.tuple #[vv (getT L s), .bool (hasT L s)]) ∧ Grow w w' := by
  obtain ⟨W0, hW0⟩ : ∃ W, W = w.alloc (.cells (List.replicate 64 (.int .u16 0)).toArray TV) := ⟨_, rfl⟩
  have hg0 : Grow w W0 := by rw [hW0]; exact Grow.alloc _ _
  have hT0 := h.grow hg0
  have x0 := hT0.bx.cell (i := 0) rfl
  have hl := hT0.mt.look hs
  have hio := ints_ok (h.vec s)
  have hb0 : Blk W0 w.heap.size TV (List.replicate 64 (.int .u16 0)) := by rw [hW0]; exact Blk.new _ _ _ _ rfl rfl
  unfold vv at hl ⊢
  obtain ⟨cs, hcs⟩ : ∃ A, A = ints .u16 (getT L s) := ⟨_, rfl⟩
  obtain ⟨q, hq⟩ : ∃ q, q = str s := ⟨_, rfl⟩
  obtain ⟨y, hy⟩ : ∃ y, y = hasT L s := ⟨_, rfl⟩
  rw [← hcs] at hl hio ⊢
  rw [← hq, ← hy] at hl
  rw [← hq, ← hy]
  have HC := Lib.hid hio.1
  have HO := Lib.hid hio.2
  have HG0 := Lib.hid hg0
  have HB0 := Lib.hid hb0
  have HW0 := Lib.hid hW0
  clear h hs hcs hq hy hio hg0 hb0 hW0 hT0
  go_enter Try.func17, Try.ntmps17
  try dsimp only
  repeat (first | with_reducible (refine wp_region_cut (k := 1) ?_) | go_values | go_guarded | go_step | go_upon | go_back)
  unfold Cut
  refine wp_named ?_
  intro W hW
  obtain rfl : W = W0 := hW.trans HW0.out.symm
  clear hW
  try dsimp only
  repeat (first | with_reducible (refine wp_region_cut (k := 4) ?_) | (refine store_blk rfl _ _ _ rfl W.heap.size cs rfl rfl TV _ (Blk.new _ _ _ _ rfl rfl) (by rw [sizeV, HC.out]) HC.out.symm HO.out ?_) | go_values | go_guarded | go_step | go_upon | go_back)
  unfold Cut
  refine wp_named ?_
  intro W2 hW2
  have hg2 : Grow W W2 := by rw [hW2]; exact Grow.setRow (Grow.alloc _ _) (Nat.le_refl _) _
  have hb2 : Blk W2 W.heap.size TV cs := by rw [hW2]; exact (Blk.new _ _ _ _ rfl rfl).setRow _
  have hb3 : Blk W2 w.heap.size TV (List.replicate 64 (.int .u16 0)) := HB0.out.grow hg2
  have HG2 := Lib.hid hg2
  clear hg2 hW2 hl x0
  go_wp2_with (first | (refine load_blk rfl _ _ rfl W.heap.size rfl _ _ _ hb2 undV rfl (by rw [sizeV, HC.out]) ?_) | (refine store_blk rfl _ _ _ rfl w.heap.size cs rfl rfl TV _ hb3 (by rw [sizeV, HC.out]) (by rw [HC.out]; rfl) HO.out ?_))
  exact ret_blk_tmp rfl w.heap.size _ cs _ _ rfl (hb3.setRow _) undV rfl (by rw [sizeV, HC.out]) rfl rfl ⟨rfl, Grow.setRow (HG0.out.trans HG2.out) (Nat.le_refl _) _⟩
theorem drop_nil (w : World) (s : ByteArray) : Calls Try.prog 16 #[.pointer none, .string s] w fun e w' => e = .returned (.int .i64 1) ∧ Grow w w' := by
  go_enter Try.func16, Try.ntmps16
  go_wp2_with fail
  go_ret
  exact ⟨rfl, Grow.refl _⟩
def dropE (L : List Tag) (s : List UInt8) : Nat := if hasT L s then 0 else 6
set_option maxRecDepth 100000 in
set_option maxHeartbeats 1000000 in
theorem drop_any (h : TagI w B g bs bn n L) (hn : n < 1000000) (s : List UInt8) (hs : s.length ≤ maxLen) :
    Calls Try.prog 16 #[.pointer (some ⟨g, 0, none⟩), .string (str s)] w fun e w' => e = .returned (.int .i64 (dropE L s)) ∧ TagI w' B g bs bn (n + 3) (delT L s) ∧ Keep B (Kt bs bn) w w' := by
  have x0 := h.bx.cell (i := 0) rfl
  have hl := h.mt.look hs
  have hio := ints_ok (h.vec s)
  unfold vv at hl
  obtain ⟨cs, hcs⟩ : ∃ A, A = ints .u16 (getT L s) := ⟨_, rfl⟩
  obtain ⟨q, hq⟩ : ∃ q, q = str s := ⟨_, rfl⟩
  rw [← hcs] at hl hio
  have HF : Hid (∀ w1, Grow w w1 → Calls Try.prog 45 #[.pointer (some ⟨g, 0, none⟩), .string q] w1 fun e w' => (∃ v, e = .returned v) ∧ TagI w' B g bs bn (n + 3) (delT L s) ∧ Keep B (Kt bs bn) w w') := Lib.hid fun w1 hg => by
    rw [hq]
    refine (forget_any (h.grow hg) hn s hs).mono ?_
    rintro e w' ⟨h1, h2, h3⟩
    exact ⟨h1, h2, (Keep.of hg h.base).trans h3⟩
  rw [← hq] at hl
  rw [← hq]
  have HC := Lib.hid hio.1
  have HO := Lib.hid hio.2
  have HT := Lib.hid h
  cases hh : hasT L s with
  | false =>
    rw [hh] at hl
    have HH := Lib.hid hh
    clear h hs hn hcs hq hio hh
    go_enter Try.func16, Try.ntmps16
    go_wp2_with (refine store_blk rfl _ _ _ rfl w.heap.size cs rfl rfl TV _ (Blk.new _ _ _ _ rfl rfl) (by rw [sizeV, HC.out]) HC.out.symm HO.out ?_)
    go_ret
    have h3 := HT.out.grow (Grow.setRow (Grow.alloc w (.cells (List.replicate 64 (.int .u16 0)).toArray TV)) (Nat.le_refl w.heap.size) cs.toArray)
    refine ⟨by unfold dropE; rw [HH.out]; rfl, ?_, Keep.of (Grow.setRow (Grow.alloc w _) (Nat.le_refl _) _) HT.out.base⟩
    rw [delT_id HH.out]
    exact ⟨h3.bx, h3.mt.mono (by omega), h3.mn.mono (by omega), h3.gB, h3.sB, h3.nB, h3.ne, h3.ok⟩
  | true =>
    rw [hh] at hl
    have HH := Lib.hid hh
    clear h hs hn hcs hq hio hh
    go_enter Try.func16, Try.ntmps16
    go_wp2_with (refine store_blk rfl _ _ _ rfl w.heap.size cs rfl rfl TV _ (Blk.new _ _ _ _ rfl rfl) (by rw [sizeV, HC.out]) HC.out.symm HO.out ?_)
    refine (HF.out _ (Grow.setRow (Grow.alloc w _) (Nat.le_refl _) _)).mono ?_
    rintro e w1 ⟨⟨v, rfl⟩, h2, h3⟩
    have HEND := Lib.hid (And.intro h2 h3)
    clear h2 h3
    go_wp2_with fail
    go_ret
    exact ⟨by unfold dropE; rw [HH.out]; rfl, HEND.out⟩
end
end Go.Proofs.Ythclgmpjmhacdaa.tg
