/- Tags: what they are; New, forget, Get, Drop. -/
import Derived.Test.YthclgmpjmhacdaaTgM
import Derived.Test.YthclgmpjmhacdaaTgN
import Derived.Test.YthclgmpjmhacdaaLdC
import Derived.Test.YthclgmpjmhacdaaOwnS
import Derived.Laws.EntriesVeiled
namespace Go.Proofs.Ythclgmpjmhacdaa.tg
open Go Go.RowKit Go.Par Go.Kit

abbrev TT : TypeId := 79
def countT (L : List Tag) (v : List Int) : Int := (L.filter fun t => t.2 == v).length
def delT (L : List Tag) (s : List UInt8) : List Tag := L.filter fun t => t.1 != s
structure OkT (L : List Tag) : Prop where
  up : L.Pairwise fun a b => a.1 < b.1
  ok : ∀ t ∈ L, nameB t.1 = true ∧ VecOk t.2 ∧ goodV t.2 = true
  len : L.length ≤ 32
/-- what is not the maps' -/
def Kt (bs bn : Nat) (k : Nat) : Prop := k ≠ bs ∧ k ≠ bn
structure TagI (w : World) (B g bs bn n : Nat) (L : List Tag) : Prop where
  bx : Blk w g TT [.map (some bs), .map (some bn)]
  mt : MapT w bs n L
  mn : MapN w bn n (countT L)
  gB : B ≤ g
  sB : B ≤ bs
  nB : B ≤ bn
  ne : bs ≠ bn
  ok : OkT L
theorem MapT.not_blk {w : World} {b n : Nat} {L : List Tag} (h : MapT w b n L) {j : Nat} {t : TypeId} {cs : List Value} (hb : Blk w j t cs) : j ≠ b := by
  obtain ⟨D, ⟨es, clock, h1, -⟩, -⟩ := h
  intro e
  unfold Blk at hb
  rw [e, h1] at hb
  cases hb
theorem MapN.not_blk {w : World} {b n : Nat} {C : List Int → Int} (h : MapN w b n C) {j : Nat} {t : TypeId} {cs : List Value} (hb : Blk w j t cs) : j ≠ b := by
  obtain ⟨D, ⟨es, clock, h1, -⟩, -⟩ := h
  intro e
  unfold Blk at hb
  rw [e, h1] at hb
  cases hb
section
variable {w w' : World} {B g bs bn n m : Nat} {L L' : List Tag}
theorem TagI.keep (h : TagI w B g bs bn n L) (hk : Keep B (Kt bs bn) w w') (ht : MapT w' bs m L') (hn : MapN w' bn m (countT L')) (ok : OkT L') : TagI w' B g bs bn m L' :=
  ⟨hk.blk h.bx ⟨h.mt.not_blk h.bx, h.mn.not_blk h.bx⟩, ht, hn, h.gB, h.sB, h.nB, h.ne, ok⟩
theorem TagI.grow (h : TagI w B g bs bn n L) (hg : Grow w w') : TagI w' B g bs bn n L := ⟨h.bx.grow hg, h.mt.grow hg, h.mn.grow hg, h.gB, h.sB, h.nB, h.ne, h.ok⟩
theorem TagI.base (h : TagI w B g bs bn n L) : B ≤ w.heap.size := Nat.le_of_lt (Nat.lt_of_le_of_lt h.gB h.bx.lt)
theorem OkT.nodup (h : OkT L) : (L.map (·.1)).Nodup := by
  refine List.pairwise_map.2 (h.up.imp fun {a b} hab e => ?_)
  rw [e] at hab
  exact List.lt_irrefl _ hab
theorem OkT.del (h : OkT L) (s : List UInt8) : OkT (delT L s) := ⟨h.up.filter _, fun t ht => h.ok t ((List.mem_filter.1 ht).1), Nat.le_trans (List.length_filter_le _ _) h.len⟩
theorem hasT_del (L : List Tag) (s x : List UInt8) : hasT (delT L s) x = (x != s && hasT L x) := by
  unfold hasT delT
  induction L with
  | nil => simp
  | cons t r ih =>
    by_cases e : t.1 = s
    · rw [List.filter_cons_of_neg (by simp [e])]
      rw [ih]
      by_cases e2 : x = s
      · simp [e2]
      · have e3 : (s == x) = false := beq_false_of_ne fun h => e2 h.symm
        simp [e, e3]
    · rw [List.filter_cons_of_pos (by simp [e])]
      rw [List.any_cons, List.any_cons, ih]
      by_cases e2 : x = s
      · subst e2
        rw [show (t.1 == x) = false from beq_false_of_ne e]
        simp
      · rw [show (x != s) = true by simp [e2]]
        simp
theorem mem_del {L : List Tag} {s : List UInt8} {t : Tag} (h : t ∈ delT L s) : t.1 ≠ s ∧ t ∈ L := by
  unfold delT at h
  rw [List.mem_filter] at h
  exact ⟨by simpa using h.2, h.1⟩
theorem delT_id {L : List Tag} {s : List UInt8} (h : hasT L s = false) : delT L s = L := by
  unfold delT
  rw [List.filter_eq_self]
  intro t ht
  have := List.any_eq_false.1 h t ht
  simpa using this
theorem count_del (h : (L.map (·.1)).Nodup) {s : List UInt8} (hs : hasT L s = true) (x : List Int) : countT (delT L s) x = if x = getT L s then countT L (getT L s) - 1 else countT L x := by
  induction L with
  | nil => simp [hasT] at hs
  | cons t r ih =>
    have hn := List.nodup_cons.1 h
    by_cases e : t.1 = s
    · have h1 : hasT r s = false := by
        unfold hasT
        rw [List.any_eq_false]
        intro u hu hc
        exact hn.1 (List.mem_map.2 ⟨u, hu, (eq_of_beq hc).trans e.symm⟩)
      have h2 : delT (t :: r) s = r := by
        unfold delT
        rw [List.filter_cons_of_neg (by simp [e])]
        exact delT_id h1
      have h3 : getT (t :: r) s = t.2 := by
        unfold getT
        rw [List.find?_cons_of_pos (by simp [e])]
      rw [h2, h3]
      unfold countT
      by_cases e2 : x = t.2
      · subst e2
        rw [if_pos rfl, List.filter_cons_of_pos (by simp)]
        simp
      · rw [if_neg e2, List.filter_cons_of_neg (by simp; exact fun h => e2 h.symm)]
    · have h1 : hasT r s = true := by
        unfold hasT at hs ⊢
        simpa [e] using hs
      have h2 : delT (t :: r) s = t :: delT r s := by
        unfold delT
        rw [List.filter_cons_of_pos (by simp [e])]
      have h3 : getT (t :: r) s = getT r s := by
        unfold getT
        rw [List.find?_cons_of_neg (by simp [e])]
      rw [h2, h3]
      have := ih hn.2 h1
      unfold countT at this ⊢
      by_cases e2 : t.2 = x
      · rw [List.filter_cons_of_pos (by simp [e2]), List.length_cons]
        split
        · rename_i e3
          rw [← e3, List.filter_cons_of_pos (by simp [e2])]
          rw [if_pos e3, ← e3] at this
          rw [List.length_cons]
          omega
        · rename_i e3
          rw [if_neg e3] at this
          rw [List.filter_cons_of_pos (by simp [e2]), List.length_cons]
          omega
      · rw [List.filter_cons_of_neg (by simp [e2])]
        split
        · rename_i e3
          rw [← e3, List.filter_cons_of_neg (by simp [e2])]
          rw [if_pos e3, ← e3] at this
          exact this
        · rename_i e3
          rw [if_neg e3] at this
          rw [List.filter_cons_of_neg (by simp [e2])]
          exact this
theorem name_le {s : List UInt8} (h : nameB s = true) : s.length ≤ 16 ∧ 1 ≤ s.length := by
  unfold nameB at h
  simp at h
  omega
theorem new_any (w : World) : Calls Try.prog 12 #[] w fun e w' => ∃ g bs bn, e = .returned (.pointer (some ⟨g, 0, none⟩)) ∧ TagI w' w.heap.size g bs bn 0 [] ∧ Grow w w' := by
  have hmm := @run_makeMap Try.prog
  go_enter Try.func12, Try.ntmps12
  go_wp2_with fail
  go_ret
  have h1 := MapT.made w
  have g1 := Grow.alloc w (.map #[] 0)
  have h2 := MapN.made (w.alloc (.map #[] 0))
  have g2 := Grow.alloc (w.alloc (.map #[] 0)) (.map #[] 0)
  have g3 := Grow.alloc ((w.alloc (.map #[] 0)).alloc (.map #[] 0)) (.cells #[.map (some w.heap.size), .map (some (w.heap.size + 1))] TT)
  refine ⟨w.heap.size + 2, w.heap.size, w.heap.size + 1, rfl, ⟨Blk.new _ _ _ _ rfl (by simp), (h1.grow g2).grow g3, ?_, by omega, Nat.le_refl _, by omega, by omega, ⟨by simp, by simp, by simp⟩⟩, (g1.trans g2).trans g3⟩
  have := h2.grow g3
  rw [show countT [] = fun _ => 0 from rfl]
  simpa using this
theorem TagI.bs_lt (h : TagI w B g bs bn n L) : bs < w.heap.size := h.mt.lt
theorem wp_named {P : Program} {c : Code} {Q : Exit → Act → World → Prop} {a : Act} {X : World} (h : ∀ W, W = X → Code.wp P c Q a W) : Code.wp P c Q a X := h X rfl
theorem wpList_delete_map {P : Program} {ops : Array Oper} {rest : List Oper} {o : Oper} {a : Act} {w w' : World} {Q : Exit → Act → World → Prop}
    (hg : o.guard = none) (x y : Operand) (t k : TypeId) (hop : o.op = Op.call { callee := Callee.builtin Builtin.delete, args := #[x, y], argTypes := #[t, k] })
    (b : Nat) (u : Value) (hx : a.eval x = .map (some b)) (hy : a.eval y = u) (hrun : ∀ ty, (Builtin.delete_ #[t, k] ty #[.map (some b), u]).run P w = .ok (.tuple #[]) w')
    (hK : wpList P ops Q rest (a.put o.dst (.tuple #[])) w') : wpList P ops Q (o :: rest) a w := by
  refine wpList_plain hg fun K hK' => ?_
  have hrun' := hrun o.type
  unfold Oper.wp
  simp [execOp, hop, resolve, invoke, builtin, hx, hy, hrun', Result.andThen]
  exact hK' _ _ hK
theorem keep_map {b : Nat} (hB : B ≤ w.heap.size) (hb : B ≤ b) (hg : w.grownBy w' (some b)) : Keep B (fun k => k ≠ b) w w' :=
  Keep.by_ (Keep.refl w) hB hg fun k hk => by
    injection hk with hk
    subst hk
    exact ⟨hb, fun hn => hn rfl⟩
theorem count_pos {v : List Int} {s : List UInt8} (h : hasT L s = true) (hv : v = getT L s) : 1 ≤ countT L v := by
  have hm := getT_yes h
  unfold countT
  have : (s, getT L s) ∈ L.filter fun t => t.2 == v := by rw [List.mem_filter]; exact ⟨hm, by rw [hv]; exact beq_self_eq_true _⟩
  have := List.length_pos_of_mem this
  omega
theorem count_le (v : List Int) : countT L v ≤ L.length := by
  unfold countT
  have := List.length_filter_le (fun t : Tag => t.2 == v) L
  omega
def EntU (bn n : Nat) (C : List Int → Int) (v : List Int) (u : Value) (w : World) : Prop := ∃ (s : Nat) (u0 : Value), u = .tuple #[u0, .int .i64 s] ∧ EntN w bn n C v s
theorem EntU.mono {bn n : Nat} {C : List Int → Int} {v : List Int} : Mono Grow (EntU bn n C v) := fun _ _ _ ⟨s, u0, h, k⟩ hg => ⟨s, u0, h, k.grow hg⟩
def EntV (bn n : Nat) (C : List Int → Int) (v : List Int) (u : Value) (w : World) : Prop := ∃ s : Nat, u = .int .i64 s ∧ EntN w bn n C v s
theorem EntV.mono {bn n : Nat} {C : List Int → Int} {v : List Int} : Mono Grow (EntV bn n C v) := fun _ _ _ ⟨s, h, k⟩ hg => ⟨s, h, k.grow hg⟩
theorem ints_ok {v : List Int} (h : VecOk v) : (ints .u16 v).length = 64 ∧ (ints .u16 v).all (·.oneCell') = true := by
  refine ⟨by simp [ints, h.1], ?_⟩
  rw [List.all_eq_true]
  intro x hx
  unfold ints at hx
  obtain ⟨y, _, rfl⟩ := List.mem_map.1 hx
  rfl
theorem vec_zero : VecOk (List.replicate 64 0) := ⟨by simp, fun x hx => by rw [List.mem_replicate] at hx; omega⟩
theorem TagI.vec (h : TagI w B g bs bn n L) (s : List UInt8) : VecOk (getT L s) := by
  cases hh : hasT L s with
  | false => rw [getT_no hh]; exact vec_zero
  | true => exact (h.ok.ok _ (getT_yes hh)).2.1
set_option maxRecDepth 100000 in
set_option maxHeartbeats 1000000 in
theorem forget_no (h : TagI w B g bs bn n L) (s : List UInt8) (hs : s.length ≤ maxLen) (hh : hasT L s = false) :
    Calls Try.prog 45 #[.pointer (some ⟨g, 0, none⟩), .string (str s)] w fun e w' => (∃ v, e = .returned v) ∧ Grow w w' := by
  have x0 := h.bx.cell (i := 0) rfl
  have hl := h.mt.look hs
  rw [hh] at hl
  unfold vv at hl
  have hio := ints_ok (h.vec s)
  obtain ⟨cs, hcs⟩ : ∃ A, A = ints .u16 (getT L s) := ⟨_, rfl⟩
  obtain ⟨q, hq⟩ : ∃ q, q = str s := ⟨_, rfl⟩
  rw [← hcs] at hl hio
  rw [← hq] at hl
  rw [← hq]
  have HC := Lib.hid hio.1
  have HO := Lib.hid hio.2
  clear h hs hh hcs hq hio
  go_enter Try.func45, Try.ntmps45
  go_wp2_with (refine store_blk rfl _ _ _ rfl w.heap.size cs rfl rfl TV _ (Blk.new _ _ _ _ rfl rfl) (by rw [sizeV, HC.out]) HC.out.symm HO.out ?_)
  refine bodyPost_ret (results_none rfl _ _ _) rfl ?_
  exact ⟨⟨_, rfl⟩, Grow.setRow (Grow.alloc _ _) (Nat.le_refl _) _⟩
set_option maxRecDepth 100000 in
set_option maxHeartbeats 1000000 in
theorem forget_yes (h : TagI w B g bs bn n L) (hn : n < 1000000) (s : List UInt8) (hs : s.length ≤ maxLen) (hh : hasT L s = true) :
    Calls Try.prog 45 #[.pointer (some ⟨g, 0, none⟩), .string (str s)] w fun e w' => (∃ v, e = .returned v) ∧ TagI w' B g bs bn (n + 3) (delT L s) ∧ Keep B (Kt bs bn) w w' := by
  have x0 := h.bx.cell (i := 0) rfl
  have hl := h.mt.look hs
  rw [hh] at hl
  unfold vv at hl
  have hio := ints_ok (h.vec s)
  obtain ⟨cs, hcs⟩ : ∃ A, A = ints .u16 (getT L s) := ⟨_, rfl⟩
  obtain ⟨q, hq⟩ : ∃ q, q = str s := ⟨_, rfl⟩
  rw [← hcs] at hl hio
  rw [← hq] at hl
  rw [← hq]
  have HC := Lib.hid hio.1
  have HO := Lib.hid hio.2
  have HCS := Lib.hid hcs
  have HQ := Lib.hid hq
  have HT := Lib.hid h
  have HNN := Lib.hid hn
  have HH := Lib.hid hh
  have HS := Lib.hid hs
  have HV : Hid (VecOk (getT L s)) := Lib.hid (h.vec s)
  clear h hs hh hcs hq hio hn
  go_enter Try.func45, Try.ntmps45
  go_wp2_with (refine store_blk rfl _ _ _ rfl w.heap.size cs rfl rfl TV _ (Blk.new _ _ _ _ rfl rfl) (by rw [sizeV, HC.out]) HC.out.symm HO.out ?_)
  refine wp_named ?_
  intro W1 hW1
  have hg1 : Grow w W1 := by rw [hW1]; exact Grow.setRow (Grow.alloc _ _) (Nat.le_refl _) _
  have hb1 : Blk W1 w.heap.size TV cs := by rw [hW1]; exact (Blk.new _ _ _ _ rfl rfl).setRow _
  have HG1 := Lib.hid hg1
  have HB1 := Lib.hid hb1
  have HT1 := Lib.hid (HT.out.grow hg1)
  clear hl x0 hW1 hg1 hb1
  obtain ⟨c, hc⟩ : ∃ c, c = countT L (getT L s) := ⟨_, rfl⟩
  have hc1 : 1 ≤ c := by rw [hc]; exact count_pos HH.out rfl
  have hc2 : c ≤ 32 := by have := count_le (L := L) (getT L s); have := HT.out.ok.len; omega
  have HCC := Lib.hid hc
  clear hc
  apply (fun (v0 v1 v2 v3 v4 v5 v6 : Value) mono draw obl tail => wp_region_piv (I := fun b w1 => Keep B (fun k => k ≠ bn) W1 w1 ∧ MapN w1 bn (n + 1 + b) (countT L)) (G := Grow) (Rp := (fun _ _ _ => True)) (Φ := phi2 [veq2 v0, veq2 v1, veq2 v2, veq2 v3, veq2 v4, veq2 v5, veq2 v6, (from2 1 (EntU bn (n + 2) (countT L) (getT L s))), (from2 1 (EntV bn (n + 2) (countT L) (getT L s)))]) (m := 9) (ps := [7]) (qs := [(0, 0, false), (0, 0, false), (0, 0, false), (0, 0, false), (0, 0, false), (0, 1, false), (0, 1, false), (0, 0, true), (1, 1, false)]) (dls := [[], [(17, 0)], [(18, 1)], [(19, 2)], [], [(20, 3), (21, 4)], [(22, 5)], [(20, 3), (21, 4)], [(24, 7)]]) (ds := [17, 18, 19, 20, 21, 22, 23, 24, 25]) (by kernel_rfl) (by kernel_rfl) (by kernel_rfl) (by decide) rfl rfl draw (mono2_phi mono) (piv2_phi mono) obl tail)
  case obl =>
    refine obls2_cons (fun b hb1 hb2 f w' hI hH Q hQ => ?_) ?_
    · skip
      obtain rfl : b = 0 := by omega
      clear hb1 hb2
      clear hH
      refine wpList_view ?_; show wpList _ _ _ [_] ⟨#[_, _, _, _, _, _, _, _, _, _, _, _, _, _, _, _, _, _, _, _, _, _, _, _, _, _, _, _, _, _, _, _, _, _, _, _, _, _, _, _, _, _, _], _⟩ _
      repeat (first | go_guarded | go_step)
      exact hQ _ _ hI (Grow.refl _) rfl rfl
    refine obls2_cons (fun b hb1 hb2 f w' hI hH Q hQ => ?_) ?_
    · skip
      obtain rfl : b = 0 := by omega
      clear hb1 hb2
      have h0 := hH.get 0 (17, 0) rfl
      clear hH
      refine wpList_view ?_; show wpList _ _ _ [_] ⟨#[_, _, _, _, _, _, _, _, _, _, _, _, _, _, _, _, _, f 0, _, _, _, _, _, _, _, _, _, _, _, _, _, _, _, _, _, _, _, _, _, _, _, _, _], _⟩ _
      rw [show f 0 = _ from h0]
      clear h0
      repeat (first | go_guarded | go_step)
      exact hQ _ _ hI (Grow.refl _) rfl rfl
    refine obls2_cons (fun b hb1 hb2 f w' hI hH Q hQ => ?_) ?_
    · skip
      obtain rfl : b = 0 := by omega
      clear hb1 hb2
      have h1 := hH.get 0 (18, 1) rfl
      clear hH
      refine wpList_view ?_; show wpList _ _ _ [_] ⟨#[_, _, _, _, _, _, _, _, _, _, _, _, _, _, _, _, _, _, f 1, _, _, _, _, _, _, _, _, _, _, _, _, _, _, _, _, _, _, _, _, _, _, _, _], _⟩ _
      rw [show f 1 = _ from h1]
      clear h1
      repeat (first | go_guarded | go_step)
      exact hQ _ _ hI (Grow.refl _) rfl rfl
    refine obls2_cons (fun b hb1 hb2 f w' hI hH Q hQ => ?_) ?_
    · skip
      obtain rfl : b = 0 := by omega
      clear hb1 hb2
      have h2 := hH.get 0 (19, 2) rfl
      clear hH
      refine wpList_view ?_; show wpList _ _ _ [_] ⟨#[_, _, _, _, _, _, _, _, _, _, _, _, _, _, _, _, _, _, _, f 2, _, _, _, _, _, _, _, _, _, _, _, _, _, _, _, _, _, _, _, _, _, _, _], _⟩ _
      rw [show f 2 = _ from h2]
      clear h2
      have y0 := (hI.1.blk HT1.out.bx (HT1.out.mn.not_blk HT1.out.bx)).cell (i := 1) rfl
      repeat (first | go_guarded | go_step)
      exact hQ _ _ hI (Grow.refl _) rfl rfl
    refine obls2_cons (fun b hb1 hb2 f w' hI hH Q hQ => ?_) ?_
    · skip
      obtain rfl : b = 0 := by omega
      clear hb1 hb2
      clear hH
      refine wpList_view ?_; show wpList _ _ _ [_] ⟨#[_, _, _, _, _, _, _, _, _, _, _, _, _, _, _, _, _, _, _, _, _, _, _, _, _, _, _, _, _, _, _, _, _, _, _, _, _, _, _, _, _, _, _], _⟩ _
      have hb := hI.1.blk HB1.out (HT1.out.mn.not_blk HB1.out)
      have HIg := Lib.hid hI
      clear hI
      go_wp2_with (refine load_blk rfl _ _ rfl w.heap.size rfl _ _ _ hb undV rfl (by rw [sizeV, HC.out]) ?_)
      exact hQ _ _ HIg.out (Grow.refl _) rfl rfl
    refine obls2_cons (fun b hb1 hb2 f w' hI hH Q hQ => ?_) ?_
    · skip
      have h3 := hH.get 0 (20, 3) rfl
      have h4 := hH.get 1 (21, 4) rfl
      clear hH
      refine wpList_view ?_; show wpList _ _ _ [_] ⟨#[_, _, _, _, _, _, _, _, _, _, _, _, _, _, _, _, _, _, _, _, f 3, f 4, _, _, _, _, _, _, _, _, _, _, _, _, _, _, _, _, _, _, _, _, _], _⟩ _
      rw [show f 3 = _ from h3]
      rw [show f 4 = _ from h4]
      clear h3 h4
      have y0 := hI.2.get HV.out
      unfold vv at y0
      rw [← HCS.out, ← HCC.out] at y0
      repeat (first | go_guarded | go_step)
      exact hQ _ _ hI (Grow.refl _) rfl rfl
    refine obls2_cons (fun b hb1 hb2 f w' hI hH Q hQ => ?_) ?_
    · skip
      have h5 := hH.get 0 (22, 5) rfl
      clear hH
      refine wpList_view ?_; show wpList _ _ _ [_] ⟨#[_, _, _, _, _, _, _, _, _, _, _, _, _, _, _, _, _, _, _, _, _, _, f 5, _, _, _, _, _, _, _, _, _, _, _, _, _, _, _, _, _, _, _, _], _⟩ _
      rw [show f 5 = _ from h5]
      clear h5
      repeat (first | go_guarded | go_step)
      exact hQ _ _ hI (Grow.refl _) rfl rfl
    refine oblsP_cons (fun f w' hI hH Q hQ => ?_) ?_
    · skip
      have h3 := hH.get 0 (20, 3) rfl
      have h4 := hH.get 1 (21, 4) rfl
      clear hH
      refine wpList_view ?_; show wpList _ _ _ [_] ⟨#[_, _, _, _, _, _, _, _, _, _, _, _, _, _, _, _, _, _, _, _, f 3, f 4, _, _, _, _, _, _, _, _, _, _, _, _, _, _, _, _, _, _, _, _, _], _⟩ _
      rw [show f 3 = _ from h3]
      rw [show f 4 = _ from h4]
      clear h3 h4
      have hn := HNN.out
      obtain ⟨m, hm⟩ : ∃ m, m = n := ⟨_, rfl⟩
      obtain ⟨u, s', w5, hr, he, hg⟩ := hI.2.entry (by unfold maxLen; omega) HV.out
      clear hm
      unfold vv at hr
      rw [← HCS.out] at hr
      have HIG : Hid (Keep B (fun k => k ≠ bn) W1 w5 ∧ MapN w5 bn (n + 1 + 1) (countT L)) := Lib.hid ⟨hI.1.trans (keep_map (Nat.le_trans HT1.out.base hI.1.size) HT1.out.nB hg), he.map⟩
      have HE := Lib.hid he
      clear hI he hg hn
      go_wp2_with fail
      exact hQ _ _ HIG.out trivial (from2.mk ⟨s', u, rfl, HE.out⟩) rfl
    refine obls2_cons (fun b hb1 hb2 f w' hI hH Q hQ => ?_) ?_
    · skip
      obtain rfl : b = 1 := by omega
      clear hb1 hb2
      have h7 := hH.get 0 (24, 7) rfl
      clear hH
      refine wpList_view ?_; show wpList _ _ _ [_] ⟨#[_, _, _, _, _, _, _, _, _, _, _, _, _, _, _, _, _, _, _, _, _, _, _, _, f 7, _, _, _, _, _, _, _, _, _, _, _, _, _, _, _, _, _, _], _⟩ _
      replace h7 : (from2 1 (EntU bn (n + 2) (countT L) (getT L s))) (f 7) 1 w' := h7
      obtain ⟨u7, hu7⟩ : ∃ u, u = f 7 := ⟨_, rfl⟩
      rw [← hu7]
      rw [← hu7] at h7
      clear hu7
      obtain ⟨s', u0, rfl, he⟩ := h7.get
      have HIG := Lib.hid hI
      have HE := Lib.hid he
      clear hI he
      go_wp2_with fail
      exact hQ _ _ HIG.out (Grow.refl _) (from2.mk ⟨s', rfl, HE.out⟩) rfl
    exact obls2_nil
  case draw =>
    exact ⟨Keep.of (Grow.drew _) HT1.out.base, (HT1.out.mn.mono (by omega)).grow (Grow.drew _)⟩
  case mono => exact ⟨Mono2.veq _, Mono2.veq _, Mono2.veq _, Mono2.veq _, Mono2.veq _, Mono2.veq _, Mono2.veq _, Mono2.from EntU.mono, Mono2.from EntV.mono, trivial⟩
  case tail =>
    intro f w' hI hH
    have q3 := hH.get 3 (20, 3) rfl
    have q6 := hH.get 6 (23, 6) rfl
    have q8 : (from2 1 (EntV bn (n + 2) (countT L) (getT L s))) (f 8) 1 w' := hH.get 8 (25, 8) rfl
    clear hH
    refine wpList_merge (idx := [none, none, none, none, none, none, none, none, none, none, none, none, none, none, none, none, none, some 0, some 1, some 2, some 3, some 4, some 5, some 6, some 7, some 8, none, none, none, none, none, none, none, none, none, none, none, none, none, none, none, none, none]) (by kernel_rfl) ?_; show wpList _ _ _ [_] ⟨#[_, _, _, _, _, _, _, _, _, _, _, _, _, _, _, _, _, f 0, f 1, f 2, f 3, f 4, f 5, f 6, f 7, f 8, _, _, _, _, _, _, _, _, _, _, _, _, _, _, _, _, _], _⟩ _
    rw [show f 3 = _ from q3]
    rw [show f 6 = _ from q6]
    clear q3 q6
    generalize f 8 = x8 at *
    obtain ⟨s', rfl, he⟩ := q8.get
    have hn := HNN.out
    obtain ⟨C2, hC2⟩ : ∃ C2 : List Int → Int, C2 = countT (delT L s) := ⟨_, rfl⟩
    have hcc : ∀ x, C2 x = if x = getT L s then c - 1 else countT L x := fun x => by rw [hC2, count_del HT.out.ok.nodup HH.out x, HCC.out]
    obtain ⟨W2, hr, hmn, hgb⟩ := he.store (by unfold maxLen; omega) HV.out (c - 1) hcc
    have hk2 : Keep B (fun k => k ≠ bn) W1 W2 := hI.1.trans (keep_map (Nat.le_trans HT1.out.base hI.1.size) HT1.out.nB hgb)
    have HK2 := Lib.hid hk2
    have HN2 := Lib.hid hmn
    have HC2 := Lib.hid hC2
    have HCX := Lib.hid hcc
    clear hI he hmn hgb hk2 hn hC2 hcc
    go_wp2_with fail
    clear hr
    obtain ⟨d, hd⟩ : ∃ d, d = c - 1 := ⟨_, rfl⟩
    have hd0 : 0 ≤ d := by omega
    have hd1 : d ≤ 32 := by omega
    rw [← hd]
    have HD := Lib.hid hd
    have HX : Hid (C2 (getT L s) = d) := Lib.hid (by rw [HCX.out, if_pos rfl, hd])
    clear hd hc1 hc2
    have REST : Hid (∀ W3, Keep B (fun k => k ≠ bn) W1 W3 → MapN W3 bn (n + 3) (countT (delT L s)) → ∃ W4, W3.cell? ⟨g, 0, none⟩ = some (.map (some bs)) ∧ (∀ ty, (Builtin.delete_ #[TSM, TS] ty #[.map (some bs), .string q]).run Try.prog W3 = .ok (.tuple #[]) W4) ∧ TagI W4 B g bs bn (n + 3) (delT L s) ∧ Keep B (Kt bs bn) w W4) := Lib.hid fun W3 hk hm => by
      have hT := HT1.out
      have hbx := hk.blk hT.bx (hT.mn.not_blk hT.bx)
      have hmt : MapT W3 bs n L := hT.mt.same (hk.2 bs hT.ne hT.mt.lt)
      obtain ⟨W4, hr, hmt4, hg⟩ := hmt.drop (L' := delT L s) HS.out (hasT_del L s) (fun t ht => mem_del ht) 0
      rw [← HQ.out] at hr
      have hk4 := keep_map (Nat.le_trans hT.base hk.size) hT.sB hg
      refine ⟨W4, hbx.cell (i := 0) rfl, fun ty => by rw [← hr]; rfl, hT.keep (Keep.trans ⟨hk.1, fun k hk' hl => hk.2 k hk'.2 hl⟩ ⟨hk4.1, fun k hk' hl => hk4.2 k hk'.1 hl⟩) (hmt4.mono (by omega)) (hm.same (hk4.2 bn (fun e => hT.ne e.symm) hm.lt)) (hT.ok.del s), (Keep.of HG1.out HT.out.base).trans (Keep.trans ⟨hk.1, fun k hk' hl => hk.2 k hk'.2 hl⟩ ⟨hk4.1, fun k hk' hl => hk4.2 k hk'.1 hl⟩)⟩
    by_cases hz : d = 0
    · subst hz
      apply (fun (v0 v1 v2 v3 v4 v5 v6 : Value) mono obl tail => wp_region_par (R := Grow) (Φ := phi [veq v0, veq v1, veq v2, veq v3, veq v4, veq v5, veq v6]) (m := 7) (dls := [[], [(26, 0)], [(27, 1)], [(28, 2)], [], [(29, 3), (30, 4)], [(31, 5)]]) (ds := [26, 27, 28, 29, 30, 31, 32]) (by kernel_rfl) (by kernel_rfl) (by decide) rfl (Grow.drew _) (fun _ _ _ => Grow.trans) (mono_phi mono) obl tail)
      case obl =>
        refine obls_frame (fun a1 ha => ?_)
        have hsz := rd_size (n := 43) ha rfl
        have e0 := rd_slot 0 ha rfl
        have e4 := rd_slot 4 ha rfl
        clear ha
        refine obls_cons (fun f w' hR hH Q0 hQ0 => ?_) ?_
        · skip
          have s0 := sv_off f [] e0 rfl
          refine small_v hsz [(0, _)] ⟨some 1, (Op.move (.tmp 0)), 24, "", #[], none⟩ [_, undef] 1 rfl rfl ⟨s0, trivial⟩ rfl rfl hQ0 ?_
          clear hQ0 hH s0
          intro Q hQ
          repeat go_step
          exact hQ _ _ (Grow.refl _) rfl rfl
        refine obls_cons (fun f w' hR hH Q0 hQ0 => ?_) ?_
        · skip
          have s26 := (sv_at 26 0 hsz f [(26, 0)] rfl).trans (show f 0 = _ from hH.get 0 (26, 0) rfl)
          refine small_v hsz [(26, _)] ⟨some 1, (Op.nilCheck (.tmp 0)), 0, "", #[], none⟩ [_, undef] 1 rfl rfl ⟨s26, trivial⟩ rfl rfl hQ0 ?_
          clear hQ0 hH s26
          intro Q hQ
          repeat go_step
          exact hQ _ _ (Grow.refl _) rfl rfl
        refine obls_cons (fun f w' hR hH Q0 hQ0 => ?_) ?_
        · skip
          have s27 := (sv_at 27 1 hsz f [(27, 1)] rfl).trans (show f 1 = _ from hH.get 0 (27, 1) rfl)
          refine small_v hsz [(27, _)] ⟨some 1, (Op.fieldAddr 79 (.tmp 0) 1), 0, "", #[], none⟩ [_, undef] 1 rfl rfl ⟨s27, trivial⟩ rfl rfl hQ0 ?_
          clear hQ0 hH s27
          intro Q hQ
          repeat go_step
          exact hQ _ _ (Grow.refl _) rfl rfl
        refine obls_cons (fun f w' hR hH Q0 hQ0 => ?_) ?_
        · skip
          have s28 := (sv_at 28 2 hsz f [(28, 2)] rfl).trans (show f 2 = _ from hH.get 0 (28, 2) rfl)
          refine small_v hsz [(28, _)] ⟨some 1, (Op.load 77 (.tmp 0)), 77, "", #[], none⟩ [_, undef] 1 rfl rfl ⟨s28, trivial⟩ rfl rfl hQ0 ?_
          clear hQ0 hH s28
          intro Q hQ
          have y0 := ((HK2.out.blk HT1.out.bx (HT1.out.mn.not_blk HT1.out.bx)).grow hR).cell (i := 1) rfl
          repeat go_step
          exact hQ _ _ (Grow.refl _) rfl rfl
        refine obls_cons (fun f w' hR hH Q0 hQ0 => ?_) ?_
        · skip
          have s4 := sv_off f [] e4 rfl
          refine small_v hsz [(4, _)] ⟨some 1, (Op.load 37 (.tmp 0)), 37, "", #[], none⟩ [_, undef] 1 rfl rfl ⟨s4, trivial⟩ rfl rfl hQ0 ?_
          clear hQ0 hH s4
          intro Q hQ
          have hb := (HK2.out.blk HB1.out (HT1.out.mn.not_blk HB1.out)).grow hR
          go_wp2_with (refine load_blk rfl _ _ rfl w.heap.size rfl _ _ _ hb undV rfl (by rw [sizeV, HC.out]) ?_)
          exact hQ _ _ (Grow.refl _) rfl rfl
        refine obls_cons (fun f w' hR hH Q0 hQ0 => ?_) ?_
        · skip
          have s29 := (sv_at 29 3 hsz f [(29, 3), (30, 4)] rfl).trans (show f 3 = _ from hH.get 0 (29, 3) rfl)
          have s30 := (sv_at 30 4 hsz f [(29, 3), (30, 4)] rfl).trans (show f 4 = _ from hH.get 1 (30, 4) rfl)
          refine small_v hsz [(29, _), (30, _)] ⟨some 2, (Op.lookup 77 (.tmp 0) (.tmp 1) false), 3, "", #[], none⟩ [_, _, undef] 2 rfl rfl ⟨s29, s30, trivial⟩ rfl rfl hQ0 ?_
          clear hQ0 hH s29 s30
          intro Q hQ
          have y0 := (HN2.out.grow hR).get HV.out
          unfold vv at y0
          rw [← HCS.out, HX.out] at y0
          repeat go_step
          exact hQ _ _ (Grow.refl _) rfl rfl
        refine obls_cons (fun f w' hR hH Q0 hQ0 => ?_) ?_
        · skip
          have s31 := (sv_at 31 5 hsz f [(31, 5)] rfl).trans (show f 5 = _ from hH.get 0 (31, 5) rfl)
          refine small_v hsz [(31, _)] ⟨some 1, (Op.binOp BinOp.eql 3 (.tmp 0) (Operand.const (Value.int IntKind.i64 0)) 3), 4, "", #[], none⟩ [_, undef] 1 rfl rfl ⟨s31, trivial⟩ rfl rfl hQ0 ?_
          clear hQ0 hH s31
          intro Q hQ
          repeat go_step
          exact hQ _ _ (Grow.refl _) rfl rfl
        exact obls_nil
      case mono => exact ⟨Mono.veq _, Mono.veq _, Mono.veq _, Mono.veq _, Mono.veq _, Mono.veq _, Mono.veq _, trivial⟩
      case tail =>
        intro f w' hR hH
        have q6 := hH.get 6 (32, 6) rfl
        clear hH
        refine wpList_merge (idx := [none, none, none, none, none, none, none, none, none, none, none, none, none, none, none, none, none, none, none, none, none, none, none, none, none, none, some 0, some 1, some 2, some 3, some 4, some 5, some 6, none, none, none, none, none, none, none, none, none, none]) (by kernel_rfl) ?_; show wpList _ _ _ [] ⟨#[_, _, _, _, _, _, _, _, _, _, _, _, _, _, _, _, _, _, _, _, _, _, _, _, _, _, f 0, f 1, f 2, f 3, f 4, f 5, f 6, _, _, _, _, _, _, _, _, _, _], _⟩ _
        rw [show f 6 = _ from q6]
        clear q6
        have HR3 := Lib.hid hR
        clear hR
        go_wp2_with fail
        apply (fun (v0 v1 v2 v3 v4 : Value) mono obl tail => wp_region_par (R := Grow) (Φ := phi [veq v0, veq v1, veq v2, veq v3, veq v4]) (m := 5) (dls := [[], [(33, 0)], [(34, 1)], [(35, 2)], []]) (ds := [33, 34, 35, 36, 37]) (by kernel_rfl) (by kernel_rfl) (by decide) rfl (Grow.drew _) (fun _ _ _ => Grow.trans) (mono_phi mono) obl tail)
        case obl =>
          refine obls_frame (fun a1 ha => ?_)
          have hsz := rd_size (n := 43) ha rfl
          have e0 := rd_slot 0 ha rfl
          have e4 := rd_slot 4 ha rfl
          clear ha
          refine obls_cons (fun f w' hR hH Q0 hQ0 => ?_) ?_
          · skip
            have s0 := sv_off f [] e0 rfl
            refine small_v hsz [(0, _)] ⟨some 1, (Op.move (.tmp 0)), 24, "", #[], none⟩ [_, undef] 1 rfl rfl ⟨s0, trivial⟩ rfl rfl hQ0 ?_
            clear hQ0 hH s0
            intro Q hQ
            repeat go_step
            exact hQ _ _ (Grow.refl _) rfl rfl
          refine obls_cons (fun f w' hR hH Q0 hQ0 => ?_) ?_
          · skip
            have s33 := (sv_at 33 0 hsz f [(33, 0)] rfl).trans (show f 0 = _ from hH.get 0 (33, 0) rfl)
            refine small_v hsz [(33, _)] ⟨some 1, (Op.nilCheck (.tmp 0)), 0, "", #[], none⟩ [_, undef] 1 rfl rfl ⟨s33, trivial⟩ rfl rfl hQ0 ?_
            clear hQ0 hH s33
            intro Q hQ
            repeat go_step
            exact hQ _ _ (Grow.refl _) rfl rfl
          refine obls_cons (fun f w' hR hH Q0 hQ0 => ?_) ?_
          · skip
            have s34 := (sv_at 34 1 hsz f [(34, 1)] rfl).trans (show f 1 = _ from hH.get 0 (34, 1) rfl)
            refine small_v hsz [(34, _)] ⟨some 1, (Op.fieldAddr 79 (.tmp 0) 1), 0, "", #[], none⟩ [_, undef] 1 rfl rfl ⟨s34, trivial⟩ rfl rfl hQ0 ?_
            clear hQ0 hH s34
            intro Q hQ
            repeat go_step
            exact hQ _ _ (Grow.refl _) rfl rfl
          refine obls_cons (fun f w' hR hH Q0 hQ0 => ?_) ?_
          · skip
            have s35 := (sv_at 35 2 hsz f [(35, 2)] rfl).trans (show f 2 = _ from hH.get 0 (35, 2) rfl)
            refine small_v hsz [(35, _)] ⟨some 1, (Op.load 77 (.tmp 0)), 77, "", #[], none⟩ [_, undef] 1 rfl rfl ⟨s35, trivial⟩ rfl rfl hQ0 ?_
            clear hQ0 hH s35
            intro Q hQ
            have y0 := (((HK2.out.blk HT1.out.bx (HT1.out.mn.not_blk HT1.out.bx)).grow HR3.out).grow hR).cell (i := 1) rfl
            repeat go_step
            exact hQ _ _ (Grow.refl _) rfl rfl
          refine obls_cons (fun f w' hR hH Q0 hQ0 => ?_) ?_
          · skip
            have s4 := sv_off f [] e4 rfl
            refine small_v hsz [(4, _)] ⟨some 1, (Op.load 37 (.tmp 0)), 37, "", #[], none⟩ [_, undef] 1 rfl rfl ⟨s4, trivial⟩ rfl rfl hQ0 ?_
            clear hQ0 hH s4
            intro Q hQ
            have hb := ((HK2.out.blk HB1.out (HT1.out.mn.not_blk HB1.out)).grow HR3.out).grow hR
            go_wp2_with (refine load_blk rfl _ _ rfl w.heap.size rfl _ _ _ hb undV rfl (by rw [sizeV, HC.out]) ?_)
            exact hQ _ _ (Grow.refl _) rfl rfl
          exact obls_nil
        case mono => exact ⟨Mono.veq _, Mono.veq _, Mono.veq _, Mono.veq _, Mono.veq _, trivial⟩
        case tail =>
          intro f w' hR hH
          have q3 := hH.get 3 (36, 3) rfl
          have q4 := hH.get 4 (37, 4) rfl
          clear hH
          refine wpList_merge (idx := [none, none, none, none, none, none, none, none, none, none, none, none, none, none, none, none, none, none, none, none, none, none, none, none, none, none, none, none, none, none, none, none, none, some 0, some 1, some 2, some 3, some 4, none, none, none, none, none]) (by kernel_rfl) ?_; show wpList _ _ _ [_] ⟨#[_, _, _, _, _, _, _, _, _, _, _, _, _, _, _, _, _, _, _, _, _, _, _, _, _, _, _, _, _, _, _, _, _, f 0, f 1, f 2, f 3, f 4, _, _, _, _, _], _⟩ _
          rw [show f 3 = _ from q3]
          rw [show f 4 = _ from q4]
          clear q3 q4
          have hgr := HR3.out.trans hR
          obtain ⟨w5, hr5, hm5, hg5⟩ := (HN2.out.grow hgr).drop (C' := countT (delT L s)) HV.out (fun x => by
            rw [← HC2.out]
            by_cases e : x = getT L s
            · rw [if_pos e, e, HX.out]
            · rw [if_neg e]) 0
          unfold vv at hr5
          rw [← HCS.out] at hr5
          have hk2 := HK2.out.trans (Keep.of hgr (Nat.le_trans HT1.out.base HK2.out.size))
          obtain ⟨W4, x4, hdel, hT4, hK4⟩ := REST.out w5 (hk2.trans (keep_map (Nat.le_trans HT1.out.base hk2.size) HT1.out.nB hg5)) hm5
          have hr6 : ∀ ty, (Builtin.delete_ #[TNM, TV] ty #[.map (some bn), .agg cs.toArray]).run Try.prog w' = .ok (.tuple #[]) w5 := fun ty => by rw [← hr5]; rfl
          have HEND := Lib.hid (And.intro hT4 hK4)
          clear hr5 hm5 hg5 hk2 hgr hR hT4 hK4
          go_wp2_with (first | (refine wpList_delete_map rfl _ _ _ _ rfl bn (.agg cs.toArray) rfl rfl hr6 ?_) | (refine wpList_delete_map rfl _ _ _ _ rfl bs (.string q) rfl rfl hdel ?_))
          go_end0
          exact ⟨⟨_, rfl⟩, HEND.out⟩
    · skip
      apply (fun (v0 v1 v2 v3 v4 v5 v6 : Value) mono obl tail => wp_region_par (R := Grow) (Φ := phi [veq v0, veq v1, veq v2, veq v3, veq v4, veq v5, veq v6]) (m := 7) (dls := [[], [(26, 0)], [(27, 1)], [(28, 2)], [], [(29, 3), (30, 4)], [(31, 5)]]) (ds := [26, 27, 28, 29, 30, 31, 32]) (by kernel_rfl) (by kernel_rfl) (by decide) rfl (Grow.drew _) (fun _ _ _ => Grow.trans) (mono_phi mono) obl tail)
      case obl =>
        refine obls_frame (fun a1 ha => ?_)
        have hsz := rd_size (n := 43) ha rfl
        have e0 := rd_slot 0 ha rfl
        have e4 := rd_slot 4 ha rfl
        clear ha
        refine obls_cons (fun f w' hR hH Q0 hQ0 => ?_) ?_
        · skip
          have s0 := sv_off f [] e0 rfl
          refine small_v hsz [(0, _)] ⟨some 1, (Op.move (.tmp 0)), 24, "", #[], none⟩ [_, undef] 1 rfl rfl ⟨s0, trivial⟩ rfl rfl hQ0 ?_
          clear hQ0 hH s0
          intro Q hQ
          repeat go_step
          exact hQ _ _ (Grow.refl _) rfl rfl
        refine obls_cons (fun f w' hR hH Q0 hQ0 => ?_) ?_
        · skip
          have s26 := (sv_at 26 0 hsz f [(26, 0)] rfl).trans (show f 0 = _ from hH.get 0 (26, 0) rfl)
          refine small_v hsz [(26, _)] ⟨some 1, (Op.nilCheck (.tmp 0)), 0, "", #[], none⟩ [_, undef] 1 rfl rfl ⟨s26, trivial⟩ rfl rfl hQ0 ?_
          clear hQ0 hH s26
          intro Q hQ
          repeat go_step
          exact hQ _ _ (Grow.refl _) rfl rfl
        refine obls_cons (fun f w' hR hH Q0 hQ0 => ?_) ?_
        · skip
          have s27 := (sv_at 27 1 hsz f [(27, 1)] rfl).trans (show f 1 = _ from hH.get 0 (27, 1) rfl)
          refine small_v hsz [(27, _)] ⟨some 1, (Op.fieldAddr 79 (.tmp 0) 1), 0, "", #[], none⟩ [_, undef] 1 rfl rfl ⟨s27, trivial⟩ rfl rfl hQ0 ?_
          clear hQ0 hH s27
          intro Q hQ
          repeat go_step
          exact hQ _ _ (Grow.refl _) rfl rfl
        refine obls_cons (fun f w' hR hH Q0 hQ0 => ?_) ?_
        · skip
          have s28 := (sv_at 28 2 hsz f [(28, 2)] rfl).trans (show f 2 = _ from hH.get 0 (28, 2) rfl)
          refine small_v hsz [(28, _)] ⟨some 1, (Op.load 77 (.tmp 0)), 77, "", #[], none⟩ [_, undef] 1 rfl rfl ⟨s28, trivial⟩ rfl rfl hQ0 ?_
          clear hQ0 hH s28
          intro Q hQ
          have y0 := ((HK2.out.blk HT1.out.bx (HT1.out.mn.not_blk HT1.out.bx)).grow hR).cell (i := 1) rfl
          repeat go_step
          exact hQ _ _ (Grow.refl _) rfl rfl
        refine obls_cons (fun f w' hR hH Q0 hQ0 => ?_) ?_
        · skip
          have s4 := sv_off f [] e4 rfl
          refine small_v hsz [(4, _)] ⟨some 1, (Op.load 37 (.tmp 0)), 37, "", #[], none⟩ [_, undef] 1 rfl rfl ⟨s4, trivial⟩ rfl rfl hQ0 ?_
          clear hQ0 hH s4
          intro Q hQ
          have hb := (HK2.out.blk HB1.out (HT1.out.mn.not_blk HB1.out)).grow hR
          go_wp2_with (refine load_blk rfl _ _ rfl w.heap.size rfl _ _ _ hb undV rfl (by rw [sizeV, HC.out]) ?_)
          exact hQ _ _ (Grow.refl _) rfl rfl
        refine obls_cons (fun f w' hR hH Q0 hQ0 => ?_) ?_
        · skip
          have s29 := (sv_at 29 3 hsz f [(29, 3), (30, 4)] rfl).trans (show f 3 = _ from hH.get 0 (29, 3) rfl)
          have s30 := (sv_at 30 4 hsz f [(29, 3), (30, 4)] rfl).trans (show f 4 = _ from hH.get 1 (30, 4) rfl)
          refine small_v hsz [(29, _), (30, _)] ⟨some 2, (Op.lookup 77 (.tmp 0) (.tmp 1) false), 3, "", #[], none⟩ [_, _, undef] 2 rfl rfl ⟨s29, s30, trivial⟩ rfl rfl hQ0 ?_
          clear hQ0 hH s29 s30
          intro Q hQ
          have y0 := (HN2.out.grow hR).get HV.out
          unfold vv at y0
          rw [← HCS.out, HX.out] at y0
          repeat go_step
          exact hQ _ _ (Grow.refl _) rfl rfl
        refine obls_cons (fun f w' hR hH Q0 hQ0 => ?_) ?_
        · skip
          have s31 := (sv_at 31 5 hsz f [(31, 5)] rfl).trans (show f 5 = _ from hH.get 0 (31, 5) rfl)
          refine small_v hsz [(31, _)] ⟨some 1, (Op.binOp BinOp.eql 3 (.tmp 0) (Operand.const (Value.int IntKind.i64 0)) 3), 4, "", #[], none⟩ [_, undef] 1 rfl rfl ⟨s31, trivial⟩ rfl rfl hQ0 ?_
          clear hQ0 hH s31
          intro Q hQ
          repeat go_step
          exact hQ _ _ (Grow.refl _) rfl rfl
        exact obls_nil
      case mono => exact ⟨Mono.veq _, Mono.veq _, Mono.veq _, Mono.veq _, Mono.veq _, Mono.veq _, Mono.veq _, trivial⟩
      case tail =>
        intro f w' hR hH
        have q6 := hH.get 6 (32, 6) rfl
        clear hH
        refine wpList_merge (idx := [none, none, none, none, none, none, none, none, none, none, none, none, none, none, none, none, none, none, none, none, none, none, none, none, none, none, some 0, some 1, some 2, some 3, some 4, some 5, some 6, none, none, none, none, none, none, none, none, none, none]) (by kernel_rfl) ?_; show wpList _ _ _ [] ⟨#[_, _, _, _, _, _, _, _, _, _, _, _, _, _, _, _, _, _, _, _, _, _, _, _, _, _, f 0, f 1, f 2, f 3, f 4, f 5, f 6, _, _, _, _, _, _, _, _, _, _], _⟩ _
        rw [show f 6 = _ from q6]
        clear q6
        obtain ⟨W4, x4, hdel, hT4, hK4⟩ := REST.out w' (HK2.out.trans (Keep.of hR (Nat.le_trans HT1.out.base HK2.out.size))) (by rw [← HC2.out]; exact HN2.out.grow hR)
        have HEND := Lib.hid (And.intro hT4 hK4)
        clear hR hT4 hK4
        go_wp2_with (refine wpList_delete_map rfl _ _ _ _ rfl bs (.string q) rfl rfl hdel ?_)
        go_end0
        exact ⟨⟨_, rfl⟩, HEND.out⟩
end
end Go.Proofs.Ythclgmpjmhacdaa.tg
