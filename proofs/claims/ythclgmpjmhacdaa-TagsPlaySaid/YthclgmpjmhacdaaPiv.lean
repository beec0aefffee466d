/- A region that draws its order, in which some operations (pivots, in a forced order) change what the world is known for: each operation by itself, in each phase. -/
import Derived.Test.YthclgmpjmhacdaaPar
namespace Go.Par
open Go Go.RowKit

theorem put_out (a : Act) (d : Nat) (v : Value) (h : a.tmps.size ≤ d) : a.put (some d) v = a := by
  obtain ⟨t, df⟩ := a
  simp only [Act.put, Act.mk.injEq, and_true]
  exact Array.setIfInBounds_eq_of_size_le h
theorem getD_put_ne (a : Act) (d t : Nat) (v : Value) (h : d ≠ t) : (a.put (some d) v).tmps.getD t undef = a.tmps.getD t undef := by
  simp only [Act.put, Array.getD_eq_getD_getElem?, Array.getElem?_setIfInBounds, h, if_false]
theorem getD_out (a : Act) (t : Nat) (h : a.tmps.size ≤ t) : a.tmps.getD t undef = undef := by
  simp [Array.getD_eq_getD_getElem?, Array.getElem?_eq_none h]
theorem view_other' {dl : List (Nat × Nat)} (f : Nat → Value) {a : Act} {t : Nat} (h : ∀ p ∈ dl, p.1 ≠ t) : (view dl f a).tmps.getD t undef = a.tmps.getD t undef := by
  induction dl generalizing a with
  | nil => rfl
  | cons p l ih =>
    show (view l f (a.put (some p.1) (f p.2))).tmps.getD t undef = _
    rw [ih (fun q hq => h q (List.mem_cons_of_mem _ hq)), getD_put_ne _ _ _ _ (h p List.mem_cons_self)]
theorem view_at' {dl : List (Nat × Nat)} (f : Nat → Value) {a : Act} (hn : (dl.map (·.1)).Nodup) {t j : Nat} (h : (t, j) ∈ dl) (ht : t < a.tmps.size) : (view dl f a).tmps.getD t undef = f j := by
  induction dl generalizing a with
  | nil => cases h
  | cons p l ih =>
    show (view l f (a.put (some p.1) (f p.2))).tmps.getD t undef = _
    simp only [List.map_cons, List.nodup_cons] at hn
    rcases List.mem_cons.1 h with e | h'
    · subst e
      rw [view_other' f (fun q hq e => hn.1 (by rw [← e]; exact List.mem_map_of_mem (f := (·.1)) hq)), getD_put _ _ _ _ ht, if_pos rfl]
    · exact ih hn.2 h' (by rw [size_put]; exact ht)

section
variable {P : Program} {ops : Array Oper}
/-- One operation without a slot, met in a frame that agrees with the true one on all that it looks at. -/
theorem step_head0 {R : World → World → Prop} {φ : Value → World → Prop} {o : Oper} {d : Nat} {V A : Act} {w : World} {Q : Exit → Act → World → Prop}
    (hdst : o.dst = none) (hsel : ∀ cs b, o.op ≠ .select cs b) (hd : V.tmps.size ≤ d) (hs : V.tmps.size = A.tmps.size)
    (hag : ∀ t ∈ o.looksAt ops, V.tmps.getD t undef = A.tmps.getD t undef)
    (h : wpList P ops (Post R V.defers d φ w) [o] V w) {K : Act → World → Prop} (hK : ∀ w', R w w' → φ undef w' → K A w') :
    if Region.wanted o (yielded ops A.tmps) then o.wp P A w K Q ∨ (o.asks P A w ∧ LetsOut Q) else K (A.put o.dst undef) w := by
  have hw : Region.wanted o (yielded ops V.tmps) = Region.wanted o (yielded ops A.tmps) := by
    unfold Region.wanted
    cases hg : o.guard with
    | none => rfl
    | some gw =>
      obtain ⟨g, want⟩ := gw
      have hy : yielded ops V.tmps g = yielded ops A.tmps g := by
        unfold yielded
        cases ht : (ops[g]?).bind (·.dst) with
        | none => rfl
        | some t =>
          have := tmps_of_getD hs (hag t (by simp [Oper.looksAt, hg, ht]))
          simp [this]
      simp only [hy]
  have hx : execOp V.eval o = execOp A.eval o := execOp_congr o hsel fun x hx => by
    cases x with
    | tmp t => exact hag t (by unfold Oper.looksAt; exact List.mem_append_left _ (List.mem_filterMap.2 ⟨.tmp t, by simpa using hx, rfl⟩))
    | _ => rfl
  have hput : ∀ v, (V.put none v).tmps.getD d undef = undef := fun v => getD_out V d hd
  have hpa : ∀ (a : Act) (v : Value), a.put none v = a := fun _ _ => rfl
  unfold wpList at h
  rw [hw] at h
  by_cases hwt : Region.wanted o (yielded ops A.tmps) = true
  · rw [if_pos hwt] at h ⊢
    left
    rcases h with h | ⟨_, h⟩
    · unfold Oper.wp at h ⊢
      rw [hx] at h
      generalize hr : (execOp A.eval o).run P w = r at h ⊢
      cases r with
      | ok n w' =>
        cases n with
        | value v =>
          simp only [Oper.upon, hdst, wpList] at h ⊢
          obtain ⟨h1, h2, _⟩ := h
          rw [hput] at h2
          exact hK w' h1 h2
        | skip =>
          simp only [Oper.upon, hdst, wpList] at h ⊢
          obtain ⟨h1, h2, _⟩ := h
          rw [hput] at h2
          exact hK w' h1 h2
        | defer dd =>
          simp only [Oper.upon, hdst, wpList] at h
          obtain ⟨_, _, h3⟩ := h
          rw [defers_put] at h3
          exact absurd (congrArg List.length h3) (by simp)
        | enter g args =>
          simp only [Oper.upon, hdst] at h ⊢
          refine h.mono fun e w'' he => ?_
          cases e with
          | returned v =>
            simp only [wpList] at he
            obtain ⟨h1, h2, _⟩ := he
            rw [hput] at h2
            exact hK w'' h1 h2
          | panicked c => exact he.elim
          | outgrown => exact (by obtain ⟨_, _, hf⟩ := he; exact hf.elim)
        | row row args =>
          simp only [Oper.upon, hdst] at h ⊢
          refine h.mono fun v w'' he => ?_
          simp only [wpList] at he
          obtain ⟨h1, h2, _⟩ := he
          rw [hput] at h2
          exact hK w'' h1 h2
        | _ => simp only [Oper.upon] at h
      | halt x w' => cases x <;> simp only [Oper.upon] at h <;> exact h.elim
    · obtain ⟨_, _, hf⟩ := h; exact hf.elim
  · rw [if_neg hwt] at h ⊢
    simp only [hdst, wpList] at h ⊢
    obtain ⟨h1, h2, _⟩ := h
    rw [hput] at h2
    exact hK w h1 h2
/-- the slot of an operation; one that has none has a number beyond all -/
def slotIs (o : Oper) (d n : Nat) : Bool := (o.dst == some d && decide (d < n)) || (o.dst == none && decide (n ≤ d))
def headB2 (ops : Array Oper) (m : Nat) (dls : List (List (Nat × Nat))) (ds : List Nat) (n : Nat) : Bool :=
  decide (m ≤ ops.size) && decide (m = ds.length) && decide ds.Nodup &&
  (List.range m).all fun i => ((ops[i]?).map fun o => slotIs o (ds.getD i 0) n && opOk ops i o (dls.getD i [])).getD false
def allOk2 (ops : Array Oper) (m : Nat) (dls : List (List (Nat × Nat))) (ds : List Nat) (n : Nat) : Bool :=
  waitsB ops && tailB ops m && headB2 ops m dls ds n
end
section
variable {P : Program} {ops : Array Oper}

def pivOk (ops : Array Oper) (m : Nat) (ps : List Nat) (qs : List (Nat × Nat × Bool)) : Bool :=
  ps.all (fun p => decide (p < m)) && decide ps.Nodup &&
  ((List.range ps.length).all fun j => j == 0 || reachB ops ops.size (ps.getD j 0) (ps.getD (j - 1) 0)) &&
  (List.range m).all fun i =>
    let q := qs.getD i (0, 0, false)
    if q.2.2 then q.1 == q.2.1 && ps[q.1]? == some i
    else !ps.contains i && decide (q.1 ≤ ps.length) && decide (q.2.1 ≤ ps.length) && (q.1 == 0 || reachB ops ops.size i (ps.getD (q.1 - 1) 0)) && (q.2.1 == ps.length || reachB ops ops.size (ps.getD q.2.1 0) i)

structure St2 (I : Nat → World → Prop) (Φ : Nat → Value → Nat → World → Prop) (ops : Array Oper) (m : Nat) (ps ds : List Nat) (a0 : Act) (listed : Array Bool) (A : Act) (w : World) (b : Nat) : Prop where
  inv : I b w
  size : A.tmps.size = a0.tmps.size
  defers : A.defers = a0.defers
  len : listed.size = ops.size
  closed : ∀ k o, ops[k]? = some o → listed.getD k false = true → ∀ e ∈ o.after, Region.binds .any e = true → listed.getD e.on false = true
  held : ∀ k d, ds[k]? = some d → listed.getD k false = true → Φ k (A.tmps.getD d undef) b w
  other : ∀ t, (∀ k : Nat, ds[k]? = some t → listed.getD k false = false) → A.tmps.getD t undef = a0.tmps.getD t undef
  phase : ∀ j q, ps[j]? = some q → (listed.getD q false = true ↔ j < b)
  top : b ≤ ps.length

def nxt (q : Nat × Nat × Bool) (b : Nat) : Nat := if q.2.2 then b + 1 else b
def rel2 (G : World → World → Prop) (Rp : (Nat → Value) → World → World → Prop) (f : Nat → Value) (q : Nat × Nat × Bool) (w w' : World) : Prop := if q.2.2 then Rp f w w' else G w w'

theorem wpAny_piv {I : Nat → World → Prop} {G : World → World → Prop} {Rp : (Nat → Value) → World → World → Prop} {Φ : Nat → Value → Nat → World → Prop} {m : Nat} {ps : List Nat} {qs : List (Nat × Nat × Bool)} {dls : List (List (Nat × Nat))} {ds : List Nat} {a0 : Act} {Q : Exit → Act → World → Prop}
    (hmono : ∀ k v b w w', Φ k v b w → G w w' → Φ k v b w') (hpiv : ∀ k (f : Nat → Value) b w w', Φ k (f k) b w → Rp f w w' → Φ k (f k) (b + 1) w')
    (hB : allOk2 ops m dls ds a0.tmps.size = true) (hP : pivOk ops m ps qs = true)
    (hobl : ∀ i o d, i < m → ops[i]? = some o → ds[i]? = some d → ∀ b, (qs.getD i (0, 0, false)).1 ≤ b → b ≤ (qs.getD i (0, 0, false)).2.1 → ∀ (f : Nat → Value) (w : World), I b w → (∀ p ∈ dls.getD i [], Φ p.2 (f p.2) b w) →
      wpList P ops (Post (fun w w' => I (nxt (qs.getD i (0, 0, false)) b) w' ∧ rel2 G Rp f (qs.getD i (0, 0, false)) w w') a0.defers d (fun v => Φ i v (nxt (qs.getD i (0, 0, false)) b)) w) [o] (view (dls.getD i []) f a0) w)
    (hQ : ∀ (f : Nat → Value) (w : World), I ps.length w → (∀ i, i < m → Φ i (f i) ps.length w) → wpList P ops Q (ops.toList.drop m) (view ds.zipIdx f a0) w) :
    ∀ (fuel : Nat) (listed : Array Bool) (A : Act) (w : World) (b : Nat), (∃ i, i < m ∧ listed.getD i true = false) → left ops.size listed = fuel → (∀ i, m ≤ i → i < ops.size → listed.getD i false = false) →
      St2 I Φ ops m ps ds a0 listed A w b → wpAny P .any ops Q fuel listed A w := by
  simp only [allOk2, Bool.and_eq_true] at hB
  obtain ⟨⟨hwaits, htail⟩, hhead⟩ := hB
  simp only [headB2, Bool.and_eq_true, decide_eq_true_eq, List.all_eq_true] at hhead
  obtain ⟨⟨⟨hm, hml⟩, hnd⟩, hops⟩ := hhead
  simp only [pivOk, Bool.and_eq_true, decide_eq_true_eq, List.all_eq_true] at hP
  obtain ⟨⟨⟨hpm, hpn⟩, hpc⟩, hpi⟩ := hP
  have hops' : ∀ i, i < m → ∃ o d, ops[i]? = some o ∧ ds[i]? = some d ∧ ((o.dst = some d ∧ d < a0.tmps.size) ∨ (o.dst = none ∧ a0.tmps.size ≤ d)) ∧ opOk ops i o (dls.getD i []) = true := by
    intro i hi
    have h := hops i (List.mem_range.2 hi)
    have hlt : i < ops.size := by omega
    have hld : i < ds.length := by omega
    refine ⟨ops[i], ds[i], Array.getElem?_eq_getElem hlt, List.getElem?_eq_getElem hld, ?_, ?_⟩
    · simp only [Array.getElem?_eq_getElem hlt, Option.map_some, Option.getD_some, Bool.and_eq_true, slotIs, Bool.or_eq_true, beq_iff_eq, decide_eq_true_eq] at h
      simpa [List.getD_eq_getElem?_getD, hld] using h.1
    · simp only [Array.getElem?_eq_getElem hlt, Option.map_some, Option.getD_some, Bool.and_eq_true] at h; exact h.2
  have hpc' : ∀ j q q', ps[j + 1]? = some q' → ps[j]? = some q → reachB ops ops.size q' q = true := by
    intro j q q' h1 h2
    have hj : j + 1 < ps.length := (List.getElem?_eq_some_iff.1 h1).1
    have := hpc (j + 1) (List.mem_range.2 hj)
    simp only [Bool.or_eq_true, beq_iff_eq, Nat.add_sub_cancel] at this
    rcases this with h | h
    · omega
    · simpa [List.getD_eq_getElem?_getD, h1, h2] using h
  intro fuel
  induction fuel with
  | zero =>
    intro listed A w b ⟨i, hi, hui⟩ hleft _ hS
    have := left_zero hleft i (by omega)
    rw [hui] at this
    cases this
  | succ fuel ih =>
    intro listed A w b ⟨i0, hi0, hui0⟩ hleft hun hS
    refine ⟨fun hr => ?_, fun j hj => ?_⟩
    · exfalso
      have hex : ∃ i, i < ops.size ∧ listed.getD i true = false := ⟨i0, by omega, hui0⟩
      have key : ∀ b, (∃ i, i ≤ b ∧ i < ops.size ∧ listed.getD i true = false) → ∃ i, i < ops.size ∧ listed.getD i true = false ∧ ∀ k, k < i → listed.getD k true = true := by
        intro b
        induction b with
        | zero =>
          rintro ⟨i, h0, h1, h2⟩
          exact ⟨i, h1, h2, fun k hk => by omega⟩
        | succ b ihb =>
          rintro ⟨i, h0, h1, h2⟩
          by_cases hc : ∃ i, i ≤ b ∧ i < ops.size ∧ listed.getD i true = false
          · exact ihb hc
          · refine ⟨i, h1, h2, fun k hk => ?_⟩
            cases hk2 : listed.getD k true with
            | true => rfl
            | false => exact absurd ⟨k, by omega, by omega, hk2⟩ hc
      obtain ⟨i, h1, h2, h3⟩ := key i0 ⟨i0, Nat.le_refl _, by omega, hui0⟩
      have hin : i ∈ Region.ready .any ops listed := mem_ready.2 ⟨h2, ops[i], Array.getElem?_eq_getElem h1, fun e he hb => by
        have hlt := waits_of hwaits (Array.getElem?_eq_getElem h1) e he hb
        rw [← getD_true_of hS.len (by omega)]
        exact h3 _ hlt⟩
      rw [hr] at hin
      cases hin
    · obtain ⟨huj, oj, hoj, hall⟩ := mem_ready.1 hj
      have hjlt : j < ops.size := (Array.getElem?_eq_some_iff.1 hoj).1
      have hjm : j < m := by
        rcases Nat.lt_or_ge j m with h | h
        · exact h
        · exfalso
          have := reach_listed hS.closed ops.size j i0 oj hoj hall (tail_of htail hjlt h (show i0 < j by omega))
          rw [false_of hui0] at this
          cases this
      obtain ⟨o, d, ho, hd, hdst, hok⟩ := hops' j hjm
      rw [hoj] at ho
      obtain rfl := Option.some.inj ho
      have hjsz : j < listed.size := by rw [hS.len]; exact hjlt
      simp only [opOk, Bool.and_eq_true, decide_eq_true_eq, List.all_eq_true] at hok
      obtain ⟨⟨⟨hsel, hlook⟩, hnodup⟩, hdl⟩ := hok
      have hdl' : ∀ p ∈ dls.getD j [], ds[p.2]? = some p.1 ∧ listed.getD p.2 false = true := by
        intro p hp
        have h := hdl p hp
        obtain ⟨h1, h2⟩ := h
        obtain ⟨e, he, hbo⟩ := arr_any h1
        simp only [Bool.and_eq_true, beq_iff_eq] at hbo
        obtain ⟨hb, hon⟩ := hbo
        have hlt := waits_of hwaits hoj e he hb
        have hl := hall e he hb
        rw [hon] at hlt hl
        refine ⟨?_, hl⟩
        obtain ⟨o', d', ho', hd', hdst', _⟩ := hops' p.2 (by omega)
        simp only [ho', Option.map_some, Option.getD_some, beq_iff_eq] at h2
        rcases hdst' with ⟨hdst', _⟩ | ⟨hdst', _⟩
        · rw [hdst'] at h2
          rw [hd', Option.some.inj h2]
        · rw [hdst'] at h2
          cases h2
      have hdlb : ∀ p ∈ dls.getD j [], p.1 < a0.tmps.size := by
        intro p hp
        have h := hdl p hp
        obtain ⟨h1, h2⟩ := h
        obtain ⟨e, he, hbo⟩ := arr_any h1
        simp only [Bool.and_eq_true, beq_iff_eq] at hbo
        obtain ⟨hb, hon⟩ := hbo
        have hlt := waits_of hwaits hoj e he hb
        rw [hon] at hlt
        obtain ⟨o', d', ho', hd', hdst', _⟩ := hops' p.2 (by omega)
        simp only [ho', Option.map_some, Option.getD_some, beq_iff_eq] at h2
        rcases hdst' with ⟨hdst', hlt'⟩ | ⟨hdst', _⟩
        · rw [hdst'] at h2
          rw [← Option.some.inj h2]; exact hlt'
        · rw [hdst'] at h2
          cases h2
      -- the phase
      have hq := hpi j (List.mem_range.2 hjm)
      generalize hqq : qs.getD j (0, 0, false) = q at hq
      have hph : q.1 ≤ b ∧ b ≤ q.2.1 ∧ (q.2.2 = true → ps[b]? = some j) ∧ (q.2.2 = false → j ∉ ps) := by
        cases hq2 : q.2.2
        · simp only [hq2, Bool.false_eq_true, if_false, Bool.and_eq_true, Bool.not_eq_true', decide_eq_true_eq, Bool.or_eq_true, beq_iff_eq] at hq
          obtain ⟨⟨⟨⟨hc, hle1⟩, hle2⟩, h1⟩, h2⟩ := hq
          refine ⟨?_, ?_, fun h => (by cases h), fun _ hmem => ?_⟩
          · rcases h1 with h1 | h1
            · omega
            · rcases Nat.eq_zero_or_pos q.1 with h0 | h0
              · omega
              · have hlt : q.1 - 1 < ps.length := by omega
                have hg : ps[q.1 - 1]? = some (ps.getD (q.1 - 1) 0) := by simp [List.getD_eq_getElem?_getD, hlt]
                have hl := reach_listed hS.closed ops.size j _ oj hoj hall h1
                have := (hS.phase _ _ hg).1 hl
                omega
          · rcases h2 with h2 | h2
            · have := hS.top; omega
            · rcases Nat.lt_or_ge q.2.1 ps.length with hlt | hlt
              · have hg : ps[q.2.1]? = some (ps.getD q.2.1 0) := by simp [List.getD_eq_getElem?_getD, hlt]
                have hpm' : ps.getD q.2.1 0 < m := by
                  have := hpm _ (List.mem_of_getElem? hg)
                  simpa using this
                rcases Nat.lt_or_ge q.2.1 b with hlt2 | hge
                · exfalso
                  have hl := (hS.phase _ _ hg).2 hlt2
                  obtain ⟨o2, d2, ho2, _⟩ := hops' _ hpm'
                  have := reach_listed hS.closed ops.size _ j o2 ho2 (hS.closed _ o2 ho2 hl) h2
                  rw [false_of huj] at this
                  cases this
                · exact hge
              · have := hS.top; omega
          · have : ps.contains j = true := by simpa using hmem
            rw [hc] at this
            cases this
        · simp only [hq2, if_true, Bool.and_eq_true, beq_iff_eq] at hq
          obtain ⟨h1, h2⟩ := hq
          have hb1 : q.1 = b := by
            have hnl : ¬ q.1 < b := fun hlt => by
              have := (hS.phase _ _ h2).2 hlt
              rw [false_of huj] at this
              cases this
            rcases Nat.eq_zero_or_pos q.1 with h0 | h0
            · omega
            · have hlt : q.1 - 1 < ps.length := by have := (List.getElem?_eq_some_iff.1 h2).1; omega
              have hg : ps[q.1 - 1]? = some ps[q.1 - 1] := List.getElem?_eq_getElem hlt
              have hr := hpc' (q.1 - 1) _ j (by rw [show q.1 - 1 + 1 = q.1 by omega]; exact h2) hg
              have hl := reach_listed hS.closed ops.size j _ oj hoj hall hr
              have := (hS.phase _ _ hg).1 hl
              omega
          refine ⟨by omega, by omega, fun _ => by rw [← hb1]; exact h2, fun h => (by cases h)⟩
      obtain ⟨hlo, hhi, hpv, hnp⟩ := hph
      have hagree : ∀ t ∈ oj.looksAt ops, (view (dls.getD j []) (fun k => A.tmps.getD (ds.getD k 0) undef) a0).tmps.getD t undef = A.tmps.getD t undef := by
        intro t ht
        have hsl := hlook t ht
        by_cases ht0 : a0.tmps.size ≤ t
        · rw [getD_out _ _ (by rw [view_size]; exact ht0), getD_out _ _ (by rw [hS.size]; exact ht0)]
        by_cases hany : (dls.getD j []).any (fun p => p.1 == t) = true
        · obtain ⟨p, hp, hpt⟩ := List.any_eq_true.1 hany
          have hpt : p.1 = t := by simpa using hpt
          have hmem : (t, p.2) ∈ dls.getD j [] := by rw [← hpt]; exact hp
          rw [view_at' _ hnodup hmem (by have := hdlb p hp; omega)]
          have := (hdl' p hp).1
          simp [this, hpt]
        · rw [view_other' _ (fun p hp he => hany (List.any_eq_true.2 ⟨p, hp, by simp [he]⟩))]
          refine (hS.other t fun k hk => ?_).symm
          have hkm : k < m := by rw [hml]; exact (List.getElem?_eq_some_iff.1 hk).1
          obtain ⟨o', d', ho', hd', hdst', _⟩ := hops' k hkm
          unfold slotOk at hsl
          simp only [hany, Bool.false_or, List.all_eq_true] at hsl
          have h2 := hsl k (List.mem_range.2 (by omega))
          rw [hk] at hd'
          obtain rfl := Option.some.inj hd'
          have hdst' : o'.dst = some t := by
            rcases hdst' with ⟨hdst', _⟩ | ⟨_, hout⟩
            · exact hdst'
            · omega
          simp only [ho', Option.map_some, Option.getD_some, hdst', bne_self_eq_false, Bool.false_or, Bool.or_eq_true, beq_iff_eq] at h2
          rcases h2 with h2 | h2
          · subst h2; exact false_of huj
          · obtain ⟨e, he, hbo⟩ := arr_any h2
            simp only [Bool.and_eq_true, beq_iff_eq] at hbo
            cases hkl : listed.getD k false with
            | false => rfl
            | true =>
              have := hS.closed k o' ho' hkl e he hbo.1
              rw [hbo.2, false_of huj] at this
              cases this
      have hob : wpList P ops (Post (fun w w' => I (nxt q b) w' ∧ rel2 G Rp (fun k => A.tmps.getD (ds.getD k 0) undef) q w w') (view (dls.getD j []) (fun k => A.tmps.getD (ds.getD k 0) undef) a0).defers d (fun v => Φ j v (nxt q b)) w) [oj] (view (dls.getD j []) (fun k => A.tmps.getD (ds.getD k 0) undef) a0) w := by
        rw [view_defers]
        have := hobl j oj d hjm hoj hd b (by rw [hqq]; exact hlo) (by rw [hqq]; exact hhi) (fun k => A.tmps.getD (ds.getD k 0) undef) w hS.inv (fun p hp => by
          obtain ⟨h1, h2⟩ := hdl' p hp
          have := hS.held p.2 p.1 h1 h2
          simpa [h1] using this)
        rw [hqq] at this
        exact this
      have main : ∀ (v : Value) (w' : World), (I (nxt q b) w' ∧ rel2 G Rp (fun k => A.tmps.getD (ds.getD k 0) undef) q w w') → Φ j v (nxt q b) w' → (∀ t, (A.put (some d) v).tmps.getD t undef = if d = t then v else A.tmps.getD t undef) → wpAny P .any ops Q fuel (listed.setIfInBounds j true) (A.put (some d) v) w' := by
        intro v w' hRR hφ hputd
        obtain ⟨hI', hrel⟩ := hRR
        have hS' : St2 I Φ ops m ps ds a0 (listed.setIfInBounds j true) (A.put (some d) v) w' (nxt q b) := by
          refine ⟨hI', by rw [size_put]; exact hS.size, by rw [defers_put]; exact hS.defers, by simpa using hS.len, ?_, ?_, ?_, ?_, ?_⟩
          · intro k o' ho' hk e he hb
            by_cases hkj : k = j
            · subst hkj
              rw [hoj] at ho'
              obtain rfl := Option.some.inj ho'
              exact getD_set_true (hall e he hb)
            · rw [getD_set_ne false (Ne.symm hkj)] at hk
              exact getD_set_true (hS.closed k o' ho' hk e he hb)
          · intro k d' hd' hk
            rw [hputd]
            by_cases hkj : k = j
            · subst hkj
              rw [hd] at hd'
              obtain rfl := Option.some.inj hd'
              rw [if_pos rfl]; exact hφ
            · have hne : d ≠ d' := by
                intro e
                subst e
                exact hkj (nodup_inj hnd hd' hd)
              rw [if_neg hne]
              rw [getD_set_ne false (Ne.symm hkj)] at hk
              have hh := hS.held k d' hd' hk
              unfold nxt
              unfold rel2 at hrel
              cases hq2 : q.2.2
              · rw [hq2] at hrel
                exact hmono _ _ _ _ _ hh hrel
              · rw [hq2] at hrel
                have e0 : ds.getD k 0 = d' := by rw [List.getD_eq_getElem?_getD, hd']; rfl
                have hh2 : Φ k ((fun k => A.tmps.getD (ds.getD k 0) undef) k) b w := by
                  show Φ k (A.tmps.getD (ds.getD k 0) undef) b w
                  rw [e0]; exact hh
                have h9 := hpiv k (fun k => A.tmps.getD (ds.getD k 0) undef) b w w' hh2 hrel
                have h8 : Φ k (A.tmps.getD (ds.getD k 0) undef) (b + 1) w' := h9
                rw [e0] at h8
                exact h8
          · intro t ht
            rw [hputd]
            have hne : d ≠ t := by
              intro e
              subst e
              have := ht j hd
              simp [hjsz] at this
            rw [if_neg hne]
            refine hS.other t fun k hk => ?_
            have h2 := ht k hk
            by_cases hkj : k = j
            · subst hkj; exact false_of huj
            · rwa [getD_set_ne false (Ne.symm hkj)] at h2
          · intro i2 q2 hq2
            unfold nxt
            cases hpq : q.2.2
            · have hne : q2 ≠ j := fun e => hnp hpq (e ▸ List.mem_of_getElem? hq2)
              rw [getD_set_ne false (Ne.symm hne)]
              exact hS.phase i2 q2 hq2
            · have hpb := hpv hpq
              by_cases hqj : q2 = j
              · subst hqj
                have : i2 = b := nodup_inj hpn hq2 hpb
                subst this
                have hh : (listed.setIfInBounds q2 true).getD q2 false = true := by simp [hjsz]
                simp [hh]
              · rw [getD_set_ne false (Ne.symm hqj)]
                have hib : i2 ≠ b := fun e => by
                  subst e
                  rw [hpb] at hq2
                  exact hqj (Option.some.inj hq2).symm
                have := hS.phase i2 q2 hq2
                rw [this]
                simp only [if_true]
                omega
          · unfold nxt
            cases hpq : q.2.2
            · exact hS.top
            · have := (List.getElem?_eq_some_iff.1 (hpv hpq)).1
              simp only [if_true]; omega
        have hleft' : left ops.size (listed.setIfInBounds j true) = fuel := by
          have := left_set hS.len huj
          omega
        have hun' : ∀ i, m ≤ i → i < ops.size → (listed.setIfInBounds j true).getD i false = false := fun i h1 h2 => by
          rw [getD_set_ne false (by omega)]; exact hun i h1 h2
        by_cases hmore : ∃ i, i < m ∧ (listed.setIfInBounds j true).getD i true = false
        · exact ih _ _ _ _ hmore hleft' hun' hS'
        · have hall' : ∀ k, k < m → (listed.setIfInBounds j true).getD k false = true := fun k hk => by
            rw [← getD_true_of (n := ops.size) hS'.len (by omega)]
            cases h : (listed.setIfInBounds j true).getD k true with
            | true => rfl
            | false => exact absurd ⟨k, hk, h⟩ hmore
          have hbl : nxt q b = ps.length := by
            have h1 := hS'.top
            rcases Nat.lt_or_ge (nxt q b) ps.length with h2 | h2
            · exfalso
              have hg : ps[nxt q b]? = some ps[nxt q b] := List.getElem?_eq_getElem h2
              have hlt : ps[nxt q b] < m := by simpa using hpm _ (List.mem_of_getElem? hg)
              have := (hS'.phase _ _ hg).1 (hall' _ hlt)
              omega
            · omega
          have hfuel : m + fuel = ops.size := by
            have key : ∀ n, left n (listed.setIfInBounds j true) = (List.range n).countP (fun i => decide (m ≤ i)) ∨ ops.size < n := by
              intro n
              induction n with
              | zero => left; rfl
              | succ n ihn =>
                rcases Nat.lt_or_ge ops.size (n + 1) with hc | hc
                · exact .inr hc
                · left
                  rcases ihn with h | h
                  · unfold left at h ⊢
                    rw [List.range_succ, List.countP_append, List.countP_append, h, List.countP_singleton, List.countP_singleton]
                    congr 1
                    by_cases hnm : n < m
                    · have h1 := hall' n hnm
                      rw [← getD_true_of (n := ops.size) hS'.len (by omega)] at h1
                      simp only [h1, Bool.not_true, Bool.false_eq_true, if_false]
                      rw [if_neg (by simp; omega)]
                    · have h1 := hun' n (by omega) (by omega)
                      rw [← getD_true_of (n := ops.size) hS'.len (by omega)] at h1
                      simp only [h1, Bool.not_false, if_true]
                      rw [if_pos (by simp; omega)]
                  · omega
            have hcount : ∀ n, m ≤ n → (List.range n).countP (fun i => decide (m ≤ i)) = n - m := by
              intro n
              induction n with
              | zero => intro h; simp
              | succ n ihn =>
                intro h
                rw [List.range_succ, List.countP_append, List.countP_singleton]
                by_cases hnm : m ≤ n
                · rw [ihn hnm, if_pos (by simpa using hnm)]; omega
                · rw [if_neg (by simpa using hnm)]
                  have : (List.range n).countP (fun i => decide (m ≤ i)) = 0 := by
                    apply List.countP_eq_zero.2
                    intro a ha
                    have := List.mem_range.1 ha
                    simp; omega
                  omega
            rcases key ops.size with h | h
            · rw [hleft', hcount _ hm] at h; omega
            · omega
          refine wpAny_tail hwaits htail fuel _ _ _ m (Nat.le_refl _) hfuel hall' (fun k h1 h2 => ?_) ?_
          · rw [getD_true_of (n := ops.size) hS'.len h2]; exact hun' k h1 h2
          · have hA : A.put (some d) v = view ds.zipIdx (fun k => (A.put (some d) v).tmps.getD (ds.getD k 0) undef) a0 := by
              have hz : ds.zipIdx.map (·.1) = ds := by simp
              refine act_ext ?_ ?_ fun t => ?_
              · rw [view_size]; exact hS'.size
              · rw [view_defers]; exact hS'.defers
              · by_cases ht : t ∈ ds
                · obtain ⟨k, hk, hkt⟩ := List.getElem_of_mem ht
                  have hmem : (t, k) ∈ ds.zipIdx := by
                    rw [List.mem_zipIdx_iff_getElem?]; simp [hk, hkt]
                  by_cases hts : t < a0.tmps.size
                  · rw [view_at' _ (by rw [hz]; exact hnd) hmem hts]
                    simp [hk, hkt]
                  · rw [getD_out _ _ (by have := hS'.size; omega), getD_out _ _ (by rw [view_size]; omega)]
                · rw [view_other' _ (fun p hp e => ht (by
                    have := List.mem_map_of_mem (f := (·.1)) hp
                    rw [hz] at this
                    exact e ▸ this))]
                  exact hS'.other t fun k hk => absurd (List.mem_of_getElem? hk) ht
            rw [hA]
            rw [hbl] at hS'
            refine hQ _ _ hS'.inv fun i hi => ?_
            obtain ⟨o', d', ho', hd', _, _⟩ := hops' i hi
            have := hS'.held i d' hd' (hall' i hi)
            simpa [hd'] using this

      rcases hdst with ⟨hdst, hdn⟩ | ⟨hdst, hdn⟩
      · refine wpOp_some hoj (step_head (R := fun w w' => I (nxt q b) w' ∧ rel2 G Rp (fun k => A.tmps.getD (ds.getD k 0) undef) q w w') (φ := fun v => Φ j v (nxt q b)) (V := view (dls.getD j []) (fun k => A.tmps.getD (ds.getD k 0) undef) a0) hdst (fun cs b e => by rw [e] at hsel; cases hsel) (by rw [view_size]; exact hdn) (by rw [view_size]; exact hS.size.symm) hagree hob ?_)
        intro v w' h1 h2
        exact main v w' h1 h2 fun t => getD_put _ _ _ _ (by rw [hS.size]; exact hdn)
      · refine wpOp_some hoj (step_head0 (R := fun w w' => I (nxt q b) w' ∧ rel2 G Rp (fun k => A.tmps.getD (ds.getD k 0) undef) q w w') (φ := fun v => Φ j v (nxt q b)) (V := view (dls.getD j []) (fun k => A.tmps.getD (ds.getD k 0) undef) a0) hdst (fun cs b e => by rw [e] at hsel; cases hsel) (by rw [view_size]; exact hdn) (by rw [view_size]; exact hS.size.symm) hagree hob ?_)
        intro w' h1 h2
        have h3 := main undef w' h1 h2 fun t => by
          rw [put_out A d undef (by rw [hS.size]; exact hdn)]
          by_cases hdt : d = t
          · subst hdt
            rw [if_pos rfl, getD_out A d (by rw [hS.size]; exact hdn)]
          · rw [if_neg hdt]
        rw [put_out A d undef (by rw [hS.size]; exact hdn)] at h3
        exact h3

def Has2 (Φ : Nat → Value → Nat → World → Prop) (f : Nat → Value) (b : Nat) (w : World) : List (Nat × Nat) → Prop
  | [] => True
  | p :: l => Φ p.2 (f p.2) b w ∧ Has2 Φ f b w l
theorem has2_of {Φ : Nat → Value → Nat → World → Prop} {f : Nat → Value} {b : Nat} {w : World} : ∀ {l : List (Nat × Nat)}, (∀ p ∈ l, Φ p.2 (f p.2) b w) → Has2 Φ f b w l
  | [], _ => trivial
  | p :: _, h => ⟨h p List.mem_cons_self, has2_of fun q hq => h q (List.mem_cons_of_mem _ hq)⟩

theorem Has2.get {Φ : Nat → Value → Nat → World → Prop} {f : Nat → Value} {b : Nat} {w : World} : ∀ {l : List (Nat × Nat)}, Has2 Φ f b w l → ∀ (i : Nat) (p : Nat × Nat), l[i]? = some p → Φ p.2 (f p.2) b w
  | [], _, i, p, h => by simp at h
  | _ :: _, h, 0, p, e => by
    rw [List.getElem?_cons_zero] at e
    obtain rfl := Option.some.inj e
    exact h.1
  | _ :: _, h, i + 1, p, e => Has2.get h.2 i p (by rwa [List.getElem?_cons_succ] at e)
def Obls2 (P : Program) (ops : Array Oper) (I : Nat → World → Prop) (G : World → World → Prop) (Rp : (Nat → Value) → World → World → Prop) (Φ : Nat → Value → Nat → World → Prop) (a0 : Act) : Nat → List Oper → List (List (Nat × Nat)) → List Nat → List (Nat × Nat × Bool) → Prop
  | i, o :: os, dl :: dls, d :: ds, q :: qs => (∀ b, q.1 ≤ b → b ≤ q.2.1 → ∀ (f : Nat → Value) (w : World), I b w → Has2 Φ f b w dl → wpList P ops (Post (fun w w' => I (nxt q b) w' ∧ rel2 G Rp f q w w') a0.defers d (fun v => Φ i v (nxt q b)) w) [o] (view dl f a0) w) ∧ Obls2 P ops I G Rp Φ a0 (i + 1) os dls ds qs
  | _, _, _, _, _ => True

theorem obls2_at {I : Nat → World → Prop} {G : World → World → Prop} {Rp : (Nat → Value) → World → World → Prop} {Φ : Nat → Value → Nat → World → Prop} {a0 : Act} : ∀ {os : List Oper} {dls : List (List (Nat × Nat))} {ds : List Nat} {qs : List (Nat × Nat × Bool)} {k : Nat}, Obls2 P ops I G Rp Φ a0 k os dls ds qs → dls.length = ds.length → qs.length = ds.length →
    ∀ i o d, os[i]? = some o → ds[i]? = some d → ∀ b, (qs.getD i (0, 0, false)).1 ≤ b → b ≤ (qs.getD i (0, 0, false)).2.1 → ∀ (f : Nat → Value) (w : World), I b w → Has2 Φ f b w (dls.getD i []) →
      wpList P ops (Post (fun w w' => I (nxt (qs.getD i (0, 0, false)) b) w' ∧ rel2 G Rp f (qs.getD i (0, 0, false)) w w') a0.defers d (fun v => Φ (k + i) v (nxt (qs.getD i (0, 0, false)) b)) w) [o] (view (dls.getD i []) f a0) w
  | [], _, _, _, _, _, _, _, i, o, d, ho, _ => by simp at ho
  | _ :: _, [], _, _, _, _, hl, _, i, o, d, _, hd => by
    have : ∀ ds : List Nat, ([] : List (List (Nat × Nat))).length = ds.length → ds = [] := fun ds h => List.eq_nil_of_length_eq_zero h.symm
    rw [this _ hl] at hd
    simp at hd
  | _ :: _, _ :: _, [], _, _, _, hl, _, i, o, d, _, hd => by simp at hl
  | _ :: _, _ :: _, _ :: _, [], _, _, _, hq, i, o, d, _, hd => by simp at hq
  | o' :: os, dl :: dls, d' :: ds, q :: qs, k, h, hl, hq, i, o, d, ho, hd => by
    cases i with
    | zero =>
      simp only [List.getElem?_cons_zero, Option.some.injEq] at ho hd
      subst ho; subst hd
      exact h.1
    | succ i =>
      simp only [List.getElem?_cons_succ] at ho hd
      have := obls2_at h.2 (by simpa using hl) (by simpa using hq) i o d ho hd
      intro b h1 h2 f w hR hH
      have h3 := this b (by simpa using h1) (by simpa using h2) f w hR (by simpa using hH)
      simpa [Nat.add_assoc, Nat.add_comm 1 i] using h3

/-- **A REGION THAT DRAWS ITS ORDER, WITH PIVOTS.** -/
theorem wp_region_piv {I : Nat → World → Prop} {G : World → World → Prop} {Rp : (Nat → Value) → World → World → Prop} {Φ : Nat → Value → Nat → World → Prop} {m : Nat} {ps : List Nat} {qs : List (Nat × Nat × Bool)} {dls : List (List (Nat × Nat))} {ds : List Nat} {l : List Oper} {a0 : Act} {w0 : World} {Q : Exit → Act → World → Prop} {id : Nat}
    (hm : P.follows .mixedOrders = true) (hB : allOk2 l.toArray m dls ds a0.tmps.size = true) (hP : pivOk l.toArray m ps qs = true) (hpos : 0 < m) (hlen : dls.length = ds.length) (hqen : qs.length = ds.length)
    (hdraw : I 0 w0.drew) (hmono : ∀ k v b w w', Φ k v b w → G w w' → Φ k v b w') (hpiv : ∀ k (f : Nat → Value) b w w', Φ k (f k) b w → Rp f w w' → Φ k (f k) (b + 1) w')
    (hobl : Obls2 P l.toArray I G Rp Φ a0 0 l dls ds qs)
    (hQ : ∀ (f : Nat → Value) (w : World), I ps.length w → Has2 Φ f ps.length w ds.zipIdx → wpList P l.toArray Q (l.drop m) (view ds.zipIdx f a0) w) :
    (Code.region id l.toArray true).wp P Q a0 w0 := by
  have hB' := hB
  simp only [allOk2, Bool.and_eq_true, headB2, decide_eq_true_eq] at hB'
  obtain ⟨_, ⟨⟨⟨hml, hmd⟩, _⟩, _⟩⟩ := hB'
  refine wp_region_any hm (wpAny_piv (I := I) (G := G) (Rp := Rp) hmono hpiv hB hP (fun i o d hi ho hd b h1 h2 f w hR hH => ?_) (fun f w hR hH => ?_) _ _ _ _ 0 ⟨0, hpos, ?_⟩ ?_ (fun i _ h2 => ?_) ?_)
  · have := obls2_at hobl hlen hqen i o d (by simpa using ho) hd b h1 h2 f w hR (has2_of hH)
    simpa using this
  · have h := hQ f w hR (has2_of fun p hp => by
      have h3 := List.mem_zipIdx' (x := p.1) (i := p.2) hp
      exact hH p.2 (by omega))
    simpa using h
  · exact rep_true (by omega)
  · unfold left
    have : ∀ n, n ≤ l.toArray.size → (List.range n).countP (fun i => !(Array.replicate l.toArray.size false).getD i true) = n := by
      intro n
      induction n with
      | zero => intro _; rfl
      | succ n ih =>
        intro h
        rw [List.range_succ, List.countP_append, ih (by omega), List.countP_singleton]
        have hn : n < l.toArray.size := by omega
        rw [rep_true hn]
        rfl
    exact this _ (Nat.le_refl _)
  · exact rep_false _ _
  · refine ⟨hdraw, rfl, rfl, by simp, ?_, ?_, fun _ _ => rfl, ?_, Nat.zero_le _⟩
    · intro k o _ hk
      rw [rep_false] at hk
      cases hk
    · intro k d _ hk
      rw [rep_false] at hk
      cases hk
    · intro j q _
      rw [rep_false]
      simp
end

/-! predicates of phases -/
def phi2 (L : List (Value → Nat → World → Prop)) (i : Nat) : Value → Nat → World → Prop := L.getD i fun _ _ _ => True
def Mono2 (G : World → World → Prop) (Rp : (Nat → Value) → World → World → Prop) (i : Nat) (p : Value → Nat → World → Prop) : Prop := (∀ v b w w', p v b w → G w w' → p v b w') ∧ (∀ (f : Nat → Value) b w w', p (f i) b w → Rp f w w' → p (f i) (b + 1) w')
def Monos2 (G : World → World → Prop) (Rp : (Nat → Value) → World → World → Prop) : Nat → List (Value → Nat → World → Prop) → Prop
  | _, [] => True
  | i, p :: l => Mono2 G Rp i p ∧ Monos2 G Rp (i + 1) l
theorem mono2_phi' {G : World → World → Prop} {Rp : (Nat → Value) → World → World → Prop} : ∀ {i : Nat} {L : List (Value → Nat → World → Prop)}, Monos2 G Rp i L → ∀ k v b w w', phi2 L k v b w → G w w' → phi2 L k v b w'
  | _, [], _, _, _, _, _, _, _, _ => by simp [phi2]
  | _, p :: l, h, 0, v, b, w, w', hp, hR => by simp only [phi2, List.getD_cons_zero] at hp ⊢; exact h.1.1 _ _ _ _ hp hR
  | _, p :: l, h, k + 1, v, b, w, w', hp, hR => by
    have := mono2_phi' h.2 k v b w w' (by simpa [phi2] using hp) hR
    simpa [phi2] using this
theorem mono2_phi {G : World → World → Prop} {Rp : (Nat → Value) → World → World → Prop} {L : List (Value → Nat → World → Prop)} (h : Monos2 G Rp 0 L) : ∀ k v b w w', phi2 L k v b w → G w w' → phi2 L k v b w' := mono2_phi' h
theorem piv2_phi' {G : World → World → Prop} {Rp : (Nat → Value) → World → World → Prop} : ∀ {i : Nat} {L : List (Value → Nat → World → Prop)}, Monos2 G Rp i L → ∀ k (f : Nat → Value) b w w', phi2 L k (f (i + k)) b w → Rp f w w' → phi2 L k (f (i + k)) (b + 1) w'
  | _, [], _, _, _, _, _, _, _, _ => by simp [phi2]
  | i, p :: l, h, 0, f, b, w, w', hp, hR => by simp only [phi2, List.getD_cons_zero, Nat.add_zero] at hp ⊢; exact h.1.2 _ _ _ _ hp hR
  | i, p :: l, h, k + 1, f, b, w, w', hp, hR => by
    have e : i + 1 + k = i + (k + 1) := by omega
    have := piv2_phi' h.2 k f b w w' (by rw [e]; simpa [phi2] using hp) hR
    rw [e] at this
    simpa [phi2] using this
theorem piv2_phi {G : World → World → Prop} {Rp : (Nat → Value) → World → World → Prop} {L : List (Value → Nat → World → Prop)} (h : Monos2 G Rp 0 L) : ∀ k (f : Nat → Value) b w w', phi2 L k (f k) b w → Rp f w w' → phi2 L k (f k) (b + 1) w' := fun k f b w w' hp hR => by
  have := piv2_phi' h k f b w w' (by rwa [Nat.zero_add]) hR
  rwa [Nat.zero_add] at this
def veq2 (x : Value) : Value → Nat → World → Prop := fun u _ _ => u = x
theorem Mono2.veq {G : World → World → Prop} {Rp : (Nat → Value) → World → World → Prop} {i : Nat} (x : Value) : Mono2 G Rp i (veq2 x) := ⟨fun _ _ _ _ h _ => h, fun _ _ _ _ h _ => h⟩
/-- what holds from a phase on, while the world grows -/
def from2 (k : Nat) (p : Value → World → Prop) : Value → Nat → World → Prop := fun u b w => k < b ∨ (b = k ∧ p u w)
theorem from2.mk {k : Nat} {p : Value → World → Prop} {u : Value} {w : World} (h : p u w) : from2 k p u k w := .inr ⟨rfl, h⟩
theorem from2.get {k : Nat} {p : Value → World → Prop} {u : Value} {w : World} (h : from2 k p u k w) : p u w := by
  rcases h with h | h
  · omega
  · exact h.2
theorem Mono2.from {G : World → World → Prop} {Rp : (Nat → Value) → World → World → Prop} {i k : Nat} {p : Value → World → Prop} (hp : Mono G p) : Mono2 G Rp i (from2 k p) := by
  refine ⟨fun v b w w' h hg => ?_, fun f b w w' h _ => ?_⟩
  · rcases h with h | ⟨rfl, h⟩
    · exact .inl h
    · exact .inr ⟨rfl, hp _ _ _ h hg⟩
  · rcases h with h | ⟨rfl, h⟩
    · exact .inl (by omega)
    · exact .inl (by omega)
section
variable {P : Program} {ops : Array Oper}
theorem obls2_cons {I : Nat → World → Prop} {G : World → World → Prop} {Rp : (Nat → Value) → World → World → Prop} {Φ : Nat → Value → Nat → World → Prop} {a0 : Act} {i : Nat} {o : Oper} {os : List Oper} {dl : List (Nat × Nat)} {dls : List (List (Nat × Nat))} {d : Nat} {ds : List Nat} {lo hi : Nat} {qs : List (Nat × Nat × Bool)}
    (h : ∀ b, lo ≤ b → b ≤ hi → ∀ (f : Nat → Value) (w : World), I b w → Has2 Φ f b w dl → ∀ Q : Exit → Act → World → Prop, (∀ a w', I b w' → G w w' → Φ i (a.tmps.getD d undef) b w' → a.defers = a0.defers → Q .normal a w') → wpList P ops Q [o] (view dl f a0) w)
    (h' : Obls2 P ops I G Rp Φ a0 (i + 1) os dls ds qs) : Obls2 P ops I G Rp Φ a0 i (o :: os) (dl :: dls) (d :: ds) ((lo, hi, false) :: qs) :=
  ⟨fun b h1 h2 f w hR hH => h b h1 h2 f w hR hH _ fun _ _ h1 h2 h3 h4 => ⟨⟨h1, h2⟩, h3, h4⟩, h'⟩
theorem oblsP_cons {I : Nat → World → Prop} {G : World → World → Prop} {Rp : (Nat → Value) → World → World → Prop} {Φ : Nat → Value → Nat → World → Prop} {a0 : Act} {i : Nat} {o : Oper} {os : List Oper} {dl : List (Nat × Nat)} {dls : List (List (Nat × Nat))} {d : Nat} {ds : List Nat} {j : Nat} {qs : List (Nat × Nat × Bool)}
    (h : ∀ (f : Nat → Value) (w : World), I j w → Has2 Φ f j w dl → ∀ Q : Exit → Act → World → Prop, (∀ a w', I (j + 1) w' → Rp f w w' → Φ i (a.tmps.getD d undef) (j + 1) w' → a.defers = a0.defers → Q .normal a w') → wpList P ops Q [o] (view dl f a0) w)
    (h' : Obls2 P ops I G Rp Φ a0 (i + 1) os dls ds qs) : Obls2 P ops I G Rp Φ a0 i (o :: os) (dl :: dls) (d :: ds) ((j, j, true) :: qs) :=
  ⟨fun b h1 h2 f w hR hH => by
    obtain rfl : b = j := Nat.le_antisymm h2 h1
    exact h f w hR hH _ fun _ _ h1 h2 h3 h4 => ⟨⟨h1, h2⟩, h3, h4⟩, h'⟩
theorem obls2_nil {I : Nat → World → Prop} {G : World → World → Prop} {Rp : (Nat → Value) → World → World → Prop} {Φ : Nat → Value → Nat → World → Prop} {a0 : Act} {i : Nat} {os : List Oper} {dls : List (List (Nat × Nat))} {qs : List (Nat × Nat × Bool)} : Obls2 P ops I G Rp Φ a0 i os dls [] qs := by
  cases os <;> cases dls <;> exact trivial
end
end Go.Par
