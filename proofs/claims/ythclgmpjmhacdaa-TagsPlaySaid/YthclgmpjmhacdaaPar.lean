/- A region that draws its order, each operation by itself: for every program. -/
import Derived.WalkKit
import Derived.Orders
namespace Go.Par
open Go Go.RowKit

/-- what comes behind one operation -/
def Post (R : World → World → Prop) (D : List Deferred) (d : Nat) (φ : Value → World → Prop) (w : World) : Exit → Act → World → Prop
  | .normal, a, w' => R w w' ∧ φ (a.tmps.getD d undef) w' ∧ a.defers = D
  | _, _, _ => False

/-- the frame that one operation sees: the start's, with what it hangs on put in -/
def view (dl : List (Nat × Nat)) (f : Nat → Value) (a : Act) : Act := dl.foldl (fun a p => a.put (some p.1) (f p.2)) a

theorem getD_put (a : Act) (d t : Nat) (v : Value) (hd : d < a.tmps.size) : (a.put (some d) v).tmps.getD t undef = if d = t then v else a.tmps.getD t undef := by
  simp only [Act.put, Array.getD_eq_getD_getElem?, Array.getElem?_setIfInBounds]
  by_cases h : d = t
  · subst h; simp [hd]
  · simp [h]

theorem size_put (a : Act) (d : Option Nat) (v : Value) : (a.put d v).tmps.size = a.tmps.size := by cases d <;> simp [Act.put]
theorem defers_put (a : Act) (d : Option Nat) (v : Value) : (a.put d v).defers = a.defers := by cases d <;> simp [Act.put]

theorem view_size (dl : List (Nat × Nat)) (f : Nat → Value) (a : Act) : (view dl f a).tmps.size = a.tmps.size := by
  induction dl generalizing a with
  | nil => rfl
  | cons p l ih => show (view l f (a.put (some p.1) (f p.2))).tmps.size = _; rw [ih, size_put]
theorem view_defers (dl : List (Nat × Nat)) (f : Nat → Value) (a : Act) : (view dl f a).defers = a.defers := by
  induction dl generalizing a with
  | nil => rfl
  | cons p l ih => show (view l f (a.put (some p.1) (f p.2))).defers = _; rw [ih, defers_put]

theorem view_other {dl : List (Nat × Nat)} (f : Nat → Value) {a : Act} {t : Nat} (hb : ∀ p ∈ dl, p.1 < a.tmps.size) (h : ∀ p ∈ dl, p.1 ≠ t) : (view dl f a).tmps.getD t undef = a.tmps.getD t undef := by
  induction dl generalizing a with
  | nil => rfl
  | cons p l ih =>
    show (view l f (a.put (some p.1) (f p.2))).tmps.getD t undef = _
    rw [ih (fun q hq => by rw [size_put]; exact hb q (List.mem_cons_of_mem _ hq)) (fun q hq => h q (List.mem_cons_of_mem _ hq)), getD_put _ _ _ _ (hb p List.mem_cons_self), if_neg (h p List.mem_cons_self)]

/-- in a list whose slots are each told once, a slot holds its own -/
theorem view_at {dl : List (Nat × Nat)} (f : Nat → Value) {a : Act} (hb : ∀ p ∈ dl, p.1 < a.tmps.size) (hn : (dl.map (·.1)).Nodup) {t j : Nat} (h : (t, j) ∈ dl) : (view dl f a).tmps.getD t undef = f j := by
  induction dl generalizing a with
  | nil => cases h
  | cons p l ih =>
    show (view l f (a.put (some p.1) (f p.2))).tmps.getD t undef = _
    simp only [List.map_cons, List.nodup_cons] at hn
    have hb' : ∀ q ∈ l, q.1 < (a.put (some p.1) (f p.2)).tmps.size := fun q hq => by rw [size_put]; exact hb q (List.mem_cons_of_mem _ hq)
    rcases List.mem_cons.1 h with e | h'
    · subst e
      rw [view_other f hb' (fun q hq e => hn.1 (by rw [← e]; exact List.mem_map_of_mem (f := (·.1)) hq)), getD_put _ _ _ _ (hb _ List.mem_cons_self), if_pos rfl]
    · exact ih hb' hn.2 h'

theorem tmps_of_getD {a b : Act} {t : Nat} (hs : a.tmps.size = b.tmps.size) (h : a.tmps.getD t undef = b.tmps.getD t undef) : a.tmps[t]? = b.tmps[t]? := by
  by_cases ht : t < a.tmps.size
  · have ht' : t < b.tmps.size := by omega
    simp only [Array.getD_eq_getD_getElem?, Array.getElem?_eq_getElem ht, Array.getElem?_eq_getElem ht', Option.getD_some] at h ⊢
    rw [h]
  · rw [Array.getElem?_eq_none (by omega), Array.getElem?_eq_none (by omega)]

theorem act_ext {a b : Act} (hs : a.tmps.size = b.tmps.size) (hd : a.defers = b.defers) (h : ∀ t, a.tmps.getD t undef = b.tmps.getD t undef) : a = b := by
  obtain ⟨ta, da⟩ := a
  obtain ⟨tb, db⟩ := b
  simp only at hs hd h
  subst hd
  have : ta = tb := Array.ext_getElem? fun t => tmps_of_getD (a := ⟨ta, []⟩) (b := ⟨tb, []⟩) hs (h t)
  rw [this]

section
variable {P : Program} {ops : Array Oper}

/-- One operation, met in a frame that agrees with the true one on all that it looks at. -/
theorem step_head {R : World → World → Prop} {φ : Value → World → Prop} {o : Oper} {d : Nat} {V A : Act} {w : World} {Q : Exit → Act → World → Prop}
    (hdst : o.dst = some d) (hsel : ∀ cs b, o.op ≠ .select cs b) (hd : d < V.tmps.size) (hs : V.tmps.size = A.tmps.size)
    (hag : ∀ t ∈ o.looksAt ops, V.tmps.getD t undef = A.tmps.getD t undef)
    (h : wpList P ops (Post R V.defers d φ w) [o] V w) {K : Act → World → Prop} (hK : ∀ v w', R w w' → φ v w' → K (A.put (some d) v) w') :
    if Region.wanted o (yielded ops A.tmps) then o.wp P A w K Q ∨ (o.asks P A w ∧ LetsOut Q) else K (A.put o.dst undef) w := by
  have hw : Region.wanted o (yielded ops V.tmps) = Region.wanted o (yielded ops A.tmps) := by
    unfold Region.wanted
    cases hg : o.guard with
    | none => rfl
    | some gw =>
      obtain ⟨g, want⟩ := gw
      have hy : yielded ops V.tmps g = yielded ops A.tmps g := by
        unfold yielded
        cases ht : (ops[g]?).bind (·.dst) with
        | none => rfl
        | some t =>
          have := tmps_of_getD hs (hag t (by simp [Oper.looksAt, hg, ht]))
          simp [this]
      simp only [hy]
  have hx : execOp V.eval o = execOp A.eval o := execOp_congr o hsel fun x hx => by
    cases x with
    | tmp t => exact hag t (by unfold Oper.looksAt; exact List.mem_append_left _ (List.mem_filterMap.2 ⟨.tmp t, by simpa using hx, rfl⟩))
    | _ => rfl
  have hput : ∀ v, (V.put (some d) v).tmps.getD d undef = v := fun v => by rw [getD_put _ _ _ _ hd, if_pos rfl]
  unfold wpList at h
  rw [hw] at h
  by_cases hwt : Region.wanted o (yielded ops A.tmps) = true
  · rw [if_pos hwt] at h ⊢
    left
    rcases h with h | ⟨_, h⟩
    · unfold Oper.wp at h ⊢
      rw [hx] at h
      generalize hr : (execOp A.eval o).run P w = r at h ⊢
      cases r with
      | ok n w' =>
        cases n with
        | value v =>
          simp only [Oper.upon, hdst, wpList] at h ⊢
          obtain ⟨h1, h2, _⟩ := h
          rw [hput] at h2
          exact hK v w' h1 h2
        | skip =>
          simp only [Oper.upon, hdst, wpList] at h ⊢
          obtain ⟨h1, h2, _⟩ := h
          rw [hput] at h2
          exact hK _ w' h1 h2
        | defer dd =>
          simp only [Oper.upon, hdst, wpList] at h
          obtain ⟨_, _, h3⟩ := h
          rw [defers_put] at h3
          exact absurd (congrArg List.length h3) (by simp)
        | enter g args =>
          simp only [Oper.upon, hdst] at h ⊢
          refine h.mono fun e w'' he => ?_
          cases e with
          | returned v =>
            simp only [wpList] at he
            obtain ⟨h1, h2, _⟩ := he
            rw [hput] at h2
            exact hK v w'' h1 h2
          | panicked c => exact he.elim
          | outgrown => exact (by obtain ⟨_, _, hf⟩ := he; exact hf.elim)
        | row row args =>
          simp only [Oper.upon, hdst] at h ⊢
          refine h.mono fun v w'' he => ?_
          simp only [wpList] at he
          obtain ⟨h1, h2, _⟩ := he
          rw [hput] at h2
          exact hK v w'' h1 h2
        | _ => simp only [Oper.upon] at h
      | halt x w' => cases x <;> simp only [Oper.upon] at h <;> exact h.elim
    · obtain ⟨_, _, hf⟩ := h; exact hf.elim
  · rw [if_neg hwt] at h ⊢
    simp only [hdst, wpList] at h ⊢
    obtain ⟨h1, h2, _⟩ := h
    rw [hput] at h2
    exact hK _ w h1 h2

/-- The slots that an operation looks at: each is the slot of one that it waits for, and stands in its list; or of none that can have come up before it. -/
def slotOk (ops : Array Oper) (i : Nat) (dl : List (Nat × Nat)) (t : Nat) : Bool :=
  dl.any (fun p => p.1 == t) ||
  (List.range ops.size).all fun k => k == i || ((ops[k]?).map fun ok => ok.dst != some t || ok.after.any (fun e => Region.binds .any e && e.on == i)).getD true

def opOk (ops : Array Oper) (i : Nat) (o : Oper) (dl : List (Nat × Nat)) : Bool :=
  (match o.op with | .select _ _ => false | _ => true) &&
  (o.looksAt ops).all (slotOk ops i dl) &&
  decide ((dl.map (·.1)).Nodup) &&
  dl.all (fun p => o.after.any (fun e => Region.binds .any e && e.on == p.2) && ((ops[p.2]?).map (fun oj => oj.dst == some p.1)).getD false)

def waitsB (ops : Array Oper) : Bool := (List.range ops.size).all fun i => ((ops[i]?).map fun o => o.after.all fun e => !Region.binds .any e || decide (e.on < i)).getD false
/-- k is waited for by i, or by one that i waits for .. -/
def reachB (ops : Array Oper) : Nat → Nat → Nat → Bool
  | 0, _, _ => false
  | n + 1, i, k => ((ops[i]?).map fun o => o.after.any fun e => Region.binds .any e && (e.on == k || reachB ops n e.on k)).getD false
def tailB (ops : Array Oper) (m : Nat) : Bool := (List.range ops.size).all fun i => decide (i < m) || (List.range i).all fun j => reachB ops ops.size i j
def headB (ops : Array Oper) (m : Nat) (dls : List (List (Nat × Nat))) (ds : List Nat) (n : Nat) : Bool :=
  decide (m ≤ ops.size) && decide (m = ds.length) && decide ds.Nodup && ds.all (fun d => decide (d < n)) &&
  (List.range m).all fun i => ((ops[i]?).map fun o => o.dst == ds[i]? && opOk ops i o (dls.getD i [])).getD false
def allOk (ops : Array Oper) (m : Nat) (dls : List (List (Nat × Nat))) (ds : List Nat) (n : Nat) : Bool :=
  waitsB ops && tailB ops m && headB ops m dls ds n

/-- What the order of a region leaves true at any time. -/
structure St (R : World → World → Prop) (Φ : Nat → Value → World → Prop) (ops : Array Oper) (m : Nat) (ds : List Nat) (a0 : Act) (w0 : World) (listed : Array Bool) (A : Act) (w : World) : Prop where
  rel : R w0 w
  size : A.tmps.size = a0.tmps.size
  defers : A.defers = a0.defers
  len : listed.size = ops.size
  closed : ∀ k o, ops[k]? = some o → listed.getD k false = true → ∀ e ∈ o.after, Region.binds .any e = true → listed.getD e.on false = true
  held : ∀ k d, ds[k]? = some d → listed.getD k false = true → Φ k (A.tmps.getD d undef) w
  other : ∀ t, (∀ k : Nat, ds[k]? = some t → listed.getD k false = false) → A.tmps.getD t undef = a0.tmps.getD t undef

/-- how many have not come up -/
def left (n : Nat) (listed : Array Bool) : Nat := (List.range n).countP fun i => !listed.getD i true

theorem left_set {n i : Nat} {listed : Array Bool} (hn : listed.size = n) (hi : listed.getD i true = false) : left n listed = left n (listed.setIfInBounds i true) + 1 := by
  have hlt : i < listed.size := by
    rcases Nat.lt_or_ge i listed.size with h | h
    · exact h
    · simp [Array.getElem?_eq_none h] at hi
  unfold left
  have key : ∀ m, (List.range m).countP (fun j => !listed.getD j true) = (List.range m).countP (fun j => !(listed.setIfInBounds i true).getD j true) + if i < m then 1 else 0 := by
    intro m
    induction m with
    | zero => simp
    | succ m ih =>
      rw [List.range_succ, List.countP_append, List.countP_append, ih]
      by_cases hm : i = m
      · subst hm
        have h1 : (listed.setIfInBounds i true).getD i true = true := by simp [hlt]
        simp only [List.countP_singleton, hi, h1]
        simp
      · rw [List.countP_singleton, List.countP_singleton, getD_set_ne true hm]
        by_cases h2 : i < m
        · have h3 : i < m + 1 := by omega
          simp only [h2, h3, if_true]; omega
        · have h3 : ¬ i < m + 1 := by omega
          simp only [h2, h3, if_false]; omega
  rw [key n, if_pos (by omega)]

theorem left_zero {n : Nat} {listed : Array Bool} (h : left n listed = 0) : ∀ i, i < n → listed.getD i true = true := by
  intro i hi
  have := List.countP_eq_zero.1 h i (List.mem_range.2 hi)
  simpa using this

theorem arr_any {α : Type} {p : α → Bool} {as : Array α} (h : as.any p = true) : ∃ e ∈ as, p e = true := by
  obtain ⟨i, hi, hp⟩ := Array.any_eq_true.1 h
  exact ⟨as[i], Array.getElem_mem hi, hp⟩
theorem nodup_inj {l : List Nat} (h : l.Nodup) {i j d : Nat} (hi : l[i]? = some d) (hj : l[j]? = some d) : i = j := by
  obtain ⟨h1, h2⟩ := List.getElem?_eq_some_iff.1 hi
  obtain ⟨h3, h4⟩ := List.getElem?_eq_some_iff.1 hj
  have H := List.pairwise_iff_getElem.1 (List.nodup_iff_pairwise_ne.1 h)
  rcases Nat.lt_trichotomy i j with hc | hc | hc
  · exact absurd (h2.trans h4.symm) (H i j h1 h3 hc)
  · exact hc
  · exact absurd (h4.trans h2.symm) (H j i h3 h1 hc)
theorem getD_true_of {l : Array Bool} {i n : Nat} (hl : l.size = n) (hi : i < n) : l.getD i true = l.getD i false := by
  simp [Array.getElem?_eq_getElem (show i < l.size by omega)]

theorem wpOp_some {Q : Exit → Act → World → Prop} {i : Nat} {o : Oper} {K : Act → World → Prop} {A : Act} {w : World} (ho : ops[i]? = some o)
    (h : if Region.wanted o (yielded ops A.tmps) then o.wp P A w K Q ∨ (o.asks P A w ∧ LetsOut Q) else K (A.put o.dst undef) w) : wpOp P ops Q i K A w := by
  unfold wpOp; simp only [ho]; exact h

theorem false_of {l : Array Bool} {i : Nat} (h : l.getD i true = false) : l.getD i false = false := by
  rcases Nat.lt_or_ge i l.size with h' | h'
  · simp [Array.getElem?_eq_getElem h'] at h ⊢; exact h
  · simp [Array.getElem?_eq_none h']

theorem waits_of (h : waitsB ops = true) {i : Nat} {o : Oper} (ho : ops[i]? = some o) : ∀ e ∈ o.after, Region.binds .any e = true → e.on < i := by
  intro e he hb
  have hlt : i < ops.size := (Array.getElem?_eq_some_iff.1 ho).1
  simp only [waitsB, List.all_eq_true] at h
  have := h i (List.mem_range.2 hlt)
  simp only [ho, Option.map_some, Option.getD_some, Array.all_eq_true_iff_forall_mem, Bool.or_eq_true, Bool.not_eq_true', decide_eq_true_eq] at this
  rcases this e he with h1 | h1
  · rw [hb] at h1; cases h1
  · exact h1

theorem tail_of {m : Nat} (h : tailB ops m = true) {i j : Nat} (hlt : i < ops.size) (hi : m ≤ i) (hj : j < i) : reachB ops ops.size i j = true := by
  simp only [tailB, List.all_eq_true] at h
  have := h i (List.mem_range.2 hlt)
  simp only [Bool.or_eq_true, decide_eq_true_eq, List.all_eq_true] at this
  rcases this with h1 | h1
  · omega
  · exact h1 j (List.mem_range.2 hj)

/-- what has come up holds all that it waits for: so whatever an operation that may come up waits for, near or far, has come up -/
theorem reach_listed {listed : Array Bool} (hc : ∀ k o, ops[k]? = some o → listed.getD k false = true → ∀ e ∈ o.after, Region.binds .any e = true → listed.getD e.on false = true) :
    ∀ (n i k : Nat) (o : Oper), ops[i]? = some o → (∀ e ∈ o.after, Region.binds .any e = true → listed.getD e.on false = true) → reachB ops n i k = true → listed.getD k false = true
  | 0, _, _, _, _, _, h => by simp [reachB] at h
  | n + 1, i, k, o, ho, hall, h => by
    simp only [reachB, ho, Option.map_some, Option.getD_some] at h
    obtain ⟨e, he, hb⟩ := arr_any h
    simp only [Bool.and_eq_true, Bool.or_eq_true, beq_iff_eq] at hb
    obtain ⟨hb1, hb2⟩ := hb
    have hl := hall e he hb1
    rcases hb2 with hb2 | hb2
    · rw [← hb2]; exact hl
    · cases he2 : ops[e.on]? with
      | none =>
        cases n with
        | zero => simp [reachB] at hb2
        | succ n => simp [reachB, he2] at hb2
      | some o2 => exact reach_listed hc n e.on k o2 he2 (hc e.on o2 he2 hl) hb2

theorem wpAny_tail {m : Nat} {Q : Exit → Act → World → Prop} (hw : waitsB ops = true) (ht : tailB ops m = true) :
    ∀ (fuel : Nat) (listed : Array Bool) (A : Act) (w : World) (i : Nat), m ≤ i → i + fuel = ops.size → (∀ k, k < i → listed.getD k false = true) → (∀ k, i ≤ k → k < ops.size → listed.getD k true = false) →
      wpList P ops Q (ops.toList.drop i) A w → wpAny P .any ops Q fuel listed A w := by
  intro fuel
  induction fuel with
  | zero =>
    intro listed A w i hi hn hl hu h
    have hi' : i = ops.size := by omega
    rw [List.drop_eq_nil_of_le (by simp; omega)] at h
    refine ⟨?_, by simpa [wpList] using h⟩
    apply List.eq_nil_iff_forall_not_mem.2
    intro j hj
    obtain ⟨h1, o, ho, _⟩ := mem_ready.1 hj
    have hlt : j < ops.size := (Array.getElem?_eq_some_iff.1 ho).1
    have := hl j (by omega)
    rw [false_of h1] at this
    cases this
  | succ fuel ih =>
    intro listed A w i hi hn hl hu h
    have hlt : i < ops.size := by omega
    have hin : i ∈ Region.ready .any ops listed := mem_ready.2 ⟨hu i (Nat.le_refl _) hlt, ops[i], Array.getElem?_eq_getElem hlt, fun e he hb => hl _ (waits_of hw (Array.getElem?_eq_getElem hlt) e he hb)⟩
    refine ⟨fun hr => (by rw [hr] at hin; cases hin), fun j hj => ?_⟩
    obtain ⟨h1, o, ho, hall⟩ := mem_ready.1 hj
    have hjlt : j < ops.size := (Array.getElem?_eq_some_iff.1 ho).1
    have hij : j = i := by
      rcases Nat.lt_trichotomy j i with hc | hc | hc
      · have := hl j hc
        rw [false_of h1] at this
        cases this
      · exact hc
      · have hcl : ∀ k o, ops[k]? = some o → listed.getD k false = true → ∀ e ∈ o.after, Region.binds .any e = true → listed.getD e.on false = true := by
          intro k o' ho' hk e he hb
          have h3 := waits_of hw ho' e he hb
          refine hl _ ?_
          have hks : k < ops.size := (Array.getElem?_eq_some_iff.1 ho').1
          have hki : k < i := by
            rcases Nat.lt_or_ge k i with h' | h'
            · exact h'
            · rw [false_of (hu k h' hks)] at hk; cases hk
          omega
        have := reach_listed hcl ops.size j i o ho hall (tail_of ht hjlt (by omega) hc)
        rw [false_of (hu i (Nat.le_refl _) hlt)] at this
        cases this
    subst hij
    have hd : ops.toList.drop j = o :: ops.toList.drop (j + 1) := by
      rw [List.drop_eq_getElem_cons (by simpa using hjlt)]
      have : ops[j] = o := by rw [Array.getElem?_eq_getElem hjlt] at ho; exact Option.some.inj ho
      simp [this]
    rw [hd] at h
    unfold wpList at h
    refine wpOp_mono (K := wpList P ops Q (ops.toList.drop (j + 1))) (fun A' w' h' => ih _ A' w' (j + 1) (by omega) (by omega) (fun k hk => ?_) (fun k hk hk2 => ?_) h') (wpOp_some ho h)
    · by_cases hkj : k = j
      · subst hkj
        have hsz : k < listed.size := by
          rcases Nat.lt_or_ge k listed.size with h' | h'
          · exact h'
          · simp [Array.getElem?_eq_none h'] at h1
        simp [hsz]
      · exact getD_set_true (hl k (by omega))
    · rw [getD_set_ne true (by omega)]; exact hu k (by omega) hk2

theorem wpAny_par {R : World → World → Prop} {Φ : Nat → Value → World → Prop} {m : Nat} {dls : List (List (Nat × Nat))} {ds : List Nat} {a0 : Act} {w0 : World} {Q : Exit → Act → World → Prop}
    (htr : ∀ a b c, R a b → R b c → R a c) (hmono : ∀ k v w w', Φ k v w → R w w' → Φ k v w')
    (hB : allOk ops m dls ds a0.tmps.size = true)
    (hobl : ∀ i o d, i < m → ops[i]? = some o → ds[i]? = some d → ∀ (f : Nat → Value) (w : World), R w0 w → (∀ p ∈ dls.getD i [], Φ p.2 (f p.2) w) → wpList P ops (Post R a0.defers d (Φ i) w) [o] (view (dls.getD i []) f a0) w)
    (hQ : ∀ (f : Nat → Value) (w : World), R w0 w → (∀ i, i < m → Φ i (f i) w) → wpList P ops Q (ops.toList.drop m) (view ds.zipIdx f a0) w) :
    ∀ (fuel : Nat) (listed : Array Bool) (A : Act) (w : World), (∃ i, i < m ∧ listed.getD i true = false) → left ops.size listed = fuel → (∀ i, m ≤ i → i < ops.size → listed.getD i false = false) →
      St R Φ ops m ds a0 w0 listed A w → wpAny P .any ops Q fuel listed A w := by
  simp only [allOk, Bool.and_eq_true] at hB
  obtain ⟨⟨hwaits, htail⟩, hhead⟩ := hB
  simp only [headB, Bool.and_eq_true, decide_eq_true_eq, List.all_eq_true] at hhead
  obtain ⟨⟨⟨⟨hm, hml⟩, hnd⟩, hbd⟩, hops⟩ := hhead
  have hops' : ∀ i, i < m → ∃ o d, ops[i]? = some o ∧ ds[i]? = some d ∧ o.dst = some d ∧ opOk ops i o (dls.getD i []) = true := by
    intro i hi
    have h := hops i (List.mem_range.2 hi)
    have hlt : i < ops.size := by omega
    have hld : i < ds.length := by omega
    refine ⟨ops[i], ds[i], Array.getElem?_eq_getElem hlt, List.getElem?_eq_getElem hld, ?_, ?_⟩
    · simp [Array.getElem?_eq_getElem hlt, List.getElem?_eq_getElem hld] at h; exact h.1
    · simp only [Array.getElem?_eq_getElem hlt, Option.map_some, Option.getD_some, Bool.and_eq_true] at h; exact h.2
  intro fuel
  induction fuel with
  | zero =>
    intro listed A w ⟨i, hi, hui⟩ hleft _ hS
    have := left_zero hleft i (by omega)
    rw [hui] at this
    cases this
  | succ fuel ih =>
    intro listed A w ⟨i0, hi0, hui0⟩ hleft hun hS
    refine ⟨fun hr => ?_, fun j hj => ?_⟩
    · -- one that has not come up, and waits for none: the least
      exfalso
      have hex : ∃ i, i < ops.size ∧ listed.getD i true = false := ⟨i0, by omega, hui0⟩
      have key : ∀ b, (∃ i, i ≤ b ∧ i < ops.size ∧ listed.getD i true = false) → ∃ i, i < ops.size ∧ listed.getD i true = false ∧ ∀ k, k < i → listed.getD k true = true := by
        intro b
        induction b with
        | zero =>
          rintro ⟨i, h0, h1, h2⟩
          exact ⟨i, h1, h2, fun k hk => by omega⟩
        | succ b ihb =>
          rintro ⟨i, h0, h1, h2⟩
          by_cases hc : ∃ i, i ≤ b ∧ i < ops.size ∧ listed.getD i true = false
          · exact ihb hc
          · refine ⟨i, h1, h2, fun k hk => ?_⟩
            cases hk2 : listed.getD k true with
            | true => rfl
            | false => exact absurd ⟨k, by omega, by omega, hk2⟩ hc
      obtain ⟨i, h1, h2, h3⟩ := key i0 ⟨i0, Nat.le_refl _, by omega, hui0⟩
      have hin : i ∈ Region.ready .any ops listed := mem_ready.2 ⟨h2, ops[i], Array.getElem?_eq_getElem h1, fun e he hb => by
        have hlt := waits_of hwaits (Array.getElem?_eq_getElem h1) e he hb
        rw [← getD_true_of hS.len (by omega)]
        exact h3 _ hlt⟩
      rw [hr] at hin
      cases hin
    · obtain ⟨huj, oj, hoj, hall⟩ := mem_ready.1 hj
      have hjlt : j < ops.size := (Array.getElem?_eq_some_iff.1 hoj).1
      have hjm : j < m := by
        rcases Nat.lt_or_ge j m with h | h
        · exact h
        · exfalso
          have := reach_listed hS.closed ops.size j i0 oj hoj hall (tail_of htail hjlt h (show i0 < j by omega))
          rw [false_of hui0] at this
          cases this
      obtain ⟨o, d, ho, hd, hdst, hok⟩ := hops' j hjm
      rw [hoj] at ho
      obtain rfl := Option.some.inj ho
      have hjsz : j < listed.size := by rw [hS.len]; exact hjlt
      have hdn : d < a0.tmps.size := by simpa using hbd d (List.mem_of_getElem? hd)
      simp only [opOk, Bool.and_eq_true, decide_eq_true_eq, List.all_eq_true] at hok
      obtain ⟨⟨⟨hsel, hlook⟩, hnodup⟩, hdl⟩ := hok
      have hdl' : ∀ p ∈ dls.getD j [], ds[p.2]? = some p.1 ∧ listed.getD p.2 false = true := by
        intro p hp
        have h := hdl p hp
        obtain ⟨h1, h2⟩ := h
        obtain ⟨e, he, hbo⟩ := arr_any h1
        simp only [Bool.and_eq_true, beq_iff_eq] at hbo
        obtain ⟨hb, hon⟩ := hbo
        have hlt := waits_of hwaits hoj e he hb
        have hl := hall e he hb
        rw [hon] at hlt hl
        refine ⟨?_, hl⟩
        obtain ⟨o', d', ho', hd', hdst', _⟩ := hops' p.2 (by omega)
        simp only [ho', Option.map_some, Option.getD_some, hdst', beq_iff_eq, Option.some.injEq] at h2
        rw [hd', h2]
      refine wpOp_some hoj (step_head (R := R) (φ := Φ j) (V := view (dls.getD j []) (fun k => A.tmps.getD (ds.getD k 0) undef) a0) hdst ?_ ?_ ?_ ?_ ?_ ?_)
      · intro cs b e
        rw [e] at hsel
        cases hsel
      · rw [view_size]; exact hdn
      · rw [view_size]; exact hS.size.symm
      · intro t ht
        have hsl := hlook t ht
        have hpb : ∀ p ∈ dls.getD j [], p.1 < a0.tmps.size := fun p hp => by simpa using hbd p.1 (List.mem_of_getElem? (hdl' p hp).1)
        by_cases hany : (dls.getD j []).any (fun p => p.1 == t) = true
        · obtain ⟨p, hp, hpt⟩ := List.any_eq_true.1 hany
          have hpt : p.1 = t := by simpa using hpt
          have hmem : (t, p.2) ∈ dls.getD j [] := by rw [← hpt]; exact hp
          rw [view_at _ hpb hnodup hmem]
          have := (hdl' p hp).1
          simp [this, hpt]
        · rw [view_other _ hpb (fun p hp he => hany (List.any_eq_true.2 ⟨p, hp, by simp [he]⟩))]
          refine (hS.other t fun k hk => ?_).symm
          have hkm : k < m := by rw [hml]; exact (List.getElem?_eq_some_iff.1 hk).1
          obtain ⟨o', d', ho', hd', hdst', _⟩ := hops' k hkm
          unfold slotOk at hsl
          simp only [hany, Bool.false_or, List.all_eq_true] at hsl
          have h2 := hsl k (List.mem_range.2 (by omega))
          rw [hk] at hd'
          obtain rfl := Option.some.inj hd'
          simp only [ho', Option.map_some, Option.getD_some, hdst', bne_self_eq_false, Bool.false_or, Bool.or_eq_true, beq_iff_eq] at h2
          rcases h2 with h2 | h2
          · subst h2; exact false_of huj
          · obtain ⟨e, he, hbo⟩ := arr_any h2
            simp only [Bool.and_eq_true, beq_iff_eq] at hbo
            cases hkl : listed.getD k false with
            | false => rfl
            | true =>
              have := hS.closed k o' ho' hkl e he hbo.1
              rw [hbo.2, false_of huj] at this
              cases this
      · rw [view_defers]
        exact hobl j oj d hjm hoj hd _ w hS.rel (fun p hp => by
          obtain ⟨h1, h2⟩ := hdl' p hp
          have := hS.held p.2 p.1 h1 h2
          simpa [h1] using this)
      · intro v w' hR hφ
        have hputd : ∀ t, (A.put (some d) v).tmps.getD t undef = if d = t then v else A.tmps.getD t undef := fun t => getD_put _ _ _ _ (by rw [hS.size]; exact hdn)
        have hS' : St R Φ ops m ds a0 w0 (listed.setIfInBounds j true) (A.put (some d) v) w' := by
          refine ⟨htr _ _ _ hS.rel hR, by rw [size_put]; exact hS.size, by rw [defers_put]; exact hS.defers, by simpa using hS.len, ?_, ?_, ?_⟩
          · intro k o' ho' hk e he hb
            by_cases hkj : k = j
            · subst hkj
              rw [hoj] at ho'
              obtain rfl := Option.some.inj ho'
              exact getD_set_true (hall e he hb)
            · rw [getD_set_ne false (Ne.symm hkj)] at hk
              exact getD_set_true (hS.closed k o' ho' hk e he hb)
          · intro k d' hd' hk
            rw [hputd]
            by_cases hkj : k = j
            · subst hkj
              rw [hd] at hd'
              obtain rfl := Option.some.inj hd'
              rw [if_pos rfl]; exact hφ
            · have hne : d ≠ d' := by
                intro e
                subst e
                exact hkj (nodup_inj hnd hd' hd)
              rw [if_neg hne]
              rw [getD_set_ne false (Ne.symm hkj)] at hk
              exact hmono _ _ _ _ (hS.held k d' hd' hk) hR
          · intro t ht
            rw [hputd]
            have hne : d ≠ t := by
              intro e
              subst e
              have := ht j hd
              simp [hjsz] at this
            rw [if_neg hne]
            refine hS.other t fun k hk => ?_
            have h2 := ht k hk
            by_cases hkj : k = j
            · subst hkj; exact false_of huj
            · rwa [getD_set_ne false (Ne.symm hkj)] at h2
        have hleft' : left ops.size (listed.setIfInBounds j true) = fuel := by
          have := left_set hS.len huj
          omega
        have hun' : ∀ i, m ≤ i → i < ops.size → (listed.setIfInBounds j true).getD i false = false := fun i h1 h2 => by
          rw [getD_set_ne false (by omega)]; exact hun i h1 h2
        by_cases hmore : ∃ i, i < m ∧ (listed.setIfInBounds j true).getD i true = false
        · exact ih _ _ _ hmore hleft' hun' hS'
        · have hall' : ∀ k, k < m → (listed.setIfInBounds j true).getD k false = true := fun k hk => by
            rw [← getD_true_of (n := ops.size) hS'.len (by omega)]
            cases h : (listed.setIfInBounds j true).getD k true with
            | true => rfl
            | false => exact absurd ⟨k, hk, h⟩ hmore
          have hfuel : m + fuel = ops.size := by
            have key : ∀ n, left n (listed.setIfInBounds j true) = (List.range n).countP (fun i => decide (m ≤ i)) ∨ ops.size < n := by
              intro n
              induction n with
              | zero => left; rfl
              | succ n ihn =>
                rcases Nat.lt_or_ge ops.size (n + 1) with hc | hc
                · exact .inr hc
                · left
                  rcases ihn with h | h
                  · unfold left at h ⊢
                    rw [List.range_succ, List.countP_append, List.countP_append, h, List.countP_singleton, List.countP_singleton]
                    congr 1
                    by_cases hnm : n < m
                    · have h1 := hall' n hnm
                      rw [← getD_true_of (n := ops.size) hS'.len (by omega)] at h1
                      simp only [h1, Bool.not_true, Bool.false_eq_true, if_false]
                      rw [if_neg (by simp; omega)]
                    · have h1 := hun' n (by omega) (by omega)
                      rw [← getD_true_of (n := ops.size) hS'.len (by omega)] at h1
                      simp only [h1, Bool.not_false, if_true]
                      rw [if_pos (by simp; omega)]
                  · omega
            have hcount : ∀ n, m ≤ n → (List.range n).countP (fun i => decide (m ≤ i)) = n - m := by
              intro n
              induction n with
              | zero => intro h; simp
              | succ n ihn =>
                intro h
                rw [List.range_succ, List.countP_append, List.countP_singleton]
                by_cases hnm : m ≤ n
                · rw [ihn hnm, if_pos (by simpa using hnm)]; omega
                · rw [if_neg (by simpa using hnm)]
                  have : (List.range n).countP (fun i => decide (m ≤ i)) = 0 := by
                    apply List.countP_eq_zero.2
                    intro a ha
                    have := List.mem_range.1 ha
                    simp; omega
                  omega
            rcases key ops.size with h | h
            · rw [hleft', hcount _ hm] at h; omega
            · omega
          refine wpAny_tail hwaits htail fuel _ _ _ m (Nat.le_refl _) hfuel hall' (fun k h1 h2 => ?_) ?_
          · rw [getD_true_of (n := ops.size) hS'.len h2]; exact hun' k h1 h2
          · have hA : A.put (some d) v = view ds.zipIdx (fun k => (A.put (some d) v).tmps.getD (ds.getD k 0) undef) a0 := by
              have hpb : ∀ p ∈ ds.zipIdx, p.1 < a0.tmps.size := fun p hp => by
                have h3 := List.mem_zipIdx' (x := p.1) (i := p.2) hp
                exact by simpa using hbd p.1 (by rw [h3.2]; exact List.getElem_mem _)
              have hz : ds.zipIdx.map (·.1) = ds := by simp
              refine act_ext ?_ ?_ fun t => ?_
              · rw [view_size]; exact hS'.size
              · rw [view_defers]; exact hS'.defers
              · by_cases ht : t ∈ ds
                · obtain ⟨k, hk, hkt⟩ := List.getElem_of_mem ht
                  have hmem : (t, k) ∈ ds.zipIdx := by
                    rw [List.mem_zipIdx_iff_getElem?]; simp [hk, hkt]
                  rw [view_at _ hpb (by rw [hz]; exact hnd) hmem]
                  simp [hk, hkt]
                · rw [view_other _ hpb (fun p hp e => ht (by
                    have := List.mem_map_of_mem (f := (·.1)) hp
                    rw [hz] at this
                    exact e ▸ this))]
                  exact hS'.other t fun k hk => absurd (List.mem_of_getElem? hk) ht
            rw [hA]
            refine hQ _ _ hS'.rel fun i hi => ?_
            obtain ⟨o', d', ho', hd', _, _⟩ := hops' i hi
            have := hS'.held i d' hd' (hall' i hi)
            simpa [hd'] using this

/-- What the slots that an operation hangs on hold. -/
def Has (Φ : Nat → Value → World → Prop) (f : Nat → Value) (w : World) : List (Nat × Nat) → Prop
  | [] => True
  | p :: l => Φ p.2 (f p.2) w ∧ Has Φ f w l
theorem has_of {Φ : Nat → Value → World → Prop} {f : Nat → Value} {w : World} : ∀ {l : List (Nat × Nat)}, (∀ p ∈ l, Φ p.2 (f p.2) w) → Has Φ f w l
  | [], _ => trivial
  | p :: _, h => ⟨h p List.mem_cons_self, has_of fun q hq => h q (List.mem_cons_of_mem _ hq)⟩

/-- the slots of a list, written -/
def sets (f : Nat → Value) : List (Nat × Nat) → List Value → List Value
  | [], l => l
  | p :: dl, l => sets f dl (l.set p.1 (f p.2))
theorem view_sets (f : Nat → Value) (D : List Deferred) : ∀ (dl : List (Nat × Nat)) (l : List Value), view dl f ⟨l.toArray, D⟩ = ⟨(sets f dl l).toArray, D⟩
  | [], _ => rfl
  | p :: dl, l => by
    show view dl f (Act.put ⟨l.toArray, D⟩ (some p.1) (f p.2)) = _
    rw [show Act.put ⟨l.toArray, D⟩ (some p.1) (f p.2) = ⟨(l.set p.1 (f p.2)).toArray, D⟩ by simp [Act.put]]
    exact view_sets f D dl _
theorem wpList_view {P : Program} {ops : Array Oper} {Q : Exit → Act → World → Prop} {os : List Oper} {dl : List (Nat × Nat)} {f : Nat → Value} {l : List Value} {D : List Deferred} {w : World}
    (h : wpList P ops Q os ⟨(sets f dl l).toArray, D⟩ w) : wpList P ops Q os (view dl f ⟨l.toArray, D⟩) w := by rw [view_sets]; exact h
/-- all slots at once: of each slot whose it is -/
def merge (f : Nat → Value) : List (Option Nat) → List Value → List Value
  | none :: is, a :: l => a :: merge f is l
  | some k :: is, _ :: l => f k :: merge f is l
  | [], l => l
  | _, [] => []
def mergeOk (dl : List (Nat × Nat)) (idx : List (Option Nat)) (n : Nat) : Bool :=
  decide (dl.map (·.1)).Nodup && decide (idx.length = n) && idx.zipIdx.all (fun p => match p.1 with | none => dl.all fun q => q.1 != p.2 | some k => dl.any fun q => q.1 == p.2 && q.2 == k)
theorem merge_get (f : Nat → Value) : ∀ (idx : List (Option Nat)) (l : List Value) (t : Nat), idx.length = l.length → (merge f idx l)[t]? = match idx[t]? with | some (some k) => some (f k) | _ => l[t]?
  | [], l, t, h => by cases l with
    | nil => simp [merge]
    | cons a l => simp at h
  | o :: is, [], t, h => by simp at h
  | none :: is, a :: l, 0, h => by simp [merge]
  | some k :: is, a :: l, 0, h => by simp [merge]
  | none :: is, a :: l, t + 1, h => by
    simp only [merge, List.getElem?_cons_succ]
    exact merge_get f is l t (by simpa using h)
  | some k :: is, a :: l, t + 1, h => by
    simp only [merge, List.getElem?_cons_succ]
    exact merge_get f is l t (by simpa using h)
theorem merge_len (f : Nat → Value) : ∀ (idx : List (Option Nat)) (l : List Value), idx.length = l.length → (merge f idx l).length = l.length
  | [], [], _ => rfl
  | [], _ :: _, h => by simp at h
  | _ :: _, [], h => by simp at h
  | none :: is, a :: l, h => by simp [merge, merge_len f is l (by simpa using h)]
  | some k :: is, a :: l, h => by simp [merge, merge_len f is l (by simpa using h)]
theorem view_merge {f : Nat → Value} {D : List Deferred} {dl : List (Nat × Nat)} {idx : List (Option Nat)} {l : List Value} (h : mergeOk dl idx l.length = true) : view dl f ⟨l.toArray, D⟩ = ⟨(merge f idx l).toArray, D⟩ := by
  simp only [mergeOk, Bool.and_eq_true, decide_eq_true_eq, List.all_eq_true] at h
  obtain ⟨⟨hn, hl⟩, hz⟩ := h
  refine act_ext ?_ ?_ fun t => ?_
  · rw [view_size]; simp [merge_len f idx l hl]
  · rw [view_defers]
  · by_cases ht : t < l.length
    · have hti : t < idx.length := by omega
      have hm := hz (idx[t], t) (List.mem_zipIdx_iff_getElem?.2 (by simp [hti]))
      have hR : (merge f idx l).toArray.getD t undef = match idx[t] with | some k => f k | none => l[t] := by
        simp only [Array.getD_eq_getD_getElem?, List.getElem?_toArray, merge_get f idx l t hl, List.getElem?_eq_getElem hti]
        cases h : idx[t] <;> simp [ht]
      rw [hR]
      cases hi : idx[t] with
      | none =>
        rw [hi] at hm
        simp only [List.all_eq_true, bne_iff_ne, ne_eq] at hm
        have : ∀ (dl : List (Nat × Nat)) (a : Act), (∀ p ∈ dl, ¬ p.1 = t) → (view dl f a).tmps.getD t undef = a.tmps.getD t undef := by
          intro dl
          induction dl with
          | nil => intro a _; rfl
          | cons p dl ih =>
            intro a hp
            show (view dl f (a.put (some p.1) (f p.2))).tmps.getD t undef = _
            rw [ih _ fun q hq => hp q (List.mem_cons_of_mem _ hq)]
            simp only [Act.put, Array.getD_eq_getD_getElem?, Array.getElem?_setIfInBounds]
            rw [if_neg (hp p List.mem_cons_self)]
        rw [this dl _ hm]
        simp [ht]
      | some k =>
        rw [hi] at hm
        obtain ⟨q, hq, he⟩ := List.any_eq_true.1 hm
        simp only [Bool.and_eq_true, beq_iff_eq] at he
        obtain ⟨q1, q2⟩ := q
        obtain ⟨rfl, rfl⟩ := he
        have : ∀ (dl : List (Nat × Nat)) (a : Act), q1 < a.tmps.size → (dl.map (·.1)).Nodup → (q1, q2) ∈ dl → (view dl f a).tmps.getD q1 undef = f q2 := by
          intro dl
          induction dl with
          | nil => intro a _ _ h; cases h
          | cons p dl ih =>
            intro a ha hn hp
            show (view dl f (a.put (some p.1) (f p.2))).tmps.getD q1 undef = _
            simp only [List.map_cons, List.nodup_cons] at hn
            rcases List.mem_cons.1 hp with e | e
            · subst e
              have : ∀ (dl : List (Nat × Nat)) (a : Act), (∀ p ∈ dl, ¬ p.1 = q1) → (view dl f a).tmps.getD q1 undef = a.tmps.getD q1 undef := by
                intro dl
                induction dl with
                | nil => intro a _; rfl
                | cons p dl ih =>
                  intro a hp
                  show (view dl f (a.put (some p.1) (f p.2))).tmps.getD q1 undef = _
                  rw [ih _ fun q hq => hp q (List.mem_cons_of_mem _ hq)]
                  simp only [Act.put, Array.getD_eq_getD_getElem?, Array.getElem?_setIfInBounds]
                  rw [if_neg (hp p List.mem_cons_self)]
              rw [this dl _ fun p hp e => hn.1 (by rw [← e]; exact List.mem_map_of_mem (f := (·.1)) hp), getD_put _ _ _ _ ha, if_pos rfl]
            · exact ih _ (by rw [size_put]; exact ha) hn.2 e
        exact this dl _ (by simpa using ht) hn hq
    · have e1 : (view dl f ⟨l.toArray, D⟩).tmps.getD t undef = undef := by
        have : (view dl f ⟨l.toArray, D⟩).tmps.size ≤ t := by rw [view_size]; simpa using ht
        simp [Array.getElem?_eq_none this]
      have e2 : (merge f idx l).toArray.getD t undef = undef := by
        have : (merge f idx l).toArray.size ≤ t := by simp [merge_len f idx l hl]; omega
        simp [Array.getElem?_eq_none this]
      rw [e1, e2]
theorem wpList_merge {P : Program} {ops : Array Oper} {Q : Exit → Act → World → Prop} {os : List Oper} {dl : List (Nat × Nat)} {idx : List (Option Nat)} {f : Nat → Value} {l : List Value} {D : List Deferred} {w : World}
    (hm : mergeOk dl idx l.length = true) (h : wpList P ops Q os ⟨(merge f idx l).toArray, D⟩ w) : wpList P ops Q os (view dl f ⟨l.toArray, D⟩) w := by rw [view_merge hm]; exact h
theorem Has.get {Φ : Nat → Value → World → Prop} {f : Nat → Value} {w : World} : ∀ {l : List (Nat × Nat)}, Has Φ f w l → ∀ (i : Nat) (p : Nat × Nat), l[i]? = some p → Φ p.2 (f p.2) w
  | [], _, i, p, h => by simp at h
  | _ :: _, h, 0, p, e => by
    rw [List.getElem?_cons_zero] at e
    obtain rfl := Option.some.inj e
    exact h.1
  | _ :: _, h, i + 1, p, e => Has.get h.2 i p (by rwa [List.getElem?_cons_succ] at e)

/-- What is to be shown: of each operation of the head, in the frame that it sees, in any world that may be then. -/
def Obls (P : Program) (ops : Array Oper) (R : World → World → Prop) (Φ : Nat → Value → World → Prop) (a0 : Act) (w0 : World) : Nat → List Oper → List (List (Nat × Nat)) → List Nat → Prop
  | i, o :: os, dl :: dls, d :: ds => (∀ (f : Nat → Value) (w : World), R w0 w → Has Φ f w dl → wpList P ops (Post R a0.defers d (Φ i) w) [o] (view dl f a0) w) ∧ Obls P ops R Φ a0 w0 (i + 1) os dls ds
  | _, _, _, _ => True

theorem obls_at {R : World → World → Prop} {Φ : Nat → Value → World → Prop} {a0 : Act} {w0 : World} : ∀ {os : List Oper} {dls : List (List (Nat × Nat))} {ds : List Nat} {k : Nat}, Obls P ops R Φ a0 w0 k os dls ds → dls.length = ds.length →
    ∀ i o d, os[i]? = some o → ds[i]? = some d → ∀ (f : Nat → Value) (w : World), R w0 w → Has Φ f w (dls.getD i []) → wpList P ops (Post R a0.defers d (Φ (k + i)) w) [o] (view (dls.getD i []) f a0) w
  | [], _, _, _, _, _, i, o, d, ho, _ => by simp at ho
  | _ :: _, _, [], _, _, _, i, o, d, _, hd => by simp at hd
  | _ :: _, [], _ :: _, _, _, hl, i, o, d, _, _ => by simp at hl
  | o' :: os, dl :: dls, d' :: ds, k, h, hl, i, o, d, ho, hd => by
    cases i with
    | zero =>
      simp only [List.getElem?_cons_zero, Option.some.injEq] at ho hd
      subst ho; subst hd
      exact h.1
    | succ i =>
      simp only [List.getElem?_cons_succ] at ho hd
      have := obls_at h.2 (by simpa using hl) i o d ho hd
      intro f w hR hH
      have h2 := this f w hR (by simpa using hH)
      simpa [Nat.add_assoc, Nat.add_comm 1 i] using h2

theorem rep_false (n k : Nat) : (Array.replicate n false).getD k false = false := by
  rw [Array.getD_eq_getD_getElem?, Array.getElem?_replicate]
  split <;> rfl
theorem rep_true {n k : Nat} (h : k < n) : (Array.replicate n false).getD k true = false := by
  rw [Array.getD_eq_getD_getElem?, Array.getElem?_replicate, if_pos h]; rfl

/-- **A REGION THAT DRAWS ITS ORDER, EACH OPERATION BY ITSELF.** -/
theorem wp_region_par {R : World → World → Prop} {Φ : Nat → Value → World → Prop} {m : Nat} {dls : List (List (Nat × Nat))} {ds : List Nat} {l : List Oper} {a0 : Act} {w0 : World} {Q : Exit → Act → World → Prop} {id : Nat}
    (hm : P.follows .mixedOrders = true) (hB : allOk l.toArray m dls ds a0.tmps.size = true) (hpos : 0 < m) (hlen : dls.length = ds.length)
    (hdraw : R w0 w0.drew) (htr : ∀ a b c, R a b → R b c → R a c) (hmono : ∀ k v w w', Φ k v w → R w w' → Φ k v w')
    (hobl : Obls P l.toArray R Φ a0 w0 0 l dls ds)
    (hQ : ∀ (f : Nat → Value) (w : World), R w0 w → Has Φ f w ds.zipIdx → wpList P l.toArray Q (l.drop m) (view ds.zipIdx f a0) w) :
    (Code.region id l.toArray true).wp P Q a0 w0 := by
  have hB' := hB
  simp only [allOk, Bool.and_eq_true, headB, decide_eq_true_eq] at hB'
  obtain ⟨_, ⟨⟨⟨⟨hml, hmd⟩, _⟩, _⟩, _⟩⟩ := hB'
  refine wp_region_any hm (wpAny_par (w0 := w0) htr hmono hB (fun i o d hi ho hd f w hR hH => ?_) (fun f w hR hH => ?_) _ _ _ _ ⟨0, hpos, ?_⟩ ?_ (fun i _ h2 => ?_) ?_)
  · have := obls_at hobl hlen i o d (by simpa using ho) hd f w hR (has_of hH)
    simpa using this
  · have h := hQ f w hR (has_of fun p hp => by
      have h3 := List.mem_zipIdx' (x := p.1) (i := p.2) hp
      exact hH p.2 (by omega))
    simpa using h
  · exact rep_true (by omega)
  · unfold left
    have : ∀ n, n ≤ l.toArray.size → (List.range n).countP (fun i => !(Array.replicate l.toArray.size false).getD i true) = n := by
      intro n
      induction n with
      | zero => intro _; rfl
      | succ n ih =>
        intro h
        rw [List.range_succ, List.countP_append, ih (by omega), List.countP_singleton]
        have hn : n < l.toArray.size := by omega
        rw [rep_true hn]
        rfl
    exact this _ (Nat.le_refl _)
  · exact rep_false _ _
  · refine ⟨hdraw, rfl, rfl, by simp, ?_, ?_, fun _ _ => rfl⟩
    · intro k o _ hk
      rw [rep_false] at hk
      cases hk
    · intro k d _ hk
      rw [rep_false] at hk
      cases hk
end

/-- The predicates of a region's operations, by their numbers. -/
def phi (L : List (Value → World → Prop)) (i : Nat) : Value → World → Prop := L.getD i fun _ _ => True
def Mono (R : World → World → Prop) (p : Value → World → Prop) : Prop := ∀ v w w', p v w → R w w' → p v w'
def Monos (R : World → World → Prop) : List (Value → World → Prop) → Prop
  | [] => True
  | p :: l => Mono R p ∧ Monos R l
theorem Mono.eq {R : World → World → Prop} (x : Value) : Mono R (fun u _ => u = x) := fun _ _ _ h _ => h
theorem Mono.any {R : World → World → Prop} : Mono R (fun _ _ => True) := fun _ _ _ h _ => h
theorem mono_phi {R : World → World → Prop} : ∀ {L : List (Value → World → Prop)}, Monos R L → ∀ k v w w', phi L k v w → R w w' → phi L k v w'
  | [], _, _, _, _, _, _, _ => by simp [phi]
  | p :: l, h, 0, v, w, w', hp, hR => by simp only [phi, List.getD_cons_zero] at hp ⊢; exact h.1 _ _ _ hp hR
  | p :: l, h, k + 1, v, w, w', hp, hR => by
    have := mono_phi h.2 k v w w' (by simpa [phi] using hp) hR
    simpa [phi] using this

/-- THE WORLD HAS GROWN: all that was there is as it was. -/
def Grow (w w' : World) : Prop := Below w.heap.size w w'
theorem Grow.refl (w : World) : Grow w w := Below.refl _ w
theorem Grow.trans {a b c : World} (h : Grow a b) (k : Grow b c) : Grow a c := Below.trans h (Below.mono k h.size)
theorem Grow.drew (w : World) : Grow w w.drew := (Below.refl _ w).drew
theorem Grow.alloc (w : World) (o : Obj) : Grow w (w.alloc o) := (Below.refl _ w).alloc (Nat.le_refl _) o
theorem Grow.below {w w' : World} {B : Nat} (h : Grow w w') (hB : B ≤ w.heap.size) : Below B w w' := Below.mono h hB
theorem Grow.cell {w w' : World} (h : Grow w w') {p : Addr} {v : Value} (hc : w.cell? p = some v) : w'.cell? p = some v := by
  have hlt : p.block < w.heap.size := by
    rcases Nat.lt_or_ge p.block w.heap.size with h' | h'
    · exact h'
    · simp [World.cell?, Array.getElem?_eq_none h'] at hc
  rw [Below.cell h hlt]; exact hc
theorem Grow.block {w w' : World} (h : Grow w w') {k : Nat} {o : Obj} (hc : w.heap[k]? = some o) : w'.heap[k]? = some o := by
  have hlt : k < w.heap.size := (Array.getElem?_eq_some_iff.1 hc).1
  rw [Below.block h k hlt]; exact hc

/-- an operation's value, whatever the world -/
def veq (x : Value) : Value → World → Prop := fun u _ => u = x
theorem Mono.veq {R : World → World → Prop} (x : Value) : Mono R (veq x) := fun _ _ _ h _ => h
theorem obls_cons {P : Program} {ops : Array Oper} {R : World → World → Prop} {Φ : Nat → Value → World → Prop} {a0 : Act} {w0 : World} {i : Nat} {o : Oper} {os : List Oper} {dl : List (Nat × Nat)} {dls : List (List (Nat × Nat))} {d : Nat} {ds : List Nat}
    (h : ∀ (f : Nat → Value) (w : World), R w0 w → Has Φ f w dl → ∀ Q : Exit → Act → World → Prop, (∀ a w', R w w' → Φ i (a.tmps.getD d undef) w' → a.defers = a0.defers → Q .normal a w') → wpList P ops Q [o] (view dl f a0) w)
    (h' : Obls P ops R Φ a0 w0 (i + 1) os dls ds) : Obls P ops R Φ a0 w0 i (o :: os) (dl :: dls) (d :: ds) :=
  ⟨fun f w hR hH => h f w hR hH _ fun _ _ h1 h2 h3 => ⟨h1, h2, h3⟩, h'⟩
theorem obls_nil {P : Program} {ops : Array Oper} {R : World → World → Prop} {Φ : Nat → Value → World → Prop} {a0 : Act} {w0 : World} {i : Nat} {os : List Oper} {dls : List (List (Nat × Nat))} : Obls P ops R Φ a0 w0 i os dls [] := by
  cases os <;> cases dls <;> exact trivial
end Go.Par
