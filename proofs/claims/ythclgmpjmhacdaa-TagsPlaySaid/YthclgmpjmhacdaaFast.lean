/- A region that draws its order, each operation by itself, in a frame of just the slots that it looks at: for every program. -/
import Derived.Test.YthclgmpjmhacdaaPar
import Derived.Test.YthclgmpjmhacdaaPiv
namespace Go.Par
open Go Go.RowKit

/-- what an operation's operands are: the slots of 'm', and what needs no slot -/
def smallEval (m : List (Nat × Value)) : Operand → Value
  | .tmp t => (m.lookup t).getD undef
  | x => Act.eval ⟨#[], []⟩ x
def AllOps (V : Act) (m : List (Nat × Value)) : List Operand → Prop
  | [] => True
  | .tmp t :: r => V.tmps.getD t undef = (m.lookup t).getD undef ∧ AllOps V m r
  | _ :: r => AllOps V m r
theorem allOps {V : Act} {m : List (Nat × Value)} : ∀ l, AllOps V m l → ∀ x ∈ l, V.eval x = smallEval m x
  | [], _, x, hx => by cases hx
  | y :: r, h, x, hx => by
    have hr : AllOps V m r := by
      cases y <;> first | exact h | exact h.2
    rcases List.mem_cons.1 hx with rfl | hx
    · cases x <;> first | rfl | exact h.1
    · exact allOps r hr x hx
section
variable {P : Program} {ops : Array Oper} {Q : Exit → Act → World → Prop} {R : World → World → Prop} {φ : Value → World → Prop} {o : Oper} {V : Act} {w : World} {d : Nat} {D : List Deferred}
/-- an operation that does its work, met in a small frame -/
theorem small_q (m : List (Nat × Value)) (o' : Oper) (l' : List Value) (d' : Nat)
    (hdst : o.dst = some d) (hd : d < V.tmps.size) (hVD : V.defers = D) (hsel : ∀ cs b, o.op ≠ .select cs b) (hwt : Region.wanted o (yielded ops V.tmps) = true)
    (hdst' : o'.dst = some d') (hd' : d' < l'.length) (hgd : o'.guard = none)
    (hall : AllOps V m o.op.operands.toList) (hren : execOp (smallEval m) o = execOp (Act.eval ⟨l'.toArray, D⟩) o')
    (hQ : ∀ a w', R w w' → φ (a.tmps.getD d undef) w' → a.defers = D → Q .normal a w')
    (h : ∀ Q' : Exit → Act → World → Prop, (∀ a w', R w w' → φ (a.tmps.getD d' undef) w' → a.defers = D → Q' .normal a w') → wpList P #[] Q' [o'] ⟨l'.toArray, D⟩ w) :
    wpList P ops Q [o] V w := by
  have h1 := h (Post R D d' φ w) (fun _ _ a b c => ⟨a, b, c⟩)
  have hx : execOp V.eval o = execOp (Act.eval ⟨l'.toArray, D⟩) o' := (execOp_congr o hsel fun x hx => allOps _ hall x (by simpa using hx)).trans hren
  have hput : ∀ v, (Act.put ⟨l'.toArray, D⟩ (some d') v).tmps.getD d' undef = v := fun v => by rw [getD_put _ _ _ _ (by simpa using hd'), if_pos rfl]
  have hputV : ∀ v, (V.put (some d) v).tmps.getD d undef = v := fun v => by rw [getD_put _ _ _ _ hd, if_pos rfl]
  have hw' : Region.wanted o' (yielded #[] (⟨l'.toArray, D⟩ : Act).tmps) = true := by unfold Region.wanted; rw [hgd]
  have fin : ∀ v w', R w w' → φ v w' → Q .normal (V.put (some d) v) w' := fun v w' a b => hQ _ _ a (by rw [hputV]; exact b) (by rw [defers_put]; exact hVD)
  unfold wpList at h1 ⊢
  rw [hwt, if_pos rfl]
  rw [hw', if_pos rfl] at h1
  left
  rcases h1 with h1 | ⟨_, h1⟩
  · unfold Oper.wp at h1 ⊢
    rw [hx]
    generalize hr : (execOp (Act.eval ⟨l'.toArray, D⟩) o').run P w = r at h1 ⊢
    cases r with
    | ok n w' =>
      cases n with
      | value v =>
        simp only [Oper.upon, hdst, hdst', wpList] at h1 ⊢
        obtain ⟨a, b, _⟩ := h1
        rw [hput] at b
        exact fin v w' a b
      | skip =>
        simp only [Oper.upon, hdst, hdst', wpList] at h1 ⊢
        obtain ⟨a, b, _⟩ := h1
        rw [hput] at b
        exact fin _ w' a b
      | defer dd =>
        simp only [Oper.upon, hdst', wpList] at h1
        obtain ⟨_, _, h3⟩ := h1
        rw [defers_put] at h3
        exact absurd (congrArg List.length h3) (by simp)
      | enter g args =>
        simp only [Oper.upon, hdst, hdst'] at h1 ⊢
        refine h1.mono fun e w'' he => ?_
        cases e with
        | returned v =>
          simp only [wpList] at he ⊢
          obtain ⟨a, b, _⟩ := he
          rw [hput] at b
          exact fin v w'' a b
        | panicked c => exact he.elim
        | outgrown => exact (by obtain ⟨_, _, hf⟩ := he; exact hf.elim)
      | row row args =>
        simp only [Oper.upon, hdst, hdst'] at h1 ⊢
        refine h1.mono fun v w'' he => ?_
        simp only [wpList] at he ⊢
        obtain ⟨a, b, _⟩ := he
        rw [hput] at b
        exact fin v w'' a b
      | _ => simp only [Oper.upon] at h1
    | halt x w' => cases x <;> simp only [Oper.upon] at h1 <;> exact h1.elim
  · obtain ⟨_, _, hf⟩ := h1; exact hf.elim
/-- an operation that is passed over -/
theorem small_skip (hdst : o.dst = some d) (hd : d < V.tmps.size) (hVD : V.defers = D) (hwt : Region.wanted o (yielded ops V.tmps) = false)
    (hQ : ∀ a w', R w w' → φ (a.tmps.getD d undef) w' → a.defers = D → Q .normal a w') (hr : R w w) (hφ : φ undef w) : wpList P ops Q [o] V w := by
  unfold wpList
  rw [hwt]
  simp only [hdst, wpList, Bool.false_eq_true, if_false]
  exact hQ _ _ hr (by rw [getD_put _ _ _ _ hd, if_pos rfl]; exact hφ) (by rw [defers_put]; exact hVD)
theorem wanted_some {g t : Nat} {b want : Bool} (h : o.guard = some (g, want)) (ho : (ops[g]?).bind (·.dst) = some t) (hv : V.tmps.getD t undef = .bool b) : Region.wanted o (yielded ops V.tmps) = (b == want) := by
  have hs : V.tmps[t]? = some (.bool b) := by
    rw [Array.getD_eq_getD_getElem?] at hv
    cases hc : V.tmps[t]? with
    | none => rw [hc] at hv; cases hv
    | some x => rw [hc] at hv; exact congrArg some hv
  unfold Region.wanted yielded
  rw [h]
  simp only [ho, Option.bind_some, hs]
  rfl
theorem wanted_undef {g t : Nat} {want : Bool} (h : o.guard = some (g, want)) (ho : (ops[g]?).bind (·.dst) = some t) (hv : V.tmps.getD t undef = undef) : Region.wanted o (yielded ops V.tmps) = false := by
  rw [Array.getD_eq_getD_getElem?] at hv
  unfold Region.wanted yielded
  rw [h]
  simp only [ho, Option.bind_some]
  cases hc : V.tmps[t]? with
  | none => cases want <;> rfl
  | some x =>
    rw [hc] at hv
    have hv : x = undef := hv
    subst hv
    cases want <;> rfl
end
section
variable {ρ ρ' : Operand → Value} {dst dst' : Option Tmp} {ty : TypeId} {pos pos' : String} {aft aft' : Array Edge} {gd gd' : Option (Nat × Bool)}
theorem ren_call {l l' : List Operand} {f : Operand} {ats : Array TypeId} (hf : ρ f = ρ' f) (h : l.map ρ = l'.map ρ') :
    execOp ρ ⟨dst, .call ⟨.value f, l.toArray, ats⟩, ty, pos, aft, gd⟩ = execOp ρ' ⟨dst', .call ⟨.value f, l'.toArray, ats⟩, ty, pos', aft', gd'⟩ := by
  simp only [execOp, resolve, List.map_toArray, h, hf]
theorem ren_builtin {l l' : List Operand} {b : Builtin} {ats : Array TypeId} (h : l.map ρ = l'.map ρ') (h2 : (l.map fun | .const _ => true | _ => false) = l'.map fun | .const _ => true | _ => false) :
    execOp ρ ⟨dst, .call ⟨.builtin b, l.toArray, ats⟩, ty, pos, aft, gd⟩ = execOp ρ' ⟨dst', .call ⟨.builtin b, l'.toArray, ats⟩, ty, pos', aft', gd'⟩ := by
  simp only [execOp, resolve, List.map_toArray, h]
  exact congrArg (fun z : Array Bool => (do let d ← (pure ({ target := Target.builtin b ats ty z, args := (l'.map ρ').toArray } : Deferred) : Sem Deferred); invoke d.target d.args)) (congrArg List.toArray h2)
theorem ren_build {l l' : List (Nat × Operand)} {t : TypeId} (h : (l.map fun p => (p.1, ρ p.2)) = l'.map fun p => (p.1, ρ' p.2)) :
    execOp ρ ⟨dst, .build t l.toArray, ty, pos, aft, gd⟩ = execOp ρ' ⟨dst', .build t l'.toArray, ty, pos', aft', gd'⟩ := by
  simp only [execOp, List.map_toArray, h]
theorem ren_buildSlice {l l' : List (Nat × Operand)} {t : TypeId} {k : Nat} (h : (l.map fun p => (p.1, ρ p.2)) = l'.map fun p => (p.1, ρ' p.2)) :
    execOp ρ ⟨dst, .buildSlice t k l.toArray, ty, pos, aft, gd⟩ = execOp ρ' ⟨dst', .buildSlice t k l'.toArray, ty, pos', aft', gd'⟩ := by
  simp only [execOp, List.map_toArray, h]
end
def isSel : Op → Bool
  | .select _ _ => true
  | _ => false
def smallOk (o o' : Oper) (d d' n k : Nat) : Bool := (decide (o.dst = some d) && decide (d < n)) && ((decide (o'.dst = some d') && decide (d' < k)) && (o'.guard.isNone && !isSel o.op))
section
variable {P : Program} {ops : Array Oper} {Q : Exit → Act → World → Prop} {R : World → World → Prop} {φ : Value → World → Prop} {o : Oper} {a1 : Act} {w : World} {d n : Nat} {dl : List (Nat × Nat)} {f : Nat → Value}
theorem small_v (hsz : a1.tmps.size = n) (m : List (Nat × Value)) (o' : Oper) (l' : List Value) (d' : Nat) (hb : smallOk o o' d d' n l'.length = true) (hwt : Region.wanted o (yielded ops (view dl f a1).tmps) = true)
    (hall : AllOps (view dl f a1) m o.op.operands.toList) (_ : l' = m.map (·.2) ++ [undef]) (hren : execOp (smallEval m) o = execOp (Act.eval ⟨l'.toArray, a1.defers⟩) o')
    (hQ : ∀ a w', R w w' → φ (a.tmps.getD d undef) w' → a.defers = a1.defers → Q .normal a w')
    (h : ∀ Q' : Exit → Act → World → Prop, (∀ a w', R w w' → φ (a.tmps.getD d' undef) w' → a.defers = a1.defers → Q' .normal a w') → wpList P #[] Q' [o'] ⟨l'.toArray, a1.defers⟩ w) :
    wpList P ops Q [o] (view dl f a1) w := by
  simp only [smallOk, Bool.and_eq_true, decide_eq_true_eq, Option.isNone_iff_eq_none, Bool.not_eq_true'] at hb
  obtain ⟨⟨h1, h2⟩, ⟨h3, h4⟩, h5, h6⟩ := hb
  exact small_q m o' l' d' h1 (by rw [view_size, hsz]; exact h2) (view_defers _ _ _) (fun cs b e => by rw [e] at h6; cases h6) hwt h3 h4 h5 hall hren hQ h
theorem skip_v (hsz : a1.tmps.size = n) (hd : (decide (o.dst = some d) && decide (d < n)) = true) (hwt : Region.wanted o (yielded ops (view dl f a1).tmps) = false)
    (hQ : ∀ a w', R w w' → φ (a.tmps.getD d undef) w' → a.defers = a1.defers → Q .normal a w') (hr : R w w) (hφ : φ undef w) : wpList P ops Q [o] (view dl f a1) w := by
  simp only [Bool.and_eq_true, decide_eq_true_eq] at hd
  exact small_skip hd.1 (by rw [view_size, hsz]; exact hd.2) (view_defers _ _ _) hwt hQ hr hφ
theorem sv_at (t j : Nat) (hsz : a1.tmps.size = n) (f : Nat → Value) (dl : List (Nat × Nat)) (h : (decide ((dl.map (·.1)).Nodup) && (dl.contains (t, j) && decide (t < n))) = true) : (view dl f a1).tmps.getD t undef = f j := by
  simp only [Bool.and_eq_true, decide_eq_true_eq] at h
  exact view_at' f h.1 (by simpa using h.2.1) (by rw [hsz]; exact h.2.2)
theorem sv_off {t : Nat} {v : Value} (f : Nat → Value) (dl : List (Nat × Nat)) (he : a1.tmps.getD t undef = v) (h : (dl.all fun p => p.1 != t) = true) : (view dl f a1).tmps.getD t undef = v := by
  rw [view_other' f fun p hp e => ?_]
  · exact he
  · have := List.all_eq_true.1 h p hp
    simp [e] at this
end
theorem obls_frame {P : Program} {ops : Array Oper} {R : World → World → Prop} {Φ : Nat → Value → World → Prop} {a0 : Act} {w0 : World} {i : Nat} {os : List Oper} {dls : List (List (Nat × Nat))} {ds : List Nat}
    (h : ∀ a1, a1 = a0 → Obls P ops R Φ a1 w0 i os dls ds) : Obls P ops R Φ a0 w0 i os dls ds := h a0 rfl
theorem rd_slot {a1 : Act} {l : List Value} {D : List Deferred} {v : Value} (t : Nat) (ha : a1 = ⟨l.toArray, D⟩) (h : l[t]? = some v) : a1.tmps.getD t undef = v := by
  subst ha
  simp [Array.getD_eq_getD_getElem?, h]
theorem rd_size {a1 : Act} {l : List Value} {D : List Deferred} {n : Nat} (ha : a1 = ⟨l.toArray, D⟩) (h : l.length = n) : a1.tmps.size = n := by
  subst ha
  simpa using h
end Go.Par
