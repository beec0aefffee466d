/- Tags: the document's reading answers as the tags' own; what is read is told so (plain). -/
import Derived.Test.YthclgmpjmhacdaaTgX
namespace Go.Proofs.Ythclgmpjmhacdaa.tg
open Go Go.RowKit Go.Par Go.Kit Vi Go.Proofs.Ythclgmpjmhacdaa.bfW

def decRV : Nat → List UInt8 → Nat → List Int → Bool → Nat → (List Int × Bool) × List UInt8 × Nat
  | 0, L, e, v, f, _ => ((v, f), L, e)
  | m + 1, L, e, v, f, la => if e ≠ 0 then ((v, f), L, e) else
    decRV m (rnum (rbyte L 0 64).2.1 (rbyte L 0 64).2.2 60000).2.1 (rnum (rbyte L 0 64).2.1 (rbyte L 0 64).2.2 60000).2.2
      (if (rnum (rbyte L 0 64).2.1 (rbyte L 0 64).2.2 60000).2.2 = 0 ∧ 0 < (rbyte L 0 64).1 then v.set ((rbyte L 0 64).1 - 1) ((rnum (rbyte L 0 64).2.1 (rbyte L 0 64).2.2 60000).1 : Nat) else v)
      (if (rnum (rbyte L 0 64).2.1 (rbyte L 0 64).2.2 60000).2.2 = 0 then f && decide (la < (rbyte L 0 64).1) && decide (0 < (rnum (rbyte L 0 64).2.1 (rbyte L 0 64).2.2 60000).1) else f)
      (if (rnum (rbyte L 0 64).2.1 (rbyte L 0 64).2.2 60000).2.2 = 0 then (rbyte L 0 64).1 else la)
def rvecR (L : List UInt8) (e : Nat) (f : Bool) : (List Int × Bool) × List UInt8 × Nat := decRV (rnum L e 64).1 (rnum L e 64).2.1 (rnum L e 64).2.2 (List.replicate 64 0) f 0
theorem decRV_stop {m e : Nat} {L : List UInt8} {v : List Int} {f : Bool} {la : Nat} (h : m = 0 ∨ e ≠ 0) : decRV m L e v f la = ((v, f), L, e) := by
  cases m with
  | zero => rfl
  | succ m =>
    unfold decRV
    rw [if_pos (by rcases h with h | h; · omega
                   · exact h)]
theorem decRV_step {m : Nat} {L L3 L4 : List UInt8} {v : List Int} {f : Bool} {la a k e3 e4 : Nat} (h1 : rbyte L 0 64 = (a, L3, e3)) (h2 : rnum L3 e3 60000 = (k, L4, e4)) :
    decRV (m + 1) L 0 v f la = decRV m L4 e4 (if e4 = 0 ∧ 0 < a then v.set (a - 1) (k : Nat) else v) (if e4 = 0 then f && decide (la < a) && decide (0 < k) else f) (if e4 = 0 then a else la) := by
  rw [decRV, if_neg (fun h => h rfl), h1]
  dsimp only
  rw [h2]
theorem decV_false : ∀ (m : Nat) (L : List UInt8) (e : Nat) (v : List Int) (la : Nat), (decV m L e v false la).1.2 = false
  | 0, _, _, _, _ => rfl
  | m + 1, L, e, v, la => by
    by_cases he : e = 0
    · subst he
      obtain ⟨⟨a, L3, e3⟩, h1⟩ : ∃ r, r = rbyte L 0 64 := ⟨_, rfl⟩
      obtain ⟨⟨k, L4, e4⟩, h2⟩ : ∃ r, r = rnum L3 e3 60000 := ⟨_, rfl⟩
      rw [decV_step h1.symm h2.symm, show (if a ≤ la ∨ k = 0 then false else false) = false by split <;> rfl]
      exact decV_false m L4 e4 _ _
    · rw [decV_stop (.inr he)]
theorem decRV_false : ∀ (m : Nat) (L : List UInt8) (e : Nat) (v : List Int) (la : Nat), (decRV m L e v false la).1.2 = false
  | 0, _, _, _, _ => rfl
  | m + 1, L, e, v, la => by
    by_cases he : e = 0
    · subst he
      obtain ⟨⟨a, L3, e3⟩, h1⟩ : ∃ r, r = rbyte L 0 64 := ⟨_, rfl⟩
      obtain ⟨⟨k, L4, e4⟩, h2⟩ : ∃ r, r = rnum L3 e3 60000 := ⟨_, rfl⟩
      rw [decRV_step h1.symm h2.symm, show (if e4 = 0 then false && decide (la < a) && decide (0 < k) else false) = false by split <;> rfl]
      exact decRV_false m L4 e4 _ _
    · rw [decRV_stop (.inr he)]
theorem decRV_pos : ∀ (m : Nat) (L : List UInt8) (e : Nat) (v v' : List Int) (f f' : Bool) (la la' : Nat), (decRV m L e v f la).2 = (decV m L e v' f' la').2
  | 0, _, _, _, _, _, _, _, _ => rfl
  | m + 1, L, e, v, v', f, f', la, la' => by
    by_cases he : e = 0
    · subst he
      obtain ⟨⟨a, L3, e3⟩, h1⟩ : ∃ r, r = rbyte L 0 64 := ⟨_, rfl⟩
      obtain ⟨⟨k, L4, e4⟩, h2⟩ : ∃ r, r = rnum L3 e3 60000 := ⟨_, rfl⟩
      rw [decRV_step h1.symm h2.symm, decV_step h1.symm h2.symm]
      exact decRV_pos m L4 e4 _ _ _ _ _ _
    · rw [decRV_stop (.inr he), decV_stop (.inr he)]
theorem decRV_eq : ∀ (m : Nat) (L : List UInt8) (e : Nat) (v : List Int) (f : Bool) (la : Nat), (decV m L e v f la).2.2 = 0 →
    (decRV m L e v f la).1.2 = (decV m L e v f la).1.2 ∧ ((decV m L e v f la).1.2 = true → (decRV m L e v f la).1.1 = (decV m L e v f la).1.1)
  | 0, _, _, _, _, _ => fun _ => ⟨rfl, fun _ => rfl⟩
  | m + 1, L, e, v, f, la => by
    intro h
    by_cases he : e = 0
    · subst he
      obtain ⟨⟨a, L3, e3⟩, h1⟩ : ∃ r, r = rbyte L 0 64 := ⟨_, rfl⟩
      obtain ⟨⟨k, L4, e4⟩, h2⟩ : ∃ r, r = rnum L3 e3 60000 := ⟨_, rfl⟩
      rw [decV_step h1.symm h2.symm] at h ⊢
      rw [decRV_step h1.symm h2.symm]
      by_cases h4 : e4 = 0
      · subst h4
        rw [if_pos rfl, if_pos rfl]
        by_cases hc : a ≤ la ∨ k = 0
        · rw [if_pos hc, if_pos hc, if_pos hc]
          have hf : (f && decide (la < a) && decide (0 < k)) = false := by
            rcases hc with hc | hc
            · rw [decide_eq_false (by omega : ¬ la < a)]; simp
            · rw [decide_eq_false (by omega : ¬ 0 < k)]; simp
          rw [hf, decRV_false, decV_false]
          exact ⟨rfl, fun h => by cases h⟩
        · rw [if_neg hc, if_neg hc, if_neg hc] at h ⊢
          have hf : (f && decide (la < a) && decide (0 < k)) = f := by
            rw [decide_eq_true (by omega : la < a), decide_eq_true (by omega : 0 < k)]; simp
          rw [hf, if_pos ⟨rfl, by omega⟩]
          exact decRV_eq m L4 0 _ f a h
      · rw [decV_stop (.inr h4)] at h
        exact absurd h h4
    · rw [decRV_stop (.inr he), decV_stop (.inr he)]
      exact ⟨rfl, fun _ => rfl⟩
theorem rvecR_eq {L : List UInt8} {e : Nat} (f : Bool) (h : (rvec L e).2.2 = 0) : (rvecR L e f).1.2 = (f && (rvec L e).1.2) ∧ ((rvecR L e f).1.2 = true → (rvecR L e f).1.1 = (rvec L e).1.1) := by
  unfold rvecR rvec at *
  cases f with
  | false =>
    rw [decRV_false]
    exact ⟨rfl, fun h => by cases h⟩
  | true =>
    have := decRV_eq _ _ _ _ true 0 h
    rw [Bool.true_and]
    exact ⟨this.1, fun h9 => this.2 (this.1 ▸ h9)⟩
theorem rvecR_pos (L : List UInt8) (e : Nat) (f : Bool) : (rvecR L e f).2 = (rvec L e).2 := decRV_pos _ _ _ _ _ _ _ _ _
theorem decV_good : ∀ (m : Nat) (L : List UInt8) (e : Nat) (v : List Int) (f : Bool) (la : Nat), (∀ x ∈ v, x ≤ 60000) → ∀ x ∈ (decV m L e v f la).1.1, x ≤ 60000
  | 0, _, _, _, _, _, h => h
  | m + 1, L, e, v, f, la, h => by
    by_cases he : e = 0
    · subst he
      obtain ⟨⟨a, L3, e3⟩, h1⟩ : ∃ r, r = rbyte L 0 64 := ⟨_, rfl⟩
      obtain ⟨⟨k, L4, e4⟩, h2⟩ : ∃ r, r = rnum L3 e3 60000 := ⟨_, rfl⟩
      have hk : k ≤ 60000 := by have := rnum_le L3 e3 60000; rw [← h2] at this; exact this
      rw [decV_step h1.symm h2.symm]
      refine decV_good m L4 e4 _ _ _ ?_
      split
      · exact h
      · intro x hx
        rcases List.mem_or_eq_of_mem_set hx with hx | rfl
        · exact h x hx
        · omega
    · rw [decV_stop (.inr he)]; exact h
theorem rvec_good (L : List UInt8) (e : Nat) : goodV (rvec L e).1.1 = true := by
  unfold goodV
  rw [List.all_eq_true]
  intro x hx
  exact decide_eq_true (decV_good _ _ _ _ _ _ (fun x hx => by rw [List.mem_replicate] at hx; omega) x hx)
/-! the tags -/
def lastLt (T : List Tag) (s : List UInt8) : Bool := match T.getLast? with
  | none => true
  | some t => decide (t.1 < s)
def decRT : Nat → List UInt8 → Nat → List Tag → Bool → (List Tag × Bool) × List UInt8 × Nat
  | 0, L, e, T, f => ((T, f), L, e)
  | m + 1, L, e, T, f => if e ≠ 0 then ((T, f), L, e) else
    decRT m (rvecR (rtext L 0 16).2.1 (rtext L 0 16).2.2 f).2.1 (rvecR (rtext L 0 16).2.1 (rtext L 0 16).2.2 f).2.2
      (T ++ [((rtext L 0 16).1, (rvecR (rtext L 0 16).2.1 (rtext L 0 16).2.2 f).1.1)])
      ((rvecR (rtext L 0 16).2.1 (rtext L 0 16).2.2 f).1.2 && nameB (rtext L 0 16).1 && lastLt T (rtext L 0 16).1)
def decR (L : List UInt8) : (List Tag × Bool) × List UInt8 × Nat := decRT (rnum L 0 32).1 (rnum L 0 32).2.1 (rnum L 0 32).2.2 [] true
def errR (L : List UInt8) : Nat := if rend (decR L).2.1 (decR L).2.2 ≠ 0 then rend (decR L).2.1 (decR L).2.2 else if (decR L).1.2 then 0 else 4
theorem decRT_stop {m e : Nat} {L : List UInt8} {T : List Tag} {f : Bool} (h : m = 0 ∨ e ≠ 0) : decRT m L e T f = ((T, f), L, e) := by
  cases m with
  | zero => rfl
  | succ m =>
    unfold decRT
    rw [if_pos (by rcases h with h | h; · omega
                   · exact h)]
theorem decRT_step {m : Nat} {L L1 L2 : List UInt8} {T : List Tag} {f fv : Bool} {s : List UInt8} {v : List Int} {e1 e2 : Nat} (h1 : rtext L 0 16 = (s, L1, e1)) (h2 : rvecR L1 e1 f = ((v, fv), L2, e2)) :
    decRT (m + 1) L 0 T f = decRT m L2 e2 (T ++ [(s, v)]) (fv && nameB s && lastLt T s) := by
  rw [decRT, if_neg (fun h => h rfl), h1]
  dsimp only
  rw [h2]
theorem decTs_false : ∀ (m : Nat) (L : List UInt8) (e : Nat) (T : List Tag) (la : List UInt8), (decTs m L e T false la).1.2 = false
  | 0, _, _, _, _ => rfl
  | m + 1, L, e, T, la => by
    by_cases he : e = 0
    · subst he
      obtain ⟨⟨s, L1, e1⟩, h1⟩ : ∃ r, r = rtext L 0 16 := ⟨_, rfl⟩
      obtain ⟨⟨⟨v, ok⟩, L2, e2⟩, h2⟩ : ∃ r, r = rvec L1 e1 := ⟨_, rfl⟩
      rw [decTs_step h1.symm h2.symm]
      exact decTs_false m L2 e2 _ _
    · rw [decTs_stop (.inr he)]
theorem rvecR_false (L : List UInt8) (e : Nat) : (rvecR L e false).1.2 = false := decRV_false _ _ _ _ _
theorem decRT_false : ∀ (m : Nat) (L : List UInt8) (e : Nat) (T : List Tag), (decRT m L e T false).1.2 = false
  | 0, _, _, _ => rfl
  | m + 1, L, e, T => by
    by_cases he : e = 0
    · subst he
      obtain ⟨⟨s, L1, e1⟩, h1⟩ : ∃ r, r = rtext L 0 16 := ⟨_, rfl⟩
      obtain ⟨⟨⟨v, fv⟩, L2, e2⟩, h2⟩ : ∃ r, r = rvecR L1 e1 false := ⟨_, rfl⟩
      have hv : fv = false := by have := rvecR_false L1 e1; rw [← h2] at this; exact this
      rw [decRT_step h1.symm h2.symm, hv]
      exact decRT_false m L2 e2 _
    · rw [decRT_stop (.inr he)]
theorem decRT_pos : ∀ (m : Nat) (L : List UInt8) (e : Nat) (T T' : List Tag) (f f' : Bool) (la : List UInt8), (decRT m L e T f).2 = (decTs m L e T' f' la).2
  | 0, _, _, _, _, _, _, _ => rfl
  | m + 1, L, e, T, T', f, f', la => by
    by_cases he : e = 0
    · subst he
      obtain ⟨⟨s, L1, e1⟩, h1⟩ : ∃ r, r = rtext L 0 16 := ⟨_, rfl⟩
      obtain ⟨⟨⟨v, ok⟩, L2, e2⟩, h2⟩ : ∃ r, r = rvec L1 e1 := ⟨_, rfl⟩
      obtain ⟨⟨⟨v', fv⟩, L2', e2'⟩, h3⟩ : ∃ r, r = rvecR L1 e1 f := ⟨_, rfl⟩
      have hp := rvecR_pos L1 e1 f
      rw [← h2, ← h3] at hp
      injection hp with hp1 hp2
      subst hp1; subst hp2
      rw [decTs_step h1.symm h2.symm, decRT_step h1.symm h3.symm]
      exact decRT_pos m _ _ _ _ _ _ _
    · rw [decTs_stop (.inr he), decRT_stop (.inr he)]
theorem lastLt_end (T : List Tag) (t : Tag) (s : List UInt8) : lastLt (T ++ [t]) s = decide (t.1 < s) := by
  unfold lastLt
  rw [List.getLast?_concat]
theorem name_nil' : nameB [] = false := by decide
theorem setE_name {T : List Tag} {s : List UInt8} {v : List Int} (h2 : goodV v = true) (h3 : T.length < 32) : decide (setE T s v = 0) = nameB s := by
  unfold setE
  cases hn : nameB s with
  | true => rw [if_pos rfl, if_pos h2, if_pos (by simp [h3])]; rfl
  | false => rw [if_neg (by decide)]; rfl
/-- where no error comes, the two are fine together, and have read the same -/
theorem decRT_eq : ∀ (m : Nat) (L : List UInt8) (e : Nat) (T : List Tag) (la : List UInt8), (decTs m L e T true la).2.2 = 0 → T.length + m ≤ 32 → (∀ t ∈ T, ¬ la < t.1) → (∀ s, la < s → lastLt T s = true) → (∀ s, ¬ la < s → nameB s = true → lastLt T s = false) →
    (decRT m L e T true).1.2 = (decTs m L e T true la).1.2 ∧ ((decTs m L e T true la).1.2 = true → (decRT m L e T true).1.1 = (decTs m L e T true la).1.1)
  | 0, _, _, _, _, _, _, _, _, _ => ⟨rfl, fun _ => rfl⟩
  | m + 1, L, e, T, la, h, hlen, hle, ha, hb => by
    by_cases he : e = 0
    · subst he
      obtain ⟨⟨s, L1, e1⟩, h1⟩ : ∃ r, r = rtext L 0 16 := ⟨_, rfl⟩
      obtain ⟨⟨⟨v, ok⟩, L2, e2⟩, h2⟩ : ∃ r, r = rvec L1 e1 := ⟨_, rfl⟩
      obtain ⟨⟨⟨v', fv⟩, L2', e2'⟩, h3⟩ : ∃ r, r = rvecR L1 e1 true := ⟨_, rfl⟩
      have hp := rvecR_pos L1 e1 true
      have hg := rvec_good L1 e1
      have heq := fun h => rvecR_eq (L := L1) (e := e1) true h
      rw [← h2] at hp heq hg
      rw [← h3] at hp heq
      dsimp only at heq hg
      injection hp with hp1 hp2
      subst hp1; subst hp2
      rw [decTs_step h1.symm h2.symm] at h ⊢
      rw [decRT_step h1.symm h3.symm]
      by_cases h4 : e2' = 0
      · subst h4
        obtain ⟨q1, q2⟩ := heq rfl
        rw [Bool.true_and] at q1
        subst q1
        by_cases hc : (true && (fv && decide (la < s))) = true
        · have hc2 : fv = true ∧ la < s := by simpa using hc
          obtain ⟨rfl, hls⟩ := hc2
          have hv : v' = v := q2 rfl
          subst hv
          have hput : putT T true la s v' true = (if setE T s v' = 0 then setT T s v' else T, nameB s) := by
            unfold putT
            rw [if_pos hc, setE_name hg (by omega)]
          rw [hput] at h ⊢
          dsimp only at h ⊢
          rw [ha s hls, Bool.true_and, Bool.and_true]
          cases hn : nameB s with
          | true =>
            have hz : setE T s v' = 0 := by have := setE_name (s := s) hg (T := T) (by omega); rw [hn] at this; simpa using this
            have hT : ∀ t ∈ T, t.1 < s := fun t ht => List.lt_of_le_of_lt (List.not_lt.1 (hle t ht)) hls
            rw [hn, if_pos hz, set_end hT] at h
            rw [if_pos hz, set_end hT]
            refine decRT_eq m L2' 0 _ s h (by simp; omega) (fun t ht => ?_) (fun x hx => ?_) (fun x hx _ => ?_)
            · rcases List.mem_append.1 ht with ht | ht
              · exact fun hx => List.lt_irrefl s (List.lt_trans hx (hT t ht))
              · rw [List.mem_singleton] at ht
                subst ht
                exact List.lt_irrefl s
            · rw [lastLt_end]; exact decide_eq_true hx
            · rw [lastLt_end]; exact decide_eq_false hx
          | false =>
            rw [decRT_false, decTs_false]
            exact ⟨rfl, fun h => by cases h⟩
        · have hput : putT T true la s v fv = (T, false) := by
            unfold putT
            rw [if_neg hc]
          rw [hput] at h ⊢
          dsimp only at h ⊢
          have hf : (fv && nameB s && lastLt T s) = false := by
            cases hfv : fv with
            | false => rfl
            | true =>
              have hls : ¬ la < s := fun hx => hc (by simp [hfv, hx])
              cases hn : nameB s with
              | false => rfl
              | true => rw [hb s hls hn]; rfl
          rw [hf, decRT_false, decTs_false]
          exact ⟨rfl, fun h => by cases h⟩
      · rw [decTs_stop (.inr h4)] at h
        exact absurd h h4
    · rw [decTs_stop (.inr he), decRT_stop (.inr he)]
      exact ⟨rfl, fun _ => rfl⟩
theorem rend_zero {L : List UInt8} {e : Nat} (h : rend L e = 0) : e = 0 ∧ L = [] := by
  unfold rend at h
  split at h
  · cases h
  · rename_i hx
    subst h
    refine ⟨rfl, ?_⟩
    cases L with
    | nil => rfl
    | cons a r => exact absurd ⟨rfl, by simp⟩ hx
theorem dec_same (L : List UInt8) : errR L = errT L ∧ (errT L = 0 → (decR L).1.1 = (decT L).1.1) := by
  have hp : (decR L).2 = (decT L).2 := decRT_pos _ _ _ _ _ _ _ _
  unfold errR errT
  rw [hp]
  by_cases hr : rend (decT L).2.1 (decT L).2.2 ≠ 0
  · rw [if_pos hr, if_pos hr]
    exact ⟨rfl, fun h => absurd h hr⟩
  · rw [if_neg hr, if_neg hr]
    have hz := (rend_zero (by omega : rend (decT L).2.1 (decT L).2.2 = 0)).1
    have hm := rnum_le L 0 32
    obtain ⟨k1, k2⟩ := decRT_eq (rnum L 0 32).1 (rnum L 0 32).2.1 (rnum L 0 32).2.2 [] [] hz (by simpa using hm) (fun t ht => by cases ht) (fun s _ => rfl) (fun s h1 h2 => by
      cases s with
      | nil => rw [name_nil'] at h2; cases h2
      | cons a r => exact absurd (List.nil_lt_cons a r) h1)
    unfold decR decT at *
    rw [k1]
    refine ⟨rfl, fun h => k2 ?_⟩
    split at h
    · assumption
    · cases h
end Go.Proofs.Ythclgmpjmhacdaa.tg
