/- The law's do, as one plain step; nothing is spoilt twice. -/
import Derived.Test.YtmekdhlcflielaaNtP2
namespace Go.Proofs.Ytmekdhlcflielaa.ntL
open Go Go.RowKit Go.Par Go.Kit Go.Proofs.Ytmekdhlcflielaa.mpA Go.Proofs.Ytmekdhlcflielaa.cl Go.Proofs.Ytmekdhlcflielaa.nt

/-- an act: what is under way, what is cut, the error, what was taken -/
def doS (n : Nat) (C : Cuts) (ps : List Pk) (x : Act) : List Pk × Cuts × Nat × Pk :=
  if x.k = 0 then ((sendS n ps x.a x.b x.l).1, C, (sendS n ps x.a x.b x.l).2, zpk) else
  if x.k = 1 then ((takeS n C ps x.K).1, C, (takeS n C ps x.K).2.1, (takeS n C ps x.K).2.2) else
  if x.k = 2 then ((dropS ps x.K).1, C, (dropS ps x.K).2, zpk) else
  if x.k = 3 then ((twiceS ps x.K).1, C, (twiceS ps x.K).2, zpk) else
  if x.k = 4 then ((spoilS ps x.K x.at_ x.m).1, C, (spoilS ps x.K x.at_ x.m).2, zpk) else
  if x.k = 5 then (ps, (cutS n C x.a x.b).1, (cutS n C x.a x.b).2, zpk) else
  if x.k = 6 then (ps, fun _ _ => false, 0, zpk) else (ps, C, 0, zpk)
section
variable {w w' : World} {B g bm n cnt : Nat} {lv : Value} {ps : List PkR} {C : Cuts}
/-- what do hands back -/
def DoR (w' : World) (e : Nat) (p : Pk) (v : Ending) : Prop := ∃ u, v = .returned (.tuple #[.int .i64 (e : Int), .agg #[.int .u8 (p.fr : Int), .int .u8 (p.to : Int), u, .bool p.sp]]) ∧ BV w' u p.b
theorem do_all (h : NetI w B g bm n cnt lv ps C) (hcnt : cnt < 1000000) (x : Act) (hx : x.ok) (A : Option Addr) (ln c : Nat) (hsl : Sl w (.slice A ln c) x.l) (hll : x.l.length ≤ 1000) :
    Calls Try.prog 16 #[.pointer (some ⟨g, 0, none⟩), .agg (actRow (.slice A ln c) x).toArray] w fun e w' => DoR w' (doS n C (ps.map pkOf) x).2.2.1 (doS n C (ps.map pkOf) x).2.2.2 e ∧ Next w B g bm n cnt lv (doS n C (ps.map pkOf) x).1 (doS n C (ps.map pkOf) x).2.1 w' := by
  obtain ⟨k, a, b, K, at_, m, l⟩ := x
  obtain ⟨hk, ha, hb, -, -, -, -⟩ := hx
  dsimp only at hk ha hb hsl hll
  have zr : ∀ (e : Nat) (v : Ending) (w' : World), v = .returned (.tuple #[.int .i64 (e : Int), zval]) → DoR w' e zpk v := fun e v w' hv => ⟨.slice none 0 0, hv, BV.nil w'⟩
  unfold doS
  dsimp only
  by_cases k0 : k = 0
  · rw [if_pos k0]
    exact (do_send h hcnt k a b K at_ m A ln c l ha hb hsl hll k0).mono fun e w' ⟨h1, h2⟩ => ⟨zr _ _ _ h1, h2⟩
  rw [if_neg k0]
  by_cases k1 : k = 1
  · rw [if_pos k1]
    exact (do_take h hcnt k a b K at_ m A ln c l ha hb hsl hll k1).mono fun e w' ⟨⟨v, h1, h3⟩, h2⟩ => ⟨⟨v, h1, h3⟩, h2⟩
  rw [if_neg k1]
  by_cases k2 : k = 2
  · rw [if_pos k2]
    exact (do_drop h hcnt k a b K at_ m A ln c l ha hb hsl hll k2).mono fun e w' ⟨h1, h2⟩ => ⟨zr _ _ _ h1, h2⟩
  rw [if_neg k2]
  by_cases k3 : k = 3
  · rw [if_pos k3]
    exact (do_twice h hcnt k a b K at_ m A ln c l ha hb hsl hll k3).mono fun e w' ⟨h1, h2⟩ => ⟨zr _ _ _ h1, h2⟩
  rw [if_neg k3]
  by_cases k4 : k = 4
  · rw [if_pos k4]
    exact (do_spoil h hcnt k a b K at_ m A ln c l ha hb hsl hll k4).mono fun e w' ⟨h1, h2⟩ => ⟨zr _ _ _ h1, h2⟩
  rw [if_neg k4]
  by_cases k5 : k = 5
  · rw [if_pos k5]
    exact (do_cut h hcnt k a b K at_ m A ln c l ha hb hsl hll k5).mono fun e w' ⟨h1, h2⟩ => ⟨zr _ _ _ h1, h2⟩
  rw [if_neg k5]
  by_cases k6 : k = 6
  · rw [if_pos k6]
    exact (do_heal h hcnt k a b K at_ m A ln c l ha hb hsl hll k6).mono fun e w' ⟨h1, h2⟩ => ⟨zr _ _ _ h1, h2⟩
  rw [if_neg k6]
  exact (do_none h hcnt k a b K at_ m A ln c l ha hb hsl hll (by omega)).mono fun e w' ⟨h1, h2⟩ => ⟨zr _ _ _ h1, h2⟩
end
/-- each packet has bytes that were sent, or these, spoilt once -/
def Once (sent spoilt : List (List UInt8)) (ps : List Pk) : Prop := ∀ p ∈ ps, if p.sp = true then p.b ∈ spoilt else p.b ∈ sent
def sentS (sent : List (List UInt8)) (x : Act) : List (List UInt8) := if x.k = 0 then sent ++ [x.l] else sent
def spoiltS (spoilt : List (List UInt8)) (ps : List Pk) (x : Act) : List (List UInt8) :=
  match getK ps x.K with
  | some p => if x.k = 4 ∧ p.sp = false then spoilt ++ [slW.spo p.b x.at_ x.m 32] else spoilt
  | none => spoilt
theorem Once.more {sent spoilt s2 t2 : List (List UInt8)} {ps : List Pk} (h : Once sent spoilt ps) (h1 : ∀ b ∈ sent, b ∈ s2) (h2 : ∀ b ∈ spoilt, b ∈ t2) : Once s2 t2 ps := fun p hp => by
  have := h p hp
  by_cases e : p.sp = true
  · rw [if_pos e] at this ⊢; exact h2 _ this
  · rw [if_neg e] at this ⊢; exact h1 _ this
theorem Once.snoc {sent spoilt : List (List UInt8)} {ps : List Pk} {q : Pk} (h : Once sent spoilt ps) (hq : if q.sp = true then q.b ∈ spoilt else q.b ∈ sent) : Once sent spoilt (ps ++ [q]) := fun p hp => by
  rcases List.mem_append.1 hp with hp | hp
  · exact h p hp
  · rw [List.mem_singleton] at hp; subst hp; exact hq
theorem Once.del {sent spoilt : List (List UInt8)} {ps : List Pk} (h : Once sent spoilt ps) (k : Nat) : Once sent spoilt (Go.Proofs.Ytmekdhlcflielaa.nt.del ps k) := fun p hp => by
  unfold Go.Proofs.Ytmekdhlcflielaa.nt.del at hp
  rcases List.mem_append.1 hp with hp | hp
  · exact h p (List.mem_of_mem_take hp)
  · exact h p (List.mem_of_mem_drop hp)
theorem getK_mem {α : Type} {ps : List α} {K : Int} {p : α} (h : getK ps K = some p) : p ∈ ps := by
  unfold getK at h
  split at h
  · exact List.mem_of_getElem? h
  · cases h
theorem Once.step {sent spoilt : List (List UInt8)} {ps : List Pk} (h : Once sent spoilt ps) (n : Nat) (C : Cuts) (x : Act) : Once (sentS sent x) (spoiltS spoilt ps x) (doS n C ps x).1 := by
  have hs : ∀ b ∈ sent, b ∈ sentS sent x := fun b hb => by
    unfold sentS; split
    · exact List.mem_append_left _ hb
    · exact hb
  have ht : ∀ b ∈ spoilt, b ∈ spoiltS spoilt ps x := fun b hb => by
    unfold spoiltS
    split
    · split
      · exact List.mem_append_left _ hb
      · exact hb
    · exact hb
  have h' := h.more hs ht
  unfold doS
  by_cases k0 : x.k = 0
  · rw [if_pos k0]
    show Once _ _ (sendS n ps x.a x.b x.l).1
    unfold sendS
    split
    · split
      · exact h'.snoc (by rw [if_neg (show ¬ (false = true) by decide)]; unfold sentS; rw [if_pos k0]; exact List.mem_append_right _ (List.mem_singleton.2 rfl))
      · exact h'
    · exact h'
  rw [if_neg k0]
  by_cases k1 : x.k = 1
  · rw [if_pos k1]
    show Once _ _ (takeS n C ps x.K).1
    unfold takeS
    split
    · exact h'
    · split
      · exact h'.del _
      · exact h'.del _
  rw [if_neg k1]
  by_cases k2 : x.k = 2
  · rw [if_pos k2]
    show Once _ _ (dropS ps x.K).1
    unfold dropS
    split
    · exact h'
    · exact h'.del _
  rw [if_neg k2]
  by_cases k3 : x.k = 3
  · rw [if_pos k3]
    show Once _ _ (twiceS ps x.K).1
    unfold twiceS
    split
    · exact h'
    · rename_i p hp
      split
      · exact h'.snoc (h' p (getK_mem hp))
      · exact h'
  rw [if_neg k3]
  by_cases k4 : x.k = 4
  · rw [if_pos k4]
    show Once _ _ (spoilS ps x.K x.at_ x.m).1
    unfold spoilS
    split
    · exact h'
    · rename_i p hp
      split
      · exact h'
      · rename_i hsp
        intro q hq
        rcases List.mem_or_eq_of_mem_set hq with hq | rfl
        · exact h' q hq
        · dsimp only
          by_cases he : slW.spo p.b x.at_ x.m 32 = p.b
          · rw [if_neg (by simp [he]), he]
            have := h' p (getK_mem hp)
            rwa [if_neg hsp] at this
          · rw [if_pos (by simp [he])]
            unfold spoiltS
            rw [hp]
            dsimp only
            rw [if_pos ⟨k4, by simpa using hsp⟩]
            exact List.mem_append_right _ (List.mem_singleton.2 rfl)
  rw [if_neg k4]
  split
  · exact h'
  · split
    · exact h'
    · exact h'
end Go.Proofs.Ytmekdhlcflielaa.ntL
