/- What MaskPlays keeps: two sets, two lists in boxes, the steps. -/
import Derived.Test.YtjfohglkpbgkaaaMkO2
import Derived.Test.YtjfohglkpbgkaaaMkW6
namespace Go.Proofs.Ytjfohglkpbgkaaa.mkL
open Go Go.RowKit Go.Par Go.Kit Go.Proofs.Ytjfohglkpbgkaaa.Mk Go.Proofs.Ytjfohglkpbgkaaa.mkW Go.Proofs.Ytjfohglkpbgkaaa.mkR

structure PI (w0 : World) (A : Option Addr) (k : Nat) (xs : List Op) (gs hs gt ht g9 g10 n m : Nat) (S T : Nat → Bool) (L9 L10 : List Nat) (vs vt : Value) (w : World) : Prop where
  g : Grow w0 w
  r : Recs 2 opRow w A k xs
  ms : MS w gs (some hs) n S
  mt : MS w gt (some ht) m T
  b9 : Blk w g9 TX [.int .i64 (n : Int), vs]
  i9 : IntsV w vs L9
  b10 : Blk w g10 TX [.int .i64 (m : Int), vt]
  i10 : IntsV w vt L10
theorem ms_box {w : World} {g h n : Nat} {S : Nat → Bool} (ms : MS w g (some h) n S) : ∃ cs cs', Blk w g TS cs ∧ Blk w h 80 cs' := by
  obtain ⟨A, c, ws, h1, h2, h3, h4⟩ := ms
  refine ⟨[.int .i64 (n : Int), .slice A ws.length c], ?_⟩
  rcases h2.2 with ⟨e, -⟩ | ⟨g', cap, cur, e, -, h5, -⟩
  · rw [e] at h3; cases h3
  · rw [e] at h3
    injection h3 with h3
    subst h3
    exact ⟨cur.toList, h1, by unfold Blk; rw [h5]⟩
variable {w0 w w' : World} {A : Option Addr} {k : Nat} {xs : List Op} {gs hs gt ht g9 g10 n m : Nat} {S T S' : Nat → Bool} {L9 L10 : List Nat} {vs vt : Value}
theorem PI.grow (p : PI w0 A k xs gs hs gt ht g9 g10 n m S T L9 L10 vs vt w) (hg : Grow w w') : PI w0 A k xs gs hs gt ht g9 g10 n m S T L9 L10 vs vt w' :=
  ⟨p.g.trans hg, p.r.grow hg, p.ms.grow hg, p.mt.grow hg, p.b9.grow hg, p.i9.grow hg, p.b10.grow hg, p.i10.grow hg⟩
/-- the rows of the steps lie below what the call has made -/
theorem PI.set (hr0 : Recs 2 opRow w0 A k xs) (p : PI w0 A k xs gs hs gt ht g9 g10 n m S T L9 L10 vs vt w) (hst : gs ≠ gt ∧ hs ≠ ht) (hk : Keep w0.heap.size (fun j => j ≠ gs ∧ j ≠ hs) w w') (m' : MS w' gs (some hs) n S') :
    PI w0 A k xs gs hs gt ht g9 g10 n m S' T L9 L10 vs vt w' := by
  obtain ⟨c1, c2, hb1, hb2⟩ := ms_box p.ms
  obtain ⟨c3, c4, hb3, hb4⟩ := ms_box p.mt
  have ne : ∀ {j : Nat} {t : TypeId} {cs : List Value}, Blk w j t cs → t ≠ TS → t ≠ 80 → j ≠ gs ∧ j ≠ hs := fun hb h1 h2 => ⟨fun e => h1 (Blk.ty_eq hb (e ▸ hb1)), fun e => h2 (Blk.ty_eq hb (e ▸ hb2))⟩
  have hg := hk.grow p.g rfl
  refine ⟨hg, hr0.grow hg, m', p.mt.keep hk (.inr ⟨fun e => hst.1 e.symm, fun e => ?_⟩) (fun j hj => ?_), hk.blk p.b9 (ne p.b9 (by decide) (by decide)), p.i9.keep hk (fun j cs hb => ne hb (by decide) (by decide)), hk.blk p.b10 (ne p.b10 (by decide) (by decide)), p.i10.keep hk (fun j cs hb => ne hb (by decide) (by decide))⟩
  · exact absurd (Blk.ty_eq hb3 (e ▸ hb2)) (by decide)
  · injection hj with hj
    subst hj
    exact .inr ⟨fun e => absurd (Blk.ty_eq hb4 (e ▸ hb1)) (by decide), fun e => hst.2 e.symm⟩
theorem PI.setT {T' : Nat → Bool} (hr0 : Recs 2 opRow w0 A k xs) (p : PI w0 A k xs gs hs gt ht g9 g10 n m S T L9 L10 vs vt w) (hst : gs ≠ gt ∧ hs ≠ ht) (hk : Keep w0.heap.size (fun j => j ≠ gt ∧ j ≠ ht) w w') (m' : MS w' gt (some ht) m T') :
    PI w0 A k xs gs hs gt ht g9 g10 n m S T' L9 L10 vs vt w' := by
  obtain ⟨c1, c2, hb1, hb2⟩ := ms_box p.mt
  obtain ⟨c3, c4, hb3, hb4⟩ := ms_box p.ms
  have ne : ∀ {j : Nat} {t : TypeId} {cs : List Value}, Blk w j t cs → t ≠ TS → t ≠ 80 → j ≠ gt ∧ j ≠ ht := fun hb h1 h2 => ⟨fun e => h1 (Blk.ty_eq hb (e ▸ hb1)), fun e => h2 (Blk.ty_eq hb (e ▸ hb2))⟩
  have hg := hk.grow p.g rfl
  refine ⟨hg, hr0.grow hg, p.ms.keep hk (.inr ⟨hst.1, fun e => ?_⟩) (fun j hj => ?_), m', hk.blk p.b9 (ne p.b9 (by decide) (by decide)), p.i9.keep hk (fun j cs hb => ne hb (by decide) (by decide)), hk.blk p.b10 (ne p.b10 (by decide) (by decide)), p.i10.keep hk (fun j cs hb => ne hb (by decide) (by decide))⟩
  · exact absurd (Blk.ty_eq hb3 (e ▸ hb2)) (by decide)
  · injection hj with hj
    subst hj
    exact .inr ⟨fun e => absurd (Blk.ty_eq hb4 (e ▸ hb1)) (by decide), hst.2⟩
/-- a store into a box is a change that keeps the rest -/
theorem keep_row {K : Nat → Prop} {B g : Nat} (hB : B ≤ g) (hK : ¬ K g) (l : Array Value) : Keep B K w (w.setRow g l) :=
  ⟨below_setRow (Below.refl _ _) hB l, fun j hj _ => setRow_other w g j l (fun e => hK (e ▸ hj))⟩
theorem PI.put9 {L : List Nat} {v : Value} (hr0 : Recs 2 opRow w0 A k xs) (p : PI w0 A k xs gs hs gt ht g9 g10 n m S T L9 L10 vs vt w) (h9 : w0.heap.size ≤ g9) (hne : g9 ≠ g10) (hi : IntsV w v L) :
    PI w0 A k xs gs hs gt ht g9 g10 n m S T L L10 v vt (w.setRow g9 [.int .i64 (n : Int), v].toArray) := by
  obtain ⟨c1, c2, hb1, hb2⟩ := ms_box p.ms
  obtain ⟨c3, c4, hb3, hb4⟩ := ms_box p.mt
  have hk : Keep w0.heap.size (fun j => j ≠ g9) w (w.setRow g9 [.int .i64 (n : Int), v].toArray) := keep_row h9 (fun h => h rfl) _
  have ne : ∀ {j : Nat} {t : TypeId} {cs : List Value}, Blk w j t cs → t ≠ TX → j ≠ g9 := fun hb h1 e => h1 (Blk.ty_eq hb (e ▸ p.b9))
  have hg := hk.grow p.g rfl
  exact ⟨hg, hr0.grow hg, p.ms.keep hk (.inr (ne hb1 (by decide))) (fun j hj => by injection hj with hj; subst hj; exact .inr (ne hb2 (by decide))), p.mt.keep hk (.inr (ne hb3 (by decide))) (fun j hj => by injection hj with hj; subst hj; exact .inr (ne hb4 (by decide))), p.b9.setRow _, hi.far p.b9 _, p.b10.farRow (Ne.symm hne) _, p.i10.far p.b9 _⟩
theorem PI.put10 {L : List Nat} {v : Value} (hr0 : Recs 2 opRow w0 A k xs) (p : PI w0 A k xs gs hs gt ht g9 g10 n m S T L9 L10 vs vt w) (h10 : w0.heap.size ≤ g10) (hne : g9 ≠ g10) (hi : IntsV w v L) :
    PI w0 A k xs gs hs gt ht g9 g10 n m S T L9 L vs v (w.setRow g10 [.int .i64 (m : Int), v].toArray) := by
  obtain ⟨c1, c2, hb1, hb2⟩ := ms_box p.ms
  obtain ⟨c3, c4, hb3, hb4⟩ := ms_box p.mt
  have hk : Keep w0.heap.size (fun j => j ≠ g10) w (w.setRow g10 [.int .i64 (m : Int), v].toArray) := keep_row h10 (fun h => h rfl) _
  have ne : ∀ {j : Nat} {t : TypeId} {cs : List Value}, Blk w j t cs → t ≠ TX → j ≠ g10 := fun hb h1 e => h1 (Blk.ty_eq hb (e ▸ p.b10))
  have hg := hk.grow p.g rfl
  exact ⟨hg, hr0.grow hg, p.ms.keep hk (.inr (ne hb1 (by decide))) (fun j hj => by injection hj with hj; subst hj; exact .inr (ne hb2 (by decide))), p.mt.keep hk (.inr (ne hb3 (by decide))) (fun j hj => by injection hj with hj; subst hj; exact .inr (ne hb4 (by decide))), p.b9.farRow hne _, p.i9.far p.b10 _, p.b10.setRow _, hi.far p.b10 _⟩
end Go.Proofs.Ytjfohglkpbgkaaa.mkL
