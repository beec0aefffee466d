/- What Order keeps while it parts the things into groups. -/
import Derived.Test.YtbcifodifadoiaaToW
namespace Go.Proofs.Ytbcifodifadoiaa.toW
open Go Go.RowKit Go.Par Go.Kit Go.Proofs.Ytbcifodifadoiaa.Mk Go.Proofs.Ytbcifodifadoiaa.mkW Go.Proofs.Ytbcifodifadoiaa.Re Go.Proofs.Ytbcifodifadoiaa.reW Go.Proofs.Ytbcifodifadoiaa.mkR Go.Proofs.Ytbcifodifadoiaa.To

abbrev TI : TypeId := 23
theorem infoL : (Try.prog.info? TI).isSome = true := by kernel_rfl
theorem iL : Try.prog.info? TI = some ((Try.prog.info? TI).get infoL) := by simp
theorem iLs : ((Try.prog.info? TI).get infoL).size = 1 := by kernel_rfl
theorem iLz : ((Try.prog.info? TI).get infoL).zero = some (.slice none 0 0) := by kernel_rfl
theorem iLb : ((Try.prog.info? TI).get infoL).bytes = 24 := by kernel_rfl
theorem members_succ {k : Nat} {R : Nat → Nat → Bool} {g : Nat} : members (k + 1) R g = members k R g ++ if groupN R k = g then [k] else [] := by
  unfold members
  rw [List.range_succ, List.filter_append]
  congr 1
  by_cases h : groupN R k = g
  · simp [h]
  · simp [h]
theorem map_at {n i : Nat} {f : Nat → Value} (hi : i < n) : ((List.range n).map f)[i]? = some (f i) := by simp [hi]
theorem map_set {n c : Nat} {f : Nat → Value} (v : Value) : ((List.range n).map f).set c v = (List.range n).map fun i => if i = c then v else f i := by
  apply List.ext_getElem?
  intro i
  by_cases hi : i < n
  · rw [map_at hi, List.getElem?_set]
    by_cases e : c = i
    · subst e
      rw [if_pos rfl, if_pos (by simpa using hi), if_pos rfl]
    · rw [if_neg e, map_at hi, if_neg (fun h => e h.symm)]
  · rw [List.getElem?_eq_none (by simp; omega), List.getElem?_eq_none (by simp; omega)]
structure PG (w0 : World) (bb n : Nat) (R : Nat → Nat → Bool) (gk hk : Nat → Nat) (gt ht bg k : Nat) (vals : Nat → Value) (w : World) : Prop where
  pa : PA w0 bb n n (RB R n 0) gk hk w
  tk : MS w gt (some ht) n (fun _ => false)
  tb : w0.heap.size ≤ gt ∧ w0.heap.size ≤ ht
  ta : ∀ i, i < n → gk i ≠ gt ∧ hk i ≠ ht
  bx : Blk w bg TI ((List.range n).map vals)
  own : ∀ g, g < n → w.ownsRow w0.heap.size 3 1 (vals g) (members k R g).length ((members k R g).map nv)
  ap : ∀ g, g < n → ∀ g', g' < n → g ≠ g' → ∀ j, (vals g).ownBlock = some j → (vals g').ownBlock ≠ some j
section
variable {w0 w w' w1 w2 : World} {bb n k gt ht bg : Nat} {R : Nat → Nat → Bool} {gk hk : Nat → Nat} {vals : Nat → Value}
theorem PA.keepI {b c : Nat} {R' : Nat → Nat → Bool} {K : Nat → Prop} (h : PA w0 b n c R' gk hk w) (hK : Keep w0.heap.size K w w') (hK2 : ∀ j t cs, Blk w j t cs → t = TS ∨ t = 73 ∨ t = TP → K j) : PA w0 b n c R' gk hk w' :=
  ⟨hK.grow h.g rfl, hK.blk h.bx (hK2 _ _ _ h.bx (.inr (.inr rfl))), let ⟨F, h1⟩ := h.st; ⟨F, h1.keep hK fun j t cs hb ht => hK2 j t cs hb (by rcases ht with e | e <;> simp [e])⟩⟩
theorem MS.keepI {g h : Nat} {S : Nat → Bool} {B : Nat} {K : Nat → Prop} (m : MS w g (some h) n S) (hK : Keep B K w w') (hK2 : ∀ j t cs, Blk w j t cs → t = TS ∨ t = 73 ∨ t = TP → K j) : MS w' g (some h) n S := by
  obtain ⟨c1, c2, hb1, hb2⟩ := msBox m
  exact m.keep hK (.inr (hK2 _ _ _ hb1 (.inl rfl))) fun j hj => by injection hj with hj; subst hj; exact .inr (hK2 _ _ _ hb2 (.inr (.inl rfl)))
theorem PG.grow (h : PG w0 bb n R gk hk gt ht bg k vals w) (hg : Grow w w') : PG w0 bb n R gk hk gt ht bg k vals w' :=
  ⟨h.pa.grow hg, h.tk.grow hg, h.tb, h.ta, h.bx.grow hg, fun g hgn => own_grow (h.own g hgn) hg, h.ap⟩
theorem PG.lt (h : PG w0 bb n R gk hk gt ht bg k vals w) {g : Nat} (hg : g < n) : ∀ j, (vals g).ownBlock = some j → w0.heap.size ≤ j ∧ j < w.heap.size := fun j hj => (h.own g hg).lt j hj
/-- behind the append, ahead of the store -/
theorem PG.app (h : PG w0 bb n R gk hk gt ht bg k vals w) (hg : Grow w w1) {g : Nat} (hgn : g < n) (hgb : w1.grownBy w2 (vals g).ownBlock) :
    Keep w0.heap.size (fun j => (vals g).ownBlock ≠ some j) w1 w2 ∧ Blk w2 bg TI ((List.range n).map vals) := by
  have h1 := h.grow hg
  have hK : Keep w0.heap.size (fun j => (vals g).ownBlock ≠ some j) w1 w2 := Keep.by_ (Keep.refl w1) h1.pa.g.size hgb fun j hj => ⟨(h1.lt hgn j hj).1, fun hn => hn hj⟩
  refine ⟨hK, hK.blk h1.bx fun e => ?_⟩
  obtain ⟨cs, hb⟩ := own_blk (h1.own g hgn) e
  exact absurd (Blk.ty_eq h1.bx hb) (by decide)
theorem PG.step (h : PG w0 bb n R gk hk gt ht bg k vals w) (hg : Grow w w1) (hbg : w0.heap.size ≤ bg) {g : Nat} (hgn : g < n) (hgk : groupN R k = g) (hgb : w1.grownBy w2 (vals g).ownBlock) {v' : Value}
    (ho : w2.ownsRow w0.heap.size 3 1 v' ((members k R g).length + 1) ((members k R g).map nv ++ [nv k])) (hv : v'.ownBlock = (vals g).ownBlock ∨ v'.ownBlock = some w1.heap.size) :
    PG w0 bb n R gk hk gt ht bg (k + 1) (fun i => if i = g then v' else vals i) (w2.setCell ⟨bg, g, none⟩ v') := by
  obtain ⟨hK, hbx2⟩ := h.app hg hgn hgb
  have h1 := h.grow hg
  have nI : ∀ {j : Nat} {t : TypeId} {cs : List Value}, Blk w1 j t cs → t ≠ 3 → (vals g).ownBlock ≠ some j := fun hb ht e => by
    obtain ⟨cs, hb2⟩ := own_blk (h1.own g hgn) e
    exact ht (Blk.ty_eq hb hb2)
  have hS : Keep w0.heap.size (fun j => j ≠ bg) w2 (w2.setCell ⟨bg, g, none⟩ v') := (Keep.refl w2).setCell hbg (fun hn => hn rfl) _
  have nB : ∀ {j : Nat} {t : TypeId} {cs : List Value}, Blk w2 j t cs → t ≠ TI → j ≠ bg := fun hb ht e => ht (Blk.ty_eq hb (e ▸ hbx2))
  have hpa := h1.pa.keepI hK fun j t cs hb ht => nI hb (by rcases ht with e | e | e <;> (rw [e]; decide))
  have htk := MS.keepI h1.tk hK fun j t cs hb ht => nI hb (by rcases ht with e | e | e <;> (rw [e]; decide))
  have nO : ∀ {v : Value} {m : Nat} {xs : List Value}, w2.ownsRow w0.heap.size 3 1 v m xs → ∀ j, v.ownBlock = some j → j ≠ bg := fun hw j hj => by
    obtain ⟨cs, hb⟩ := own_blk hw hj
    exact nB hb (by decide)
  refine ⟨hpa.keepI hS fun j t cs hb ht => nB hb (by rcases ht with e | e | e <;> (rw [e]; decide)), MS.keepI htk hS fun j t cs hb ht => nB hb (by rcases ht with e | e | e <;> (rw [e]; decide)), h.tb, h.ta, ?_, ?_, ?_⟩
  · have := hbx2.set_ g v'
    rw [map_set] at this
    exact this
  · intro x hx
    rw [members_succ]
    show World.ownsRow _ _ _ _ (if x = g then v' else vals x) _ _
    by_cases e : x = g
    · have a1 : (if x = g then v' else vals x) = v' := if_pos e
      have a2 : (if groupN R k = x then [k] else ([] : List Nat)) = [k] := if_pos (hgk.trans e.symm)
      rw [a1, a2, List.length_append, List.map_append, e]
      exact own_far ho _ _ (nO ho)
    · have a1 : (if x = g then v' else vals x) = vals x := if_neg e
      have a2 : (if groupN R k = x then [k] else ([] : List Nat)) = [] := if_neg fun e' => e (e'.symm.trans hgk)
      rw [a1, a2, List.append_nil]
      have h2 := hK.own (h1.own x hx) fun j hj => h.ap x hx g hgn e j hj
      exact own_far h2 _ _ (nO h2)
  · have fresh : ∀ x, x < n → x ≠ g → ∀ j, v'.ownBlock = some j → (vals x).ownBlock ≠ some j := fun x hx hne j hj e => by
      rcases hv with hv | hv
      · exact h.ap x hx g hgn hne j e (hv ▸ hj)
      · rw [hv] at hj
        injection hj with hj
        have := (h1.lt hx j e).2
        omega
    intro x hx y hy hxy j hj
    show (if y = g then v' else vals y).ownBlock ≠ some j
    replace hj : (if x = g then v' else vals x).ownBlock = some j := hj
    by_cases e1 : x = g
    · rw [if_pos e1] at hj
      rw [if_neg (fun e2 => hxy (e1.trans e2.symm))]
      exact fresh y hy (fun e2 => hxy (e1.trans e2.symm)) j hj
    · rw [if_neg e1] at hj
      by_cases e2 : y = g
      · rw [if_pos e2]
        exact fun e => fresh x hx e1 j e hj
      · rw [if_neg e2]
        exact h.ap x hx y hy hxy j hj
/-- what is kept in the second half: all but the set of taken things -/
def K1 (W1 : World) (gt ht : Nat) (j : Nat) : Prop := j < W1.heap.size ∧ j ≠ gt ∧ j ≠ ht
theorem kgt {W1 : World} {gt ht n : Nat} {S : Nat → Bool} (m : MS W1 gt (some ht) n S) {j : Nat} {t : TypeId} {cs : List Value} (hb : Blk W1 j t cs) (h1 : t ≠ TS) (h2 : t ≠ 73) : K1 W1 gt ht j := by
  obtain ⟨c1, c2, hb1, hb2⟩ := msBox m
  exact ⟨hb.lt, fun e => h1 (Blk.ty_eq hb (e ▸ hb1)), fun e => h2 (Blk.ty_eq hb (e ▸ hb2))⟩
structure PO (w0 : World) (bb n : Nat) (R : Nat → Nat → Bool) (gk hk : Nat → Nat) (gt ht bg : Nat) (vals : Nat → Value) (W1 : World) (o : List Nat) (T : Nat → Bool) (v : Value) (w : World) : Prop where
  pg : PG w0 bb n R gk hk gt ht bg n vals W1
  kp : Keep w0.heap.size (K1 W1 gt ht) W1 w
  tk : MS w gt (some ht) n T
  own : w.ownsRow W1.heap.size 3 1 v o.length (o.map nv)
theorem PG.start (h : PG w0 bb n R gk hk gt ht bg n vals w) : PO w0 bb n R gk hk gt ht bg vals w [] (fun _ => false) (.slice none 0 0) w :=
  ⟨h, Keep.refl _, h.tk, World.ownsRow_nil _ _ _ _⟩
variable {W1 : World} {o : List Nat} {T : Nat → Bool} {v : Value}
theorem PO.g (h : PO w0 bb n R gk hk gt ht bg vals W1 o T v w) : Grow w0 w := h.kp.grow h.pg.pa.g rfl
theorem PO.b1 (h : PO w0 bb n R gk hk gt ht bg vals W1 o T v w) : Blk w bb TP (ptrs n n gk) := h.kp.blk h.pg.pa.bx (kgt h.pg.tk h.pg.pa.bx (by decide) (by decide))
theorem PO.b2 (h : PO w0 bb n R gk hk gt ht bg vals W1 o T v w) : Blk w bg TI ((List.range n).map vals) := h.kp.blk h.pg.bx (kgt h.pg.tk h.pg.bx (by decide) (by decide))
theorem PO.ls (h : PO w0 bb n R gk hk gt ht bg vals W1 o T v w) {i : Nat} (hi : i < n) : IntsV w (vals i) (members n R i) :=
  (IntsV.own (h.pg.own i hi)).keep h.kp fun _ _ hb => kgt h.pg.tk hb (by decide) (by decide)
theorem PO.ms (h : PO w0 bb n R gk hk gt ht bg vals W1 o T v w) {i : Nat} (hi : i < n) : MS w (gk i) (some (hk i)) n (fun j => ahN R j i) := by
  obtain ⟨-, -, m⟩ := h.pg.pa.ms hi
  obtain ⟨n1, n2⟩ := h.pg.ta i hi
  obtain ⟨c1, c2, hb1, hb2⟩ := msBox m
  obtain ⟨c3, c4, hb3, hb4⟩ := msBox h.pg.tk
  have m2 := m.ext (T := fun j => ahN R j i) fun j => by unfold RB; rw [if_pos hi]
  exact m2.keep h.kp (.inr ⟨hb1.lt, n1, fun e => absurd (Blk.ty_eq hb1 (e ▸ hb4)) (by decide)⟩) fun j hj => by
    injection hj with hj
    subst hj
    exact .inr ⟨hb2.lt, fun e => absurd (Blk.ty_eq hb2 (e ▸ hb3)) (by decide), n2⟩
theorem PO.grow (h : PO w0 bb n R gk hk gt ht bg vals W1 o T v w) (hg : Grow w w') : PO w0 bb n R gk hk gt ht bg vals W1 o T v w' :=
  ⟨h.pg, h.kp.trans (Keep.of hg h.g.size), h.tk.grow hg, own_grow h.own hg⟩
theorem PO.free (h : PO w0 bb n R gk hk gt ht bg vals W1 o T v w) : Free w0.heap.size (fun j => j ≠ gt ∧ j ≠ ht) gt (some ht) :=
  mkL.free_of h.pg.tb.1 (fun h => h.1 rfl) (fun k hk => by injection hk with hk; subst hk; exact ⟨h.pg.tb.2, fun h => h.2 rfl⟩)
theorem PO.put {T' : Nat → Bool} (h : PO w0 bb n R gk hk gt ht bg vals W1 o T v w) (hk' : Keep w0.heap.size (fun j => j ≠ gt ∧ j ≠ ht) w w') (m : MS w' gt (some ht) n T') : PO w0 bb n R gk hk gt ht bg vals W1 o T' v w' := by
  obtain ⟨c3, c4, hb3, hb4⟩ := msBox h.tk
  refine ⟨h.pg, h.kp.trans ⟨hk'.1, fun k hk hl => hk'.2 k hk.2 hl⟩, m, hk'.own h.own fun j hj => ?_⟩
  obtain ⟨cs, hb⟩ := own_blk h.own hj
  exact ⟨fun e => absurd (Blk.ty_eq hb (e ▸ hb3)) (by decide), fun e => absurd (Blk.ty_eq hb (e ▸ hb4)) (by decide)⟩
theorem PO.app {o' : List Nat} {v' : Value} (h : PO w0 bb n R gk hk gt ht bg vals W1 o T v w) (hgb : w.grownBy w' v.ownBlock) (ho : w'.ownsRow W1.heap.size 3 1 v' o'.length (o'.map nv)) : PO w0 bb n R gk hk gt ht bg vals W1 o' T v' w' := by
  have hs := h.pg.pa.g.size
  have hK : Keep w0.heap.size (fun j => v.ownBlock ≠ some j) w w' := Keep.by_ (Keep.refl w) h.g.size hgb fun j hj => ⟨Nat.le_trans hs (h.own.lt j hj).1, fun hn => hn hj⟩
  have nb : ∀ {j : Nat} {t : TypeId} {cs : List Value}, Blk w j t cs → t ≠ 3 → v.ownBlock ≠ some j := fun hb ht e => by
    obtain ⟨cs, hb2⟩ := own_blk h.own e
    exact ht (Blk.ty_eq hb hb2)
  refine ⟨h.pg, Keep.by_ h.kp h.g.size hgb fun j hj => ?_, MS.keepI h.tk hK fun j t cs hb ht => nb hb (by rcases ht with e | e | e <;> (rw [e]; decide)), ho⟩
  have := (h.own.lt j hj).1
  exact ⟨Nat.le_trans hs this, fun hn => by have := hn.1; omega⟩
end
/-- the set of what was taken -/
theorem put_mem {n i : Nat} {o : List Nat} (hi : i < n) : putS n (fun j => o.contains j) (i : Int) = fun j => (o ++ [i]).contains j := by
  funext j
  unfold putS
  rw [fitB_of ⟨by omega, by omega⟩, if_pos rfl, Int.toNat_natCast]
  unfold ins
  rw [Bool.eq_iff_iff]
  simp
theorem all_free {n : Nat} {R : Nat → Nat → Bool} {o : List Nat} {g : Nat} : allIn n (fun j => ahN R j g) (fun j => o.contains j) = freeB n R o g := by
  unfold allIn freeB elems
  rw [List.all_filter]
theorem has_mem {o : List Nat} {g : Nat} : memI (fun j => o.contains j) (g : Int) = o.contains g := by
  unfold memI
  rw [decide_eq_true (show (0 : Int) ≤ (g : Int) by omega), Int.toNat_natCast, Bool.true_and]
def lenV : Value → Nat
  | .slice _ n _ => n
  | _ => 0
end Go.Proofs.Ytbcifodifadoiaa.toW
