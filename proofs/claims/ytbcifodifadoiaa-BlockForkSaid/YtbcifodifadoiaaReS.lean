/- What a relation keeps while it is made: its map, its sets, the list of the things from which steps lead. -/
import Derived.Test.YtbcifodifadoiaaReW2
import Derived.Test.YtbcifodifadoiaaLdC
import Derived.Test.YtbcifodifadoiaaMkR
namespace Go.Proofs.Ytbcifodifadoiaa.reW
open Go Go.RowKit Go.Par Go.Kit Go.Proofs.Ytbcifodifadoiaa.Mk Go.Proofs.Ytbcifodifadoiaa.mkW Go.Proofs.Ytbcifodifadoiaa.Re Go.Proofs.Ytbcifodifadoiaa.mkR

def upd (R : Nat → Nat → Bool) (i : Nat) (S : Nat → Bool) : Nat → Nat → Bool := fun x => if x = i then S else R x
theorem msBox {w : World} {g h n : Nat} {S : Nat → Bool} (ms : MS w g (some h) n S) : ∃ cs cs', Blk w g TS cs ∧ Blk w h 73 cs' := by
  obtain ⟨A, c, ws, h1, h2, h3, h4⟩ := ms
  refine ⟨[.int .i64 (n : Int), .slice A ws.length c], ?_⟩
  rcases h2.2 with ⟨e, -⟩ | ⟨g', cap, cur, e, -, h5, -⟩
  · rw [e] at h3; cases h3
  · rw [e] at h3
    injection h3 with h3
    subst h3
    exact ⟨cur.toList, h1, by unfold Blk; rw [h5]⟩
structure SetsO (w : World) (B n : Nat) (fs : List Nat) (F : Int → Option Nat) (R : Nat → Nat → Bool) (gk hk : Nat → Nat) : Prop where
  at_ : ∀ i ∈ fs, F (i : Int) = some (gk i) ∧ B ≤ gk i ∧ B ≤ hk i ∧ MS w (gk i) (some (hk i)) n (R i)
  apart : ∀ i ∈ fs, ∀ j ∈ fs, i ≠ j → gk i ≠ gk j ∧ hk i ≠ hk j
  none_ : ∀ z : Int, (∀ i ∈ fs, z ≠ (i : Int)) → F z = none
  off_ : ∀ i, i ∉ fs → ∀ j, R i j = false
section
variable {w w' w0 : World} {B n : Nat} {fs : List Nat} {F : Int → Option Nat} {R : Nat → Nat → Bool} {gk hk : Nat → Nat}
theorem SetsO.sets (h : SetsO w B n fs F R gk hk) : SetsP w F n R := by
  refine ⟨fun z g e => ?_, fun z e hz j => ?_⟩
  · by_cases hz : ∃ i ∈ fs, z = (i : Int)
    · obtain ⟨i, hi, rfl⟩ := hz
      obtain ⟨h1, -, -, h2⟩ := h.at_ i hi
      rw [h1] at e
      obtain rfl := Option.some.inj e
      exact ⟨by omega, _, h2⟩
    · rw [h.none_ z (fun i hi hz' => hz ⟨i, hi, hz'⟩)] at e; cases e
  · refine h.off_ _ (fun hi => ?_) j
    obtain ⟨h1, -⟩ := h.at_ _ hi
    rw [Int.toNat_of_nonneg hz, e] at h1; cases h1
theorem SetsO.grow (h : SetsO w B n fs F R gk hk) (hg : Grow w w') : SetsO w' B n fs F R gk hk :=
  ⟨fun i hi => let ⟨a, b, c, d⟩ := h.at_ i hi; ⟨a, b, c, d.grow hg⟩, h.apart, h.none_, h.off_⟩
theorem SetsO.keep {K : Nat → Prop} (h : SetsO w B n fs F R gk hk) (hk' : Keep B K w w') (hK : ∀ j t cs, Blk w j t cs → t = TS ∨ t = 73 → K j) : SetsO w' B n fs F R gk hk :=
  ⟨fun i hi => by
    obtain ⟨a, b, c, d⟩ := h.at_ i hi
    obtain ⟨c1, c2, hb1, hb2⟩ := msBox d
    exact ⟨a, b, c, d.keep hk' (.inr (hK _ _ _ hb1 (.inl rfl))) fun k hk => by injection hk with hk; subst hk; exact .inr (hK _ _ _ hb2 (.inr rfl))⟩, h.apart, h.none_, h.off_⟩
theorem SetsO.turn {i : Nat} {S : Nat → Bool} (h : SetsO w B n fs F R gk hk) (hi : i ∈ fs) (hk' : Keep B (fun j => j ≠ gk i ∧ j ≠ hk i) w w') (m : MS w' (gk i) (some (hk i)) n S) : SetsO w' B n fs F (upd R i S) gk hk := by
  obtain ⟨-, -, -, d0⟩ := h.at_ i hi
  obtain ⟨c1, c2, hb1, hb2⟩ := msBox d0
  refine ⟨fun x hx => ?_, h.apart, h.none_, fun x hx j => ?_⟩
  · obtain ⟨a, b, c, d⟩ := h.at_ x hx
    by_cases e : x = i
    · subst e
      unfold upd
      rw [if_pos rfl]
      exact ⟨a, b, c, m⟩
    · obtain ⟨c3, c4, hb3, hb4⟩ := msBox d
      obtain ⟨n1, n2⟩ := h.apart x hx i hi e
      unfold upd
      rw [if_neg e]
      refine ⟨a, b, c, d.keep hk' (.inr ⟨n1, fun e => absurd (Blk.ty_eq hb3 (by rw [e]; exact hb2)) (by decide)⟩) fun k hk => ?_⟩
      injection hk with hk
      subst hk
      exact .inr ⟨fun e => absurd (Blk.ty_eq hb4 (by rw [e]; exact hb1)) (by decide), n2⟩
  · unfold upd
    rw [if_neg (fun e => hx (by rw [e]; exact hi))]
    exact h.off_ x hx j
theorem SetsO.add {a g k : Nat} (h : SetsO w B n fs F R gk hk) (ha : a ∉ fs) (hw : B ≤ w.heap.size) (hg : w.heap.size ≤ g) (hk' : w.heap.size ≤ k) (h' : SetsO w' B n fs F R gk hk) (m : MS w' g (some k) n (fun _ => false)) :
    SetsO w' B n (fs ++ [a]) (fun z => if z = (a : Int) then some g else F z) R (fun i => if i = a then g else gk i) (fun i => if i = a then k else hk i) := by
  have lt : ∀ i ∈ fs, gk i < w.heap.size ∧ hk i < w.heap.size := fun i hi => by
    obtain ⟨-, -, -, d⟩ := h.at_ i hi
    have := d.lt
    exact ⟨this.1, (this.2 _ rfl).1⟩
  have ne : ∀ i ∈ fs, i ≠ a := fun i hi e => ha (by rw [← e]; exact hi)
  refine ⟨fun x hx => ?_, fun i hi j hj hij => ?_, fun z hz => ?_, fun i hi j => h.off_ i (fun h2 => hi (List.mem_append_left _ h2)) j⟩
  · rcases List.mem_append.1 hx with hx | hx
    · have := ne x hx
      obtain ⟨p, q, r, s⟩ := h'.at_ x hx
      show (if (x : Int) = (a : Int) then some g else F x) = some (if x = a then g else gk x) ∧ B ≤ (if x = a then g else gk x) ∧ B ≤ (if x = a then k else hk x) ∧ MS w' (if x = a then g else gk x) (some (if x = a then k else hk x)) n (R x)
      rw [if_neg (by omega), if_neg this, if_neg this]
      exact ⟨p, q, r, s⟩
    · obtain rfl := List.mem_singleton.1 hx
      show (if (x : Int) = (x : Int) then some g else F x) = some (if x = x then g else gk x) ∧ B ≤ (if x = x then g else gk x) ∧ B ≤ (if x = x then k else hk x) ∧ MS w' (if x = x then g else gk x) (some (if x = x then k else hk x)) n (R x)
      rw [if_pos rfl, if_pos rfl, if_pos rfl]
      exact ⟨rfl, by omega, by omega, m.ext fun j => (h.off_ x ha j).symm⟩
  · show (if i = a then g else gk i) ≠ (if j = a then g else gk j) ∧ (if i = a then k else hk i) ≠ (if j = a then k else hk j)
    rcases List.mem_append.1 hi with p | p <;> rcases List.mem_append.1 hj with q | q
    · rw [if_neg (ne i p), if_neg (ne j q), if_neg (ne i p), if_neg (ne j q)]
      exact h.apart i p j q hij
    · obtain rfl := List.mem_singleton.1 q
      rw [if_neg (ne i p), if_pos rfl, if_neg (ne i p), if_pos rfl]
      have := lt i p
      omega
    · obtain rfl := List.mem_singleton.1 p
      rw [if_neg (ne j q), if_pos rfl, if_neg (ne j q), if_pos rfl]
      have := lt j q
      omega
    · obtain rfl := List.mem_singleton.1 p
      obtain rfl := List.mem_singleton.1 q
      exact absurd rfl hij
  · show (if z = (a : Int) then some g else F z) = none
    rw [if_neg (hz a (by simp))]
    exact h.none_ z fun i hi => hz i (List.mem_append_left _ hi)
end
/-- all of it -/
structure RI (w0 : World) (gr bm n : Nat) (fs : List Nat) (R : Nat → Nat → Bool) (v6 : Value) (F : Int → Option Nat) (gk hk : Nat → Nat) (w : World) : Prop where
  g : Grow w0 w
  bx : Blk w gr TR [.int .i64 (n : Int), .map (some bm)]
  own : w.ownsRow w0.heap.size 3 1 v6 fs.length (fs.map nv)
  mp : ∃ cnt, cnt ≤ fs.length ∧ MapP w Try.prog 3 bm cnt F
  st : SetsO w w0.heap.size n fs F R gk hk
section
variable {w0 w w' : World} {gr bm n : Nat} {fs : List Nat} {R : Nat → Nat → Bool} {v6 : Value} {F : Int → Option Nat} {gk hk : Nat → Nat}
theorem RI.grow (h : RI w0 gr bm n fs R v6 F gk hk w) (hg : Grow w w') : RI w0 gr bm n fs R v6 F gk hk w' :=
  ⟨h.g.trans hg, h.bx.grow hg, own_grow h.own hg, let ⟨c, h1, h2⟩ := h.mp; ⟨c, h1, h2.grow hg⟩, h.st.grow hg⟩
/-- a set turns -/
theorem RI.turn {i : Nat} {S : Nat → Bool} (h : RI w0 gr bm n fs R v6 F gk hk w) (hi : i ∈ fs) (hk' : Keep w0.heap.size (fun j => j ≠ gk i ∧ j ≠ hk i) w w') (m : MS w' (gk i) (some (hk i)) n S) : RI w0 gr bm n fs (upd R i S) v6 F gk hk w' := by
  obtain ⟨-, -, -, d0⟩ := h.st.at_ i hi
  obtain ⟨c1, c2, hb1, hb2⟩ := msBox d0
  have ne : ∀ {j : Nat} {t : TypeId} {cs : List Value}, Blk w j t cs → t ≠ TS → t ≠ 73 → j ≠ gk i ∧ j ≠ hk i := fun hb h1 h2 => ⟨fun e => h1 (Blk.ty_eq hb (e ▸ hb1)), fun e => h2 (Blk.ty_eq hb (e ▸ hb2))⟩
  refine ⟨hk'.grow h.g rfl, hk'.blk h.bx (ne h.bx (by decide) (by decide)), ?_, ?_, h.st.turn hi hk' m⟩
  · refine hk'.own h.own fun k hk2 => ?_
    rcases h.own.2 with ⟨e, -⟩ | ⟨g', cap, cur, e, -, h5, -⟩
    · rw [e] at hk2; cases hk2
    · rw [e] at hk2
      injection hk2 with hk2
      subst hk2
      exact ne (t := 3) (cs := cur.toList) (by unfold Blk; rw [h5]) (by decide) (by decide)
  · obtain ⟨c, h1, h2⟩ := h.mp
    refine ⟨c, h1, h2.keep hk' (.inr ?_)⟩
    obtain ⟨D, ⟨es, clock, hb, -⟩, -⟩ := h2
    refine ⟨fun e => ?_, fun e => ?_⟩
    · unfold Blk at hb1; rw [← e, hb] at hb1; cases hb1
    · unfold Blk at hb2; rw [← e, hb] at hb2; cases hb2
end
theorem blk_not_map {w : World} {j b : Nat} {t : TypeId} {cs : List Value} {P : Program} {k : TypeId} {c : Nat} {F : Int → Option Nat} (hb : Blk w j t cs) (hm : MapP w P k b c F) : j ≠ b := by
  obtain ⟨D, ⟨es, clock, h, -⟩, -⟩ := hm
  intro e
  unfold Blk at hb
  rw [e, h] at hb
  cases hb
theorem own_blk {w : World} {base : Nat} {v : Value} {n : Nat} {xs : List Value} (h : w.ownsRow base 3 1 v n xs) {k : Nat} (hk : v.ownBlock = some k) : ∃ cs, Blk w k 3 cs := by
  rcases h.2 with ⟨e, -⟩ | ⟨g', cap, cur, e, -, h5, -⟩
  · rw [e] at hk; cases hk
  · rw [e] at hk
    injection hk with hk
    subst hk
    exact ⟨cur.toList, by unfold Blk; rw [h5]⟩
section
variable {w0 w w' w2 : World} {gr bm n : Nat} {fs : List Nat} {R : Nat → Nat → Bool} {v6 : Value} {F F' : Int → Option Nat} {gk hk gk' hk' : Nat → Nat}
/-- the map and a set more (the list has not turned yet): what is left for the list's turn -/
structure RJ (w0 : World) (gr bm n : Nat) (fs fs' : List Nat) (R : Nat → Nat → Bool) (v6 : Value) (F : Int → Option Nat) (gk hk : Nat → Nat) (w : World) : Prop where
  g : Grow w0 w
  bx : Blk w gr TR [.int .i64 (n : Int), .map (some bm)]
  own : w.ownsRow w0.heap.size 3 1 v6 fs.length (fs.map nv)
  mp : ∃ cnt, cnt ≤ fs'.length ∧ MapP w Try.prog 3 bm cnt F
  st : SetsO w w0.heap.size n fs' F R gk hk
theorem RI.newset {a g k cnt : Nat} (h : RI w0 gr bm n fs R v6 F gk hk w) (hg : Grow w w') (ha : a ∉ fs) (hge : w.heap.size ≤ g) (hke : w.heap.size ≤ k) (m : MS w' g (some k) n (fun _ => false)) (hm : MapP w' Try.prog 3 bm cnt F)
    (hc : cnt ≤ fs.length) (hbm : w0.heap.size ≤ bm) (hm2 : MapP w2 Try.prog 3 bm (cnt + 1) (fun z => if z = (a : Int) then some g else F z)) (hgb : w'.grownBy w2 (some bm)) :
    RJ w0 gr bm n fs (fs ++ [a]) R v6 (fun z => if z = (a : Int) then some g else F z) (fun i => if i = a then g else gk i) (fun i => if i = a then k else hk i) w2 := by
  have h' := h.grow hg
  have hK : Keep w0.heap.size (fun j => j ≠ bm) w' w2 := Keep.by_ (Keep.refl w') h'.g.size hgb (fun k hk => by injection hk with hk; subst hk; exact ⟨hbm, fun h => h rfl⟩)
  have nb : ∀ {j : Nat} {t : TypeId} {cs : List Value}, Blk w' j t cs → j ≠ bm := fun hb => blk_not_map hb hm
  obtain ⟨c1, c2, hb1, hb2⟩ := msBox m
  have m2 : MS w2 g (some k) n (fun _ => false) := m.keep hK (.inr (nb hb1)) fun k hk => by injection hk with hk; subst hk; exact .inr (nb hb2)
  refine ⟨hK.grow h'.g rfl, hK.blk h'.bx (nb h'.bx), hK.own h'.own fun k hk2 => ?_, ⟨cnt + 1, by simp; omega, hm2⟩, ?_⟩
  · obtain ⟨cs, hb⟩ := own_blk h'.own hk2
    exact nb hb
  · exact h.st.add ha h.g.size hge hke (h'.st.keep hK fun j t cs hb _ => nb hb) m2
/-- the list's turn -/
theorem RJ.list {fs' : List Nat} {v1 : Value} {row : Option Nat} (h : RJ w0 gr bm n fs fs' R v6 F gk hk w) (hg : Grow w w') (hgb : w'.grownBy w2 row) (hr : row = v6.ownBlock) (ho : w2.ownsRow w0.heap.size 3 1 v1 fs'.length (fs'.map nv)) :
    RI w0 gr bm n fs' R v1 F gk hk w2 := by
  subst hr
  have hown := own_grow h.own hg
  have hK : Keep w0.heap.size (fun j => v6.ownBlock ≠ some j) w' w2 := Keep.by_ (Keep.refl w') (h.g.trans hg).size hgb (fun k hk => ⟨(h.own.lt k hk).1, fun h => h hk⟩)
  have nb : ∀ {j : Nat} {t : TypeId} {cs : List Value}, Blk w' j t cs → t ≠ 3 → v6.ownBlock ≠ some j := fun hb ht e => by
    obtain ⟨cs, hb2⟩ := own_blk hown e
    exact ht (Blk.ty_eq hb hb2)
  obtain ⟨cnt, h1, h2⟩ := h.mp
  refine ⟨hK.grow (h.g.trans hg) rfl, hK.blk (h.bx.grow hg) (nb (h.bx.grow hg) (by decide)), ho, ⟨cnt, h1, (h2.grow hg).keep hK (.inr fun e => ?_)⟩, (h.st.grow hg).keep hK fun j t cs hb ht => nb hb (by rcases ht with e | e <;> (rw [e]; decide))⟩
  obtain ⟨cs, hb2⟩ := own_blk hown e
  exact blk_not_map hb2 (h2.grow hg) rfl
theorem RJ.grow {fs' : List Nat} (h : RJ w0 gr bm n fs fs' R v6 F gk hk w) (hg : Grow w w') : RJ w0 gr bm n fs fs' R v6 F gk hk w' :=
  ⟨h.g.trans hg, h.bx.grow hg, own_grow h.own hg, let ⟨c, h1, h2⟩ := h.mp; ⟨c, h1, h2.grow hg⟩, h.st.grow hg⟩
end
end Go.Proofs.Ytbcifodifadoiaa.reW
