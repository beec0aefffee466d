/- An object that writes bytes. -/
import Derived.Test.YthclgmpjmhacdaaRd
import Derived.Test.YthclgmpjmhacdaaPiv
import Derived.Lib.AppendStr
namespace Go.Kit
open Go Go.RowKit Go.Par Go.Lib

/-- two phases of a region -/
def two (P Q : World → Prop) (b : Nat) (w : World) : Prop := (b = 0 → P w) ∧ (b = 1 → Q w)
theorem two.zero {P Q : World → Prop} {w : World} (h : P w) : two P Q 0 w := ⟨fun _ => h, fun e => absurd e (by decide)⟩
theorem two.one {P Q : World → Prop} {w : World} (h : Q w) : two P Q 1 w := ⟨fun e => absurd e (by decide), fun _ => h⟩
theorem two.get0 {P Q : World → Prop} {w : World} (h : two P Q 0 w) : P w := h.1 rfl
theorem two.get1 {P Q : World → Prop} {w : World} (h : two P Q 1 w) : Q w := h.2 rfl

theorem Row.keep {w w' : World} {B : Nat} {K : Nat → Prop} {A : Option Addr} {n : Nat} {xs : List Value} (h : Row w A n xs) (hk : Keep B K w w') (hA : 0 < n → ∀ ad, A = some ad → ad.block < B ∨ K ad.block) : Row w' A n xs := by
  refine ⟨h.1, fun hn => ?_⟩
  obtain ⟨b, off, e, hc⟩ := h.2 hn
  refine ⟨b, off, e, fun j u hu => ?_⟩
  have h0 := hc j u hu
  rcases hA hn _ e with hb | hb
  · exact (hk.1.cell (p := ⟨b, off + j, none⟩) hb).trans h0
  · have hlt : b < w.heap.size := by
      refine Decidable.byContradiction fun hh => ?_
      have : w.heap[b]? = none := Array.getElem?_eq_none (by omega)
      simp [World.cell?, this] at h0
    rw [← h0]
    exact World.cell?_of_block (w := w) (w' := w') (a := ⟨b, off + j, none⟩) (hk.2 b hb hlt)
theorem Bytes.keep {w w' : World} {B : Nat} {K : Nat → Prop} {A : Option Addr} {n : Nat} {l : List UInt8} (h : Bytes w A n l) (hk : Keep B K w w') (hA : 0 < n → ∀ ad, A = some ad → ad.block < B ∨ K ad.block) : Bytes w' A n l := Row.keep h hk hA
theorem Keep.less {B : Nat} {K K2 : Nat → Prop} {w w' : World} (h : Keep B K w w') (hK : ∀ k, K2 k → K k) : Keep B K2 w w' := ⟨h.1, fun k h1 h2 => h.2 k (hK k h1) h2⟩
theorem Keep.of_more {B : Nat} {K K2 : Nat → Prop} {w w' : World} (h : Keep B K w w') (hK : ∀ k, K2 k → k < w.heap.size → K k) : Keep B K2 w w' := ⟨h.1, fun k h1 h2 => h.2 k (hK k h1 h2) h2⟩
theorem strCells_str (l : List UInt8) : strCells (str l) = u8s l := rfl

/-- The object at g (of type T) with the bytes L, its own. -/
def Wr (T e : TypeId) (w : World) (B : Nat) (K : Nat → Prop) (g : Nat) (L : List UInt8) : Prop :=
  ∃ v, Blk w g T [v] ∧ w.ownsRow B e 1 v L.length (u8s L) ∧ B ≤ g ∧ ¬ K g ∧ (∀ k, v.ownBlock = some k → k ≠ g ∧ ¬ K k)
theorem Wr.grow {T e : TypeId} {w w' : World} {B : Nat} {K : Nat → Prop} {g : Nat} {L : List UInt8} (h : Wr T e w B K g L) (hg : Grow w w') : Wr T e w' B K g L := by
  obtain ⟨v, h1, h2, h3⟩ := h
  exact ⟨v, h1.grow hg, own_grow h2 hg, h3⟩
theorem Wr.lt {T e : TypeId} {w : World} {B : Nat} {K : Nat → Prop} {g : Nat} {L : List UInt8} (h : Wr T e w B K g L) : B ≤ g ∧ g < w.heap.size := by
  obtain ⟨v, h1, h2, h3, _⟩ := h
  exact ⟨h3, h1.lt⟩
theorem Wr.size {T e : TypeId} {w : World} {B : Nat} {K : Nat → Prop} {g : Nat} {L : List UInt8} (h : Wr T e w B K g L) : B ≤ w.heap.size := by have := h.lt; omega
/-- more blocks of others, all there already or new -/
theorem Wr.more {T e : TypeId} {w : World} {B : Nat} {K K2 : Nat → Prop} {g : Nat} {L : List UInt8} (h : Wr T e w B K g L) (hk : ∀ k, K2 k → k < w.heap.size → K k) : Wr T e w B K2 g L := by
  obtain ⟨v, h1, h2, h3, h4, h5⟩ := h
  exact ⟨v, h1, h2, h3, fun h => h4 (hk g h h1.lt), fun k hk1 => ⟨(h5 k hk1).1, fun h => (h5 k hk1).2 (hk k h (h2.lt k hk1).2)⟩⟩
/-- the blocks of one object -/
def Its (g : Nat) (w : World) (k : Nat) : Prop := k = g ∨ ∃ v t, Blk w g t [v] ∧ v.ownBlock = some k
theorem Wr.keep {T e : TypeId} {w w' : World} {B : Nat} {K K2 : Nat → Prop} {g : Nat} {L : List UInt8} (h : Wr T e w B K g L) (hk : Keep B K2 w w') (hh : ∀ k, Its g w k → K2 k) : Wr T e w' B K g L := by
  obtain ⟨v, h1, h2, h3⟩ := h
  exact ⟨v, hk.blk h1 (hh g (.inl rfl)), hk.own h2 (fun k hk => hh k (.inr ⟨v, T, h1, hk⟩)), h3⟩
theorem Wr.apart {T e : TypeId} {w : World} {B : Nat} {K : Nat → Prop} {g : Nat} {L : List UInt8} (h : Wr T e w B K g L) : ∀ k, Its g w k → ¬ K k := by
  obtain ⟨v, h1, h2, h3, h4, h5⟩ := h
  rintro k (rfl | ⟨v', t, hb, hk⟩)
  · exact h4
  · unfold Blk at h1 hb
    rw [h1] at hb
    simp at hb
    obtain ⟨e1, _⟩ := hb
    subst e1
    exact (h5 k hk).2
/-- what an append leaves .. -/
theorem Wr.put1 {T e : TypeId} {w w1 : World} {B : Nat} {K : Nat → Prop} {g n : Nat} {xs : List Value} {v v1 : Value} (hB : B ≤ w.heap.size) (hK : ∀ k, K k → k < w.heap.size) (h1 : Blk w g T [v]) (h2 : w.ownsRow B e 1 v n xs) (h5 : ∀ k, v.ownBlock = some k → k ≠ g ∧ ¬ K k)
    (hg : w.grownBy w1 v.ownBlock) (hv : v1.ownBlock = v.ownBlock ∨ v1.ownBlock = some w.heap.size) :
    Blk w1 g T [v] ∧ Keep B K w w1 ∧ (∀ k, v1.ownBlock = some k → k ≠ g ∧ ¬ K k) := by
  have hlt := h1.lt
  refine ⟨(hg.block g h1.lt (fun e => (h5 g e.symm).1 rfl)).trans h1, Keep.by_ (Keep.refl w) hB hg (fun k hk => ⟨own_base h2 k hk, (h5 k hk).2⟩), ?_⟩
  intro k hk
  rcases hv with hh | hh
  · exact h5 k (hh ▸ hk)
  · rw [hh] at hk
    injection hk with hk
    subst hk
    exact ⟨by omega, fun h => by have := hK _ h; omega⟩
/-- .. and the store behind it -/
theorem Wr.put2 {T e : TypeId} {w1 : World} {B : Nat} {K : Nat → Prop} {g n : Nat} {L : List UInt8} {v v1 : Value} (b1 : Blk w1 g T [v]) (hn : w1.ownsRow B e 1 v1 n (u8s L)) (h3 : B ≤ g) (h4 : ¬ K g) (h5 : ∀ k, v1.ownBlock = some k → k ≠ g ∧ ¬ K k) :
    Wr T e (w1.setCell ⟨g, 0, none⟩ v1) B K g L ∧ Keep B K w1 (w1.setCell ⟨g, 0, none⟩ v1) := by
  have hl : L.length = n := by have := hn.1; simpa [u8s] using this
  subst hl
  exact ⟨⟨v1, b1.set_ 0 _, own_far hn ⟨g, 0, none⟩ v1 (fun k hk => (h5 k hk).1), h3, h4, h5⟩, Keep.setCell (Keep.refl w1) h3 h4 _⟩
/-- append of a string's bytes -/
theorem append_string {P : Program} {t u e : TypeId} {i : TypeInfo} (ht : P.underlying t = some (.slice e)) (hu : P.underlying u = some .string) (hi : P.info? e = some i) (hz : i.zero = some (.int .u8 0)) (hsize : i.size = 1) (hby : i.bytes = 1)
    {ops : Array Oper} {rest : List Oper} {o : Oper} {a : Act} {w : World} {Q : Exit → Act → World → Prop} (hgd : o.guard = none) (s x : Operand)
    (ho : o.op = .call { callee := .builtin .append, args := #[s, x], argTypes := #[t, u] })
    (base : Nat) (v : Value) (n : Nat) (l : List UInt8) (hown : w.ownsRow base e 1 v n (u8s l)) (hs : a.eval s = v)
    (l2 : List UInt8) (hx : a.eval x = .string (str l2))
    (hlen : n + l2.length ≤ 140737488355328) (hbase : base ≤ w.heap.size)
    (h : ∀ v' w', w'.ownsRow base e 1 v' (n + l2.length) (u8s (l ++ l2)) → w.grownBy w' v.ownBlock → (v'.ownBlock = v.ownBlock ∨ v'.ownBlock = some w.heap.size) → wpList P ops Q rest (a.put o.dst v') w') : wpList P ops Q (o :: rest) a w := by
  have hsz : (str l2).size = l2.length := str_size l2
  obtain ⟨v', w', hrun, h2, h3, h4⟩ := run_append_own_string (P := P) w base t u o.type e i ht hu hi hz hsize hby v n (u8s l) hown (str l2) (by unfold maxLen; omega) (by omega) hbase
  have hob : v'.ownBlock = v.ownBlock ∨ v'.ownBlock = some w.heap.size := by
    have hxl : (u8s l).length = n := by simpa using hown.1
    rcases hown.2 with ⟨rfl, rfl⟩ | ⟨g, cap, cur, rfl, hbg, hg, hnc, hcm, hcs, htake⟩
    · by_cases hm : (str l2).size = 0
      · exact .inl (by rw [h4.2 ⟨rfl, hm⟩])
      · have hr := run_append_nil_string (P := P) w t u o.type e i (.int .u8 0) ht hu hi hz (str l2) (by omega) (by omega) (by rw [hby]; omega)
        rw [hr] at hrun
        injection hrun with e1 e2
        exact .inr (by rw [← e1]; rfl)
    · by_cases hroom : n + (str l2).size ≤ cap
      · have hcs' : cur.size = cap := by simpa using hcs
        have hr := run_append_room_string (P := P) w t u o.type e i ht hu hi hsize g n cap cur hg (str l2) hroom (by omega)
        rw [hr] at hrun
        injection hrun with e1 e2
        exact .inl (by rw [← e1]; rfl)
      · have holds : ∀ j u, (u8s l)[j]? = some u → w.cell? ((⟨g, 0, none⟩ : Addr).add j) = some u := hown.cells (g := g) rfl
        have hr := run_append_grow_string (P := P) w t u o.type e i (.int .u8 0) ht hu hi hz ⟨g, 0, none⟩ n cap (u8s l) (by rw [hsize]; simpa using hxl) holds (str l2) (by omega) (by omega) (by rw [hby]; exact growslice_fits (by omega) (by omega))
        rw [hr] at hrun
        injection hrun with e1 e2
        exact .inr (by rw [← e1]; rfl)
  rw [hsz, strCells_str] at h2
  refine wpList_plain hgd fun K hK => ?_
  unfold Oper.wp execOp
  simp only [ho, resolve, invoke, builtin, Sem.run_bind, Sem.run_pure, Result.andThen_ok, List.map_toArray, List.map_cons, List.map_nil, hs, hx, hrun]
  refine hK _ _ (h v' w' (by rwa [u8s, u8s, ← List.map_append] at h2) h3 hob)
end Go.Kit
