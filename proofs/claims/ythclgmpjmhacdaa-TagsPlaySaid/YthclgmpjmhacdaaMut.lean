/- What is kept while an object of a call's own changes; strings: for every program. -/
import Derived.Test.YthclgmpjmhacdaaStr
import Derived.Test.YthclgmpjmhacdaaArr
import Derived.Lib.Hide
namespace Go.Kit
open Go Go.RowKit Go.Par

theorem own_none (w : World) (base : Nat) (e : TypeId) : w.ownsRow base e 1 (.slice none 0 0) 0 (u8s []) := World.ownsRow_nil _ _ _ _
/-- a slice of nothing, new -/
theorem own_zero (w : World) (e : TypeId) {base g : Nat} (hg : g = w.heap.size) (hb : base ≤ w.heap.size) : (w.alloc (.cells #[] e)).ownsRow base e 1 (.slice (some ⟨g, 0, none⟩) 0 0) 0 [] := by
  subst hg
  exact ⟨rfl, .inr ⟨_, 0, #[], rfl, hb, heap_alloc_new w _, Nat.le_refl _, Nat.zero_le _, rfl, rfl⟩⟩

theorem _root_.Go.Par.Grow.size {w w' : World} (h : Grow w w') : w.heap.size ≤ w'.heap.size := Below.size h
/-- what is kept: all below B, and the blocks of K -/
def Keep (B : Nat) (K : Nat → Prop) (w w' : World) : Prop := Below B w w' ∧ ∀ k, K k → k < w.heap.size → w'.heap[k]? = w.heap[k]?
theorem Keep.of {B : Nat} {K : Nat → Prop} {w w' : World} (h : Grow w w') (hB : B ≤ w.heap.size) : Keep B K w w' := ⟨h.below hB, fun k _ hk => Below.block h k hk⟩
theorem Keep.refl {B : Nat} {K : Nat → Prop} (w : World) : Keep B K w w := ⟨Below.refl _ _, fun _ _ _ => rfl⟩
theorem Keep.trans {B : Nat} {K : Nat → Prop} {a b c : World} (h : Keep B K a b) (k : Keep B K b c) : Keep B K a c :=
  ⟨Below.trans h.1 k.1, fun i hi hlt => (k.2 i hi (Nat.lt_of_lt_of_le hlt h.1.size)).trans (h.2 i hi hlt)⟩
theorem Keep.blk {B : Nat} {K : Nat → Prop} {w w' : World} (h : Keep B K w w') {g : Nat} {t : TypeId} {cs : List Value} (hb : Blk w g t cs) (hg : K g) : Blk w' g t cs := (h.2 g hg hb.lt).trans hb
theorem Keep.size {B : Nat} {K : Nat → Prop} {w w' : World} (h : Keep B K w w') : w.heap.size ≤ w'.heap.size := h.1.size
theorem Keep.grow {B : Nat} {K : Nat → Prop} {w0 w w' : World} (h : Keep B K w w') (h0 : Grow w0 w) (hB : B = w0.heap.size) : Grow w0 w' := by subst hB; exact Below.trans h0 h.1
theorem Keep.own {B base : Nat} {K : Nat → Prop} {w w' : World} (h : Keep B K w w') {e : TypeId} {size : Nat} {v : Value} {n : Nat} {xs : List Value} (ho : w.ownsRow base e size v n xs) (hk : ∀ k, v.ownBlock = some k → K k) : w'.ownsRow base e size v n xs := by
  have hlt := ho.lt
  obtain ⟨h1, h2⟩ := ho
  refine ⟨h1, ?_⟩
  rcases h2 with h2 | ⟨g, cap, cur, rfl, h3, h4, h5⟩
  · exact .inl h2
  · exact .inr ⟨g, cap, cur, rfl, h3, (h.2 g (hk g rfl) (hlt g rfl).2).trans h4, h5⟩
theorem Keep.setCell {B : Nat} {K : Nat → Prop} {w w' : World} (h : Keep B K w w') {p : Addr} (hp : B ≤ p.block) (hk : ¬ K p.block) (u : Value) : Keep B K w (w'.setCell p u) :=
  ⟨Below.setCell h.1 hp u, fun k hK hlt => (Below.heap_setCell w' p u k (fun e => hk (e ▸ hK))).trans (h.2 k hK hlt)⟩
theorem Keep.by_ {B : Nat} {K : Nat → Prop} {w w' w2 : World} {row : Option Nat} (h : Keep B K w w') (hB : B ≤ w'.heap.size) (hg : w'.grownBy w2 row) (hr : ∀ k, row = some k → B ≤ k ∧ ¬ K k) : Keep B K w w2 :=
  ⟨Below.grown h.1 hg hB (fun k hk => (hr k hk).1), fun k hK hlt => (hg.block k (Nat.lt_of_lt_of_le hlt h.size) (fun e => (hr k e.symm).2 hK)).trans (h.2 k hK hlt)⟩

theorem run_min2i {P : Program} (ts : Array TypeId) (t : TypeId) (a b m : Int) (hm : m = min a b) (w : World) :
    (Builtin.min_ ts t #[.int .i64 a, .int .i64 b]).run P w = .ok (.int .i64 m) w := by
  subst hm
  simp [Builtin.min_, Builtin.min2]
  omega
theorem run_max2i {P : Program} (ts : Array TypeId) (t : TypeId) (a b m : Int) (hm : m = max a b) (w : World) :
    (Builtin.max_ ts t #[.int .i64 a, .int .i64 b]).run P w = .ok (.int .i64 m) w := by
  subst hm
  simp [Builtin.max_, Builtin.max2]
  omega
/-- a row's cells, as laws on copies ask for them -/
theorem Row.add_ {w : World} {A : Option Addr} {n : Nat} {xs : List Value} (h : Row w A n xs) (h0 : 0 < n) : ∃ ad, A = some ad ∧ ∀ j u, xs[j]? = some u → w.cell? (ad.add j) = some u := by
  obtain ⟨b, off, rfl, hc⟩ := h.2 h0
  refine ⟨_, rfl, fun j u hu => ?_⟩
  have := hc j u hu
  by_cases hj : j = 0
  · subst hj; simpa [Addr.add] using this
  · simpa [Addr.add, hj] using this
theorem own_lit {w : World} {base g n : Nat} {e : TypeId} {xs : List Value} (h : Blk w g e xs) (hb : base ≤ g) (hn : xs.length = n) (hm : n ≤ maxLen) : w.ownsRow base e 1 (.slice (some ⟨g, 0, none⟩) n n) n xs := by
  subst hn
  exact ⟨(Nat.mul_one _).symm, .inr ⟨g, xs.length, xs.toArray, rfl, hb, h, Nat.le_refl _, hm, by simp, by simp⟩⟩
/-! strings -/
theorem str_append (a b : List UInt8) : str a ++ str b = str (a ++ b) := by
  apply ByteArray.ext
  simp [str]
theorem str_extract (l : List UInt8) (n : Nat) : (str l).extract 0 n = str (l.take n) := by
  apply ByteArray.ext
  apply Array.ext'
  simp [str, ByteArray.data_extract]
end Go.Kit
