/- Maps of integers to pointers: what a block holds, by keys: for every program. -/
import Derived.Test.YtbcifodifadoiaaMut
import Derived.Maps.OwnSet
namespace Go.Kit
open Go Go.RowKit Go.Par Go.Maps

/-- a pointer to an object's block, or nil -/
def pv : Option Nat → Value
  | none => .pointer none
  | some g => .pointer (some ⟨g, 0, none⟩)
/-- as a datum -/
def pd : Option Nat → DataW Unit
  | none => .lit (.int .i64 0)
  | some g => .lit (.int .i64 ((g : Int) + 1))
/-- how a pointer reads -/
def ptrE : Value → Option (DataW Unit × List MemPlace)
  | .pointer none => some (pd none, [])
  | .pointer (some ⟨g, 0, none⟩) => some (pd (some g), [])
  | _ => none
theorem pv_inj {g h : Option Nat} (e : pv g = pv h) : g = h := by
  cases g <;> cases h <;> simp [pv] at e <;> simp [e]
theorem pd_inj {g h : Option Nat} (e : pd g = pd h) : g = h := by
  cases g <;> cases h <;> simp [pd] at e <;> first | rfl | omega | (congr 1; omega)
theorem ptrE_pv (g : Option Nat) : ptrE (pv g) = some (pd g, []) := by cases g <;> rfl
theorem ptrE_inv {v : Value} {d : DataW Unit} {ps : List MemPlace} (h : ptrE v = some (d, ps)) {g : Option Nat} (hd : d = pd g) : v = pv g := by
  unfold ptrE at h
  split at h
  · injection h with h
    injection h with h1 h2
    rw [← h1] at hd
    rw [← pd_inj hd]; rfl
  · injection h with h
    injection h with h1 h2
    rw [← h1] at hd
    rw [← pd_inj hd]; rfl
  · cases h
variable {w w' : World} {P : Program} {k t e : TypeId} {b n : Nat} {F : Int → Option Nat}
def wf64 (i : Int) : Prop := (Lit.int .i64 i).wf = true
/-- block b is a map of at most n entries; key i has F i -/
def MapP (w : World) (P : Program) (k : TypeId) (b n : Nat) (F : Int → Option Nat) : Prop :=
  ∃ D : DataW Unit, w.ownsMap P k ptrE b n D ∧ ∀ i : Int, wf64 i → D.atKey (.int .i64 i) (pd none) = pd (F i)
theorem MapP.lt (h : MapP w P k b n F) : b < w.heap.size := by
  obtain ⟨D, h, -⟩ := h
  exact h.lt
theorem MapP.same (h : MapP w P k b n F) (he : w'.heap[b]? = w.heap[b]?) : MapP w' P k b n F := by
  obtain ⟨D, ⟨es, clock, hb, h1⟩, h2⟩ := h
  exact ⟨D, ⟨es, clock, he.trans hb, h1⟩, h2⟩
theorem MapP.grow (h : MapP w P k b n F) (hg : Grow w w') : MapP w' P k b n F := h.same (Below.block hg b h.lt)
theorem MapP.keep {B : Nat} {K : Nat → Prop} (h : MapP w P k b n F) (hk : Keep B K w w') (hb : b < B ∨ K b) : MapP w' P k b n F :=
  h.same (by
    rcases hb with hb | hb
    · exact hk.1.block b hb
    · exact hk.2 b hb h.lt)
theorem MapP.made (w : World) (P : Program) (k : TypeId) : MapP (w.alloc (.map #[] 0)) P k w.heap.size 0 (fun _ => none) :=
  ⟨_, World.ownsMap_made w P k ptrE, fun _ _ => rfl⟩
theorem MapP.lookup (h : MapP w P k b n F) (hk : P.underlying k = some (.int .i64)) (ht : P.underlying t = some (.map k e)) (hz : (zeroValue e).run P w = .ok (.pointer none) w) {i : Int} (hi : wf64 i) :
    (Instr.lookup t (.map (some b)) (.int .i64 i) false).run P w = .ok (pv (F i)) w := by
  obtain ⟨D, h1, h2⟩ := h
  obtain ⟨v, ps, hr, hv⟩ := h1.lookup (int_keyed hk) ht hz (ptrE_pv none) (keyOf_int_mk hk hi)
  rw [hr, ptrE_inv hv (h2 i hi)]
theorem MapP.update (h : MapP w P k b n F) (hk : P.underlying k = some (.int .i64)) (ht : P.underlying t = some (.map k e)) (hn : n < maxLen) {i : Int} (hi : wf64 i) (g : Option Nat) :
    ∃ w', (Instr.mapUpdate t (.map (some b)) (.int .i64 i) (pv g)).run P w = .ok () w' ∧ MapP w' P k b (n + 1) (fun j => if j = i then g else F j) ∧ w.grownBy w' (some b) := by
  obtain ⟨D, h1, h2⟩ := h
  obtain ⟨w', hr, ho, hg⟩ := h1.update (int_keyed hk) ht hn (keyOf_int_mk hk hi) (ptrE_pv g)
  refine ⟨w', hr, ⟨_, ho, fun j hj => ?_⟩, hg⟩
  by_cases e : j = i
  · subst e
    show _ = pd (if j = j then g else F j)
    rw [if_pos rfl]
    exact Maps.atKey_put_same (h1.isMap) (by trivial) _ _
  · show _ = pd (if j = i then g else F j)
    rw [if_neg e, Maps.atKey_put_other (fun h => e (by injection h))]
    exact h2 j hj
end Go.Kit
