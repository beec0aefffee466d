/- A map of pairs of bytes to integers: what is set, and what is not. -/
import Derived.Test.YtmekdhlcflielaaMut
import Derived.Test.YtmekdhlcflielaaRows
import Derived.Maps.OwnSet
import Derived.DeepKeys4
import Derived.MapViews
namespace Go.Proofs.Ytmekdhlcflielaa.mpA
open Go Go.RowKit Go.Par Go.Kit Go.Maps Go.WideMaps Go.ChangeMaps Go.MapKept

abbrev TU2 : TypeId := 77
theorem undU2 : Try.prog.underlying TU2 = some (.array 2 5) := by kernel_rfl
theorem cellsU2 : Try.prog.cellsOf TU2 = 2 := by kernel_rfl
theorem cellsU : Try.prog.cellsOf 5 = 1 := by kernel_rfl
theorem laidOut : laidOutB Try.prog = true := by kernel_rfl
theorem rowU2 : (TU2 : TypeId) < Try.prog.types.size := of_decide_eq_true (by kernel_rfl)
theorem wideU2 : (match Try.prog.underlying TU2 with | some (.array _ _) | some (.struct _) => true | _ => false) = true := by rw [undU2]
theorem lawU2 : KeyLaw Try.prog TU2 := deep_law_laid laidOut (m := 2) (by omega) rowU2 (by kernel_rfl) wideU2
theorem keyedU2 : Keyed Try.prog TU2 := Keyed.of_law lawU2
def keyv (a b : Nat) : Value := .agg #[.int .u8 (a : Int), .int .u8 (b : Int)]
theorem keyTU2 : Try.prog.keyType TU2 = true := by kernel_rfl
theorem lits_u8 (d : Nat) {a : Nat} (ha : a ≤ 255) : Try.prog.keyLits (d + 1) 5 [.int .u8 (a : Int)] = some [.int .u8 (a : Int)] := by
  have hwa : (Lit.int .u8 (a : Int)).wf = true := by simp [Lit.wf, IntKind.min, IntKind.max, IntKind.signed, IntKind.bits]; omega
  unfold Program.keyLits
  rw [Try.underlying5]
  simp [hwa]
theorem lits_pair (d : Nat) {a b : Nat} (ha : a ≤ 255) (hb : b ≤ 255) : Try.prog.keyLits (d + 1 + 1) TU2 [.int .u8 (a : Int), .int .u8 (b : Int)] = some [.int .u8 (a : Int), .int .u8 (b : Int)] := by
  unfold Program.keyLits
  rw [undU2]
  simp [cellsU2, cellsU, List.range_succ, lits_u8 d ha, lits_u8 d hb]
theorem key_some {a b : Nat} (ha : a ≤ 255) (hb : b ≤ 255) : ∃ l, keyOf Try.prog TU2 (keyv a b) = some l := by
  have hs : Try.prog.types.size + 1 = (Try.prog.types.size - 1) + 1 + 1 := by kernel_rfl
  have e : ∃ ls, Try.prog.keyLits (Try.prog.types.size + 1) TU2 (keyv a b).cells.toList = some ls := by
    rw [hs]
    exact ⟨_, lits_pair _ ha hb⟩
  obtain ⟨ls, e⟩ := e
  refine ⟨.string (keyBytes ls), ?_⟩
  unfold keyOf
  have hf : (keyv a b).formed Try.prog TU2 = true := by simp [Value.formed, keyv, cellsU2]
  simp only [undU2, keyTU2, hf, Bool.and_self, if_true, e, Option.map_some]
def intE : Value → Option (DataW Unit × List MemPlace)
  | .int .i64 z => some (.lit (.int .i64 z), [])
  | _ => none
theorem intE_inv {v : Value} {z : Int} {ps : List MemPlace} (h : intE v = some (.lit (.int .i64 z), ps)) : v = .int .i64 z := by
  unfold intE at h
  split at h
  · injection h with h
    injection h with h1 h2
    injection h1 with h1
    injection h1 with h1 h3
    rw [h3]
  · cases h
def bz (q : Bool) : Int := if q then 1 else 0
/-- block b is a map of at most n entries; just the pairs of C are set -/
def MapC (w : World) (b n : Nat) (C : Nat → Nat → Bool) : Prop :=
  ∃ D : DataW Unit, w.ownsMap Try.prog TU2 intE b n D ∧ ∀ x y l, keyOf Try.prog TU2 (keyv x y) = some l → D.atKey l (.lit (.int .i64 0)) = .lit (.int .i64 (bz (C x y)))
section
variable {w w' : World} {b n : Nat} {C : Nat → Nat → Bool}
theorem MapC.lt (h : MapC w b n C) : b < w.heap.size := by
  obtain ⟨D, h, -⟩ := h
  exact h.lt
theorem MapC.same (h : MapC w b n C) (he : w'.heap[b]? = w.heap[b]?) : MapC w' b n C := by
  obtain ⟨D, ⟨es, clock, hb, h1⟩, h2⟩ := h
  exact ⟨D, ⟨es, clock, he.trans hb, h1⟩, h2⟩
theorem MapC.grow (h : MapC w b n C) (hg : Grow w w') : MapC w' b n C := h.same (Below.block hg b h.lt)
theorem MapC.keep {B : Nat} {K : Nat → Prop} (h : MapC w b n C) (hk : Keep B K w w') (hb : K b) : MapC w' b n C := h.same (hk.2 b hb h.lt)
theorem MapC.not_blk (h : MapC w b n C) {j : Nat} {t : TypeId} {cs : List Value} (hb : Blk w j t cs) : j ≠ b := by
  obtain ⟨D, ⟨es, clock, h1, -⟩, -⟩ := h
  intro e
  unfold Blk at hb
  rw [e, h1] at hb
  cases hb
theorem MapC.made (w : World) : MapC (w.alloc (.map #[] 0)) w.heap.size 0 (fun _ _ => false) :=
  ⟨_, World.ownsMap_made w _ TU2 intE, fun _ _ _ _ => rfl⟩
abbrev TM : TypeId := 62
theorem zeroI (w : World) : (zeroValue 3).run Try.prog w = .ok (.int .i64 0) w := by kernel_rfl
theorem MapC.lookup (h : MapC w b n C) {x y : Nat} (hx : x ≤ 255) (hy : y ≤ 255) : (Instr.lookup TM (.map (some b)) (keyv x y) false).run Try.prog w = .ok (.int .i64 (bz (C x y))) w := by
  obtain ⟨D, h1, h2⟩ := h
  obtain ⟨l, hl⟩ := key_some hx hy
  obtain ⟨v, ps, hr, hv⟩ := h1.lookup keyedU2 Try.underlying62 (zeroI w) rfl hl
  rw [h2 x y l hl] at hv
  rw [hr, intE_inv hv]
def setC (C : Nat → Nat → Bool) (a b : Nat) : Nat → Nat → Bool := fun x y => C x y || (x == a && y == b)
theorem MapC.store (h : MapC w b n C) (hn : n < maxLen) {x y : Nat} (hx : x ≤ 255) (hy : y ≤ 255) :
    ∃ w', (Instr.mapUpdate TM (.map (some b)) (keyv x y) (.int .i64 1)).run Try.prog w = .ok () w' ∧ MapC w' b (n + 1) (setC C x y) ∧ w.grownBy w' (some b) := by
  obtain ⟨D, h1, h2⟩ := h
  obtain ⟨l, hl⟩ := key_some hx hy
  obtain ⟨w', hr, ho, hg⟩ := h1.update keyedU2 Try.underlying62 hn hl (show intE (.int .i64 1) = some (.lit (.int .i64 1), []) from rfl)
  refine ⟨w', hr, ⟨_, ho, fun x' y' l' hl' => ?_⟩, hg⟩
  have keyInj : ∀ {x y x' y' : Nat} {l}, keyOf Try.prog TU2 (keyv x y) = some l → keyOf Try.prog TU2 (keyv x' y') = some l → x = x' ∧ y = y' := fun h1 h2 => by
    have := keyedU2.inj h1 h2
    unfold keyv at this
    injection this with this
    injection this with this
    injection this with a1 a2
    injection a2 with a2 _
    injection a1 with _ a1
    injection a2 with _ a2
    exact ⟨by omega, by omega⟩
  by_cases e : l' = l
  · subst e
    obtain ⟨rfl, rfl⟩ := keyInj hl hl'
    rw [show setC C x y x y = true by simp [setC]]
    exact Maps.atKey_put_same (h1.isMap) (keyedU2.key hl) _ _
  · rw [Maps.atKey_put_other e, h2 x' y' l' hl']
    congr 3
    unfold setC
    have : (x' == x && y' == y) = false := by
      cases hc : (x' == x && y' == y) with
      | false => rfl
      | true =>
        simp only [Bool.and_eq_true, beq_iff_eq] at hc
        obtain ⟨rfl, rfl⟩ := hc
        rw [hl] at hl'
        exact absurd (Option.some.inj hl').symm e
    rw [this, Bool.or_false]
theorem MapC.clear (h : MapC w b n C) (ty : TypeId) : ∃ w', (Builtin.clear_ #[TM] ty #[.map (some b)]).run Try.prog w = .ok (.tuple #[]) w' ∧ MapC w' b n (fun _ _ => false) ∧ w.grownBy w' (some b) := by
  obtain ⟨D, ⟨es, clock, hb, F, hs, -⟩, -⟩ := h
  have hr : (Builtin.clear_ #[TM] ty #[.map (some b)]).run Try.prog w = .ok (.tuple #[]) (setBlock w b (.map #[] clock)) := by
    simp [Builtin.clear_, run_underlying Try.underlying62, MapKept.run_getObj_map hb, MapKept.run_setObj_map _ hb, Result.andThen, setBlock]
  have hg : w.mapTurned (setBlock w b (.map #[] clock)) b := ⟨es, clock, #[], clock, hb, rfl⟩
  exact ⟨_, hr, ⟨.map [], ⟨#[], clock, heap_setBlock_same hb _, ⟨by simp, stamped_empty clock, by simp⟩, by simp, rfl⟩, fun _ _ _ _ => rfl⟩, hg.grown⟩
end
end Go.Proofs.Ytmekdhlcflielaa.mpA
