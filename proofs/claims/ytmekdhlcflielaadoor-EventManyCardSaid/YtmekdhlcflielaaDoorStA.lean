/- A struct stored at a place of a block; '[]byte(s)': for every program. -/
import Derived.Test.YtmekdhlcflielaaDoorOwnS
import Derived.Test.YtmekdhlcflielaaDoorStr
import Derived.Laws.CopyRow
import Derived.Laws.IdiomStrings
namespace Go.Kit
open Go Go.RowKit Go.Par
/-- a list with a piece of it laid anew -/
def patch (cs : List Value) (o : Nat) (l : List Value) : List Value := cs.take o ++ l ++ cs.drop (o + l.length)
theorem patch_len {cs l : List Value} {o : Nat} (h : o + l.length ≤ cs.length) : (patch cs o l).length = cs.length := by
  unfold patch
  rw [List.length_append, List.length_append, List.length_take, List.length_drop]
  omega
section
variable {P : Program} {ops : Array Oper} {rest : List Oper} {o : Oper} {a : Act} {w : World} {Q : Exit → Act → World → Prop}
theorem store_at (hgd : o.guard = none) (ty : TypeId) (x y : Operand) (ho : o.op = .store ty x y) (g off : Nat) (l : List Value) (hx : a.eval x = .pointer (some ⟨g, off, none⟩)) (hy : a.eval y = .agg l.toArray)
    (t : TypeId) (cs : List Value) (hg : Blk w g t cs) (hi : (P.info? ty).map (·.size) = some l.length) (hl : off + l.length ≤ cs.length) (h1 : l.all (·.oneCell') = true)
    (h : wpList P ops Q rest (a.put o.dst undef) (w.setRow g (patch cs off l).toArray)) : wpList P ops Q (o :: rest) a w := by
  refine wpList_plain hgd fun _ hK => ?_
  have hrun := run_storeCells_at (P := P) g off t l 0 cs.toArray w hg (by simpa using hl) (fun v hv => (List.all_eq_true.1 h1) v hv)
  rw [Nat.add_zero] at hrun
  have hvar : (storeVar ty ⟨g, off, none⟩ (.agg l.toArray)).run P w = .ok () (w.setRow g (patch cs off l).toArray) := by
    cases hq : P.info? ty with
    | none => simp [hq] at hi
    | some i =>
      have hs : i.size = l.length := by simpa [hq] using hi
      simp [storeVar, sizeOf, typeInfo, hq, Value.cells, hs, hrun, patch]
  unfold Oper.wp execOp
  simp only [ho, hx, hy, Instr.storeAt, Instr.sureAddr, Sem.run_bind, Sem.run_pure, Result.andThen_ok, hvar]
  exact hK _ _ h
end
/-- '[]byte(s)' -/
theorem conv_bytes {P : Program} {src e dst : TypeId} (hs : P.underlying src = some .string) (hd : P.underlying dst = some (.slice e)) (he : P.underlying e = some (.int .u8)) (w : World) (l : List UInt8) :
    ∃ c W, (convert src dst (.string (str l))).run P w = .ok (.slice (some ⟨w.heap.size, 0, none⟩) l.length c) W ∧ Grow w W ∧ l.length ≤ c ∧ Bytes W (some ⟨w.heap.size, 0, none⟩) l.length l ∧ (l.length ≤ maxLen → c ≤ maxLen) := by
  have h := run_bytes_of_string (P := P) w src dst e (str l) hs hd he
  rw [str_size] at h
  refine ⟨_, _, h, (Grow.drew w).trans (Grow.alloc _ _), grownCap_ge _ _ _ _, ⟨by simp [u8s], fun _ => ⟨_, _, rfl, fun j u hu => ?_⟩⟩, fun hm => grownCap_le_maxLen _ _ _ _ hm⟩
  have hj : j < l.length := by have := (List.getElem?_eq_some_iff.1 hu).1; simpa [u8s] using this
  have h2 := bytesRow_at (str l) (grownCap w l.length 0 e) j (by simpa [str] using hj)
  have e1 : u = .int .u8 ((str l).data[j]'(by simpa [str] using hj)).toNat := by
    unfold u8s at hu
    rw [List.getElem?_map, List.getElem?_eq_getElem hj] at hu
    simp only [Option.map_some, Option.some.injEq] at hu
    rw [← hu]
    simp [u8v, str]
  rw [Nat.zero_add, e1, ← h2]
  have hd : w.drew.heap = w.heap := rfl
  simp [World.cell?, World.alloc, hd]
end Go.Kit
