/- Cells of a block of the call's own written over: for every program. -/
import Derived.Test.YthclgmpjmhacdaaArr
import Derived.Test.YthclgmpjmhacdaaMut
import Derived.ArgAppend
namespace Go.Kit
open Go Go.RowKit Go.Par

/-- a list written over from the o-th on -/
def over {α : Type} : List α → Nat → List α → List α
  | cs, _, [] => cs
  | cs, o, v :: r => over (cs.set o v) (o + 1) r
theorem over_len {α : Type} : ∀ (vs cs : List α) (o : Nat), (over cs o vs).length = cs.length
  | [], _, _ => rfl
  | _ :: r, cs, o => by rw [over, over_len r, List.length_set]
theorem over_eq {α : Type} : ∀ (vs cs : List α) (o : Nat), o + vs.length ≤ cs.length → over cs o vs = cs.take o ++ vs ++ cs.drop (o + vs.length)
  | [], cs, o, _ => by simp [over]
  | v :: r, cs, o, h => by
    simp only [List.length_cons] at h
    rw [over, over_eq r _ _ (by rw [List.length_set]; omega), List.take_add_one, List.getElem?_set_self (by omega), List.take_set_of_le (Nat.le_refl _)]
    rw [List.drop_set_of_lt (by omega)]
    simp only [Option.toList_some, List.append_assoc, List.cons_append, List.nil_append, List.length_cons]
    rw [show o + 1 + r.length = o + (r.length + 1) by omega]
theorem Blk.setCells {g : Nat} {t : TypeId} : ∀ (vs : List Value) {w : World} {cs : List Value} (o : Nat), Blk w g t cs → Blk (w.setCells g o vs) g t (over cs o vs)
  | [], _, _, _, h => h
  | v :: r, _, _, o, h => Blk.setCells r (o + 1) (h.set_ o v)
theorem setCells_keep {B : Nat} {K : Nat → Prop} {w0 : World} {g : Nat} (hB : B ≤ g) (hK : ¬ K g) : ∀ (vs : List Value) (w : World) (o : Nat), Keep B K w0 w → Keep B K w0 (w.setCells g o vs)
  | [], _, _, h => h
  | v :: r, _, o, h => setCells_keep hB hK r _ (o + 1) (h.setCell hB hK v)
/-- a row of the call's own, as its block -/
theorem own_open {w : World} {base e size n : Nat} {v : Value} {xs : List Value} (h : w.ownsRow base e size v n xs) (hn : 0 < n) :
    ∃ g cap cur, v = .slice (some ⟨g, 0, none⟩) n cap ∧ base ≤ g ∧ Blk w g e cur ∧ n ≤ cap ∧ cap ≤ maxLen ∧ cur.length = cap * size ∧ cur.take (n * size) = xs := by
  rcases h.2 with ⟨_, h0⟩ | ⟨g, cap, cur, e1, h1, h2, h3, h4, h5, h6⟩
  · omega
  · exact ⟨g, cap, cur.toList, e1, h1, by unfold Blk; rw [h2], h3, h4, by simpa using h5, h6⟩
theorem own_shut {w : World} {base e size n g cap : Nat} {cur xs : List Value} (hb : base ≤ g) (h : Blk w g e cur) (h3 : n ≤ cap) (h4 : cap ≤ maxLen) (h5 : cur.length = cap * size) (h6 : cur.take (n * size) = xs) :
    w.ownsRow base e size (.slice (some ⟨g, 0, none⟩) n cap) n xs := by
  refine ⟨?_, .inr ⟨g, cap, cur.toArray, rfl, hb, h, h3, h4, by simpa using h5, by simpa using h6⟩⟩
  rw [← h6, List.length_take, h5]
  exact Nat.min_eq_left (Nat.mul_le_mul_right _ h3)
section
variable {P : Program}
/-- append where there is room -/
theorem wpList_append_room {ops : Array Oper} {rest : List Oper} {o : Oper} {a : Act} {w : World} {Q : Exit → Act → World → Prop}
    (hg : o.guard = none) (s x : Operand) (t : TypeId) (hop : o.op = Op.call { callee := Callee.builtin Builtin.append, args := #[s, x], argTypes := #[t, t] })
    (e : TypeId) (i : TypeInfo) (size : Nat) (h1 : P.underlying t = some (.slice e)) (h2 : P.info? e = some i) (h4 : i.size = size)
    (b off n cap : Nat) (hs : a.eval s = .slice (some ⟨b, off, none⟩) n cap) (ad : Addr) (m c : Nat) (news : List Value) (hx : a.eval x = .slice (some ad) m c) (hn : news.length = m * size)
    (hc : ∀ j u, news[j]? = some u → w.cell? (ad.add j) = some u) (h1c : ∀ u ∈ news, u.oneCell' = true)
    (hroom : n + m ≤ cap) (hspare : ∀ j, j < news.length → (w.cell? ⟨b, off + n * size + j, none⟩).isSome = true ∧ w.frozen? ⟨b, off + n * size + j, none⟩ = false)
    (hK : wpList P ops Q rest (a.put o.dst (.slice (some ⟨b, off, none⟩) (n + m) cap)) (w.setCells b (off + n * size) news)) : wpList P ops Q (o :: rest) a w := by
  refine wpList_plain hg fun K hK' => ?_
  subst h4
  have hrun := run_append_room_cells (P := P) w t o.type e i h1 h2 b off n cap ad m c news hn hc h1c hroom (fun j hj => (hspare j hj).1) (fun j hj => (hspare j hj).2)
  unfold Oper.wp
  simp [execOp, hop, resolve, invoke, builtin, hs, hx, hrun, Result.andThen]
  exact hK' _ _ hK
/-- clear, of a slice -/
theorem wpList_clear {ops : Array Oper} {rest : List Oper} {o : Oper} {a : Act} {w : World} {Q : Exit → Act → World → Prop}
    (hg : o.guard = none) (x : Operand) (t : TypeId) (hop : o.op = Op.call { callee := Callee.builtin Builtin.clear, args := #[x], argTypes := #[t] })
    (e : TypeId) (z : Value) (h1 : P.underlying t = some (.slice e)) (hz : ∀ w, (zeroValue e).run P w = .ok z w)
    (b off n cap : Nat) (hx : a.eval x = .slice (some ⟨b, off, none⟩) n cap) (hn : 0 < n) (news : List Value) (hnews : (Builtin.zeroCells z.cells n).toList = news) (h1c : ∀ u ∈ news, u.oneCell' = true)
    (hspare : ∀ j, j < news.length → (w.cell? ⟨b, off + j, none⟩).isSome = true ∧ w.frozen? ⟨b, off + j, none⟩ = false)
    (hK : wpList P ops Q rest (a.put o.dst (.tuple #[])) (w.setCells b off news)) : wpList P ops Q (o :: rest) a w := by
  refine wpList_plain hg fun K hK' => ?_
  have hst := run_storeCells_cells (P := P) b off news 0 w (fun j hj => by rw [Nat.add_zero]; exact (hspare j hj).1) (fun j hj => by rw [Nat.add_zero]; exact (hspare j hj).2) h1c
  rw [Nat.add_zero] at hst
  obtain ⟨m, rfl⟩ : ∃ m, n = m + 1 := ⟨n - 1, by omega⟩
  have hrun : (Builtin.clear_ #[t] o.type #[.slice (some ⟨b, off, none⟩) (m + 1) cap]).run P w = .ok (.tuple #[]) (w.setCells b off news) := by
    simp [Builtin.clear_, run_underlying h1, hz, hnews, hst]
  unfold Oper.wp
  simp [execOp, hop, resolve, invoke, builtin, hx, hrun, Result.andThen]
  exact hK' _ _ hK
end
end Go.Kit
