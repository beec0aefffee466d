/- A relation for regions in which an append may write into the room of a row of the region's own: the first b cells of each such block stay. -/
import Derived.Test.YtfmaicjgndbffaaOwn
import Derived.ArgAppend
import Derived.Laws.OwnMore
namespace Go.Kit
open Go Go.RowKit Go.Par

def Room (base b : Nat) (w w' : World) : Prop :=
  (base ≤ w.heap.size → Below base w w') ∧ w.heap.size ≤ w'.heap.size ∧
  ∀ g cur e fz, base ≤ g → w.heap[g]? = some (.cells cur e fz) → ∃ cur' : Array Value, w'.heap[g]? = some (.cells cur' e fz) ∧ cur'.size = cur.size ∧ ∀ j, j < b → cur'[j]? = cur[j]?
theorem Room.of {base b : Nat} {w w' : World} (h : Grow w w') : Room base b w w' :=
  ⟨fun hb => h.below hb, h.size, fun _ cur _ _ _ hc => ⟨cur, h.block hc, rfl, fun _ _ => rfl⟩⟩
theorem Room.refl {base b : Nat} (w : World) : Room base b w w := .of (Grow.refl w)
theorem Room.drew {base b : Nat} (w : World) : Room base b w w.drew := .of (Grow.drew w)
theorem Room.trans {base b : Nat} {w1 w2 w3 : World} (h : Room base b w1 w2) (k : Room base b w2 w3) : Room base b w1 w3 := by
  refine ⟨fun hb => Below.trans (h.1 hb) (k.1 (Nat.le_trans hb h.2.1)), Nat.le_trans h.2.1 k.2.1, fun g cur e fz hg hc => ?_⟩
  obtain ⟨c2, a1, a2, a3⟩ := h.2.2 g cur e fz hg hc
  obtain ⟨c3, b1, b2, b3⟩ := k.2.2 g c2 e fz hg a1
  exact ⟨c3, b1, by rw [b2, a2], fun j hj => by rw [b3 j hj, a3 j hj]⟩
theorem Room.grow {b : Nat} {w w' : World} (h : Room w.heap.size b w w') : Grow w w' := h.1 (Nat.le_refl _)

/-- a row of the region's own, of b elements -/
def OwnAt (base b : Nat) (e : TypeId) (xs : List Value) : Value → World → Prop := fun v w => ∃ g cap, v = .slice (some ⟨g, 0, none⟩) b cap ∧ w.ownsRow base e 1 v b xs
theorem OwnAt.mono {base b : Nat} {e : TypeId} {xs : List Value} : Mono (Room base b) (OwnAt base b e xs) := by
  rintro v w w' ⟨g, cap, rfl, h1, h2⟩ hR
  refine ⟨g, cap, rfl, h1, ?_⟩
  rcases h2 with ⟨h3, _⟩ | ⟨g', cap', cur, hv, hg, hh, a, b', c, d⟩
  · cases h3
  · injection hv with hv1 _ hv2
    injection hv1 with hv1
    injection hv1 with hv1
    subst hv1; subst hv2
    obtain ⟨cur', x1, x2, x3⟩ := hR.2.2 _ _ _ _ hg hh
    refine .inr ⟨g, cap, cur', rfl, hg, x1, a, b', by rw [x2]; exact c, ?_⟩
    rw [← d]
    apply List.ext_getElem?
    intro j
    rw [Nat.mul_one, List.getElem?_take, List.getElem?_take]
    split
    · rw [Array.getElem?_toList, Array.getElem?_toList]; exact x3 j (by assumption)
    · rfl
/-- a slice that begins with these b cells, in a block of the region's own -/
def Begins (base b : Nat) (xs : List Value) (n : Nat) : Value → World → Prop := fun v w => ∃ g cap cur e fz, v = .slice (some ⟨g, 0, none⟩) n cap ∧ base ≤ g ∧ n ≤ cap ∧ cap ≤ maxLen ∧ w.heap[g]? = some (.cells cur e fz) ∧ ∀ j, j < b → cur[j]? = xs[j]?
theorem Begins.mono {base b n : Nat} {xs : List Value} : Mono (Room base b) (Begins base b xs n) := by
  rintro v w w' ⟨g, cap, cur, e, fz, rfl, h1, h2, h3, h4, h5⟩ hR
  obtain ⟨cur', x1, x2, x3⟩ := hR.2.2 _ _ _ _ h1 h4
  exact ⟨g, cap, cur', e, fz, rfl, h1, h2, h3, x1, fun j hj => by rw [x3 j hj, h5 j hj]⟩
theorem Begins.row {base b n : Nat} {xs : List Value} {v : Value} {w : World} (h : Begins base b xs n v w) (hl : xs.length = b) : ∃ g cap, v = .slice (some ⟨g, 0, none⟩) n cap ∧ n ≤ cap ∧ cap ≤ maxLen ∧ Row w (some ⟨g, 0, none⟩) b xs := by
  obtain ⟨g, cap, cur, e, fz, rfl, h1, h2, h3, h4, h5⟩ := h
  refine ⟨g, cap, rfl, h2, h3, hl, fun _ => ⟨g, 0, rfl, fun j u hu => ?_⟩⟩
  have hj : j < b := by rw [← hl]; exact (List.getElem?_eq_some_iff.1 hu).1
  rw [Nat.zero_add]
  simp [World.cell?, h4, h5 j hj, hu]
theorem begins_of {w : World} {base e b n g cap : Nat} {xs news : List Value} (hl : xs.length = b) (h : w.ownsRow base e 1 (.slice (some ⟨g, 0, none⟩) n cap) n (xs ++ news)) :
    Begins base b xs n (.slice (some ⟨g, 0, none⟩) n cap) w := by
  obtain ⟨h1, h2⟩ := h
  rcases h2 with ⟨h3, _⟩ | ⟨g', cap', cur, hv, hg, hh, a, b', c, d⟩
  · cases h3
  · injection hv with hv1 _ hv2
    injection hv1 with hv1
    injection hv1 with hv1
    subst hv1; subst hv2
    refine ⟨g, cap, cur, e, _, rfl, hg, a, b', hh, fun j hj => ?_⟩
    have h6 : (cur.toList.take (n * 1))[j]? = (xs ++ news)[j]? := by rw [d]
    rw [List.length_append] at h1
    rw [List.getElem?_take_of_lt (by omega), List.getElem?_append_left (by omega), Array.getElem?_toList] at h6
    exact h6
/-- what an owned row's block holds -/
theorem own_block {w : World} {base e n g cap : Nat} {xs : List Value} (h : w.ownsRow base e 1 (.slice (some ⟨g, 0, none⟩) n cap) n xs) :
    ∃ cur : Array Value, w.heap[g]? = some (.cells cur e (0, 0)) ∧ base ≤ g ∧ cur.size = cap ∧ ∀ j, j < n → cur[j]? = xs[j]? := by
  obtain ⟨h1, h2⟩ := h
  rcases h2 with ⟨h3, _⟩ | ⟨g', cap', cur, hv, hg, hh, a, b', c, d⟩
  · cases h3
  · injection hv with hv1 _ hv2
    injection hv1 with hv1
    injection hv1 with hv1
    subst hv1; subst hv2
    refine ⟨cur, hh, hg, by omega, fun j hj => ?_⟩
    rw [← d, List.getElem?_take_of_lt (by omega), Array.getElem?_toList]
/-- an append into the room -/
theorem room_fits {w w' : World} {base b e n g cap : Nat} {xs news : List Value} (hl : xs.length = b) (hn : b ≤ n) (h : w.ownsRow base e 1 (.slice (some ⟨g, 0, none⟩) b cap) b xs)
    (h' : w'.ownsRow base e 1 (.slice (some ⟨g, 0, none⟩) n cap) n (xs ++ news)) (hg : w.grownBy w' (some g)) : Room base b w w' := by
  obtain ⟨c1, a1, a2, a3, a4⟩ := own_block h
  obtain ⟨c2, b1, _, b3, b4⟩ := own_block h'
  refine ⟨fun hb => Below.grown (Below.refl base w) hg hb (fun k hk => by injection hk with hk; omega), hg.size, fun g' cur e' fz hg' hc => ?_⟩
  by_cases hgg : g' = g
  · subst hgg
    rw [a1] at hc
    injection hc with hc
    injection hc with hc1 hc2 hc3
    subst hc1; subst hc2; subst hc3
    refine ⟨c2, b1, by omega, fun j hj => ?_⟩
    rw [b4 j (by omega), a4 j hj, List.getElem?_append_left (by omega)]
  · obtain ⟨_, _, _, _, g5⟩ := hg
    have hlt : g' < w.heap.size := (Array.getElem?_eq_some_iff.1 hc).1
    refine ⟨cur, ?_, rfl, fun _ _ => rfl⟩
    rw [g5 g' hlt (by simpa using hgg)]
    exact hc
theorem run_append_room8 {P : Program} (w : World) (base b : Nat) (t ty e : TypeId) (i : TypeInfo) (z : Value) (bytes : Nat) (ht : P.underlying t = some (.slice e)) (hi : P.info? e = some i) (hz : i.zero = some z)
    (hsize : i.size = 1) (hby : i.bytes = bytes) (hzs : z.cells.size = 1) (v : Value) (xs : List Value) (hown : OwnAt base b e xs v w)
    (A : Option Addr) (m c : Nat) (news : List Value) (hr : Row w A m news) (h1 : ∀ u ∈ news, u.oneCell' = true)
    (h63 : b + m ≤ maxLen) (hbytes : (b + m) * bytes ≤ 140737488355328) (hbase : base ≤ w.heap.size) :
    ∃ v' w', (Builtin.append_ #[t, t] ty #[v, .slice A m c]).run P w = .ok v' w' ∧ Room base b w w' ∧ Begins base b xs (b + m) v' w' := by
  obtain ⟨g, cap, rfl, hown⟩ := hown
  have hl : xs.length = b := by have := hown.1; omega
  by_cases h0 : m = 0
  · subst h0
    have hn : news = [] := List.eq_nil_of_length_eq_zero hr.1
    subst hn
    rcases A with _ | ad
    · exact ⟨_, w, run_append_of_nil w base t ty e i 1 ht hi _ b xs hown c, Room.refl w, begins_of (news := []) hl (by simpa using hown)⟩
    · have hcap : b + 0 ≤ cap := by
        rcases hown.2 with ⟨h3, _⟩ | ⟨_, _, _, hv, _, _, a, _, _, _⟩
        · cases h3
        · injection hv with _ _ hv2
          omega
      obtain ⟨w', hrun, h2, h3⟩ := run_append_fits (P := P) w base t ty e i 1 ht hi hsize g b cap xs hown ad 0 c [] (by simp) (fun j u hu => by simp at hu) h1 hcap
      exact ⟨_, w', hrun, room_fits hl (by omega) hown h2 h3, begins_of hl h2⟩
  · obtain ⟨b2, off, rfl, hc⟩ := hr.2 (by omega)
    have hcells : ∀ j u, news[j]? = some u → w.cell? ((⟨b2, off, none⟩ : Addr).add j) = some u := by
      intro j u hu
      have := hc j u hu
      by_cases hj : j = 0
      · subst hj; simpa [Addr.add] using this
      · simpa [Addr.add, hj] using this
    by_cases hcap : b + m ≤ cap
    · obtain ⟨w', hrun, h2, h3⟩ := run_append_fits (P := P) w base t ty e i 1 ht hi hsize g b cap xs hown ⟨b2, off, none⟩ m c news (by rw [hr.1, Nat.mul_one]) hcells h1 hcap
      exact ⟨_, w', hrun, room_fits hl (by omega) hown h2 h3, begins_of hl h2⟩
    · have hold : ∀ j u, xs[j]? = some u → w.cell? ((⟨g, 0, none⟩ : Addr).add j) = some u := by
        intro j u hu
        have := hown.cells rfl j u hu
        by_cases hj : j = 0
        · subst hj; simpa [Addr.add] using this
        · simpa [Addr.add, hj] using this
      obtain ⟨v', w', hrun, h2, h3⟩ := run_append_arg_grows (P := P) w t ty e i z 1 bytes ht hi hz hsize hby hzs (by decide) ⟨g, 0, none⟩ b cap xs (by omega) hold ⟨b2, off, none⟩ m c news (by rw [hr.1, Nat.mul_one]) hcells (by omega) h63 hbytes
      have hG : Grow w w' := Below.grown (Below.refl _ w) h3 (Nat.le_refl _) (fun k hk => by cases hk)
      have h4 := own_lower h2 hbase
      obtain ⟨g', cap', rfl⟩ : ∃ g' cap', v' = .slice (some ⟨g', 0, none⟩) (b + m) cap' := by
        rcases h2.2 with ⟨_, hv⟩ | ⟨g', cap', _, hv, _⟩
        · omega
        · exact ⟨g', cap', hv⟩
      exact ⟨_, w', hrun, Room.of hG, begins_of hl h4⟩
theorem wpList_append_room {P : Program} {ops : Array Oper} {rest : List Oper} {o : Oper} {a : Act} {w : World} {Q : Exit → Act → World → Prop} (hgd : o.guard = none) (s x : Operand) (t : TypeId)
    (ho : o.op = .call { callee := .builtin .append, args := #[s, x], argTypes := #[t, t] })
    (base b : Nat) (e : TypeId) (i : TypeInfo) (z : Value) (bytes : Nat) (ht : P.underlying t = some (.slice e)) (hi : P.info? e = some i) (hz : i.zero = some z)
    (hsize : i.size = 1) (hby : i.bytes = bytes) (hzs : z.cells.size = 1) (v : Value) (xs : List Value) (hs : a.eval s = v) (hown : OwnAt base b e xs v w)
    (A : Option Addr) (m c : Nat) (news : List Value) (hx : a.eval x = .slice A m c) (hr : Row w A m news) (h1 : ∀ u ∈ news, u.oneCell' = true)
    (h63 : b + m ≤ maxLen) (hbytes : (b + m) * bytes ≤ 140737488355328) (hbase : base ≤ w.heap.size)
    (h : ∀ v' w', Room base b w w' → Begins base b xs (b + m) v' w' → wpList P ops Q rest (a.put o.dst v') w') : wpList P ops Q (o :: rest) a w := by
  refine wpList_plain hgd fun K hK => ?_
  obtain ⟨v', w', hrun, h2, h3⟩ := run_append_room8 (P := P) w base b t o.type e i z bytes ht hi hz hsize hby hzs v xs hown A m c news hr h1 h63 hbytes hbase
  unfold Oper.wp execOp
  simp only [ho, resolve, invoke, builtin, Sem.run_bind, Sem.run_pure, Result.andThen_ok, List.map_toArray, List.map_cons, List.map_nil, hs, hx, hrun]
  exact hK _ _ (h v' w' h2 h3)
end Go.Kit
