/- Maps: of names to vectors, and of vectors to numbers. -/
import Derived.Test.YthclgmpjmhacdaaTgV
import Derived.Test.YthclgmpjmhacdaaStr
import Derived.Maps.OwnSet
import Derived.DeepKeys4
import Derived.MapViews
import Derived.Sort.KeysCollected
namespace Go.Proofs.Ythclgmpjmhacdaa.tg
open Go Go.RowKit Go.Par Go.Kit Go.Maps Go.WideMaps Go.ChangeMaps Go.MapKept

theorem findIdx_at {es : Array MapEntry} {f : MapEntry → MapEntry} {j : Nat} {e : MapEntry} (hn : (es.toList.map (·.born)).Nodup) (he : es[j]? = some e) (hf : ∀ x, (f x).born = x.born) : (es.modify j f).findIdx? (fun x => (x.born : Int) == (e.born : Int)) = some j := by
  obtain ⟨hj, rfl⟩ := Array.getElem?_eq_some_iff.1 he
  rw [Array.findIdx?_eq_some_iff_getElem]
  refine ⟨by simpa using hj, by simp [Array.getElem_modify, hf], fun i hi => ?_⟩
  have hx : (es.toList.map (·.born))[i]? ≠ (es.toList.map (·.born))[j]? := fun e => by
    have := (List.getElem?_inj (by simp; omega) hn).1 e
    omega
  have hi2 : i < es.size := by omega
  simp [List.getElem?_map, Array.getElem?_toList, Array.getElem?_eq_getElem hi2, Array.getElem?_eq_getElem hj] at hx
  simp [Array.getElem_modify, show ¬ j = i by omega]
  omega
section
variable {H : Type} {P : Program} {k : TypeId} {R : Value → Option (DataW H × List MemPlace)} {w : World} {b n : Nat} {D : DataW H}
/-- block b is the map D, and has an entry of a key with a stamp -/
def Ent (P : Program) (k : TypeId) (R : Value → Option (DataW H × List MemPlace)) (w : World) (b n : Nat) (D : DataW H) (key : Value) (s : Nat) : Prop :=
  w.ownsMap P k R b n D ∧ ∃ (es : Array MapEntry) (clock j : Nat) (e : MapEntry), w.heap[b]? = some (.map es clock) ∧ es[j]? = some e ∧ e.key = key ∧ e.born = s
theorem modify_self (es : Array MapEntry) (j : Nat) (e : MapEntry) (f : MapEntry → MapEntry) (h : es[j]? = some e) (hf : f e = e) : es.modify j f = es := by
  obtain ⟨hj, rfl⟩ := Array.getElem?_eq_some_iff.1 h
  apply Array.ext (by simp)
  intro i h1 h2
  simp only [Array.getElem_modify]
  split
  · rename_i e; subst e; exact hf
  · rfl
theorem setBlock_self {es : Array MapEntry} {clock : Nat} (h : w.heap[b]? = some (.map es clock)) : setBlock w b (.map es clock) = w := by
  have e : w.heap.setIfInBounds b (.map es clock) = w.heap := by
    apply Array.ext_getElem?
    intro i
    by_cases hi : i = b
    · subst hi
      exact (heap_setBlock_same h _).trans h.symm
    · exact heap_setBlock_other h _ hi
  unfold setBlock
  rw [e]
theorem ent_made {t e : TypeId} (h : w.ownsMap P k R b n D) (K : Keyed P k) (ht : P.underlying t = some (.map k e)) (hn : n < maxLen) {z : Value} (hz : (zeroValue e).run P w = .ok z w) {zd : DataW H} {zp : List MemPlace} (hzd : R z = some (zd, zp)) {key : Value} {kl : Lit} (hkey : keyOf P k key = some kl) :
    ∃ u s w1 D1, (Instr.mapEntry t (.map (some b)) key).run P w = .ok (.tuple #[u, .int .i64 (s : Nat)]) w1 ∧ Ent P k R w1 b (n + 1) D1 key s ∧ w.grownBy w1 (some b) ∧ (D1 = D ∨ D1 = D.put kl zd ∧ Maps.has D kl = false) := by
  obtain ⟨es, clock, hb, F, hs, hD⟩ := h
  rcases K.find w hkey es.toList F.keys with ⟨h1, h2⟩ | ⟨j, e0, h1, h2, h3⟩
  · obtain ⟨w1, hr, ho, hg⟩ := World.ownsMap.update (w := w) (D := D) ⟨es, clock, hb, F, hs, hD⟩ K ht hn hkey hzd
    have hw1 : w1 = setBlock w b (.map (es.push ⟨key, z, clock⟩) (clock + 1)) := by
      have hr2 := hr
      simp [Instr.mapUpdate, run_underlying ht, MapKept.run_getObj_map hb, K.check w false hkey, h1, MapKept.run_setObj_map _ hb, Result.andThen] at hr2
      rw [← hr2]
      rfl
    have hb1 : w1.heap[b]? = some (.map (es.push ⟨key, z, clock⟩) (clock + 1)) := by rw [hw1]; exact heap_setBlock_same hb _
    refine ⟨z, clock, w1, _, ?_, ⟨ho, _, _, es.size, ⟨key, z, clock⟩, hb1, by simp, rfl, rfl⟩, hg, .inr ⟨rfl, ?_⟩⟩
    · rw [hw1]
      simp [Instr.mapEntry, run_underlying ht, MapKept.run_getObj_map hb, K.check w false hkey, h1, hz, MapKept.run_setObj_map _ hb, Result.andThen, setBlock, goInt]
    · rcases Maps.fit_look true K ht hz hb F hkey with ⟨_, _, hat⟩ | ⟨e0, y, hm, hk, _⟩
      · rw [hD]
        exact Maps.has_false_of_atKey hat
      · exact absurd hk (h2 e0 hm)
  · have hj : es[j]? = some e0 := by simpa using h2
    refine ⟨e0.val, e0.born, w, D, ?_, ⟨⟨es, clock, hb, F, by omega, hD⟩, es, clock, j, e0, hb, hj, h3, rfl⟩, World.grownBy.refl w _, .inl rfl⟩
    have e1 : es.modify j (fun e => { e with key := key }) = es := modify_self es j e0 _ hj (by rw [← h3])
    simp [Instr.mapEntry, run_underlying ht, MapKept.run_getObj_map hb, K.check w false hkey, h1, hj, h3, K.stays w hkey, MapKept.run_setObj_map _ hb, Result.andThen, goInt, e1]
    exact setBlock_self hb
theorem Ent.store {t e : TypeId} {key : Value} {s : Nat} (h : Ent P k R w b n D key s) (K : Keyed P k) (ht : P.underlying t = some (.map k e)) {kl : Lit} (hkey : keyOf P k key = some kl) (val : Value) :
    (Instr.entryStore t (.map (some b)) (.int .i64 (s : Nat)) val).run P w = (Instr.mapUpdate t (.map (some b)) key val).run P w := by
  obtain ⟨⟨es, clock, hb, F, _, rfl⟩, es', clock', i, e, hb', hi, rfl, rfl⟩ := h
  rw [hb] at hb'
  injection hb' with hb'
  injection hb' with hb1 hb2
  subst hb1 hb2
  rcases K.find w hkey es.toList F.keys with ⟨h1, h2⟩ | ⟨j, e0, h1, h2, h3⟩
  · exact absurd rfl (h2 e (by obtain ⟨hi, rfl⟩ := Array.getElem?_eq_some_iff.1 hi; simp))
  · have hj : es[j]? = some e0 := by simpa using h2
    obtain ⟨hil, hi2⟩ := Array.getElem?_eq_some_iff.1 hi
    obtain ⟨hjl, hj2⟩ := Array.getElem?_eq_some_iff.1 hj
    obtain rfl : j = i := (List.getElem?_inj (by simp; exact hjl) F.stamped.2.2).1 (show (es.toList.map (·.key))[j]? = (es.toList.map (·.key))[i]? by simp [List.getElem?_map, Array.getElem?_toList, hi, hj, h3])
    obtain rfl : e0 = e := by rw [hi] at hj; injection hj with hj; exact hj.symm
    have e2 : es.findIdx? (fun x => (x.born : Int) == (e0.born : Int)) = some j := by
      have := findIdx_at (f := fun x => x) F.stamped.2.1 hi (fun _ => rfl)
      rwa [modify_self es j e0 _ hi rfl] at this
    have e3 : es.modify j (fun x => { x with key := e0.key, val := val }) = es.modify j (fun x => { x with val := val }) := by
      apply Array.ext (by simp)
      intro i h1 h2
      simp only [Array.getElem_modify]
      split
      · rename_i e; subst e; rw [hi2]
      · rfl
    simp [Instr.mapUpdate, Instr.entryStore, run_underlying ht, MapKept.run_getObj_map hb, K.check w false hkey, h1, hi, K.stays w hkey, MapKept.run_setObj_map _ hb, Result.andThen, asInt, asIntOf, e2, e3]
end
/-! ### the two maps -/
abbrev TS : TypeId := 9
abbrev TSM : TypeId := 76
abbrev TNM : TypeId := 77
theorem laidOut : laidOutB Try.prog = true := by kernel_rfl
theorem keyedS : Keyed Try.prog TS := string_keyed (by kernel_rfl)
theorem rowV : (TV : TypeId) < Try.prog.types.size := of_decide_eq_true (by kernel_rfl)
theorem wideV : (match Try.prog.underlying TV with | some (.array _ _) | some (.struct _) => true | _ => false) = true := by rw [undV]
set_option maxRecDepth 100000 in
theorem keyedV : Keyed Try.prog TV := Keyed.of_law (deep_law_laid laidOut (m := 3) (by omega) rowV (by kernel_rfl) wideV)
theorem keyTV : Try.prog.keyType TV = true := by kernel_rfl
theorem cellsV : Try.prog.cellsOf TV = 64 := by kernel_rfl
theorem cells16 : Try.prog.cellsOf 35 = 1 := by kernel_rfl
def keyS (s : List UInt8) : Lit := .string s
theorem key_str {s : List UInt8} (h : s.length ≤ maxLen) : keyOf Try.prog TS (.string (str s)) = some (.string s) := by
  have hu : Try.prog.underlying TS = some .string := by kernel_rfl
  unfold keyOf
  rw [hu]
  unfold mapKey
  rw [hu]
  simp [str_size, h]
  simp [str]
theorem lits_16 (d : Nat) {a : Int} (h0 : 0 ≤ a) (h1 : a ≤ 65535) : Try.prog.keyLits (d + 1) 35 [.int .u16 a] = some [.int .u16 a] := by
  have hwa : (Lit.int .u16 a).wf = true := by simp [Lit.wf, IntKind.min, IntKind.max, IntKind.signed, IntKind.bits]; omega
  unfold Program.keyLits
  rw [Try.underlying35]
  simp [hwa]
theorem mapM_some {α β : Type} (f : α → Option β) (l : List α) (h : ∀ x ∈ l, ∃ y, f x = some y) : ∃ ys, l.mapM f = some ys := by
  induction l with
  | nil => exact ⟨[], rfl⟩
  | cons x r ih =>
    obtain ⟨y, hy⟩ := h x (by simp)
    obtain ⟨ys, hys⟩ := ih fun x hx => h x (by simp [hx])
    exact ⟨y :: ys, by simp [List.mapM_cons, hy, hys]⟩
set_option maxRecDepth 100000 in
theorem key_vec {v : List Int} (hv : VecOk v) : ∃ l, keyOf Try.prog TV (vv v) = some l := by
  have hs : Try.prog.types.size + 1 = (Try.prog.types.size - 1) + 1 + 1 := by kernel_rfl
  have hcl : (vv v).cells.toList = ints .u16 v := by unfold vv Value.cells; simp
  have e : ∃ ls, Try.prog.keyLits (Try.prog.types.size + 1) TV (vv v).cells.toList = some ls := by
    rw [hs, hcl]
    unfold Program.keyLits
    rw [undV]
    have hl : (ints .u16 v).length = 64 := by simp [ints, hv.1]
    simp only [hl, cellsV, cells16, if_true, Nat.mul_one]
    obtain ⟨ys, hys⟩ := mapM_some (fun i => Try.prog.keyLits (Try.prog.types.size - 1 + 1) 35 (((ints .u16 v).drop i).take 1)) (List.range 64) fun i hi => by
      have hi : i < 64 := by simpa using hi
      have hiv : i < v.length := by rw [hv.1]; exact hi
      have hx : v[i]? = some v[i] := List.getElem?_eq_getElem hiv
      have hm := hv.2 _ (List.mem_of_getElem? hx)
      refine ⟨[.int .u16 v[i]], ?_⟩
      have : ((ints .u16 v).drop i).take 1 = [.int .u16 v[i]] := by
        rw [List.drop_eq_getElem_cons (by rw [hl]; exact hi)]
        simp [ints]
      rw [this]
      exact lits_16 _ hm.1 hm.2
    exact ⟨ys.flatten, by rw [hys]; rfl⟩
  obtain ⟨ls, e⟩ := e
  refine ⟨.string (keyBytes ls), ?_⟩
  unfold keyOf
  have hf : (vv v).formed Try.prog TV = true := by
    unfold vv Value.formed
    simp only [undV, cellsV]
    simp [ints, hv.1]
  simp only [undV, keyTV, hf, Bool.and_self, if_true, e, Option.map_some]
theorem ints_inj {k : IntKind} {a b : List Int} (h : ints k a = ints k b) : a = b := by
  unfold ints at h
  exact List.map_inj_right (fun x y e => by injection e) |>.1 h
theorem vv_inj {a b : List Int} (h : vv a = vv b) : a = b := by
  unfold vv at h
  injection h with h
  exact ints_inj (List.toArray_inj h)
/-- an element is held as it stands -/
def heldE : Value → Option (DataW Value × List MemPlace) := fun v => some (.held v, [])
theorem heldE_inv {v u : Value} {ps : List MemPlace} (h : heldE v = some (.held u, ps)) : v = u := by
  unfold heldE at h
  injection h with h
  injection h with h _
  injection h
abbrev Tag := List UInt8 × List Int
def TagsOk (L : List Tag) : Prop := (L.map (·.1)).Nodup ∧ ∀ t ∈ L, t.1.length ≤ maxLen ∧ VecOk t.2
def hasT (L : List Tag) (s : List UInt8) : Bool := L.any fun t => t.1 == s
def getT (L : List Tag) (s : List UInt8) : List Int := match L.find? (fun t => t.1 == s) with | some t => t.2 | none => List.replicate 64 0
/-- block b is the map of L -/
def MapT (w : World) (b n : Nat) (L : List Tag) : Prop :=
  ∃ D : DataW Value, w.ownsMap Try.prog TS heldE b n D ∧ (∀ s, Maps.has D (.string s) = hasT L s) ∧ ∀ t ∈ L, ∀ z, D.atKey (.string t.1) z = .held (vv t.2)
/-- block b counts what there is of each vector -/
def MapN (w : World) (b n : Nat) (C : List Int → Int) : Prop :=
  ∃ D : DataW Value, w.ownsMap Try.prog TV heldE b n D ∧ ∀ v l, keyOf Try.prog TV (vv v) = some l → D.atKey l (.held (.int .i64 0)) = .held (.int .i64 (C v))
section
variable {w w' : World} {b n : Nat} {L : List Tag} {C : List Int → Int}
theorem MapT.same (h : MapT w b n L) (he : w'.heap[b]? = w.heap[b]?) : MapT w' b n L := by
  obtain ⟨D, ⟨es, clock, hb, h1⟩, h2⟩ := h
  exact ⟨D, ⟨es, clock, he.trans hb, h1⟩, h2⟩
theorem MapN.same (h : MapN w b n C) (he : w'.heap[b]? = w.heap[b]?) : MapN w' b n C := by
  obtain ⟨D, ⟨es, clock, hb, h1⟩, h2⟩ := h
  exact ⟨D, ⟨es, clock, he.trans hb, h1⟩, h2⟩
theorem MapT.lt (h : MapT w b n L) : b < w.heap.size := by obtain ⟨D, h, -⟩ := h; exact h.lt
theorem MapN.lt (h : MapN w b n C) : b < w.heap.size := by obtain ⟨D, h, -⟩ := h; exact h.lt
theorem MapT.grow (h : MapT w b n L) (hg : Grow w w') : MapT w' b n L := h.same (Below.block hg b h.lt)
theorem MapN.grow (h : MapN w b n C) (hg : Grow w w') : MapN w' b n C := h.same (Below.block hg b h.lt)
theorem MapT.made (w : World) : MapT (w.alloc (.map #[] 0)) w.heap.size 0 [] := ⟨_, World.ownsMap_made w _ TS heldE, fun _ => rfl, by simp⟩
theorem MapN.made (w : World) : MapN (w.alloc (.map #[] 0)) w.heap.size 0 (fun _ => 0) := ⟨_, World.ownsMap_made w _ TV heldE, fun _ _ _ => rfl⟩
theorem undSM : Try.prog.underlying TSM = some (.map TS TV) := by kernel_rfl
theorem undNM : Try.prog.underlying TNM = some (.map TV 3) := by kernel_rfl
theorem zeroI (w : World) : (zeroValue 3).run Try.prog w = .ok (.int .i64 0) w := by kernel_rfl
theorem zeroV (w : World) : (zeroValue TV).run Try.prog w = .ok (vv (List.replicate 64 0)) w := by kernel_rfl
theorem getT_no {s : List UInt8} (h : hasT L s = false) : getT L s = List.replicate 64 0 := by
  unfold getT
  rw [List.find?_eq_none.2 (by simpa [hasT] using h)]
theorem getT_yes {s : List UInt8} (h : hasT L s = true) : (s, getT L s) ∈ L := by
  unfold getT
  obtain ⟨t, ht, he⟩ := List.any_eq_true.1 h
  cases hf : L.find? (fun t => t.1 == s) with
  | none => exact absurd he (by simpa using List.find?_eq_none.1 hf t ht)
  | some u =>
    have h1 := List.find?_some hf
    have h2 := List.mem_of_find?_eq_some hf
    simp at h1
    rw [← h1]
    exact h2
theorem MapT.look (h : MapT w b n L) {s : List UInt8} (hs : s.length ≤ maxLen) : (Instr.lookup TSM (.map (some b)) (.string (str s)) true).run Try.prog w = .ok (.tuple #[vv (getT L s), .bool (hasT L s)]) w := by
  obtain ⟨D, h1, h2, h3⟩ := h
  obtain ⟨v, ps, hr, hv⟩ := h1.look_ok keyedS undSM (zeroV w) rfl (key_str hs)
  rw [hr, h2 s]
  cases hc : hasT L s with
  | false =>
    rw [Maps.atKey_of_not_has (by rw [h2]; exact hc)] at hv
    rw [heldE_inv hv, getT_no hc]
  | true =>
    rw [h3 _ (getT_yes hc)] at hv
    rw [heldE_inv hv]
theorem MapT.get (h : MapT w b n L) {s : List UInt8} (hs : s.length ≤ maxLen) : (Instr.lookup TSM (.map (some b)) (.string (str s)) false).run Try.prog w = .ok (vv (getT L s)) w := by
  obtain ⟨D, h1, h2, h3⟩ := h
  obtain ⟨v, ps, hr, hv⟩ := h1.lookup keyedS undSM (zeroV w) rfl (key_str hs)
  rw [hr]
  cases hc : hasT L s with
  | false =>
    rw [Maps.atKey_of_not_has (by rw [h2]; exact hc)] at hv
    rw [heldE_inv hv, getT_no hc]
  | true =>
    rw [h3 _ (getT_yes hc)] at hv
    rw [heldE_inv hv]
theorem MapT.keys {D : DataW Value} (h1 : w.ownsMap Try.prog TS heldE b n D) (h2 : ∀ s, Maps.has D (.string s) = hasT L s) (hL : (L.map (·.1)).Nodup) : (L.map (·.1)).Perm (strKeys D) := by
  obtain ⟨es, hD, hpw, _⟩ := h1.entries keyedS
  obtain ⟨es', hD', hko⟩ := h1.keysOf
  obtain rfl : es = es' := by rw [hD] at hD'; simpa using hD'
  subst hD
  refine perm_strKeys hpw (fun p hp => by obtain ⟨v, hv⟩ := hko p hp; obtain ⟨x, _, hx, _⟩ := Maps.keyOf_str (by kernel_rfl) hv; exact ⟨x, hx⟩) hL fun x => ?_
  rw [h2 x]
  simp [hasT]
theorem size_keys {H : Type} {D : DataW H} (h : IsMap D) : Maps.size D = (strKeys D).length := by
  obtain ⟨es, rfl⟩ := h
  simp [Maps.size, strKeys]
theorem MapT.len (h : MapT w b n L) (hL : (L.map (·.1)).Nodup) (ty : TypeId) : (Builtin.len_ #[TSM] ty #[.map (some b)]).run Try.prog w = .ok (.int .i64 L.length) w := by
  obtain ⟨D, h1, h2, h3⟩ := h
  rw [h1.len undSM ty, size_keys h1.isMap, ← (MapT.keys h1 h2 hL).length_eq, List.length_map]
theorem MapT.store (h : MapT w b n L) (hn : n < maxLen) {s : List UInt8} (hs : s.length ≤ maxLen) {v : List Int} {L' : List Tag} (h1 : ∀ x, hasT L' x = (x == s || hasT L x)) (h2 : ∀ t ∈ L', (t.1 = s → t.2 = v) ∧ (t.1 ≠ s → t ∈ L)) :
    ∃ w', (Instr.mapUpdate TSM (.map (some b)) (.string (str s)) (vv v)).run Try.prog w = .ok () w' ∧ MapT w' b (n + 1) L' ∧ w.grownBy w' (some b) := by
  obtain ⟨D, a1, a2, a3⟩ := h
  obtain ⟨w', hr, ho, hg⟩ := a1.update keyedS undSM hn (key_str hs) (show heldE (vv v) = some (.held (vv v), []) from rfl)
  refine ⟨w', hr, ⟨_, ho, fun x => ?_, fun t ht z => ?_⟩, hg⟩
  · rw [h1 x]
    by_cases e : x = s
    · subst e; rw [Maps.has_put_same a1.isMap (keyedS.key (key_str hs))]; simp
    · rw [Maps.has_put_other (fun e' => e (by injection e')), a2]; simp [e]
  · by_cases e : t.1 = s
    · rw [e, Maps.atKey_put_same a1.isMap (keyedS.key (key_str hs)), (h2 t ht).1 e]
    · rw [Maps.atKey_put_other (fun e' => e (by injection e')), a3 t ((h2 t ht).2 e)]
theorem MapT.drop (h : MapT w b n L) {s : List UInt8} (hs : s.length ≤ maxLen) {L' : List Tag} (h1 : ∀ x, hasT L' x = (x != s && hasT L x)) (h2 : ∀ t ∈ L', t.1 ≠ s ∧ t ∈ L) (ty : TypeId) :
    ∃ w', (Builtin.delete_ #[TSM, TS] ty #[.map (some b), .string (str s)]).run Try.prog w = .ok (.tuple #[]) w' ∧ MapT w' b n L' ∧ w.grownBy w' (some b) := by
  obtain ⟨D, a1, a2, a3⟩ := h
  obtain ⟨w', hr, ho, hg⟩ := a1.drop keyedS undSM (key_str hs) ty
  refine ⟨w', hr, ⟨_, ho, fun x => ?_, fun t ht z => ?_⟩, hg.grown⟩
  · rw [h1 x]
    by_cases e : x = s
    · subst e; rw [Maps.has_del_same]; simp
    · rw [Maps.has_del_other (fun e' => e (by injection e')), a2]; simp [e]
  · obtain ⟨b1, b2⟩ := h2 t ht
    rw [Maps.atKey_del_other (fun e' => b1 (by injection e')), a3 t b2]
theorem MapN.get (h : MapN w b n C) {v : List Int} (hv : VecOk v) : (Instr.lookup TNM (.map (some b)) (vv v) false).run Try.prog w = .ok (.int .i64 (C v)) w := by
  obtain ⟨D, h1, h2⟩ := h
  obtain ⟨l, hl⟩ := key_vec hv
  obtain ⟨u, ps, hr, hu⟩ := h1.lookup keyedV undNM (zeroI w) rfl hl
  rw [h2 v l hl] at hu
  rw [hr, heldE_inv hu]
/-- .. and has an entry of v with a stamp -/
def EntN (w : World) (b n : Nat) (C : List Int → Int) (v : List Int) (s : Nat) : Prop :=
  ∃ D : DataW Value, Ent Try.prog TV heldE w b n D (vv v) s ∧ ∀ v l, keyOf Try.prog TV (vv v) = some l → D.atKey l (.held (.int .i64 0)) = .held (.int .i64 (C v))
theorem EntN.map {v : List Int} {s : Nat} (h : EntN w b n C v s) : MapN w b n C := by
  obtain ⟨D, h1, h2⟩ := h
  exact ⟨D, h1.1, h2⟩
theorem EntN.same {v : List Int} {s : Nat} (h : EntN w b n C v s) (he : w'.heap[b]? = w.heap[b]?) : EntN w' b n C v s := by
  obtain ⟨D, ⟨⟨es, clock, hb, h1⟩, es', clock', j, e, hb', h3⟩, h2⟩ := h
  exact ⟨D, ⟨⟨es, clock, he.trans hb, h1⟩, es', clock', j, e, he.trans hb', h3⟩, h2⟩
theorem EntN.grow {v : List Int} {s : Nat} (h : EntN w b n C v s) (hg : Grow w w') : EntN w' b n C v s := h.same (Below.block hg b h.map.lt)
theorem MapN.entry (h : MapN w b n C) (hn : n < maxLen) {v : List Int} (hv : VecOk v) :
    ∃ (u : Value) (s : Nat) (w1 : World), (Instr.mapEntry TNM (.map (some b)) (vv v)).run Try.prog w = .ok (.tuple #[u, .int .i64 s]) w1 ∧ EntN w1 b (n + 1) C v s ∧ w.grownBy w1 (some b) := by
  obtain ⟨D, h1, h2⟩ := h
  obtain ⟨l, hl⟩ := key_vec hv
  obtain ⟨u, s, w1, D1, hr, he, hg, hD⟩ := ent_made h1 keyedV undNM hn (zeroI w) (show heldE (.int .i64 0) = some (.held (.int .i64 0), []) from rfl) hl
  refine ⟨u, s, w1, hr, ⟨D1, he, fun x l' hl' => ?_⟩, hg⟩
  rw [← h2 x l' hl']
  rcases hD with rfl | ⟨rfl, hh⟩
  · rfl
  · by_cases e : l' = l
    · subst e
      rw [Maps.atKey_put_same h1.isMap (keyedV.key hl), Maps.atKey_of_not_has hh]
    · rw [Maps.atKey_put_other e]
set_option maxRecDepth 100000 in
theorem EntN.store {v : List Int} {s : Nat} (h : EntN w b n C v s) (hn : n < maxLen) (hv : VecOk v) (z : Int) {C' : List Int → Int} (hC : ∀ x, C' x = if x = v then z else C x) :
    ∃ w', (Instr.entryStore TNM (.map (some b)) (.int .i64 s) (.int .i64 z)).run Try.prog w = .ok () w' ∧ MapN w' b (n + 1) C' ∧ w.grownBy w' (some b) := by
  obtain ⟨D, h1, h2⟩ := h
  obtain ⟨l, hl⟩ := key_vec hv
  obtain ⟨w', hr, ho, hg⟩ := h1.1.update keyedV undNM hn hl (show heldE (.int .i64 z) = some (.held (.int .i64 z), []) from rfl)
  refine ⟨w', (h1.store keyedV undNM hl _).trans hr, ⟨_, ho, fun x l' hl' => ?_⟩, hg⟩
  rw [hC x]
  by_cases e : x = v
  · subst e
    rw [hl] at hl'
    injection hl' with hl'
    subst hl'
    rw [Maps.atKey_put_same h1.1.isMap (keyedV.key hl), if_pos rfl]
  · rw [Maps.atKey_put_other (fun e' => e (vv_inj (keyedV.inj (hl'.trans (congrArg some e')) hl))), h2 x l' hl', if_neg e]
theorem MapN.mono (h : MapN w b n C) {m : Nat} (hm : n ≤ m) : MapN w b m C := by
  obtain ⟨D, h1, h2⟩ := h
  exact ⟨D, h1.mono hm, h2⟩
theorem MapT.mono (h : MapT w b n L) {m : Nat} (hm : n ≤ m) : MapT w b m L := by
  obtain ⟨D, h1, h2⟩ := h
  exact ⟨D, h1.mono hm, h2⟩
set_option maxRecDepth 100000 in
theorem MapN.drop (h : MapN w b n C) {v : List Int} (hv : VecOk v) {C' : List Int → Int} (hC : ∀ x, C' x = if x = v then 0 else C x) (ty : TypeId) :
    ∃ w', (Builtin.delete_ #[TNM, TV] ty #[.map (some b), vv v]).run Try.prog w = .ok (.tuple #[]) w' ∧ MapN w' b n C' ∧ w.grownBy w' (some b) := by
  obtain ⟨D, h1, h2⟩ := h
  obtain ⟨l, hl⟩ := key_vec hv
  obtain ⟨w', hr, ho, hg⟩ := h1.drop keyedV undNM hl ty
  refine ⟨w', hr, ⟨_, ho, fun x l' hl' => ?_⟩, hg.grown⟩
  rw [hC x]
  by_cases e : x = v
  · subst e
    rw [hl] at hl'
    injection hl' with hl'
    subst hl'
    rw [Maps.atKey_del_same, if_pos rfl]
  · rw [Maps.atKey_del_other (fun e' => e (vv_inj (keyedV.inj (hl'.trans (congrArg some e')) hl))), h2 x l' hl', if_neg e]
end
end Go.Proofs.Ythclgmpjmhacdaa.tg
