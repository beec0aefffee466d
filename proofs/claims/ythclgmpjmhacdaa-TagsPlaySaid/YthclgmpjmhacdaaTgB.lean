/- Tags: All. -/
import Derived.Test.YthclgmpjmhacdaaTgA
namespace Go.Proofs.Ythclgmpjmhacdaa.tg
open Go Go.RowKit Go.Par Go.Kit Go.Maps

abbrev TTag : TypeId := 72
theorem infoG : (Try.prog.info? TTag).isSome = true := by kernel_rfl
theorem iG : Try.prog.info? TTag = some ((Try.prog.info? TTag).get infoG) := by simp
theorem iGs : ((Try.prog.info? TTag).get infoG).size = 65 := by kernel_rfl
theorem iGz : ((Try.prog.info? TTag).get infoG).zero = some (.agg (.string ⟨#[]⟩ :: List.replicate 64 (.int .u16 0)).toArray) := by kernel_rfl
theorem iGb : ((Try.prog.info? TTag).get infoG).bytes = 144 := by kernel_rfl
def trow (t : Tag) : List Value := .string (str t.1) :: ints .u16 t.2
def trows (L : List Tag) : List Value := (L.map trow).flatten
theorem names_tt (L : List Tag) : namesT (fun _ => true) L = L.map (·.1) := by
  unfold namesT
  rw [List.filter_eq_self.2 (by simp)]
theorem fold_over (off : Nat) : ∀ (l : List Value) (i : Nat) (arr : Array Value), (l.zipIdx i).foldl (fun cs x => cs.setIfInBounds (off + x.2) x.1) arr = (over arr.toList (off + i) l).toArray
  | [], _, _ => rfl
  | v :: r, i, arr => by
    rw [List.zipIdx_cons, List.foldl_cons, fold_over off r (i + 1), Array.toList_setIfInBounds]
    rfl
theorem fill_all (zs l : List Value) (h : zs.length = l.length) : l.zipIdx.foldl (fun cs x => cs.setIfInBounds (0 + x.2) x.1) zs.toArray = l.toArray := by
  rw [fold_over 0 l 0, over_eq _ _ _ (by simp [h])]
  simp [h]
theorem fill_tail (z : Value) (zs l : List Value) (h : zs.length = l.length) : l.zipIdx.foldl (fun cs x => cs.setIfInBounds (1 + x.2) x.1) (z :: zs).toArray = (z :: l).toArray := by
  rw [fold_over 1 l 0, over_eq _ _ _ (by simp [h]; omega)]
  simp [h, show l.length + 1 ≤ 1 + l.length by omega]
def zrow : List Value := .string ⟨#[]⟩ :: List.replicate 64 (.int .u16 0)
set_option maxRecDepth 100000 in
theorem run_build_of (T : TypeId) (fs : Array Field) (hu : Try.prog.underlying T = some (.struct fs)) (hz : ∀ w, (zeroValue T).run Try.prog w = .ok (.agg zrow.toArray) w)
    (hp : ∀ w, (fs.mapM fun f => (do pure (f.offset, ← sizeOf f.type) : Sem (Nat × Nat))).run Try.prog w = .ok #[(0, 1), (1, 64)] w) (w : World) (q : ByteArray) (cs : List Value) (hl : cs.length = 64) :
    (Instr.build T #[(0, .string q), (1, .agg cs.toArray)]).run Try.prog w = .ok (.agg (.string q :: cs).toArray) w := by
  have hf : Instr.fill (fun i => (#[(0, 1), (1, 64)] : Array (Nat × Nat))[i]?) zrow.toArray [(0, .string q), (1, .agg cs.toArray)] = some (.string q :: cs).toArray := by
    have e := fill_tail (.string q) (List.replicate 64 (.int .u16 0)) cs (by simp [hl])
    simp [Instr.fill, Value.cells, hl, zrow]
    exact e
  simp only [Instr.build, Sem.run_bind, hz, Result.andThen, run_underlying hu, hp]
  rw [show (Value.agg zrow.toArray).cells = zrow.toArray from rfl, hf]
  rfl
theorem run_bslice_of (S T : TypeId) (hu : Try.prog.underlying S = some (.slice T)) (hz : ∀ w, (zeroValue T).run Try.prog w = .ok (.agg zrow.toArray) w) (hs : ∀ w, (sizeOf T).run Try.prog w = .ok 65 w) (w : World) (row : List Value) (hl : row.length = 65) :
    (Instr.buildSlice S 1 #[(0, .agg row.toArray)]).run Try.prog w = .ok (.slice (some ⟨w.heap.size, 0, none⟩) 1 1) (w.alloc (.cells row.toArray T)) := by
  have hf : ∀ zs : Array Value, zs.size = 65 → Instr.fill (fun i => some (i * 65, 65)) zs [(0, .agg row.toArray)] = some row.toArray := fun zs h => by
    have e := fill_all zs.toList row (by simp [hl, h])
    simp [Instr.fill, Value.cells, hl, h]
    simpa using e
  simp only [Instr.buildSlice, Sem.run_bind, run_underlying hu, Result.andThen, hs]
  simp only [show ¬ (1 * 65 > 2 ^ 24) by decide, if_false, show ¬ (1 * 65 = 0) by decide, Sem.run_pure, Sem.run_bind, hz, Result.andThen]
  rw [hf _ (by simp)]
  rfl
theorem run_build_tag (w : World) (q : ByteArray) (cs : List Value) (hl : cs.length = 64) : (Instr.build TTag #[(0, .string q), (1, .agg cs.toArray)]).run Try.prog w = .ok (.agg (.string q :: cs).toArray) w := run_build_of TTag (Try.prog.fieldsOf TTag) (by kernel_rfl) (fun w => by kernel_rfl) (fun w => by kernel_rfl) w q cs hl
theorem run_bslice_tag (w : World) (row : List Value) (hl : row.length = 65) : (Instr.buildSlice 55 1 #[(0, .agg row.toArray)]).run Try.prog w = .ok (.slice (some ⟨w.heap.size, 0, none⟩) 1 1) (w.alloc (.cells row.toArray TTag)) := run_bslice_of 55 TTag (by kernel_rfl) (fun w => by kernel_rfl) (fun w => by kernel_rfl) w row hl
section
variable {P : Program} {ops : Array Oper} {rest : List Oper} {o : Oper} {a : Act} {w w' : World} {Q : Exit → Act → World → Prop}
theorem wpList_build2 (hg : o.guard = none) (T : TypeId) (x y : Operand) (hop : o.op = Op.build T #[(0, x), (1, y)]) (u v r : Value) (hx : a.eval x = u) (hy : a.eval y = v)
    (hrun : (Instr.build T #[(0, u), (1, v)]).run P w = .ok r w) (hK : wpList P ops Q rest (a.put o.dst r) w) : wpList P ops Q (o :: rest) a w := by
  refine wpList_plain hg fun K hK' => ?_
  unfold Oper.wp
  simp [execOp, hop, hx, hy, hrun, Result.andThen]
  exact hK' _ _ hK
theorem wpList_bslice1 (hg : o.guard = none) (S : TypeId) (x : Operand) (hop : o.op = Op.buildSlice S 1 #[(0, x)]) (u r : Value) (hx : a.eval x = u)
    (hrun : (Instr.buildSlice S 1 #[(0, u)]).run P w = .ok r w') (hK : wpList P ops Q rest (a.put o.dst r) w') : wpList P ops Q (o :: rest) a w := by
  refine wpList_plain hg fun K hK' => ?_
  unfold Oper.wp
  simp [execOp, hop, hx, hrun, Result.andThen]
  exact hK' _ _ hK
end
theorem all_nil (w : World) : Calls Try.prog 25 #[.pointer none] w fun e w' => e = .returned (.slice none 0 0) ∧ Grow w w' := by
  have HN := Lib.hid (fun w1 fv => names_nil w1 fv)
  go_enter Try.func25, Try.ntmps25
  go_wp2_with fail
  refine (HN.out _ _).mono ?_
  rintro e w1 ⟨rfl, hg⟩
  have HG := Lib.hid hg
  clear hg
  go_wp2_with fail
  go_loopw [3, 9] (fun o' i' wr => o' = .slice none 0 0 ∧ i' = .int .i64 0 ∧ w1 = wr) (fun _ _ _ => 0)
  case atStart => exact ⟨rfl, rfl, rfl⟩
  case round =>
    obtain ⟨rfl, rfl, rfl⟩ := hrel
    go_wp2_with fail
    go_ret
    exact ⟨rfl, HG.out⟩
section
variable {w w' : World} {B g bs bn n m : Nat} {L L' : List Tag}
def AllI (W w : World) (L : List Tag) (k : Nat) (v : Value) (xs : List Value) : Prop := w.ownsRow W.heap.size TTag 65 v k xs ∧ xs = trows (L.take k) ∧ Grow W w
theorem trows_step {k : Nat} {t : Tag} (h : L[k]? = some t) : trows (L.take (k + 1)) = trows (L.take k) ++ trow t := by
  obtain ⟨hk, rfl⟩ := List.getElem?_eq_some_iff.1 h
  unfold trows
  rw [List.take_succ_eq_append_getElem hk, List.map_append, List.flatten_append]
  simp
set_option maxRecDepth 100000 in
set_option maxHeartbeats 2000000 in
theorem all_any (h : TagI w B g bs bn n L) (hn : n ≤ 1000000) :
    Calls Try.prog 25 #[.pointer (some ⟨g, 0, none⟩)] w fun e w' => ∃ v, e = .returned v ∧ w'.ownsRow w.heap.size TTag 65 v L.length (trows L) ∧ Grow w w' := by
  have hnm := names_all h hn (fun _ => true) fun a w3 ha hg3 => all1_any w3 a
  rw [names_tt, List.length_map] at hnm
  have HNM := Lib.hid hnm
  have HT := Lib.hid h
  obtain ⟨l, hl⟩ : ∃ l, l = L.length := ⟨_, rfl⟩
  have hl32 : l ≤ 32 := by rw [hl]; exact h.ok.len
  rw [← hl] at HNM
  have HLL := Lib.hid hl
  clear hnm h hn hl
  go_enter Try.func25, Try.ntmps25
  go_wp2_with fail
  refine HNM.out.mono ?_
  rintro e W3 ⟨v, rfl, ho, hg⟩
  obtain ⟨A, c, rfl, h1, h2, hr⟩ := own_form ho
  have HR := Lib.hid hr
  have HG := Lib.hid hg
  clear ho hg hr
  go_wp2_with fail
  go_loopw [3, 9] (fun o' i' wr => ∃ (k : Nat) (v : Value) (xs : List Value), k ≤ l ∧ i' = .int .i64 (k : Int) ∧ v = o' ∧ AllI W3 wr L k v xs) (fun _ i' _ => l - (intOf i').toNat)
  case atStart => exact ⟨0, _, [], by omega, rfl, rfl, World.ownsRow_nil _ _ _ _, by simp [trows], Grow.refl _⟩
  case round =>
    obtain ⟨k, v, xs, hk, rfl, rfl, hI⟩ := hrel
    obtain ⟨wa, rfl⟩ : ∃ wa, wa = wr := ⟨_, rfl⟩
    have HI := Lib.hid hI
    obtain ⟨A5, c5, rfl, -⟩ := own_form hI.1
    clear hI
    by_cases hlt : k < l
    · have t1 : decide (k < l) = true := decide_eq_true hlt
      have t1' : decide ((k : Int) < (l : Int)) = true := decide_eq_true (by omega)
      obtain ⟨t, ht⟩ : ∃ t, L[k]? = some t := ⟨_, List.getElem?_eq_getElem (by rw [← HLL.out]; exact hlt)⟩
      obtain ⟨bb, off, rfl, hcc⟩ := HR.out.2 (by omega)
      have HTT := Lib.hid ht
      have HLT := Lib.hid hlt
      have hmem : t ∈ L := List.mem_of_getElem? ht
      have hq0 := hcc k (.string (str t.1)) (by unfold strs; rw [List.getElem?_map, List.getElem?_map, ht]; rfl)
      have hq := HI.out.2.2.cell hq0
      have hTa := HT.out.grow (HG.out.trans HI.out.2.2)
      have x0 := hTa.bx.cell (i := 0) rfl
      have hok := HT.out.ok.ok t hmem
      have hlen : t.1.length ≤ maxLen := by have := (name_le hok.1).1; unfold maxLen; omega
      have hl := hTa.mt.get hlen
      rw [getT_at HT.out.ok.nodup hmem] at hl
      obtain ⟨q, hqq⟩ : ∃ q, q = str t.1 := ⟨_, rfl⟩
      have hio := ints_ok hok.2.1
      unfold vv at hl
      obtain ⟨cs, hcs⟩ : ∃ cs, cs = ints .u16 t.2 := ⟨_, rfl⟩
      rw [← hqq] at hq hl
      rw [← hcs] at hl hio
      have HQQ := Lib.hid hqq
      have HCS := Lib.hid hcs
      have HIO := Lib.hid hio
      have HS4 : Hid (W3.heap.size ≤ wa.heap.size) := Lib.hid HI.out.2.2.size
      have hbd := run_build_tag wa q cs hio.1
      obtain ⟨row, hrow⟩ : ∃ row, row = Value.string q :: cs := ⟨_, rfl⟩
      have hrl : row.length = 65 := by rw [hrow]; simp [hio.1]
      have hr1 : ∀ u ∈ row, u.oneCell' = true := fun u hu => by
        rw [hrow] at hu
        rcases List.mem_cons.1 hu with rfl | hu
        · rfl
        · exact (List.all_eq_true.1 hio.2) u hu
      rw [← hrow] at hbd
      have hbs := run_bslice_tag wa row hrl
      have HROW : Hid (row = trow t) := Lib.hid (by rw [hrow]; unfold trow; rw [hqq, hcs])
      have HRL := Lib.hid hrl
      have HR1 := Lib.hid hr1
      have HK : Hid (k ≤ 32) := Lib.hid (by omega)
      clear hcc hq0 hTa hok hlen hmem ht hlt hqq hio hcs hrow hrl hr1
      go_wp2_with (first | (refine wpList_build2 rfl _ _ _ rfl (.string q) (.agg cs.toArray) _ rfl rfl hbd ?_) | (refine wpList_bslice1 rfl _ _ rfl (.agg row.toArray) _ rfl hbs ?_) | (at_builtin; refine wpList_append_row rfl _ _ _ rfl W3.heap.size TTag _ _ 65 144 Try.underlying55 iG iGz iGs iGb rfl (by decide) (.slice A5 k c5) k xs rfl (own_grow HI.out.1 (Grow.alloc wa (.cells row.toArray TTag))) (some ⟨wa.heap.size, 0, none⟩) 1 1 row rfl (by have := Row.new wa row TTag (0, 0); rw [HRL.out] at this; exact this) HR1.out (by have := HK.out; unfold maxLen; omega) (by have := HK.out; omega) (Nat.le_trans HS4.out (Grow.alloc wa (.cells row.toArray TTag)).size) ?_; intro v1 w1 hown1 hgb1 _; obtain ⟨Av, cv, rfl, -, -, -⟩ := own_form hown1))
      have hni : AllI W3 w1 L (k + 1) (.slice Av (k + 1) cv) (xs ++ row) := by
        refine ⟨hown1, ?_, grow_by (HI.out.2.2.trans (Grow.alloc wa (.cells row.toArray TTag))) hgb1 fun k' hk' => own_base HI.out.1 k' hk'⟩
        rw [trows_step HTT.out, HI.out.2.1, HROW.out]
      have HNI := Lib.hid hni
      clear hown1 hgb1 hni hbd hbs hl hq x0
      go_roundw
      case rel => exact ⟨k + 1, _, _, by have := HLT.out; omega, by go_num, rfl, HNI.out⟩
      case measure => have := HLT.out; simp [intOf] <;> omega
    · obtain rfl : k = l := by omega
      have t1 : decide (k < k) = false := decide_eq_false (by omega)
      have HEND : Hid (wa.ownsRow w.heap.size TTag 65 (.slice A5 k c5) L.length (trows L) ∧ Grow w wa) := Lib.hid (by
        obtain ⟨q1, q2, q3⟩ := HI.out
        have e : L.take k = L := List.take_of_length_le (by rw [HLL.out]; omega)
        rw [e] at q2
        rw [← q2, ← HLL.out]
        exact ⟨own_lower q1 (HG.out.size), HG.out.trans q3⟩)
      clear hk hlt
      go_wp2_with fail
      go_ret
      exact ⟨_, rfl, HEND.out⟩
end
end Go.Proofs.Ythclgmpjmhacdaa.tg
