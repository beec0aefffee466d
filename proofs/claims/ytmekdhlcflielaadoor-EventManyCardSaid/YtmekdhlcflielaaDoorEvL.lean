/- The statements of events: Few, the chapter's example, EventGood. -/
import Derived.Test.YtmekdhlcflielaaDoorEvO
namespace Go.Proofs.YtmekdhlcflielaaDoor.ev
open Go Go.RowKit Go.Par Go.Kit Vi Go.Proofs.YtmekdhlcflielaaDoor.bfW
open Go.Proofs.YtmekdhlcflielaaDoor.viW hiding i8 i8s i8z i8b info8

def fewB (es : List Ev) (most : Nat) : Bool := decide (es.length ≤ most) && es.all fun e => decide (e.b.length ≤ 2000)
theorem few_get {es : List Ev} {most : Nat} (h : fewB es most = true) : es.length ≤ most ∧ ∀ e ∈ es, e.b.length ≤ 2000 := by
  unfold fewB at h
  simp only [Bool.and_eq_true, decide_eq_true_eq, List.all_eq_true] at h
  exact h
def bi (q : Bool) : Int := if q then 1 else 0
set_option maxHeartbeats 1000000 in
theorem few_any (A : Option Addr) (n c most : Nat) (es : List Ev) (w : World) (ha : Evs w A n es) (hn : n ≤ maxLen) :
    Calls Tryd.prog 7 #[.slice A n c, .int .i64 (most : Int)] w fun e w' => e = .returned (.int .i64 (bi (fewB es most))) ∧ w = w' := by
  unfold maxLen at hn
  have hlen := ha.1
  by_cases h60 : most < n
  · have hf : fewB es most = false := by
      unfold fewB
      rw [decide_eq_false (by omega), Bool.false_and]
    rw [hf]
    have t1 : decide (most < n) = true := decide_eq_true h60
    have t1' : decide ((most : Int) < (n : Int)) = true := decide_eq_true (by omega)
    clear hf hlen h60
    go_enter Tryd.func7, Tryd.ntmps7
    go_wp2_with fail
    go_ret
    exact ⟨rfl, rfl⟩
  · have HL := Lib.hid hlen
    have t1 : decide (most < n) = false := decide_eq_false h60
    have t1' : decide ((most : Int) < (n : Int)) = false := decide_eq_false (by omega)
    have HN := Lib.hid h60
    clear hlen h60
    go_enter Tryd.func7, Tryd.ntmps7
    go_wp2_with fail
    clear t1 t1'
    go_loop [5] (fun i => ∃ k : Nat, k ≤ n ∧ i = .int .i64 (k : Int) ∧ Hid (∀ (j : Nat) (a : Ev), j < k → es[j]? = some a → a.b.length ≤ 2000)) (fun i => n - (intOf i).toNat)
    case atStart => exact ⟨0, by omega, rfl, Lib.hid fun j a h => absurd h (by omega)⟩
    case round =>
      obtain ⟨k, hk, rfl, HK⟩ := hrel
      by_cases hlt : k < n
      · obtain ⟨b, off, a, A', n', c', rfl, hx, hc, b1, b2, b3, b4⟩ := ha.at_ (Grow.refl _) hlt
        have c7 := hc 7 _ rfl
        have hl := b3.len
        by_cases h3 : 2000 < n'
        · have hf : fewB es most = false := by
            rcases h : fewB es most with _ | _
            · rfl
            · have := (few_get h).2 a (List.mem_of_getElem? hx)
              omega
          have HF := Lib.hid hf
          have d1 : decide ((2000 : Int) < (n' : Int)) = true := decide_eq_true (by omega)
          clear hx hl hf b3 hc b4
          go_wp2_with fail
          go_ret
          exact ⟨by rw [HF.out]; rfl, rfl⟩
        · have HK' : Hid (∀ (j : Nat) (a : Ev), j < k + 1 → es[j]? = some a → a.b.length ≤ 2000) := Lib.hid fun j a' hj ha' => by
            by_cases hjk : j < k
            · exact HK.out j a' hjk ha'
            · obtain rfl : j = k := by omega
              rw [hx] at ha'
              obtain rfl := Option.some.inj ha'
              omega
          clear hx hl b3 hc b4
          go_wp2_with fail
          go_round
          case rel => exact ⟨k + 1, by omega, by go_num, HK'⟩
          case measure => simp [intOf] <;> omega
      · obtain rfl : k = n := by omega
        have hf : fewB es most = true := by
          unfold fewB
          rw [decide_eq_true (by have := HL.out; have := HN.out; omega), Bool.true_and, List.all_eq_true]
          intro a hmem
          obtain ⟨j, hj, rfl⟩ := List.getElem_of_mem hmem
          exact decide_eq_true (HK.out j _ (by have := HL.out; omega) (List.getElem?_eq_getElem hj))
        have HF := Lib.hid hf
        clear hf
        go_wp2_with fail
        go_ret
        exact ⟨by rw [HF.out]; rfl, rfl⟩
/-- two events in a new row -/
theorem Evs.two {w : World} (t : TypeId) (x y : Ev) (vx vy : Value) (hx : ∀ w', Grow w w' → Sl w' vx x.b) (hy : ∀ w', Grow w w' → Sl w' vy y.b) (ox : x.ok) (oy : y.ok) (cs : Array Value) (hcs : cs = (evRow vx x ++ evRow vy y).toArray) : Evs (w.alloc (.cells cs t)) (some ⟨w.heap.size, 0, none⟩) 2 [x, y] := by
  subst hcs
  refine ⟨rfl, [evRow vx x, evRow vy y], ?_, rfl, fun j r e hr he => ?_⟩
  · rw [show [evRow vx x, evRow vy y].flatten = evRow vx x ++ evRow vy y by simp]
    exact Row.new w (evRow vx x ++ evRow vy y) t (0, 0)
  · match j, hr, he with
    | 0, hr, he =>
      simp only [List.getElem?_cons_zero, Option.some.injEq] at hr he
      subst hr; subst he
      exact ⟨⟨vx, rfl, hx _ (Grow.alloc _ _)⟩, ox⟩
    | 1, hr, he =>
      simp only [List.getElem?_cons_succ, List.getElem?_cons_zero, Option.some.injEq] at hr he
      subst hr; subst he
      exact ⟨⟨vy, rfl, hy _ (Grow.alloc _ _)⟩, oy⟩
    | j + 2, hr, he => simp at hr
def ex1 : Ev := ⟨2, 2, 0, 0, 0, 0, 0, []⟩
def ex2 : Ev := ⟨12, 0, 0, 0, 0, 0, 0, []⟩
theorem ex_enc : encS [ex1, ex2] = ([2, 2, 2, 12], 0) := by decide +kernel
theorem ex_dec : (decS [2, 2, 2, 12]).2 = 0 ∧ (decS [2, 2, 2, 12]).1.length = 2 := by decide +kernel
theorem ex_dec1 : ((decS [2, 2, 2, 12]).1.map fun e => (e.node, goodB e)) = [(2, true), (0, true)] := by decide +kernel
theorem ex_ok1 : ex1.ok := ⟨by decide, by decide, by decide, by decide, by decide, by decide, by decide, by decide, by decide⟩
theorem ex_ok2 : ex2.ok := ⟨by decide, by decide, by decide, by decide, by decide, by decide, by decide, by decide, by decide⟩
theorem str_tl (l : List UInt8) : ((str l).toList == l) = true := by rw [show (str l).toList = l from ByteArray.toList_mk _]; exact beq_self_eq_true _
set_option maxRecDepth 100000 in
set_option maxHeartbeats 4000000 in
theorem works_any (w : World) (ht : Tab w) (hB0 : 0 < w.heap.size) : Calls Tryd.prog 8 #[] w fun e w' => e = .returned (.bool true) ∧ Grow w w' := by
  obtain ⟨W1, hW1⟩ : ∃ W, W = w.alloc (.cells #[.int .u8 2, .int .u8 2, .int .u8 0, .int .i64 0, .int .i64 0, .int .u32 0, .int .u64 0, .slice none 0 0, .int .u8 12, .int .u8 0, .int .u8 0, .int .i64 0, .int .i64 0, .int .u32 0, .int .u64 0, .slice none 0 0] TE) := ⟨_, rfl⟩
  have hg1 : Grow w W1 := by rw [hW1]; exact Grow.alloc _ _
  have hevs : Evs W1 (some ⟨w.heap.size, 0, none⟩) 2 [ex1, ex2] := by
    rw [hW1]
    exact Evs.two TE ex1 ex2 (.slice none 0 0) (.slice none 0 0) (fun w' _ => (BO.nil w').sl) (fun w' _ => (BO.nil w').sl) ex_ok1 ex_ok2 _ rfl
  have hen := encode_any W1 (some ⟨w.heap.size, 0, none⟩) 2 2 [ex1, ex2] hevs (by decide) (by intro e he; simp only [List.mem_cons, List.not_mem_nil, or_false] at he; rcases he with rfl | rfl <;> decide) (ht.grow hg1)
  rw [ex_enc] at hen
  have HEN := Lib.hid hen
  have HW1 := Lib.hid hW1
  have HG1 := Lib.hid hg1
  have HT := Lib.hid ht
  have HB0 := Lib.hid hB0
  clear hevs hen hW1 hg1 ht hB0
  go_enter Tryd.func8, Tryd.ntmps8
  go_wp2_with fail
  rw [← HW1.out]
  refine HEN.out.mono ?_
  rintro r w2 ⟨⟨v2, rfl, hb2⟩, hg2⟩
  obtain ⟨A2, c2, rfl, a1, a2, a3⟩ := hb2
  have HG2 := Lib.hid (HG1.out.trans hg2)
  have hde := decode_any w2 A2 4 c2 [2, 2, 2, 12] a3 a1 a2 (HT.out.grow HG2.out) (Nat.lt_of_lt_of_le HB0.out HG2.out.size)
  rw [ex_dec.1] at hde
  have HDE := Lib.hid hde
  have HBY := Lib.hid a3
  clear a1 a2 a3 hg2 hde HEN
  dsimp only
  go_wp2_with fail
  refine HDE.out.mono ?_
  rintro r w3 ⟨⟨v3, rfl, hev⟩, hg3⟩
  obtain ⟨D, hD⟩ : ∃ D, D = (decS [2, 2, 2, 12]).1 := ⟨_, rfl⟩
  have hD2 : D.length = 2 := by rw [hD]; exact ex_dec.2
  have hDm : (D.map fun e => (e.node, goodB e)) = [(2, true), (0, true)] := by rw [hD]; exact ex_dec1
  rw [← hD] at hev
  obtain ⟨A3, c3, rfl, d1, d2, d3⟩ := hev
  rw [hD2] at d3 d1 ⊢
  match D, hD2, hDm with
  | [p, q], _, hDm =>
    simp only [List.map_cons, List.map_nil, List.cons.injEq, Prod.mk.injEq, and_true] at hDm
    obtain ⟨⟨hp1, -⟩, -, hq2⟩ := hDm
    obtain ⟨b, off, e0, A0, n0, c0, e1, h1, h2, -, -, -, -⟩ := d3.at_ (Grow.refl _) (k := 0) (by decide)
    obtain ⟨b', off', e0', A0', n0', c0', e1', h1', h2', -, -, h4', h5'⟩ := d3.at_ (Grow.refl _) (k := 1) (by decide)
    rw [e1] at e1'
    injection e1' with e1'
    injection e1' with e2' e3' _
    subst e2'; subst e3'
    subst e1
    simp only [List.getElem?_cons_zero, List.getElem?_cons_succ, Option.some.injEq] at h1 h1'
    subst h1; subst h1'
    have x1 := h2 1 _ rfl
    have y0 := h2' 0 _ rfl
    have y1 := h2' 1 _ rfl
    have y2 := h2' 2 _ rfl
    have y3 := h2' 3 _ rfl
    have y4 := h2' 4 _ rfl
    have y5 := h2' 5 _ rfl
    have y6 := h2' 6 _ rfl
    have y7 := h2' 7 _ rfl
    rw [hp1, show ((2 : Nat) : Int) = 2 from rfl] at x1
    simp only [Nat.zero_mul, Nat.add_zero, Nat.one_mul] at x1 y0 y1 y2 y3 y4 y5 y6 y7
    have hgo := good_any w3 q h5' A0' n0' c0' h4'.len.symm (HT.out.grow (HG2.out.trans hg3))
    rw [hq2] at hgo
    have HGO := Lib.hid hgo
    have HG3 := Lib.hid (HG2.out.trans hg3)
    have cs := conv_str (P := Tryd.prog) Tryd.underlying23 Tryd.underlying5 Tryd.underlying9 (show Bytes w3 A2 4 [2, 2, 2, 12] from HBY.out.grow hg3) c2
    have t1 := str_tl [2, 2, 2, 12]
    clear h2 h2' h4' h5' hgo hg3 hp1 hq2 d1 d2 d3 hD2 hDm HDE HBY hD
    dsimp only
    go_wp2_with fail
    refine HGO.out.mono ?_
    rintro r w4 ⟨rfl, hg4⟩
    have HG4 := Lib.hid (HG3.out.trans hg4)
    clear hg4
    go_wp2_with fail
    go_ret
    exact ⟨rfl, HG4.out⟩
end Go.Proofs.YtmekdhlcflielaaDoor.ev
