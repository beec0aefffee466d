/- The document's net: Send, Twice. -/
import Derived.Test.YtmekdhlcflielaaNtR3
namespace Go.Proofs.Ytmekdhlcflielaa.ntL
open Go Go.RowKit Go.Par Go.Kit Go.Proofs.Ytmekdhlcflielaa.mpA Go.Proofs.Ytmekdhlcflielaa.cl Go.Proofs.Ytmekdhlcflielaa.nt

theorem Row.awayT {w : World} {g : Nat} {t : TypeId} {cs : List Value} {A : Option Addr} {n : Nat} {xs : List Value} (h : Row w A n xs) (hb : Blk w g t cs) (hne : ∀ u ∈ xs, u ∉ cs) (l : Array Value) : Row (w.setRow g l) A n xs := by
  refine ⟨h.1, fun hn => ?_⟩
  obtain ⟨b, off, e, hc⟩ := h.2 hn
  refine ⟨b, off, e, fun k u hu => ?_⟩
  have hne' : b ≠ g := by
    rintro rfl
    have h1 := hc k u hu
    have h2 : w.cell? ⟨b, off + k, none⟩ = cs[off + k]? := by
      have h3 : w.heap[b]? = some (.cells cs.toArray t (0, 0)) := hb
      unfold World.cell?
      rw [h3]
      simp
    rw [h2] at h1
    exact hne u (List.mem_of_getElem? hu) (List.mem_of_getElem? h1)
  rw [cell_setRow_other _ _ _ _ hne']
  exact hc k u hu
theorem rrows_mem {ps : List Pk} {u : Value} (h : u ∈ rrows ps) : (∃ x : Nat, u = .int .u8 (x : Int)) ∨ (∃ x, u = .string x) ∨ ∃ x, u = .bool x := by
  obtain ⟨r, hr, hu⟩ := List.mem_flatten.1 h
  obtain ⟨p, -, rfl⟩ := List.mem_map.1 hr
  simp only [rrow, List.mem_cons, List.not_mem_nil, or_false] at hu
  rcases hu with rfl | rfl | rfl | rfl
  · exact .inl ⟨_, rfl⟩
  · exact .inl ⟨_, rfl⟩
  · exact .inr (.inl ⟨_, rfl⟩)
  · exact .inr (.inr ⟨_, rfl⟩)
theorem crows_mem {cs : List (Nat × Nat)} {u : Value} (h : u ∈ crows cs) : ∃ x : Nat, u = .int .u8 (x : Int) := by
  obtain ⟨r, hr, hu⟩ := List.mem_flatten.1 h
  obtain ⟨p, -, rfl⟩ := List.mem_map.1 hr
  simp only [crow, List.mem_cons, List.not_mem_nil, or_false] at hu
  rcases hu with rfl | rfl
  · exact ⟨_, rfl⟩
  · exact ⟨_, rfl⟩
/-- what is read of the document's net is not turned by a store into a net's box -/
theorem RefN.away {w : World} {g : Nat} {vl vc : Value} {ps : List Pk} {cs : List (Nat × Nat)} (h : RefN w vl vc ps cs) {x : Int} {A1 A2 : Option Addr} {n1 c1 n2 c2 : Nat} (hb : Blk w g TR [.int .i64 x, .slice A1 n1 c1, .slice A2 n2 c2]) (l : Array Value) : RefN (w.setRow g l) vl vc ps cs := by
  obtain ⟨⟨B1, d1, rfl, h1, h2, h3, t3⟩, ⟨B2, d2, rfl, h4, h5, h6, t6⟩⟩ := h
  refine ⟨⟨B1, d1, rfl, h1, h2, Row.awayT h3 hb (fun u hu hm => ?_) l, fun h0 ad e => let ⟨cs, h9⟩ := t3 h0 ad e; ⟨cs, h9.farRow (fun e2 => absurd (Blk.ty_eq (e2 ▸ h9) hb) (by decide)) l⟩⟩, ⟨B2, d2, rfl, h4, h5, Row.awayT h6 hb (fun u hu hm => ?_) l, fun h0 ad e => let ⟨cs, h9⟩ := t6 h0 ad e; ⟨cs, h9.farRow (fun e2 => absurd (Blk.ty_eq (e2 ▸ h9) hb) (by decide)) l⟩⟩⟩
  · simp only [List.mem_cons, List.not_mem_nil, or_false] at hm
    rcases rrows_mem hu with ⟨y, rfl⟩ | ⟨y, rfl⟩ | ⟨y, rfl⟩ <;> rcases hm with e | e | e <;> cases e
  · simp only [List.mem_cons, List.not_mem_nil, or_false] at hm
    obtain ⟨y, rfl⟩ := crows_mem hu
    rcases hm with e | e | e <;> cases e
set_option maxRecDepth 100000 in
set_option maxHeartbeats 4000000 in
theorem rsend_any (w : World) (n : Nat) (vl vc : Value) (ps : List Pk) (cs : List (Nat × Nat)) (h : RefN w vl vc ps cs) (a b : Nat) (s : List UInt8) (ha : a ≤ 255) (hb : b ≤ 255) :
    Calls Try.prog 32 #[.agg #[.int .i64 (n : Int), vl, vc], .int .u8 (a : Int), .int .u8 (b : Int), .string (str s)] w fun e w' => RN w vl vc n (sendS n ps a b s).1 cs (sendS n ps a b s).2 e w' ∧ Grow w w' := by
  obtain ⟨A1, c1, rfl, -⟩ := h.l
  obtain ⟨A2, c2, rfl, -⟩ := h.c
  have HN := Lib.hid h
  obtain ⟨l, hl⟩ : ∃ l, l = ps.length := ⟨_, rfl⟩
  obtain ⟨m, hm⟩ : ∃ l, l = cs.length := ⟨_, rfl⟩
  rw [← hl] at HN ⊢
  rw [← hm] at HN ⊢
  obtain ⟨W1, hW1, hg1, b0, b1⟩ := boxes2 w [.int .i64 (n : Int), .slice A1 l c1, .slice A2 m c2] zR TR TR
  have x0 := b0.cell (i := 0) rfl
  have x1 := b0.cell (i := 1) rfl
  have x2 := b0.cell (i := 2) rfl
  obtain ⟨q, hq⟩ : ∃ q, q = pairB n a b := ⟨_, rfl⟩
  have hp := rpair_any W1 n a b (.slice A1 l c1) (.slice A2 m c2) ha hb
  rw [← hq] at hp
  have HP := Lib.hid hp
  have HQ := Lib.hid hq
  have HG := Lib.hid hg1
  have HW1 := Lib.hid hW1
  have HB0 := Lib.hid b0
  have HB1 := Lib.hid b1
  clear h hm hl hg1 hW1 b0 b1 hp hq
  go_enter Try.func32, Try.ntmps32
  try dsimp only
  repeat (first | with_reducible (refine wp_region_cut (k := 1) ?_) | go_values | go_guarded | go_step | go_upon | go_back)
  rw [← HW1.out]
  unfold Cut
  go_wp2_with fail
  refine HP.out.mono ?_
  rintro e w2 ⟨rfl, hg2⟩
  have y0 := (HB0.out.grow hg2).cell (i := 0) rfl
  have y1 := (HB0.out.grow hg2).cell (i := 1) rfl
  have y2 := (HB0.out.grow hg2).cell (i := 2) rfl
  have HB1' := Lib.hid (HB1.out.grow hg2)
  have HG2 := Lib.hid (HG.out.trans hg2)
  clear hg2 HP HB0 HB1 x0 x1 x2
  cases q
  · have HF : Hid (sendS n ps a b s = (ps, 1)) := Lib.hid (by unfold sendS; rw [if_neg (by rw [← HQ.out]; decide)])
    go_wp2_with (refine store_blk rfl _ _ _ rfl (w.heap.size + 1) [.int .i64 (n : Int), .slice A1 l c1, .slice A2 m c2] rfl rfl _ _ HB1'.out (by rw [sizeR]; rfl) rfl rfl ?_)
    refine ret_blk_tmp rfl (w.heap.size + 1) _ [.int .i64 (n : Int), .slice A1 l c1, .slice A2 m c2] _ (.int .i64 1) rfl (HB1'.out.setRow _) undR rfl (by rw [sizeR]; rfl) rfl rfl ?_
    have hg := Grow.setRow HG2.out (g := w.heap.size + 1) (by omega) [.int .i64 (n : Int), .slice A1 l c1, .slice A2 m c2].toArray
    rw [HF.out]
    exact ⟨RN.same (HN.out.grow hg), hg⟩
  · have HF : Hid (sendS n ps a b s = raddS ps ⟨a, b, s, false⟩) := Lib.hid (by unfold sendS; rw [if_pos HQ.out.symm]; rfl)
    have ha := radd_any w2 n _ _ ps cs (HN.out.grow HG2.out) ⟨a, b, s, false⟩
    dsimp only at ha
    have HA := Lib.hid ha
    clear ha
    go_wp2_with fail
    refine HA.out.mono ?_
    rintro e w3 ⟨⟨B1, l1, d1, B2, l2, d2, rfl, hr, hoff⟩, hg3⟩
    have HOF := Lib.hid hoff
    have HR := Lib.hid hr
    have HB2 := Lib.hid (HB1'.out.grow hg3)
    have HG3 := Lib.hid (HG2.out.trans hg3)
    clear hr hoff hg3 y0 y1 y2 HB1'
    go_wp2_with (refine store_blk rfl _ _ _ rfl (w.heap.size + 1) [.int .i64 (n : Int), .slice B1 l1 d1, .slice B2 l2 d2] rfl rfl _ _ HB2.out (by rw [sizeR]; rfl) rfl rfl ?_)
    refine ret_blk_tmp rfl (w.heap.size + 1) _ [.int .i64 (n : Int), .slice B1 l1 d1, .slice B2 l2 d2] _ (.int .i64 ((raddS ps ⟨a, b, s, false⟩).2 : Int)) rfl (HB2.out.setRow _) undR rfl (by rw [sizeR]; rfl) rfl rfl ?_
    have hg := Grow.setRow HG3.out (g := w.heap.size + 1) (by omega) [.int .i64 (n : Int), .slice B1 l1 d1, .slice B2 l2 d2].toArray
    rw [HF.out]
    exact ⟨RN.mk' (HR.out.away HB2.out _) fun g h1 h2 => HOF.out g (Nat.lt_of_lt_of_le h1 HG2.out.size) h2, hg⟩
end Go.Proofs.Ytmekdhlcflielaa.ntL
