/- The document's net: add, Send, Twice. -/
import Derived.Test.YtmekdhlcflielaaNtR2
namespace Go.Proofs.Ytmekdhlcflielaa.ntL
open Go Go.RowKit Go.Par Go.Kit Go.Proofs.Ytmekdhlcflielaa.mpA Go.Proofs.Ytmekdhlcflielaa.cl Go.Proofs.Ytmekdhlcflielaa.nt

/-- a slice with cells lies not in a block -/
def Off (v : Value) (g : Nat) : Prop := ∀ ad n c, v = .slice (some ad) n c → 0 < n → ad.block ≠ g
def OffN (vl vc : Value) (g : Nat) : Prop := Off vl g ∧ Off vc g
theorem LV.off {w : World} {v : Value} {n S : Nat} {t : TypeId} {xs : List Value} (h : LV w v n S t xs) (hS : 0 < S) {g : Nat} (hg : w.heap.size ≤ g) : Off v g := by
  obtain ⟨A, c, rfl, -, -, hr, -⟩ := h
  rintro ad n' c' e hn rfl
  injection e with e1 e2 e3
  subst e1; subst e2; subst e3
  have hp : 0 < n * S := Nat.mul_pos hn hS
  obtain ⟨b, off, e, hc⟩ := hr.2 hp
  injection e with e
  subst e
  have h1 := hc 0 _ (List.getElem?_eq_getElem (by rw [hr.1]; exact hp))
  unfold World.cell? at h1
  rw [Array.getElem?_eq_none hg] at h1
  cases h1
theorem Off.own {w : World} {base e n S : Nat} {v : Value} {xs : List Value} (h : w.ownsRow base e S v n xs) {g : Nat} (hg : g < base) : Off v g := by
  rintro ad n' c' rfl hn rfl
  rcases h.2 with ⟨e1, -⟩ | ⟨k, cap, cur, e1, h1, -⟩
  · cases e1
  · injection e1 with e1 e2 e3
    injection e1 with e1
    subst e1
    exact absurd h1 (by dsimp only at hg ⊢; omega)
theorem LV.awayOff {w : World} {v : Value} {n S : Nat} {t : TypeId} {xs : List Value} (h : LV w v n S t xs) {g : Nat} (ho : Off v g) (l : Array Value) : LV (w.setRow g l) v n S t xs := by
  obtain ⟨A, c, rfl, h1, h2, hr, ht⟩ := h
  refine ⟨A, c, rfl, h1, h2, ⟨hr.1, fun hp => ?_⟩, fun h0 ad e => let ⟨cs, hb⟩ := ht h0 ad e; ⟨cs, hb.farRow (ho _ _ _ (by rw [e]) h0) l⟩⟩
  obtain ⟨b, off, e, hc⟩ := hr.2 hp
  subst e
  refine ⟨b, off, rfl, fun k u hu => ?_⟩
  have hne : b ≠ g := ho _ _ _ rfl (Nat.pos_of_ne_zero fun h0 => by rw [h0, Nat.zero_mul] at hp; omega)
  rw [cell_setRow_other _ _ _ ⟨b, off + k, none⟩ hne]
  exact hc k u hu
theorem RefN.awayOff {w : World} {vl vc : Value} {ps : List Pk} {cs : List (Nat × Nat)} (h : RefN w vl vc ps cs) {g : Nat} (ho : OffN vl vc g) (l : Array Value) : RefN (w.setRow g l) vl vc ps cs := ⟨h.l.awayOff ho.1 l, h.c.awayOff ho.2 l⟩
theorem RefN.off {w : World} {vl vc : Value} {ps : List Pk} {cs : List (Nat × Nat)} (h : RefN w vl vc ps cs) {g : Nat} (hg : w.heap.size ≤ g) : OffN vl vc g := ⟨h.l.off (by decide) hg, h.c.off (by decide) hg⟩
/-- what a step of the document's net hands back: a net, and an error; it lies where what went in lay, or in new blocks -/
def RN (w0 : World) (vl vc : Value) (n : Nat) (ps : List Pk) (cs : List (Nat × Nat)) (err : Nat) (e : Ending) (w' : World) : Prop :=
  ∃ A1 l1 c1 A2 l2 c2, e = .returned (.tuple #[.agg #[.int .i64 (n : Int), .slice A1 l1 c1, .slice A2 l2 c2], .int .i64 (err : Int)]) ∧ RefN w' (.slice A1 l1 c1) (.slice A2 l2 c2) ps cs ∧
    ∀ g, g < w0.heap.size → OffN vl vc g → OffN (.slice A1 l1 c1) (.slice A2 l2 c2) g
theorem RN.mk' {w0 : World} {vl vc : Value} {n : Nat} {ps : List Pk} {cs : List (Nat × Nat)} {err : Nat} {w' : World} {vl' vc' : Value} (h : RefN w' vl' vc' ps cs) (ho : ∀ g, g < w0.heap.size → OffN vl vc g → OffN vl' vc' g) : RN w0 vl vc n ps cs err (.returned (.tuple #[.agg #[.int .i64 (n : Int), vl', vc'], .int .i64 (err : Int)])) w' := by
  obtain ⟨⟨A1, c1, rfl, h1⟩, ⟨A2, c2, rfl, h2⟩⟩ := h
  exact ⟨_, _, _, _, _, _, rfl, ⟨⟨A1, c1, rfl, h1⟩, ⟨A2, c2, rfl, h2⟩⟩, ho⟩
theorem RN.same {w0 : World} {vl vc : Value} {n : Nat} {ps : List Pk} {cs : List (Nat × Nat)} {err : Nat} {w' : World} (h : RefN w' vl vc ps cs) : RN w0 vl vc n ps cs err (.returned (.tuple #[.agg #[.int .i64 (n : Int), vl, vc], .int .i64 (err : Int)])) w' := RN.mk' h fun _ _ h => h
def raddS (ps : List Pk) (p : Pk) : List Pk × Nat := if ps.length < 4096 then (ps ++ [p], 0) else (ps, 11)
theorem LV.own {w : World} {base e n S : Nat} {v : Value} {xs : List Value} (h : w.ownsRow base e S v n xs) : LV w v n S e xs := by
  obtain ⟨A, c, rfl, h1, h2, h3⟩ := own_form h
  refine ⟨A, c, rfl, h1, h2, h3, fun h0 ad e => ?_⟩
  subst e
  rcases h.2 with ⟨e1, -⟩ | ⟨k, cap, cur, e1, -, h4, -⟩
  · cases e1
  · injection e1 with e1 _ _
    injection e1 with e1
    subst e1
    exact ⟨cur.toList, by unfold Blk; rw [h4]⟩
theorem LV.keep {w w' : World} {v : Value} {n S : Nat} {t : TypeId} {xs : List Value} (h : LV w v n S t xs) {B : Nat} {K : Nat → Prop} (hk : Keep B K w w') (hK : ∀ g cs, Blk w g t cs → K g) : LV w' v n S t xs := by
  obtain ⟨A, c, e, h1, h2, h3, h4⟩ := h
  refine ⟨A, c, e, h1, h2, ⟨h3.1, fun h0 => ?_⟩, fun h0 ad had => ?_⟩
  · have hn : 0 < n := Nat.pos_of_ne_zero fun h9 => by rw [h9, Nat.zero_mul] at h0; omega
    obtain ⟨b, off, eA, hc⟩ := h3.2 h0
    obtain ⟨cs, hb⟩ := h4 hn _ eA
    refine ⟨b, off, eA, fun j u hu => ?_⟩
    have h9 := hc j u hu
    have hb' := hk.blk hb (hK _ _ hb)
    unfold Blk at hb hb'
    simp only [World.cell?, hb, hb'] at h9 ⊢
    exact h9
  · obtain ⟨cs, hb⟩ := h4 h0 ad had
    exact ⟨cs, hk.blk hb (hK _ _ hb)⟩
theorem RefN.keep {w w' : World} {vl vc : Value} {ps : List Pk} {cs : List (Nat × Nat)} (h : RefN w vl vc ps cs) {B : Nat} {K : Nat → Prop} (hk : Keep B K w w') (hK : ∀ g cs, Blk w g TP cs → K g) (hK2 : ∀ g cs, Blk w g T2 cs → K g) : RefN w' vl vc ps cs := ⟨h.l.keep hk hK, h.c.keep hk hK2⟩
theorem own_nil (w : World) (base e S : Nat) : w.ownsRow base e S (.slice none 0 0) 0 [] := ⟨by simp, .inl ⟨rfl, rfl⟩⟩
theorem rrows_one {ps : List Pk} : ∀ u ∈ rrows ps, u.oneCell' = true := by
  intro u hu
  obtain ⟨r, hr, hu⟩ := List.mem_flatten.1 hu
  obtain ⟨p, -, rfl⟩ := List.mem_map.1 hr
  simp only [rrow, List.mem_cons, List.not_mem_nil, or_false] at hu
  rcases hu with rfl | rfl | rfl | rfl <;> rfl
theorem crows_one {cs : List (Nat × Nat)} : ∀ u ∈ crows cs, u.oneCell' = true := by
  intro u hu
  obtain ⟨r, hr, hu⟩ := List.mem_flatten.1 hu
  obtain ⟨p, -, rfl⟩ := List.mem_map.1 hr
  simp only [crow, List.mem_cons, List.not_mem_nil, or_false] at hu
  rcases hu with rfl | rfl <;> rfl
set_option maxRecDepth 100000 in
set_option maxHeartbeats 4000000 in
theorem radd_any (w : World) (n : Nat) (vl vc : Value) (ps : List Pk) (cs : List (Nat × Nat)) (h : RefN w vl vc ps cs) (p : Pk) :
    Calls Try.prog 44 #[.agg #[.int .i64 (n : Int), vl, vc], .agg #[.int .u8 (p.fr : Int), .int .u8 (p.to : Int), .string (str p.b), .bool p.sp]] w fun e w' => RN w vl vc n (raddS ps p).1 cs (raddS ps p).2 e w' ∧ Grow w w' := by
  obtain ⟨A1, c1, rfl, l1, l2, l3, -⟩ := h.l
  obtain ⟨A2, c2, rfl, -⟩ := h.c
  have HN := Lib.hid h
  obtain ⟨l, hl⟩ : ∃ l, l = ps.length := ⟨_, rfl⟩
  obtain ⟨m, hm⟩ : ∃ l, l = cs.length := ⟨_, rfl⟩
  rw [← hl] at HN l1 l3 ⊢
  rw [← hm] at HN ⊢
  obtain ⟨W1, hW1, hg1, b0, b1, b2⟩ := boxes3 w [.int .i64 (n : Int), .slice A1 l c1, .slice A2 m c2] [.int .u8 (p.fr : Int), .int .u8 (p.to : Int), .string (str p.b), .bool p.sp] zR TR TP TR
  have hs1 : W1.heap.size = w.heap.size + 1 + 1 + 1 := by rw [hW1]; simp
  have x0 := b0.cell (i := 0) rfl
  have x1 := b0.cell (i := 1) rfl
  have x2 := b0.cell (i := 2) rfl
  have HG := Lib.hid hg1
  have HW1 := Lib.hid hW1
  have HB0 := Lib.hid b0
  have HB1 := Lib.hid b1
  have HB2 := Lib.hid b2
  have HL := Lib.hid hl
  have HS := Lib.hid hs1
  have HR := Lib.hid l3
  clear h l3 hm hl hg1 hW1 b0 b1 b2 hs1
  by_cases hfull : 4096 ≤ l
  · have t1 : decide (4096 ≤ l) = true := decide_eq_true hfull
    have t1' : decide ((4096 : Int) ≤ (l : Int)) = true := decide_eq_true (by omega)
    have HF : Hid (raddS ps p = (ps, 11)) := Lib.hid (by unfold raddS; rw [if_neg (by have := HL.out; omega)])
    clear hfull l1 l2
    go_enter Try.func44, Try.ntmps44
    try dsimp only
    repeat (first | with_reducible (refine wp_region_cut (k := 1) ?_) | go_values | go_guarded | go_step | go_upon | go_back)
    rw [← HW1.out]
    unfold Cut
    go_wp2_with (refine store_blk rfl _ _ _ rfl (w.heap.size + 1 + 1) [.int .i64 (n : Int), .slice A1 l c1, .slice A2 m c2] rfl rfl _ _ HB2.out (by rw [sizeR]; rfl) rfl rfl ?_)
    refine ret_blk_tmp rfl (w.heap.size + 1 + 1) _ [.int .i64 (n : Int), .slice A1 l c1, .slice A2 m c2] _ (.int .i64 11) rfl (HB2.out.setRow _) undR rfl (by rw [sizeR]; rfl) rfl rfl ?_
    have hg := Grow.setRow HG.out (g := w.heap.size + 1 + 1) (by omega) [.int .i64 (n : Int), .slice A1 l c1, .slice A2 m c2].toArray
    rw [HF.out]
    exact ⟨RN.same (HN.out.grow hg), hg⟩
  · have t1 : decide (4096 ≤ l) = false := decide_eq_false hfull
    have t1' : decide ((4096 : Int) ≤ (l : Int)) = false := decide_eq_false (by omega)
    have hl4 : l < 4096 := by omega
    have HF : Hid (raddS ps p = (ps ++ [p], 0)) := Lib.hid (by unfold raddS; rw [if_pos (by have := HL.out; omega)])
    clear hfull l1 l2
    go_enter Try.func44, Try.ntmps44
    try dsimp only
    repeat (first | with_reducible (refine wp_region_cut (k := 1) ?_) | go_values | go_guarded | go_step | go_upon | go_back)
    rw [← HW1.out]
    unfold Cut
    have hz := own_nil W1 W1.heap.size TP 4
    have hr1 := HR.out.grow HG.out
    go_wp2_with (first | (at_builtin; refine wpList_append_row rfl _ _ _ rfl W1.heap.size TP _ _ 4 32 Try.underlying37 iP iPz iPs iPb rfl (by decide) (.slice none 0 0) 0 [] rfl hz A1 l c1 (rrows ps) rfl hr1 rrows_one (by unfold maxLen; omega) (by omega) (Nat.le_refl _) ?_; intro v1 w1 hown1 hgb1 _; have hga : Grow W1 w1 := grow_by (Grow.refl _) hgb1 (own_base hz); have y0 := (HB1.out.grow hga).cell (i := 0) rfl; have y1 := (HB1.out.grow hga).cell (i := 1) rfl; have y2 := (HB1.out.grow hga).cell (i := 2) rfl; have y3 := (HB1.out.grow hga).cell (i := 3) rfl; have HGA := Lib.hid hga; have HO1 := Lib.hid hown1; clear hga hown1 hgb1) | (at_builtin; refine wpList_append_row rfl _ _ _ rfl W1.heap.size TP _ _ 4 32 Try.underlying37 iP iPz iPs iPb rfl (by decide) v1 (0 + l) _ rfl (own_grow HO1.out (Grow.alloc _ _)) (some ⟨w1.heap.size, 0, none⟩) 1 1 (rrow p) rfl (Row.new w1 (rrow p) TP (0, 0)) (by intro u hu; simp only [rrow, List.mem_cons, List.not_mem_nil, or_false] at hu; rcases hu with rfl | rfl | rfl | rfl <;> rfl) (by unfold maxLen; omega) (by omega) (Nat.le_trans HGA.out.size (by simp)) ?_; intro v2 w2 hown2 hgb2 _; rw [Nat.zero_add] at hown2; have hgb : Grow W1 w2 := grow_by (HGA.out.trans (Grow.alloc _ _)) hgb2 (own_base HO1.out); have z0 := (HB0.out.grow hgb).cell (i := 0) rfl; have z2 := (HB0.out.grow hgb).cell (i := 2) rfl; have HGB := Lib.hid hgb; have HO2 := Lib.hid hown2; obtain ⟨A9, c9, rfl, -⟩ := own_form hown2; clear hgb hown2 hgb2) | (refine store_blk rfl _ _ _ rfl (w.heap.size + 1 + 1) [.int .i64 (n : Int), .slice A9 (l + 1) c9, .slice A2 m c2] rfl rfl _ _ (HB2.out.grow HGB.out) (by rw [sizeR]; rfl) rfl rfl ?_))
    refine ret_blk_tmp rfl (w.heap.size + 1 + 1) _ [.int .i64 (n : Int), .slice A9 (l + 1) c9, .slice A2 m c2] _ (.int .i64 0) rfl ((HB2.out.grow HGB.out).setRow _) undR rfl (by rw [sizeR]; rfl) rfl rfl ?_
    have hg := Grow.setRow (HG.out.trans HGB.out) (g := w.heap.size + 1 + 1) (by omega) [.int .i64 (n : Int), .slice A9 (l + 1) c9, .slice A2 m c2].toArray
    have ho := own_farRow HO2.out (g := w.heap.size + 1 + 1) (fun k hk => by have := own_base HO2.out k hk; have := HS.out; omega) [.int .i64 (n : Int), .slice A9 (l + 1) c9, .slice A2 m c2].toArray
    rw [HF.out]
    refine ⟨RN.mk' ⟨?_, HN.out.c.grow hg⟩ fun g hlt h9 => ⟨Off.own HO2.out (by have := HS.out; omega), h9.2⟩, hg⟩
    rw [List.length_append, List.length_singleton, rrows_snoc, ← HL.out]
    have := LV.own ho
    rw [List.nil_append] at this
    exact this
end Go.Proofs.Ytmekdhlcflielaa.ntL
