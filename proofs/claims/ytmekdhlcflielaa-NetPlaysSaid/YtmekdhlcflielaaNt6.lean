/- The walks of nets: Take. -/
import Derived.Test.YtmekdhlcflielaaNt5
namespace Go.Proofs.Ytmekdhlcflielaa.nt
open Go Go.RowKit Go.Par Go.Kit Go.Proofs.Ytmekdhlcflielaa.mpA Go.Proofs.Ytmekdhlcflielaa.cl

theorem Keep.setRow {B : Nat} {K : Nat → Prop} {w w' : World} (h : Keep B K w w') {g : Nat} (hB : B ≤ g) (hK : ¬ K g) (l : Array Value) : Keep B K w (w'.setRow g l) :=
  ⟨below_setRow h.1 hB l, fun k hk hl => (setRow_other w' g k l (fun e => hK (e ▸ hk))).trans (h.2 k hk hl)⟩
section
variable {w w' : World} {B g bm n cnt : Nat} {lv : Value} {ps : List PkR} {C : Nat → Nat → Bool}
theorem NetI.keep {K : Nat → Prop} (h : NetI w B g bm n cnt lv ps C) (hk : Keep B K w w') (hg : K g) (hb : K bm) (hl : ∀ j, lv.ownBlock = some j → K j) (hu : ∀ j cs, Blk w j 5 cs → K j) : NetI w' B g bm n cnt lv ps C :=
  ⟨hk.blk h.bx hg, hk.own h.own hl, h.mp.keep hk hb, fun p hp => (h.ok p hp).keep hk hu, h.gB, h.bB, h.n64, h.len⟩
/-- a box of another call is written: the net stays -/
theorem NetI.box (h : NetI w B g bm n cnt lv ps C) {j : Nat} {t : TypeId} {cs : List Value} (hb : Blk w j t cs) (ht : t ≠ 5) (hj : Kn g bm lv j) (hB : B ≤ j) (l : Array Value) : NetI (w.setRow j l) B g bm n cnt lv ps C := by
  have hk : Keep B (fun x => x ≠ j) w (w.setRow j l) := Keep.setRow (Keep.refl w) hB (fun hn => hn rfl) l
  exact h.keep hk (fun e => hj.1 e.symm) (fun e => hj.2.1 e.symm) (fun x hx e => hj.2.2 (e ▸ hx)) fun x cs' hx e => ht (Blk.ty_eq hb (e ▸ hx))
end
section
variable (w : World) (B g bm n cnt : Nat) (lv : Value) (ps : List PkR) (C : Nat → Nat → Bool)
theorem at_nil (k : Int) : Calls Try.prog 11 #[.pointer none, .int .i64 k] w fun e w' => e = .returned (.tuple #[zval, .bool false]) ∧ Grow w w' := by
  obtain ⟨W0, hW0⟩ : ∃ W, W = w.alloc (.cells zk.toArray TK) := ⟨_, rfl⟩
  have hg0 : Grow w W0 := by rw [hW0]; exact Grow.alloc _ _
  have hb0 : Blk W0 w.heap.size TK zk := by rw [hW0]; exact Blk.new _ _ _ _ rfl rfl
  have HL := Lib.hid (len_nil W0)
  have HW0 := Lib.hid hW0
  have HG0 := Lib.hid hg0
  have HB0 := Lib.hid hb0
  clear hW0 hg0 hb0
  by_cases h1 : k < 0
  · have t1 : decide (k < 0) = true := decide_eq_true h1
    clear h1
    go_enter Try.func11, Try.ntmps11
    go_wp2_with fail
    rw [show w.alloc (.cells #[.int .u8 0, .int .u8 0, .slice none 0 0, .bool false] TK) = W0 from HW0.out.symm]
    exact ret_blk_tmp rfl w.heap.size _ zk _ (.bool false) rfl HB0.out undK rfl (by rw [sizeK]; rfl) rfl rfl ⟨rfl, HG0.out⟩
  · have t1 : decide (k < 0) = false := decide_eq_false h1
    have t2 : decide (0 ≤ k) = true := decide_eq_true (by omega)
    clear h1
    go_enter Try.func11, Try.ntmps11
    go_wp2_with fail
    rw [show w.alloc (.cells #[.int .u8 0, .int .u8 0, .slice none 0 0, .bool false] TK) = W0 from HW0.out.symm]
    refine HL.out.mono ?_
    rintro e w' ⟨rfl, rfl⟩
    have hb0 := HB0.out
    go_wp2_with (refine store_blk rfl _ _ _ rfl w.heap.size zk rfl rfl _ _ hb0 (by rw [sizeK]; rfl) rfl rfl ?_)
    exact ret_blk_tmp rfl w.heap.size _ zk _ (.bool false) rfl (hb0.setRow _) undK rfl (by rw [sizeK]; rfl) rfl rfl ⟨rfl, Grow.setRow HG0.out (Nat.le_refl _) _⟩
theorem take_nil (k : Int) : Calls Try.prog 24 #[.pointer none, .int .i64 k] w fun e w' => e = .returned (.tuple #[zval, .int .i64 1]) ∧ Grow w w' := by
  obtain ⟨W0, hW0⟩ : ∃ W, W = w.alloc (.cells zk.toArray TK) := ⟨_, rfl⟩
  have hg0 : Grow w W0 := by rw [hW0]; exact Grow.alloc _ _
  have hb0 : Blk W0 w.heap.size TK zk := by rw [hW0]; exact Blk.new _ _ _ _ rfl rfl
  have HAT := Lib.hid (at_nil W0 k)
  have HW0 := Lib.hid hW0
  have HG0 := Lib.hid hg0
  have HB0 := Lib.hid hb0
  clear hW0 hg0 hb0
  go_enter Try.func24, Try.ntmps24
  go_wp2_with fail
  rw [show w.alloc (.cells #[.int .u8 0, .int .u8 0, .slice none 0 0, .bool false] TK) = W0 from HW0.out.symm]
  refine HAT.out.mono ?_
  rintro e w1 ⟨rfl, hg1⟩
  unfold zval zk
  go_wp2_with fail
  obtain ⟨W2, hW2⟩ : ∃ W, W = w1.alloc (.cells #[.int .u8 0, .int .u8 0, .slice none 0 0, .bool false] TK) := ⟨_, rfl⟩
  rw [← hW2]
  have hg2 : Grow W0 W2 := by rw [hW2]; exact hg1.trans (Grow.alloc _ _)
  have HG2 := Lib.hid hg2
  have hb2 := HB0.out.grow hg2
  clear hW2 hg1 hg2
  refine (drop_nil W2 k).mono ?_
  rintro e w' ⟨rfl, rfl⟩
  go_wp2_with (refine store_blk rfl _ _ _ rfl w.heap.size zk rfl rfl _ _ hb2 (by rw [sizeK]; rfl) rfl rfl ?_)
  exact ret_blk_tmp rfl w.heap.size _ zk _ (.int .i64 1) rfl (hb2.setRow _) undK rfl (by rw [sizeK]; rfl) rfl rfl ⟨rfl, Grow.setRow (HG0.out.trans HG2.out) (Nat.le_refl _) _⟩
set_option maxRecDepth 100000 in
set_option maxHeartbeats 4000000 in
theorem take_any (h : NetI w B g bm n cnt lv ps C) (k : Nat) (p : PkR) (hp : ps[k]? = some p) :
    Calls Try.prog 24 #[.pointer (some ⟨g, 0, none⟩), .int .i64 (k : Int)] w fun e w' =>
      ((wholeB n C p.fr p.to = false ∧ e = .returned (.tuple #[zval, .int .i64 13])) ∨ (wholeB n C p.fr p.to = true ∧ ∃ v, e = .returned (.tuple #[.agg #[.int .u8 (p.fr : Int), .int .u8 (p.to : Int), v, .bool p.sp], .int .i64 0]) ∧ BV w' v p.b)) ∧
      (∃ lv', NetI w' B g bm n cnt lv' (del ps k) C ∧ lv'.ownBlock = lv.ownBlock) ∧ Keep B (Kn g bm lv) w w' := by
  have hk := (List.getElem?_eq_some_iff.1 hp).1
  obtain ⟨q, hq⟩ : ∃ q, q = wholeB n C p.fr p.to := ⟨_, rfl⟩
  rw [← hq]
  have HQ := Lib.hid hq
  clear hq
  obtain ⟨W0, hW0⟩ : ∃ W, W = w.alloc (.cells zk.toArray TK) := ⟨_, rfl⟩
  have hg0 : Grow w W0 := by rw [hW0]; exact Grow.alloc _ _
  have hb0 : Blk W0 w.heap.size TK zk := by rw [hW0]; exact Blk.new _ _ _ _ rfl rfl
  have hs0 : W0.heap.size = w.heap.size + 1 := by rw [hW0]; simp
  have HAT := Lib.hid (at_yes W0 B g bm n cnt lv ps C (h.grow hg0) k p hp)
  have hok := h.ok p (List.mem_of_getElem? hp)
  have HOK : Hid (p.fr ≤ 255 ∧ p.to ≤ 255) := Lib.hid ⟨hok.fr, hok.to⟩
  have HN := Lib.hid h
  have HK := Lib.hid hk
  have HW0 := Lib.hid hW0
  have HG0 := Lib.hid hg0
  have HB0 := Lib.hid hb0
  have HS0 := Lib.hid hs0
  clear h hp hk hW0 hg0 hb0 hs0 hok
  go_enter Try.func24, Try.ntmps24
  go_wp2_with fail
  rw [show w.alloc (.cells #[.int .u8 0, .int .u8 0, .slice none 0 0, .bool false] TK) = W0 from HW0.out.symm]
  refine HAT.out.mono ?_
  rintro e w1 ⟨v, rfl, ho, hg1⟩
  obtain ⟨A7, c7, e7, -⟩ := own_form ho
  obtain ⟨l7, hl7⟩ : ∃ l, l = p.b.length := ⟨_, rfl⟩
  rw [← hl7] at e7
  subst e7
  have HL7 := Lib.hid hl7
  have HO := Lib.hid ho
  have HG1 := Lib.hid hg1
  clear hl7 ho hg1
  go_wp2_with fail
  obtain ⟨b6, hb6⟩ : ∃ b, b = w1.heap.size := ⟨_, rfl⟩
  obtain ⟨W2, hW2⟩ : ∃ W, W = w1.alloc (.cells #[.int .u8 (p.fr : Int), .int .u8 (p.to : Int), .slice A7 l7 c7, .bool p.sp] TK) := ⟨_, rfl⟩
  rw [← hW2, ← hb6]
  have hg2 : Grow W0 W2 := by rw [hW2]; exact HG1.out.trans (Grow.alloc _ _)
  have hbx6 : Blk W2 b6 TK [.int .u8 (p.fr : Int), .int .u8 (p.to : Int), .slice A7 l7 c7, .bool p.sp] := by rw [hW2]; exact Blk.new _ _ _ _ rfl hb6
  have hbx4 := HB0.out.grow hg2
  have hn2 := HN.out.grow (HG0.out.trans hg2)
  have hbv2 : BV W2 (.slice A7 l7 c7) p.b := by rw [hW2]; exact (BV.own HO.out).grow (Grow.alloc _ _)
  have h6 : w.heap.size ≤ b6 := by rw [hb6]; have := HG1.out.size; have := HS0.out; omega
  have h64 : w.heap.size ≠ b6 := by rw [hb6]; have := HG1.out.size; have := HS0.out; omega
  have HDR := Lib.hid (drop_any W2 B g bm n cnt lv ps C hn2 k HK.out)
  have HBX6 := Lib.hid hbx6
  have HBX4 := Lib.hid hbx4
  have HBV2 := Lib.hid hbv2
  have HG2 := Lib.hid (HG0.out.trans hg2)
  have HN2 := Lib.hid hn2
  have H6 := Lib.hid (And.intro h6 h64)
  clear hW2 hb6 hg2 hbx6 hbx4 hn2 hbv2 h6 h64 HO HG1
  refine HDR.out.mono ?_
  rintro e w3 ⟨rfl, ⟨lv', hn3, hob⟩, hkp⟩
  have hk4 : Kn g bm lv w.heap.size := HN.out.lt (Nat.le_refl _)
  have hk6 : Kn g bm lv b6 := HN.out.lt H6.out.1
  have hbx6 := hkp.blk HBX6.out hk6
  have hbx4 := hkp.blk HBX4.out hk4
  have hbv3 : BV w3 (.slice A7 l7 c7) p.b := HBV2.out.keep hkp fun j cs hb => HN2.out.off hb (by decide) (by decide)
  have hk4' : Kn g bm lv' w.heap.size := ⟨hk4.1, hk4.2.1, by rw [hob]; exact hk4.2.2⟩
  have hwh := whole_any w3 B g bm n cnt lv' (del ps k) C hn3 p.fr p.to HOK.out.1 HOK.out.2
  rw [← HQ.out] at hwh
  have HWH := Lib.hid hwh
  have c0 := hbx6.cell (i := 0) rfl
  have c1 := hbx6.cell (i := 1) rfl
  have HBX6' := Lib.hid hbx6
  have HBX4' := Lib.hid hbx4
  have HBV3 := Lib.hid hbv3
  have HN3 := Lib.hid hn3
  have HOB := Lib.hid hob
  have HK4 := Lib.hid hk4'
  have HKP : Hid (Keep B (Kn g bm lv) w w3) := Lib.hid ((Keep.of HG2.out HN.out.base).trans hkp)
  have HBB : Hid (B ≤ w.heap.size) := Lib.hid HN.out.base
  clear hn3 hob hkp hk4 hk6 hbx6 hbx4 hbv3 hk4' hwh
  go_wp2_with fail
  refine HWH.out.mono ?_
  rintro e w5 ⟨rfl, hg5⟩
  have hbx6 := HBX6'.out.grow hg5
  have hbx4 := HBX4'.out.grow hg5
  have HN5 := Lib.hid (HN3.out.grow hg5)
  have HBV5 := Lib.hid (HBV3.out.grow hg5)
  have HKP5 : Hid (Keep B (Kn g bm lv) w w5) := Lib.hid (HKP.out.trans (Keep.of hg5 HN3.out.base))
  have hK5 : ∀ l : Array Value, Keep B (fun x => x ≠ w.heap.size) w5 (w5.setRow w.heap.size l) := fun l => Keep.setRow (Keep.refl w5) HBB.out (fun hn => hn rfl) l
  have HEND : Hid (∀ l : Array Value, (∃ lv', NetI (w5.setRow w.heap.size l) B g bm n cnt lv' (del ps k) C ∧ lv'.ownBlock = lv.ownBlock) ∧ Keep B (Kn g bm lv) w (w5.setRow w.heap.size l) ∧ BV (w5.setRow w.heap.size l) (.slice A7 l7 c7) p.b) := Lib.hid fun l =>
    ⟨⟨lv', HN5.out.box hbx4 (by decide) HK4.out HBB.out l, HOB.out⟩, ⟨below_setRow HKP5.out.1 HBB.out l, fun j hj hl => (setRow_other w5 w.heap.size j l (by omega)).trans (HKP5.out.2 j hj hl)⟩, HBV5.out.keep (hK5 l) fun j cs hb e => by
      subst e
      exact absurd (Blk.ty_eq hbx4 hb) (by decide)⟩
  have HBX46 := Lib.hid (And.intro hbx4 hbx6)
  clear hg5 hK5 hbx4 hbx6
  cases q
  · go_wp2_with (refine store_blk rfl _ _ _ rfl w.heap.size zk rfl rfl _ _ HBX46.out.1 (by rw [sizeK]; rfl) rfl rfl ?_)
    exact ret_blk_tmp rfl w.heap.size _ zk _ (.int .i64 13) rfl (HBX46.out.1.setRow _) undK rfl (by rw [sizeK]; rfl) rfl rfl ⟨rfl, (HEND.out _).1, (HEND.out _).2.1⟩
  · go_wp2_with (first | (refine load_blk rfl _ _ rfl b6 rfl _ _ _ HBX46.out.2 undK rfl (by rw [sizeK]; rfl) ?_) | (refine store_blk rfl _ _ _ rfl w.heap.size [.int .u8 (p.fr : Int), .int .u8 (p.to : Int), .slice A7 l7 c7, .bool p.sp] rfl rfl _ _ HBX46.out.1 (by rw [sizeK]; rfl) rfl rfl ?_))
    exact ret_blk_tmp rfl w.heap.size _ [.int .u8 (p.fr : Int), .int .u8 (p.to : Int), .slice A7 l7 c7, .bool p.sp] _ (.int .i64 0) rfl (HBX46.out.1.setRow _) undK rfl (by rw [sizeK]; rfl) rfl rfl ⟨⟨_, rfl, (HEND.out _).2.2⟩, (HEND.out _).1, (HEND.out _).2.1⟩
end
end Go.Proofs.Ytmekdhlcflielaa.nt
