/- The document's net: what it is; pair, New, Heal. -/
import Derived.Test.YtmekdhlcflielaaNtP3
import Derived.Test.YtmekdhlcflielaaLdC
namespace Go.Proofs.Ytmekdhlcflielaa.ntL
open Go Go.RowKit Go.Par Go.Kit Go.Proofs.Ytmekdhlcflielaa.mpA Go.Proofs.Ytmekdhlcflielaa.cl Go.Proofs.Ytmekdhlcflielaa.nt

abbrev TR : TypeId := 40
abbrev TP : TypeId := 48
abbrev T2 : TypeId := 77
theorem undR : Try.prog.underlying TR = some (.struct (Try.prog.fieldsOf TR)) := by kernel_rfl
theorem sizeR : (Try.prog.info? TR).map (·.size) = some 3 := by kernel_rfl
theorem undP : Try.prog.underlying TP = some (.struct (Try.prog.fieldsOf TP)) := by kernel_rfl
theorem sizeP : (Try.prog.info? TP).map (·.size) = some 4 := by kernel_rfl
theorem infoP : (Try.prog.info? TP).isSome = true := by kernel_rfl
theorem iP : Try.prog.info? TP = some ((Try.prog.info? TP).get infoP) := by simp
theorem iPs : ((Try.prog.info? TP).get infoP).size = 4 := by kernel_rfl
theorem iPz : ((Try.prog.info? TP).get infoP).zero = some (.agg #[.int .u8 0, .int .u8 0, .string ⟨#[]⟩, .bool false]) := by kernel_rfl
theorem iPb : ((Try.prog.info? TP).get infoP).bytes = 32 := by kernel_rfl
theorem info2 : (Try.prog.info? T2).isSome = true := by kernel_rfl
theorem i2 : Try.prog.info? T2 = some ((Try.prog.info? T2).get info2) := by simp
theorem i2s : ((Try.prog.info? T2).get info2).size = 2 := by kernel_rfl
theorem i2z : ((Try.prog.info? T2).get info2).zero = some (.agg #[.int .u8 0, .int .u8 0]) := by kernel_rfl
theorem i2b : ((Try.prog.info? T2).get info2).bytes = 2 := by kernel_rfl
theorem size2 : (Try.prog.info? T2).map (·.size) = some 2 := by kernel_rfl
theorem szU8 : ∀ w, (sizeOf 5).run Try.prog w = .ok 1 w := fun _ => by kernel_rfl
/-- a slice that is read -/
def LV (w : World) (v : Value) (n S : Nat) (t : TypeId) (xs : List Value) : Prop := ∃ A c, v = .slice A n c ∧ n ≤ c ∧ c ≤ maxLen ∧ Row w A (n * S) xs ∧ (0 < n → ∀ ad, A = some ad → ∃ cs, Blk w ad.block t cs)
theorem LV.grow {w w' : World} {v : Value} {n S : Nat} {t : TypeId} {xs : List Value} (h : LV w v n S t xs) (hg : Grow w w') : LV w' v n S t xs := let ⟨A, c, e, h1, h2, h3, h4⟩ := h; ⟨A, c, e, h1, h2, h3.grow hg, fun h0 ad e => let ⟨cs, hb⟩ := h4 h0 ad e; ⟨cs, hb.grow hg⟩⟩
theorem LV.nil (w : World) (S : Nat) (t : TypeId) : LV w (.slice none 0 0) 0 S t [] := ⟨none, 0, rfl, Nat.le_refl _, by decide, by rw [Nat.zero_mul]; exact Row.nil w none, fun h => absurd h (by decide)⟩
theorem LV.one {w : World} {v : Value} {n S : Nat} {t : TypeId} {xs : List Value} (h : LV w v n S t xs) : v.oneCell' = true := by obtain ⟨A, c, rfl, -⟩ := h; rfl
def rrow (p : Pk) : List Value := [.int .u8 (p.fr : Int), .int .u8 (p.to : Int), .string (str p.b), .bool p.sp]
def rrows (ps : List Pk) : List Value := (ps.map rrow).flatten
def crow (c : Nat × Nat) : List Value := [.int .u8 (c.1 : Int), .int .u8 (c.2 : Int)]
def crows (cs : List (Nat × Nat)) : List Value := (cs.map crow).flatten
def rnet (n : Nat) (vl vc : Value) : List Value := [.int .i64 (n : Int), vl, vc]
/-- the document's net -/
structure RefN (w : World) (vl vc : Value) (ps : List Pk) (cs : List (Nat × Nat)) : Prop where
  l : LV w vl ps.length 4 TP (rrows ps)
  c : LV w vc cs.length 2 T2 (crows cs)
theorem RefN.grow {w w' : World} {vl vc : Value} {ps : List Pk} {cs : List (Nat × Nat)} (h : RefN w vl vc ps cs) (hg : Grow w w') : RefN w' vl vc ps cs := ⟨h.l.grow hg, h.c.grow hg⟩
theorem rrows_snoc (ps : List Pk) (p : Pk) : rrows (ps ++ [p]) = rrows ps ++ rrow p := by simp [rrows]
theorem crows_snoc (cs : List (Nat × Nat)) (c : Nat × Nat) : crows (cs ++ [c]) = crows cs ++ crow c := by simp [crows]
theorem boxes2 (w : World) (l1 l2 : List Value) (t1 t2 : TypeId) : ∃ W, W = (w.alloc (.cells l1.toArray t1)).alloc (.cells l2.toArray t2) ∧ Grow w W ∧ Blk W w.heap.size t1 l1 ∧ Blk W (w.heap.size + 1) t2 l2 :=
  ⟨_, rfl, (Grow.alloc _ _).trans (Grow.alloc _ _), (Blk.new w _ _ _ rfl rfl).grow (Grow.alloc _ _), Blk.new _ _ _ _ rfl (by simp)⟩
theorem boxes3 (w : World) (l1 l2 l3 : List Value) (t1 t2 t3 : TypeId) : ∃ W, W = ((w.alloc (.cells l1.toArray t1)).alloc (.cells l2.toArray t2)).alloc (.cells l3.toArray t3) ∧ Grow w W ∧ Blk W w.heap.size t1 l1 ∧ Blk W (w.heap.size + 1) t2 l2 ∧ Blk W (w.heap.size + 1 + 1) t3 l3 :=
  ⟨_, rfl, ((Grow.alloc _ _).trans (Grow.alloc _ _)).trans (Grow.alloc _ _), (Blk.new w _ _ _ rfl rfl).grow ((Grow.alloc _ _).trans (Grow.alloc _ _)), (Blk.new _ _ _ _ rfl (by simp)).grow (Grow.alloc _ _), Blk.new _ _ _ _ rfl (by simp)⟩
abbrev zR : List Value := [.int .i64 0, .slice none 0 0, .slice none 0 0]
abbrev zP : List Value := [.int .u8 0, .int .u8 0, .string ⟨#[]⟩, .bool false]
set_option maxRecDepth 100000 in
set_option maxHeartbeats 4000000 in
theorem rpair_any (w : World) (n a b : Nat) (vl vc : Value) (ha : a ≤ 255) (hb : b ≤ 255) :
    Calls Try.prog 40 #[.agg #[.int .i64 (n : Int), vl, vc], .int .u8 (a : Int), .int .u8 (b : Int)] w fun e w' => e = .returned (.bool (pairB n a b)) ∧ Grow w w' := by
  have x0 := (Blk.new w TR #[.int .i64 (n : Int), vl, vc] [.int .i64 (n : Int), vl, vc] rfl rfl).cell (i := 0) rfl
  unfold pairB
  obtain ⟨q1, h1⟩ : ∃ q, q = decide (1 ≤ a) := ⟨_, rfl⟩
  obtain ⟨q2, h2⟩ : ∃ q, q = decide (1 ≤ b) := ⟨_, rfl⟩
  obtain ⟨q3, h3⟩ : ∃ q, q = decide (a ≤ n) := ⟨_, rfl⟩
  obtain ⟨q4, h4⟩ : ∃ q, q = decide (b ≤ n) := ⟨_, rfl⟩
  obtain ⟨q5, h5⟩ : ∃ q, q = (a != b) := ⟨_, rfl⟩
  rw [← h1, ← h2, ← h3, ← h4, ← h5]
  have t1 := h1.symm
  have t1' : decide ((1 : Int) ≤ (a : Int)) = q1 := by rw [h1, decide_eq_decide]; omega
  have t2 := h2.symm
  have t2' : decide ((1 : Int) ≤ (b : Int)) = q2 := by rw [h2, decide_eq_decide]; omega
  have t3 := h3.symm
  have t3' : decide ((a : Int) ≤ (n : Int)) = q3 := by rw [h3, decide_eq_decide]; omega
  have t4 := h4.symm
  have t4' : decide ((b : Int) ≤ (n : Int)) = q4 := by rw [h4, decide_eq_decide]; omega
  have t5 : ((a : Int) != (b : Int)) = q5 := by rw [h5, Bool.eq_iff_iff]; simp only [bne_iff_ne]; omega
  have t6 := h5.symm
  clear h1 h2 h3 h4 h5
  cases q1
  · clear t2 t2' t3 t3' t4 t4' t5 t6
    go_enter Try.func40, Try.ntmps40
    go_wp2_with fail
    go_ret
    exact ⟨rfl, Grow.alloc _ _⟩
  cases q2
  · clear t3 t3' t4 t4' t5 t6
    go_enter Try.func40, Try.ntmps40
    go_wp2_with fail
    go_ret
    exact ⟨rfl, Grow.alloc _ _⟩
  cases q3
  · clear t4 t4' t5 t6
    go_enter Try.func40, Try.ntmps40
    go_wp2_with fail
    go_ret
    exact ⟨rfl, Grow.alloc _ _⟩
  cases q4
  · clear t5 t6
    go_enter Try.func40, Try.ntmps40
    go_wp2_with fail
    go_ret
    exact ⟨rfl, Grow.alloc _ _⟩
  go_enter Try.func40, Try.ntmps40
  go_wp2_with fail
  go_ret
  exact ⟨rfl, Grow.alloc _ _⟩
set_option maxHeartbeats 4000000 in
theorem rnew_any (w : World) (x : Int) (hlo : -9223372036854775808 ≤ x) (hhi : x ≤ 9223372036854775807) (n : Nat) (hn : (n : Int) = min (max x 0) 64) :
    Calls Try.prog 15 #[.int .i64 x] w fun e w' => e = .returned (.agg #[.int .i64 (n : Int), .slice none 0 0, .slice none 0 0]) ∧ Grow w w' := by
  obtain ⟨W1, hW1⟩ : ∃ W, W = w.alloc (.cells #[.int .i64 0, .slice none 0 0, .slice none 0 0] TR) := ⟨_, rfl⟩
  have b1 : Blk W1 w.heap.size TR zR := by rw [hW1]; exact Blk.new _ _ _ _ rfl rfl
  have HG : Hid (Grow w W1) := Lib.hid (by rw [hW1]; exact Grow.alloc _ _)
  have HW1 := Lib.hid hW1
  have HB := Lib.hid b1
  clear hW1 b1
  by_cases h1 : x < 0
  · have t1 : decide (x < 0) = true := decide_eq_true h1
    obtain rfl : n = 0 := by omega
    clear h1 hn
    go_enter Try.func15, Try.ntmps15
    go_wp2_with (first | (rw [← HW1.out]; refine store_blk rfl _ _ _ rfl w.heap.size [.int .i64 0, .slice none 0 0, .slice none 0 0] rfl rfl _ _ HB.out (by rw [sizeR]; rfl) rfl rfl ?_))
    exact ret_blk rfl w.heap.size _ [.int .i64 0, .slice none 0 0, .slice none 0 0] _ rfl (HB.out.setRow _) undR rfl (by rw [sizeR]; rfl) rfl ⟨rfl, Grow.setRow HG.out (Nat.le_refl _) _⟩
  · have t1 : decide (x < 0) = false := decide_eq_false h1
    by_cases h2 : 64 < x
    · have t2 : decide (64 < x) = true := decide_eq_true h2
      obtain rfl : n = 64 := by omega
      clear h1 h2 hn
      go_enter Try.func15, Try.ntmps15
      go_wp2_with (first | (rw [← HW1.out]; refine store_blk rfl _ _ _ rfl w.heap.size [.int .i64 64, .slice none 0 0, .slice none 0 0] rfl rfl _ _ HB.out (by rw [sizeR]; rfl) rfl rfl ?_))
      exact ret_blk rfl w.heap.size _ [.int .i64 64, .slice none 0 0, .slice none 0 0] _ rfl (HB.out.setRow _) undR rfl (by rw [sizeR]; rfl) rfl ⟨rfl, Grow.setRow HG.out (Nat.le_refl _) _⟩
    · have t2 : decide (64 < x) = false := decide_eq_false h2
      obtain rfl : x = (n : Int) := by omega
      have t2' : decide (64 < n) = false := decide_eq_false (by omega)
      clear h1 h2 hn
      go_enter Try.func15, Try.ntmps15
      go_wp2_with (first | (rw [← HW1.out]; refine store_blk rfl _ _ _ rfl w.heap.size [.int .i64 (n : Int), .slice none 0 0, .slice none 0 0] rfl rfl _ _ HB.out (by rw [sizeR]; rfl) rfl rfl ?_))
      exact ret_blk rfl w.heap.size _ [.int .i64 (n : Int), .slice none 0 0, .slice none 0 0] _ rfl (HB.out.setRow _) undR rfl (by rw [sizeR]; rfl) rfl ⟨rfl, Grow.setRow HG.out (Nat.le_refl _) _⟩
set_option maxHeartbeats 4000000 in
theorem rheal_any (w : World) (n : Nat) (A : Option Addr) (l c : Nat) (vc : Value) :
    Calls Try.prog 38 #[.agg #[.int .i64 (n : Int), .slice A l c, vc]] w fun e w' => e = .returned (.agg #[.int .i64 (n : Int), .slice A l c, .slice none 0 0]) ∧ Grow w w' := by
  obtain ⟨W1, hW1, hg1, b0, b1⟩ := boxes2 w [.int .i64 (n : Int), .slice A l c, vc] zR TR TR
  have x0 := b0.cell (i := 0) rfl
  have x1 := b0.cell (i := 1) rfl
  have HG := Lib.hid hg1
  have HW1 := Lib.hid hW1
  have HB := Lib.hid b1
  clear hW1 b1 b0 hg1
  go_enter Try.func38, Try.ntmps38
  try dsimp only
  repeat (first | with_reducible (refine wp_region_cut (k := 1) ?_) | go_values | go_guarded | go_step | go_upon | go_back)
  rw [← HW1.out]
  unfold Cut
  go_wp2_with (first | (refine store_blk rfl _ _ _ rfl (w.heap.size + 1) [.int .i64 (n : Int), .slice A l c, .slice none 0 0] rfl rfl _ _ HB.out (by rw [sizeR]; rfl) rfl rfl ?_))
  exact ret_blk rfl (w.heap.size + 1) _ [.int .i64 (n : Int), .slice A l c, .slice none 0 0] _ rfl (HB.out.setRow _) undR rfl (by rw [sizeR]; rfl) rfl ⟨rfl, Grow.setRow HG.out (by omega) _⟩
end Go.Proofs.Ytmekdhlcflielaa.ntL
