/- The document's net: Whole, add, Send. -/
import Derived.Test.YtmekdhlcflielaaNtR
namespace Go.Proofs.Ytmekdhlcflielaa.ntL
open Go Go.RowKit Go.Par Go.Kit Go.Proofs.Ytmekdhlcflielaa.mpA Go.Proofs.Ytmekdhlcflielaa.cl Go.Proofs.Ytmekdhlcflielaa.nt

def hitR (cs : List (Nat × Nat)) (a b : Nat) : Bool := cs.any fun c => c == (a, b) || c == (b, a)
def wholeR (n : Nat) (cs : List (Nat × Nat)) (a b : Nat) : Bool := pairB n a b && !hitR cs a b
theorem crows_get {cs : List (Nat × Nat)} {k : Nat} {c : Nat × Nat} (h : cs[k]? = some c) {j : Nat} {v : Value} (hv : (crow c)[j]? = some v) : (crows cs)[k * 2 + j]? = some v := by
  have hj : j < 2 := by have := (List.getElem?_eq_some_iff.1 hv).1; simpa [crow] using this
  unfold crows
  rw [flatten_at (S := 2) (by decide) _ (k * 2 + j) (by intro r hr; obtain ⟨c, -, rfl⟩ := List.mem_map.1 hr; rfl), show (k * 2 + j) / 2 = k by omega, show (k * 2 + j) % 2 = j by omega, List.getElem?_map, h]
  exact hv
theorem rrows_get {ps : List Pk} {k : Nat} {p : Pk} (h : ps[k]? = some p) {j : Nat} {v : Value} (hv : (rrow p)[j]? = some v) : (rrows ps)[k * 4 + j]? = some v := by
  have hj : j < 4 := by have := (List.getElem?_eq_some_iff.1 hv).1; simpa [rrow] using this
  unfold rrows
  rw [flatten_at (S := 4) (by decide) _ (k * 4 + j) (by intro r hr; obtain ⟨c, -, rfl⟩ := List.mem_map.1 hr; rfl), show (k * 4 + j) / 4 = k by omega, show (k * 4 + j) % 4 = j by omega, List.getElem?_map, h]
  exact hv
theorem eq2 (w : World) (x y a b : Nat) (q : Bool) (hq : q = ((x, y) == (a, b))) : (Op.equalIn 10000 T2 (.agg #[.int .u8 (x : Int), .int .u8 (y : Int)]) (.agg #[.int .u8 (a : Int), .int .u8 (b : Int)])).run Try.prog w = .ok q w := by
  have h := run_equalIn_ints (P := Try.prog) w 9998 T2 5 2 .u8 Try.underlying77 Try.underlying5 szU8 [(x : Int), (y : Int)] [(a : Int), (b : Int)] rfl rfl
  have e : q = ([(x : Int), (y : Int)] == [(a : Int), (b : Int)]) := by
    rw [hq, Bool.eq_iff_iff]
    simp only [beq_iff_eq, Prod.mk.injEq, List.cons.injEq, and_true]
    omega
  rw [e]
  exact h
theorem wanted0 {o : Oper} {y : _} (h : o.guard = none) : Region.wanted o y = true := by unfold Region.wanted; rw [h]
set_option maxRecDepth 100000 in
set_option maxHeartbeats 4000000 in
theorem rwhole_any (w : World) (n a b : Nat) (vl vc : Value) (cs : List (Nat × Nat)) (hc : LV w vc cs.length 2 T2 (crows cs)) (ha : a ≤ 255) (hb : b ≤ 255) :
    Calls Try.prog 20 #[.agg #[.int .i64 (n : Int), vl, vc], .int .u8 (a : Int), .int .u8 (b : Int)] w fun e w' => e = .returned (.bool (wholeR n cs a b)) ∧ Grow w w' := by
  obtain ⟨W1, hW1⟩ : ∃ W, W = w.alloc (.cells #[.int .i64 (n : Int), vl, vc] TR) := ⟨_, rfl⟩
  have hg1 : Grow w W1 := by rw [hW1]; exact Grow.alloc _ _
  have b1 : Blk W1 w.heap.size TR [.int .i64 (n : Int), vl, vc] := by rw [hW1]; exact Blk.new _ _ _ _ rfl rfl
  have x2 := b1.cell (i := 2) rfl
  obtain ⟨A, c, rfl, h1, h2, hr, -⟩ := hc.grow hg1
  obtain ⟨l, hl⟩ : ∃ l, l = cs.length := ⟨_, rfl⟩
  rw [← hl] at x2 b1 hr hW1 h1
  have HP := Lib.hid (rpair_any W1 n a b vl (.slice A l c) ha hb)
  have HG := Lib.hid hg1
  have HW1 := Lib.hid hW1
  have HB := Lib.hid b1
  have HL := Lib.hid hl
  have hlm : l ≤ maxLen := by omega
  unfold maxLen at hlm
  have HR := Lib.hid hr
  rw [← hl]
  clear hc hg1 hW1 b1 hl h1 h2 hr
  go_enter Try.func20, Try.ntmps20
  try dsimp only
  repeat (first | with_reducible (refine wp_region_cut (k := 1) ?_) | go_values | go_guarded | go_step | go_upon | go_back)
  rw [← HW1.out]
  unfold Cut
  go_wp2_with fail
  go_loop [7] (fun i => ∃ k : Nat, k ≤ l ∧ i = .int .i64 (k : Int) ∧ Hid (∀ (j : Nat) (c : Nat × Nat), j < k → cs[j]? = some c → (c == (a, b) || c == (b, a)) = false)) (fun i => l - (intOf i).toNat)
  case atStart => exact ⟨0, by omega, rfl, Lib.hid fun j a h => absurd h (by omega)⟩
  case round =>
    obtain ⟨k, hk, rfl, HK⟩ := hrel
    by_cases hlt : k < l
    · obtain ⟨⟨x, y⟩, hx⟩ : ∃ x, cs[k]? = some x := ⟨_, List.getElem?_eq_getElem (by have := HL.out; omega)⟩
      obtain ⟨bb, off, rfl, hcc⟩ := HR.out.2 (by omega)
      have HCC : Hid (∀ j u, [Value.int .u8 (x : Int), Value.int .u8 (y : Int)][j]? = some u → W1.cell? ⟨bb, off + k * 2 + j, none⟩ = some u) := Lib.hid (fun j u hu => by rw [Nat.add_assoc]; exact hcc (k * 2 + j) u (crows_get hx hu))
      have HX := Lib.hid hx
      have c0 := HCC.out 0 _ rfl
      have c1 := HCC.out 1 _ rfl
      rw [Nat.add_zero] at c0
      obtain ⟨q1, h1⟩ : ∃ q, q = ((x, y) == (a, b)) := ⟨_, rfl⟩
      obtain ⟨q2, h2⟩ : ∃ q, q = ((x, y) == (b, a)) := ⟨_, rfl⟩
      have te1 := eq2 W1 x y a b q1 h1
      have te2 := eq2 W1 x y b a q2 h2
      have H1 := Lib.hid h1
      have H2 := Lib.hid h2
      have hkk : (q1 || q2) = false → Hid (∀ (j : Nat) (c : Nat × Nat), j < k + 1 → cs[j]? = some c → (c == (a, b) || c == (b, a)) = false) := fun h9 => Lib.hid fun j a' hj ha' => by
        by_cases hjk : j < k
        · exact HK.out j a' hjk ha'
        · obtain rfl : j = k := by omega
          rw [HX.out] at ha'
          obtain rfl := Option.some.inj ha'
          rw [← H1.out, ← H2.out]; exact h9
      have hff : (q1 || q2) = true → Hid (wholeR n cs a b = false) := fun h9 => Lib.hid (by
        unfold wholeR
        rw [show hitR cs a b = true from List.any_eq_true.2 ⟨(x, y), List.mem_of_getElem? HX.out, by rw [← H1.out, ← H2.out]; exact h9⟩]
        simp)
      have HKK := Lib.hid hkk
      have HFF := Lib.hid hff
      clear hcc hx h1 h2 hkk hff
      cases q1
      · cases q2
        · have HK' := HKK.out rfl
          go_wp2_with fail
          go_round
          case rel => exact ⟨k + 1, by omega, by go_num, HK'⟩
          case measure => simp [intOf] <;> omega
        · have HF := HFF.out rfl
          go_wp2_with fail
          go_ret
          exact ⟨by rw [HF.out]; rfl, HG.out⟩
      · have HF := HFF.out rfl
        go_wp2_with fail
        go_ret
        exact ⟨by rw [HF.out]; rfl, HG.out⟩
    · obtain rfl : k = l := by omega
      have HF : Hid (wholeR n cs a b = pairB n a b) := Lib.hid (by
        unfold wholeR
        rw [show hitR cs a b = false from by
          unfold hitR
          rw [Bool.eq_false_iff]
          intro h9
          obtain ⟨c, hm, he⟩ := List.any_eq_true.1 h9
          obtain ⟨j, hj, rfl⟩ := List.getElem_of_mem hm
          have := HK.out j _ (by have := HL.out; omega) (List.getElem?_eq_getElem hj)
          rw [this] at he
          cases he]
        simp)
      go_wp2_with (refine load_blk rfl _ _ rfl w.heap.size rfl _ _ _ HB.out undR rfl (by rw [sizeR]; rfl) ?_)
      refine HP.out.mono ?_
      rintro e w2 ⟨rfl, hg2⟩
      have HG2 := Lib.hid (HG.out.trans hg2)
      clear hg2
      go_wp2_with fail
      go_ret
      exact ⟨by rw [HF.out]; rfl, HG2.out⟩
end Go.Proofs.Ytmekdhlcflielaa.ntL
