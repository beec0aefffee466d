/- Vectors of sixty-four numbers: good ones; names. -/
import Derived.Test.YthclgmpjmhacdaaArr
import Derived.Test.YthclgmpjmhacdaaMut
import Derived.Test.YthclgmpjmhacdaaRows
import Derived.Test.YthclgmpjmhacdaaFast
import Derived.Test.YthclgmpjmhacdaaCut
import Derived.Lib.OthersKept
namespace Go.Proofs.Ythclgmpjmhacdaa.tg
open Go Go.RowKit Go.Par Go.Kit

abbrev TV : TypeId := 37
theorem undV : Try.prog.underlying TV = some (.array 64 35) := by kernel_rfl
theorem sizeV : (Try.prog.info? TV).map (·.size) = some 64 := by kernel_rfl
theorem sz16 (w : World) : (sizeOf 35).run Try.prog w = .ok 1 w := by kernel_rfl
/-- a vector -/
def VecOk (v : List Int) : Prop := v.length = 64 ∧ ∀ x ∈ v, 0 ≤ x ∧ x ≤ 65535
def vv (v : List Int) : Value := .agg (ints .u16 v).toArray
def goodV (v : List Int) : Bool := v.all fun x => decide (x ≤ 60000)
def withinV (a b : List Int) : Bool := (List.range 64).all fun i => decide (a.getD i 0 ≤ b.getD i 0)
theorem ints_at {k : IntKind} {v : List Int} {i : Nat} {x : Int} (h : v[i]? = some x) : (ints k v)[i]? = some (.int k x) := by unfold ints; rw [List.getElem?_map, h]; rfl
theorem good_yes {v : List Int} (h : ∀ (i : Nat) (x : Int), i < 64 → v[i]? = some x → x ≤ 60000) (hl : v.length = 64) : goodV v = true := by
  unfold goodV
  rw [List.all_eq_true]
  intro x hx
  obtain ⟨i, hi, rfl⟩ := List.getElem_of_mem hx
  exact decide_eq_true (h i _ (by omega) (List.getElem?_eq_getElem hi))
theorem good_no {v : List Int} {i : Nat} {x : Int} (h : v[i]? = some x) (hx : ¬ x ≤ 60000) : goodV v = false := by
  unfold goodV
  rw [List.all_eq_false]
  exact ⟨x, List.mem_of_getElem? h, by rw [decide_eq_false hx]; decide⟩
set_option maxRecDepth 100000 in
set_option maxHeartbeats 1000000 in
theorem good_any (w : World) (v : List Int) (hv : VecOk v) : Calls Try.prog 44 #[vv v] w fun e w' => e = .returned (.bool (goodV v)) ∧ Grow w w' := by
  have hvl := hv.1
  obtain ⟨W1, hW1⟩ : ∃ W, W = w.alloc (.cells (ints .u16 v).toArray TV) := ⟨_, rfl⟩
  obtain ⟨b1, hb1⟩ : ∃ b1, b1 = w.heap.size := ⟨_, rfl⟩
  have hg : Grow w W1 := by rw [hW1]; exact Grow.alloc _ _
  have hbx : Blk W1 b1 TV (ints .u16 v) := by rw [hW1]; exact Blk.new _ _ _ _ rfl hb1
  obtain ⟨r, hr⟩ : ∃ r, r = goodV v := ⟨_, rfl⟩
  rw [← hr]
  have HR := Lib.hid hr
  have HV := Lib.hid hv
  have HG := Lib.hid hg
  have HBX := Lib.hid hbx
  have HW1 := Lib.hid hW1
  have HB1 := Lib.hid hb1
  unfold vv
  obtain ⟨cs, hcs⟩ : ∃ cs, cs = ints .u16 v := ⟨_, rfl⟩
  rw [← hcs] at HBX HW1 ⊢
  have HCS := Lib.hid hcs
  clear hv hg hbx hW1 hb1 hr hcs
  go_enter Try.func44, Try.ntmps44
  try dsimp only
  repeat (first | with_reducible (refine wp_region_cut (k := 1) ?_) | go_values | go_guarded | go_step | go_upon | go_back)
  rw [← HW1.out, ← HB1.out]
  unfold Cut
  go_wp2_with (refine load_blk rfl _ _ rfl b1 rfl _ _ _ HBX.out undV rfl (by rw [sizeV, HCS.out]; simp [ints]; exact HV.out.1.symm) ?_)
  go_loopw [6] (fun k' wr => ∃ k : Nat, k ≤ 64 ∧ k' = .int .i64 (k : Int) ∧ W1 = wr ∧ ∀ (i : Nat) (x : Int), i < k → v[i]? = some x → x ≤ 60000) (fun k' _ => 64 - (intOf k').toNat)
  case atStart => exact ⟨0, by omega, rfl, rfl, fun i x h => absurd h (by omega)⟩
  case round =>
    obtain ⟨k, hk, rfl, rfl, hal⟩ := hrel
    have HAL := Lib.hid hal
    clear hal
    by_cases hlt : k < 64
    · have t1 : decide (k < 64) = true := decide_eq_true hlt
      have t1' : decide ((k : Int) < 64) = true := decide_eq_true (by omega)
      obtain ⟨x, hx⟩ : ∃ x, v[k]? = some x := ⟨_, List.getElem?_eq_getElem (by omega)⟩
      have hidx := run_index_arr (P := Try.prog) undV Try.underlying35 sz16 cs k (.int .u16 x) hlt (by rw [HCS.out]; exact ints_at hx)
      have HX := Lib.hid hx
      have HLT := Lib.hid hlt
      have hk9 : k < 64 := hlt
      clear hk hx hlt
      by_cases h6 : x ≤ 60000
      · have s1 : decide (60000 < x) = false := decide_eq_false (by omega)
        have H6 := Lib.hid h6
        clear h6
        go_wp2_with fail
        clear hidx s1
        go_roundw
        case rel =>
          refine ⟨k + 1, by have := HLT.out; omega, by go_num, trivial, fun i y hi hy => ?_⟩
          rcases Nat.lt_or_ge i k with h3 | h3
          · exact HAL.out i y h3 hy
          · obtain rfl : i = k := by omega
            rw [HX.out] at hy
            injection hy with hy
            rw [← hy]; exact H6.out
        case measure => have := HLT.out; simp [intOf] <;> omega
      · have s1 : decide (60000 < x) = true := decide_eq_true (by omega)
        have H6 := Lib.hid h6
        clear h6
        go_wp2_with fail
        go_ret
        rw [show r = false from HR.out.trans (good_no HX.out (by have := H6.out; omega))]
        exact ⟨rfl, HG.out⟩
    · obtain rfl : k = 64 := by omega
      have t1 : decide ((64 : Nat) < 64) = false := decide_eq_false (by omega)
      clear hk hlt
      go_wp2_with fail
      go_ret
      rw [show r = true from HR.out.trans (good_yes HAL.out hvl)]
      exact ⟨rfl, HG.out⟩
set_option maxRecDepth 100000 in
set_option maxHeartbeats 1000000 in
theorem rgood_any (w : World) (v : List Int) (hv : VecOk v) : Calls Try.prog 41 #[vv v] w fun e w' => e = .returned (.bool (goodV v)) ∧ Grow w w' := by
  have hvl := hv.1
  obtain ⟨W1, hW1⟩ : ∃ W, W = w.alloc (.cells (ints .u16 v).toArray TV) := ⟨_, rfl⟩
  obtain ⟨b1, hb1⟩ : ∃ b1, b1 = w.heap.size := ⟨_, rfl⟩
  have hg : Grow w W1 := by rw [hW1]; exact Grow.alloc _ _
  have hbx : Blk W1 b1 TV (ints .u16 v) := by rw [hW1]; exact Blk.new _ _ _ _ rfl hb1
  obtain ⟨r, hr⟩ : ∃ r, r = goodV v := ⟨_, rfl⟩
  rw [← hr]
  have HR := Lib.hid hr
  have HG := Lib.hid hg
  have HBX := Lib.hid hbx
  have HW1 := Lib.hid hW1
  have HB1 := Lib.hid hb1
  unfold vv
  clear hv hg hbx hW1 hb1 hr
  go_enter Try.func41, Try.ntmps41
  try dsimp only
  repeat (first | with_reducible (refine wp_region_cut (k := 1) ?_) | go_values | go_guarded | go_step | go_upon | go_back)
  rw [← HW1.out, ← HB1.out]
  unfold Cut
  go_wp2_with fail
  go_loopw [3] (fun k' wr => ∃ k : Nat, k ≤ 64 ∧ k' = .int .i64 (k : Int) ∧ W1 = wr ∧ ∀ (i : Nat) (x : Int), i < k → v[i]? = some x → x ≤ 60000) (fun k' _ => 64 - (intOf k').toNat)
  case atStart => exact ⟨0, by omega, rfl, rfl, fun i x h => absurd h (by omega)⟩
  case round =>
    obtain ⟨k, hk, rfl, rfl, hal⟩ := hrel
    have HAL := Lib.hid hal
    clear hal
    by_cases hlt : k < 64
    · have t1 : decide (k < 64) = true := decide_eq_true hlt
      have t1' : decide ((k : Int) < 64) = true := decide_eq_true (by omega)
      obtain ⟨x, hx⟩ : ∃ x, v[k]? = some x := ⟨_, List.getElem?_eq_getElem (by omega)⟩
      have y0 := HBX.out.cell (ints_at (k := .u16) hx)
      have HX := Lib.hid hx
      have HLT := Lib.hid hlt
      have hk9 : k < 64 := hlt
      clear hk hx hlt
      by_cases h6 : x ≤ 60000
      · have s1 : decide (60000 < x) = false := decide_eq_false (by omega)
        have H6 := Lib.hid h6
        clear h6
        go_wp2_with fail
        clear y0 s1
        go_roundw
        case rel =>
          refine ⟨k + 1, by have := HLT.out; omega, by go_num, trivial, fun i y hi hy => ?_⟩
          rcases Nat.lt_or_ge i k with h3 | h3
          · exact HAL.out i y h3 hy
          · obtain rfl : i = k := by omega
            rw [HX.out] at hy
            injection hy with hy
            rw [← hy]; exact H6.out
        case measure => have := HLT.out; simp [intOf] <;> omega
      · have s1 : decide (60000 < x) = true := decide_eq_true (by omega)
        have H6 := Lib.hid h6
        clear h6
        go_wp2_with fail
        go_ret
        rw [show r = false from HR.out.trans (good_no HX.out (by have := H6.out; omega))]
        exact ⟨rfl, HG.out⟩
    · obtain rfl : k = 64 := by omega
      have t1 : decide ((64 : Nat) < 64) = false := decide_eq_false (by omega)
      clear hk hlt
      go_wp2_with fail
      go_ret
      rw [show r = true from HR.out.trans (good_yes HAL.out hvl)]
      exact ⟨rfl, HG.out⟩
end Go.Proofs.Ythclgmpjmhacdaa.tg
