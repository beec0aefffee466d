/- The walks of block.cut, some, Things, Odd. -/
import Derived.Test.YtbcifodifadoiaaBkV
namespace Go.Proofs.Ytbcifodifadoiaa.bk
open Go Go.RowKit Go.Par Go.Kit Go.Proofs.Ytbcifodifadoiaa.Bk Go.Proofs.Ytbcifodifadoiaa.reW Go.Proofs.Ytbcifodifadoiaa.mkW

abbrev TB : TypeId := 43
abbrev TY : TypeId := 62
/-- numbers, as an argument -/
structure Nums (w : World) (A : Option Addr) (n c : Nat) (l : List Int) : Prop where
  row : Row w A n (l.map iv)
  nc : n ≤ c
  cm : c ≤ maxLen
  ok : ∀ z ∈ l, i64ok z
theorem Nums.grow {w w' : World} {A : Option Addr} {n c : Nat} {l : List Int} (h : Nums w A n c l) (hg : Grow w w') : Nums w' A n c l := ⟨h.row.grow hg, h.nc, h.cm, h.ok⟩
theorem Nums.len {w : World} {A : Option Addr} {n c : Nat} {l : List Int} (h : Nums w A n c l) : l.length = n := by have := h.row.1; rwa [List.length_map] at this
theorem Nums.at_ {w : World} {A : Option Addr} {n c : Nat} {l : List Int} (h : Nums w A n c l) {k : Nat} (hk : k < n) : ∃ b off z, A = some ⟨b, off, none⟩ ∧ l[k]? = some z ∧ w.cell? ⟨b, off + k, none⟩ = some (.int .i64 z) ∧ i64ok z := by
  obtain ⟨b, off, z, h1, h2, h3⟩ := Row.iv_at h.row hk
  exact ⟨b, off, z, h1, h2, h3, h.ok z (List.mem_of_getElem? h2)⟩
theorem Nums.cut {w : World} {A : Option Addr} {n c : Nat} {l : List Int} (h : Nums w A n c l) {k : Nat} (hk : k ≤ n) : Nums w (cutAt A c k) (n - k) (c - k) (l.drop k) :=
  ⟨by have := h.row.cut hk h.nc; rwa [← List.map_drop] at this, by have := h.nc; omega, by have := h.cm; omega, fun z hz => h.ok z (List.mem_of_mem_drop hz)⟩
theorem Nums.take {w : World} {A : Option Addr} {n c : Nat} {l : List Int} (h : Nums w A n c l) {k : Nat} (hk : k ≤ n) : Nums w A k c (l.take k) :=
  ⟨by have := h.row.take hk; rwa [← List.map_take] at this, by have := h.nc; omega, h.cm, fun z hz => h.ok z (List.mem_of_mem_take hz)⟩
theorem Nums.seg {w : World} {A : Option Addr} {n c : Nat} {l : List Int} (h : Nums w A n c l) {k m : Nat} (hk : k ≤ m) (hm : m ≤ n) : Nums w (cutAt A c k) (m - k) (c - k) (Bk.seg l k m) :=
  ⟨by have := h.row.cutm hk hm h.nc; unfold Bk.seg; rwa [List.map_take, List.map_drop], by have := h.nc; omega, by have := h.cm; omega, fun z hz => h.ok z (List.mem_of_mem_drop (List.mem_of_mem_take hz))⟩
theorem OwnI.nums {w : World} {base : Nat} {v : Value} {l : List Int} (h : OwnI w base v l) (hok : ∀ z ∈ l, i64ok z) : ∃ A c, v = .slice A l.length c ∧ Nums w A l.length c l := by
  obtain ⟨A, c, e, h1, h2, h3⟩ := h.form
  exact ⟨A, c, e, h3, h1, h2, hok⟩
theorem cutB_no {B : Int → Int → Bool} {l : List Int} {i k m : Nat} {x y : Int} (hk : k < i) (hx : l[k]? = some x) (hy : (l.drop i)[m]? = some y) (h : B x y = false) : cutB B l i = false := by
  unfold cutB
  rw [List.all_eq_false]
  refine ⟨x, List.mem_of_getElem? (i := k) (by rw [List.getElem?_take, if_pos hk]; exact hx), ?_⟩
  intro h2
  have := List.all_eq_true.1 h2 y (List.mem_of_getElem? hy)
  rw [h] at this
  cases this
theorem cutB_yes {B : Int → Int → Bool} {l : List Int} {i : Nat} (h : ∀ (k : Nat) (x : Int), k < i → l[k]? = some x → ∀ (m : Nat) (y : Int), (l.drop i)[m]? = some y → B x y = true) : cutB B l i = true := by
  unfold cutB
  rw [List.all_eq_true]
  intro x hx
  rw [List.all_eq_true]
  intro y hy
  obtain ⟨k, hk, rfl⟩ := List.getElem_of_mem hx
  obtain ⟨m, hm, rfl⟩ := List.getElem_of_mem hy
  have hk2 : k < i := by rw [List.length_take] at hk; omega
  refine h k _ hk2 ?_ m _ (List.getElem?_eq_getElem hm)
  have := List.getElem?_eq_getElem hk
  rw [List.getElem?_take, if_pos hk2] at this
  exact this
set_option maxRecDepth 100000 in
set_option maxHeartbeats 2000000 in
theorem cut_any (w : World) (gr n : Nat) (R : Nat → Nat → Bool) (h : RelP w gr n R) (A : Option Addr) (len c : Nat) (l : List Int) (hl : Nums w A len c l) (i : Nat) (hi : i ≤ len) :
    Calls Try.prog 27 #[.pointer (some ⟨gr, 0, none⟩), .slice A len c, .int .i64 (i : Int)] w fun e w' => e = .returned (.bool (cutB (aheadI R) l i)) ∧ w = w' := by
  have HB := Lib.hid (before_any w gr n R h)
  have HL := Lib.hid hl
  have hc := hl.nc
  have hm := hl.cm
  unfold maxLen at hm
  have hs1 := slice_hi (P := Try.prog) Try.underlying23 iI A len c i (by omega)
  have hs2 := slice_lo (P := Try.prog) Try.underlying23 iI iIs A len c i hi
  have hn1 := hl.take hi
  have hn2 := hl.cut hi
  obtain ⟨A2, hA2⟩ : ∃ A2, A2 = cutAt A c i := ⟨_, rfl⟩
  obtain ⟨n2, hn2'⟩ : ∃ n2, n2 = len - i := ⟨_, rfl⟩
  obtain ⟨c2, hc2⟩ : ∃ c2, c2 = c - i := ⟨_, rfl⟩
  rw [← hA2, ← hn2', ← hc2] at hs2 hn2
  obtain ⟨r, hr⟩ : ∃ r, r = cutB (aheadI R) l i := ⟨_, rfl⟩
  rw [← hr]
  have HR := Lib.hid hr
  have HN1 := Lib.hid hn1
  have HN2 := Lib.hid hn2
  have hi' : i ≤ 9223372036854775807 := by omega
  have hn2b : n2 ≤ 9223372036854775807 := by omega
  clear h hl hi hn1 hn2 hA2 hn2' hc2 hr hc hm
  go_enter Try.func27, Try.ntmps27
  go_wp2_with fail
  go_loopw [8, 10, 15, 21, 23] (fun _ _ k' _ _ wr => ∃ k : Nat, k ≤ i ∧ k' = .int .i64 (k : Int) ∧ w = wr ∧ ∀ (k' : Nat) (x : Int), k' < k → l[k']? = some x → ∀ (m : Nat) (y : Int), (l.drop i)[m]? = some y → aheadI R x y = true) (fun _ _ k' _ _ _ => i - (intOf k').toNat)
  case atStart => exact ⟨0, by omega, rfl, rfl, fun k' x h => absurd h (by omega)⟩
  case round =>
    obtain ⟨k, hk, rfl, rfl, hal⟩ := hrel
    by_cases hlt : k < i
    · obtain ⟨b, off, x, rfl, hx, hcx, hxo⟩ := HN1.out.at_ hlt
      have hxl : l[k]? = some x := by rwa [List.getElem?_take, if_pos hlt] at hx
      have t1 : decide (k < i) = true := decide_eq_true hlt
      have t1' : decide ((k : Int) < (i : Int)) = true := decide_eq_true (by omega)
      have HAL := Lib.hid hal
      have HX := Lib.hid (And.intro hxl hxo)
      have HLT := Lib.hid hlt
      clear hal hx hxl hxo hk hlt
      go_wp2_with fail
      clear hcx
      go_loopw [10, 23] (fun _ m' wr => ∃ m : Nat, m ≤ n2 ∧ m' = .int .i64 (m : Int) ∧ w = wr ∧ ∀ (m' : Nat) (y : Int), m' < m → (l.drop i)[m']? = some y → aheadI R x y = true) (fun _ m' _ => n2 - (intOf m').toNat)
      case atStart => exact ⟨0, by omega, rfl, rfl, fun k' x h => absurd h (by omega)⟩
      case round =>
        obtain ⟨m, hm, rfl, rfl, ham⟩ := hrel
        by_cases hlm : m < n2
        · obtain ⟨b2, off2, y, rfl, hy, hcy, hyo⟩ := HN2.out.at_ hlm
          have t2 : decide (m < n2) = true := decide_eq_true hlm
          have t2' : decide ((m : Int) < (n2 : Int)) = true := decide_eq_true (by omega)
          have HC := Lib.hid (HB.out x y HX.out.2.1 HX.out.2.2 hyo.1 hyo.2)
          obtain ⟨q, hq⟩ : ∃ q, q = aheadI R x y := ⟨_, rfl⟩
          rw [← hq] at HC
          have HQ := Lib.hid hq
          have HY := Lib.hid hy
          have HAM := Lib.hid ham
          have HLM := Lib.hid hlm
          clear hy hyo hq ham hm hlm
          cases q
          · go_wp2_with fail
            refine HC.out.mono ?_
            rintro e w' ⟨rfl, rfl⟩
            go_wp2_with fail
            go_ret
            rw [show r = false from HR.out.trans (cutB_no HLT.out HX.out.1 HY.out HQ.out.symm)]
            exact ⟨rfl, rfl⟩
          · go_wp2_with fail
            refine HC.out.mono ?_
            rintro e w' ⟨rfl, rfl⟩
            go_wp2_with fail
            go_roundw
            case rel =>
              refine ⟨m + 1, by have := HLM.out; omega, by go_num, trivial, fun m' y' hm' hy' => ?_⟩
              rcases Nat.lt_or_ge m' m with h3 | h3
              · exact HAM.out m' y' h3 hy'
              · obtain rfl : m' = m := by omega
                rw [HY.out] at hy'
                injection hy' with hy'
                rw [← hy']; exact HQ.out.symm
            case measure => have := HLM.out; simp [intOf] <;> omega
        · obtain rfl : m = n2 := by omega
          have t2 : decide (m < m) = false := decide_eq_false hlm
          have HAM := Lib.hid ham
          clear ham hm hlm
          go_wp2_with fail
          go_roundw
          case rel =>
            refine ⟨k + 1, by have := HLT.out; omega, by go_num, trivial, fun k' x' hk' hx' m' y hy => ?_⟩
            rcases Nat.lt_or_ge k' k with h3 | h3
            · exact HAL.out k' x' h3 hx' m' y hy
            · obtain rfl : k' = k := by omega
              rw [HX.out.1] at hx'
              injection hx' with hx'
              subst hx'
              refine HAM.out m' y ?_ hy
              have h4 := (List.getElem?_eq_some_iff.1 hy).1
              rwa [HN2.out.len] at h4
          case measure => have := HLT.out; simp [intOf] <;> omega
    · obtain rfl : k = i := by omega
      have t1 : decide (k < k) = false := decide_eq_false hlt
      have HAL := Lib.hid hal
      clear hal hk hlt
      go_wp2_with fail
      go_ret
      rw [show r = true from HR.out.trans (cutB_yes HAL.out)]
      exact ⟨rfl, rfl⟩
end Go.Proofs.Ytbcifodifadoiaa.bk
