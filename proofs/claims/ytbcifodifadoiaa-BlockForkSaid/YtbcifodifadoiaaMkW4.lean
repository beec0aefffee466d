/- The walks of sets: Count, Next, List, Within, Same. -/
import Derived.Test.YtbcifodifadoiaaMkW3
namespace Go.Proofs.Ytbcifodifadoiaa.mkW
open Go Go.RowKit Go.Par Go.Kit Go.Proofs.Ytbcifodifadoiaa.Mk

/-! how many -/
def countTo (ws : List (BitVec 64)) : Nat → Nat
  | 0 => 0
  | k + 1 => countTo ws k + Bt.ones ((ws[k]?).getD 0#64)
theorem countTo_le (ws : List (BitVec 64)) : ∀ k, countTo ws k ≤ 64 * k
  | 0 => by simp [countTo]
  | k + 1 => by
    have := countTo_le ws k
    have := Bt.ones_le ((ws[k]?).getD 0#64)
    unfold countTo; omega
theorem countTo_bits (ws : List (BitVec 64)) : ∀ k, (List.range (64 * k)).countP (bit ws) = countTo ws k
  | 0 => rfl
  | k + 1 => by
    rw [show 64 * (k + 1) = 64 * k + 64 by omega, List.range_add, List.countP_append, countTo_bits ws k, List.countP_map]
    rw [countTo]
    unfold Bt.ones
    congr 1
    apply List.countP_congr
    intro i hi
    rw [List.mem_range] at hi
    have h1 : (64 * k + i) / 64 = k := by omega
    have h2 : (64 * k + i) % 64 = i := by omega
    simp only [Function.comp, bit, h1, h2]
    cases ws[k]? <;> simp
theorem count_all {n : Nat} {ws : List (BitVec 64)} {S : Nat → Bool} (h : GoodW n ws S) : countTo ws ((n + 63) / 64) = (elems n S).length := by
  rw [← countTo_bits]
  unfold elems
  rw [← List.countP_eq_length_filter]
  have e : 64 * ((n + 63) / 64) = n + (64 * ((n + 63) / 64) - n) := by omega
  rw [e, List.range_add, List.countP_append]
  have h0 : List.countP (bit ws) (List.map (fun x => n + x) (List.range (64 * ((n + 63) / 64) - n))) = 0 := by
    rw [List.countP_eq_zero]
    intro j hj
    rw [List.mem_map] at hj
    obtain ⟨i, _, rfl⟩ := hj
    intro hb
    rw [h.2.2.1] at hb
    have := h.2.2.2 _ hb
    omega
  rw [h0, Nat.add_zero]
  apply List.countP_congr
  intro j _
  rw [h.2.2.1]
theorem next_neg (S : Nat → Bool) (n : Nat) (a : Int) (h : (n : Int) ≤ max a 0) : nextN n S a = -1 := by
  rw [← nextN_max]
  exact nextN_none (fun i hi ha => by omega)
theorem mask_low (x : BitVec 64) (b i : Nat) (hi : i < 64) : ((x >>> b) <<< b).getLsbD i = (decide (b ≤ i) && x.getLsbD i) := by
  rw [BitVec.getLsbD_shiftLeft, BitVec.getLsbD_ushiftRight]
  by_cases h : b ≤ i
  · rw [decide_eq_true h, decide_eq_true hi, decide_eq_false (p := i < b) (by omega), show b + (i - b) = i by omega]; rfl
  · rw [decide_eq_false h, decide_eq_true (p := i < b) (by omega)]; simp
theorem shl_shr (x : BitVec 64) (b : Nat) : IntKind.u64.wrap ((x.toNat : Int) / 2 ^ b * 2 ^ b) = (((x >>> b) <<< b).toNat : Int) := by
  rw [← shr64]; exact btW.wshl (x >>> b) b _ rfl
theorem first_bit {y : BitVec 64} (h : y ≠ 0#64) : ∃ p, Bt.first y = p ∧ p < 64 ∧ y.getLsbD p = true ∧ ∀ i, i < p → y.getLsbD i = false := by
  obtain ⟨p, hp, h1, h0⟩ := Bt.lowest y h
  exact ⟨p, Bt.first_of hp h1 h0, hp, h1, h0⟩
theorem zero_tests (y : BitVec 64) (h : y = 0#64) : ((y.toNat : Int) != 0) = false ∧ (y.toNat != 0) = false := by subst h; exact ⟨rfl, rfl⟩
theorem some_tests (y : BitVec 64) (h : y ≠ 0#64) : ((y.toNat : Int) != 0) = true ∧ (y.toNat != 0) = true := by
  have : y.toNat ≠ 0 := fun e => h (BitVec.eq_of_toNat_eq (by simpa using e))
  exact ⟨bne_iff_ne.2 (by omega), bne_iff_ne.2 this⟩

set_option maxRecDepth 100000 in
set_option maxHeartbeats 1000000 in
theorem next_any (w : World) (g : Nat) (h : Option Nat) (n : Nat) (S : Nat → Bool) (m : MS w g h n S) (a : Int) (ha : a ≤ 9223372036854775807) :
    Calls Try.prog 43 #[.pointer (some ⟨g, 0, none⟩), .int .i64 a] w fun e w' => e = .returned (.int .i64 (nextN n S a)) ∧ w = w' := by
  have HR := Lib.hid (room_any w g h n S m)
  obtain ⟨f, hf⟩ : ∃ f : Nat, (f : Int) = max a 0 := ⟨(max a 0).toNat, by omega⟩
  have hmax := fun ts t W => run_max2i (P := Try.prog) ts t a 0 (f : Int) hf W
  obtain ⟨r, hr⟩ : ∃ r, r = nextN n S a := ⟨_, rfl⟩
  rw [← hr]
  by_cases hfn : n ≤ f
  · have hr1 : r = -1 := by rw [hr]; exact next_neg S n a (by omega)
    have HR1 := Lib.hid hr1
    have t1 : decide ((n : Int) ≤ (f : Int)) = true := decide_eq_true (by omega)
    have t2 : decide (n ≤ f) = true := decide_eq_true hfn
    clear hr hr1 hf m hfn
    go_enter Try.func43, Try.ntmps43
    go_wp2_with fail
    refine HR.out.mono ?_
    rintro e w' ⟨rfl, rfl⟩
    go_wp2_with fail
    go_ret
    exact ⟨by rw [HR1.out]; rfl, rfl⟩
  · have t1 : decide ((n : Int) ≤ (f : Int)) = false := decide_eq_false (by omega)
    have t2 : decide (n ≤ f) = false := decide_eq_false hfn
    rw [← nextN_max, ← hf] at hr
    obtain ⟨A, c, ws, h1, h2, h3, h4, h5⟩ := m
    obtain ⟨N, hN⟩ : ∃ N, N = (n + 63) / 64 := ⟨_, rfl⟩
    have hn65 := h5.1
    have hwl : ws.length = N := by rw [h5.2.1, hN]
    have hNb : N ≤ 1025 := by omega
    have c1 := h1.cell (i := 1) rfl
    rw [hwl] at c1
    have HO := Lib.hid h2
    have HWL := Lib.hid hwl
    have HRR := Lib.hid hr
    have HGD := Lib.hid h5
    obtain ⟨q, hq⟩ : ∃ q, q = f / 64 := ⟨_, rfl⟩
    obtain ⟨b, hb⟩ : ∃ b, b = f % 64 := ⟨_, rfl⟩
    have hdiv : (f : Int) / 64 = (q : Int) := by omega
    have e63 := i64_and63 f
    rw [← hb] at e63
    have hb64 : b < 64 := by omega
    have hmin : min b 64 = b := by omega
    have hqb : q * 64 + b = f := by omega
    have hqN : q < N := by omega
    have HQ := Lib.hid hqb
    have HNN := Lib.hid hN
    clear h1 h2 h3 h4 h5 hN hwl hr hf hq hb hqb hfn
    go_enter Try.func43, Try.ntmps43
    go_wp2_with fail
    refine HR.out.mono ?_
    rintro e w' ⟨rfl, rfl⟩
    go_wp2_with fail
    go_loop [5] (fun i => ∃ k : Nat, q ≤ k ∧ k ≤ N ∧ i = .int .i64 (k : Int) ∧ Hid (∀ j, f ≤ j → j < 64 * k → S j = false)) (fun i => N - (intOf i).toNat)
    case atStart => exact ⟨q, Nat.le_refl _, by omega, rfl, Lib.hid fun j h1 h2 => by have := HQ.out; omega⟩
    case round =>
      obtain ⟨k, hqk, hk, rfl, HI⟩ := hrel
      by_cases hlt : k < N
      · obtain ⟨x, hx⟩ : ∃ x, ws[k]? = some x := ⟨_, List.getElem?_eq_getElem (by have := HWL.out; omega)⟩
        obtain ⟨gw, hA, hob, hcell, hfr, hcap⟩ := own64_at HO.out hx
        subst hA
        have hbits : ∀ i, i < 64 → x.getLsbD i = S (64 * k + i) := by
          intro i hi
          have e1 : (64 * k + i) / 64 = k := by omega
          have e2 : (64 * k + i) % 64 = i := by omega
          have := bit_at (ws := ws) (j := 64 * k + i) (by rw [e1]; exact hx)
          rw [e2, HGD.out.2.2.1] at this
          exact this.symm
        obtain ⟨y, hy⟩ : ∃ y, y = (x >>> b) <<< b := ⟨_, rfl⟩
        have hshl := shl_shr x b
        rw [← hy] at hshl
        -- the word that is looked at
        obtain ⟨z, hz, hzb⟩ : ∃ z : BitVec 64, z = (if k = q then y else x) ∧ ∀ i, i < 64 → z.getLsbD i = (decide (f ≤ 64 * k + i) && S (64 * k + i)) := by
          refine ⟨_, rfl, fun i hi => ?_⟩
          have hqb := HQ.out
          by_cases hkq : k = q
          · rw [if_pos hkq, hy, mask_low x b i hi, hbits i hi]
            congr 1
            rw [Bool.eq_iff_iff]; simp; omega
          · rw [if_neg hkq, hbits i hi, decide_eq_true (p := f ≤ 64 * k + i) (by omega), Bool.true_and]
        have hcs : (k = q ∧ z = y ∧ ((k : Int) == (q : Int)) = true ∧ (k == q) = true) ∨ (¬ k = q ∧ z = x ∧ ((k : Int) == (q : Int)) = false ∧ (k == q) = false) := by
          by_cases hkq : k = q
          · exact .inl ⟨hkq, by rw [hz, if_pos hkq], beq_iff_eq.2 (by omega), beq_iff_eq.2 hkq⟩
          · exact .inr ⟨hkq, by rw [hz, if_neg hkq], beq_false_of_ne (by omega), beq_false_of_ne hkq⟩
        have hmul : (k : Int) * 64 = ((64 * k : Nat) : Int) := by omega
        have hk6 : k ≤ 1025 := by omega
        by_cases hz0 : z = 0#64
        · have HI2 : Hid (∀ j, f ≤ j → j < 64 * (k + 1) → S j = false) := Lib.hid fun j h1 h2 => by
            by_cases hj : j < 64 * k
            · exact HI.out j h1 hj
            · have := hzb (j - 64 * k) (by omega)
              rw [hz0, show 64 * k + (j - 64 * k) = j by omega, decide_eq_true h1, Bool.true_and] at this
              simpa using this.symm
          have htt := zero_tests z hz0
          clear hzb hz hz0 HI hbits hob hfr hx
          rcases hcs with ⟨-, rfl, k1, k2⟩ | ⟨-, rfl, k1, k2⟩
          all_goals
            obtain ⟨z1, z2⟩ := htt
            first
              | clear hy
              | skip
            go_wp2_with fail
            go_round
            case rel => exact ⟨k + 1, by omega, by omega, by go_num, HI2⟩
            case measure => simp [intOf] <;> omega
        · obtain ⟨p, hp, hp64, hp1, hp0⟩ := first_bit hz0
          have hres : r = ((64 * k + p : Nat) : Int) := by
            have h1 := hzb p hp64
            rw [hp1] at h1
            have h2 := h1.symm
            simp only [Bool.and_eq_true, decide_eq_true_eq] at h2
            rw [HRR.out]
            refine nextN_some (HGD.out.2.2.2 _ h2.2) (by omega) h2.2 (fun i hi hfi => ?_)
            by_cases hj : i < 64 * k
            · exact HI.out i (by omega) hj
            · have h3 := hzb (i - 64 * k) (by omega)
              rw [hp0 (i - 64 * k) (by omega), show 64 * k + (i - 64 * k) = i by omega, decide_eq_true (p := f ≤ i) (by omega), Bool.true_and] at h3
              exact h3.symm
          have HRES := Lib.hid hres
          have HFI := Lib.hid (btW.first_any z w)
          rw [hp] at HFI
          have htt := some_tests z hz0
          clear hzb hz hz0 HI hbits hob hfr hx hres hp hp1 hp0
          rcases hcs with ⟨-, rfl, k1, k2⟩ | ⟨-, rfl, k1, k2⟩
          all_goals
            obtain ⟨z1, z2⟩ := htt
            first
              | clear hy
              | skip
            go_wp2_with fail
            refine HFI.out.mono ?_
            rintro e w' ⟨rfl, rfl⟩
            go_wp2_with fail
            go_ret
            exact ⟨by rw [HRES.out]; exact btW.ret_int (by omega), rfl⟩
      · obtain rfl : k = N := by omega
        have hres : r = -1 := by
          rw [HRR.out]
          exact nextN_none (fun i hi hfi => HI.out i (by omega) (by have := HNN.out; omega))
        have HRES := Lib.hid hres
        clear hres HI
        go_wp2_with fail
        go_ret
        exact ⟨by rw [HRES.out]; rfl, rfl⟩
theorem next_nil (w : World) (a : Int) : Calls Try.prog 43 #[.pointer none, .int .i64 a] w fun e w' => e = .returned (.int .i64 (-1)) ∧ w = w' := by
  obtain ⟨f, hf⟩ : ∃ f : Nat, (f : Int) = max a 0 := ⟨(max a 0).toNat, by omega⟩
  have hmax := fun ts t W => run_max2i (P := Try.prog) ts t a 0 (f : Int) hf W
  clear hf
  go_enter Try.func43, Try.ntmps43
  go_wp2_with fail
  refine (room_nil w).mono ?_
  rintro e w' ⟨rfl, rfl⟩
  go_wp2_with fail
  go_ret
  exact ⟨rfl, rfl⟩
end Go.Proofs.Ytbcifodifadoiaa.mkW
