/- The walk of Group. -/
import Derived.Test.YtbcifodifadoiaaReW
namespace Go.Proofs.Ytbcifodifadoiaa.reW
open Go Go.RowKit Go.Par Go.Kit Go.Proofs.Ytbcifodifadoiaa.Mk Go.Proofs.Ytbcifodifadoiaa.mkW Go.Proofs.Ytbcifodifadoiaa.Re

/-- what Next says -/
theorem next_spec {n : Nat} {S : Nat → Bool} (hl : ∀ j, S j = true → j < n) (a : Nat) :
    (nextN n S (a : Int) = -1 ∧ ∀ x, a ≤ x → S x = false) ∨ ∃ j : Nat, nextN n S (a : Int) = (j : Int) ∧ a ≤ j ∧ j < n ∧ S j = true ∧ ∀ x, a ≤ x → x < j → S x = false := by
  unfold nextN
  cases h : (List.range n).find? (fun (j : Nat) => decide ((a : Int) ≤ (j : Int)) && S j) with
  | none =>
    refine .inl ⟨rfl, fun x hx => ?_⟩
    cases hs : S x with
    | false => rfl
    | true =>
      have := List.find?_eq_none.1 h x (List.mem_range.2 (hl x hs))
      rw [hs, Bool.and_true, decide_eq_true_eq] at this
      omega
  | some j =>
    obtain ⟨h1, h2, h3⟩ := find_range h
    rw [Bool.and_eq_true, decide_eq_true_eq] at h2
    refine .inr ⟨j, rfl, by omega, h1, h2.2, fun x hx hxj => ?_⟩
    have := h3 x hxj
    rw [decide_eq_true (by omega), Bool.true_and] at this
    exact this
/-- how far the search for a group's least has come -/
def Srch (R : Nat → Nat → Bool) (i a : Nat) : Prop := ∀ x, x < a → x < i → (R i x && R x i) = false
theorem srch_end {R : Nat → Nat → Bool} {i a : Nat} (h : Srch R i a) (ha : i ≤ a) : groupN R i = i := by
  unfold groupN
  rw [List.find?_eq_none.2 fun x hx => by rw [h x (by have := List.mem_range.1 hx; omega) (List.mem_range.1 hx)]; simp]
  rfl
theorem srch_hit {R : Nat → Nat → Bool} {i j : Nat} (h : Srch R i j) (hj : j < i) (h1 : R i j = true) (h2 : R j i = true) : groupN R i = j :=
  group_eq (by unfold alikeN; rw [h1, h2]; simp) fun x hx => by
    have := h x hx (by omega)
    unfold alikeN
    rw [this, beq_eq_false_iff_ne.2 (by omega)]; rfl
set_option maxRecDepth 100000 in
set_option maxHeartbeats 1000000 in
theorem group_any (w : World) (gr n : Nat) (R : Nat → Nat → Bool) (h : RelP w gr n R) (hR : ∀ i j, R i j = true → j < n) (i : Int) (hi0 : -9223372036854775808 ≤ i) (hi1 : i ≤ 9223372036854775807) :
    Calls Try.prog 34 #[.pointer (some ⟨gr, 0, none⟩), .int .i64 i] w fun e w' => e = .returned (.int .i64 (groupI n R i)) ∧ w = w' := by
  have HL := Lib.hid (len_any w gr n R h)
  have HF := Lib.hid (fits_any w i n)
  obtain ⟨f, hf⟩ : ∃ f, f = (decide (0 ≤ i) && decide (i < (n : Int))) := ⟨_, rfl⟩
  unfold groupI
  rw [← hf] at HF ⊢
  cases f
  · clear hf h hi0 hi1
    go_enter Try.func34, Try.ntmps34
    go_wp2_with fail
    refine HL.out.mono ?_
    rintro e w' ⟨rfl, rfl⟩
    go_wp2_with fail
    refine HF.out.mono ?_
    rintro e w' ⟨rfl, rfl⟩
    go_wp2_with fail
    go_ret
    exact ⟨rfl, rfl⟩
  · have hf1 := (Bool.and_eq_true _ _).mp hf.symm
    have hge := of_decide_eq_true hf1.1
    have hlt := of_decide_eq_true hf1.2
    obtain ⟨k, rfl⟩ := Int.eq_ofNat_of_zero_le hge
    have hk : k < n := by omega
    have hHas := fun j : Nat => hasr_any w gr n R h (j : Int) (k : Int)
    have hn6 : n ≤ 65536 := h.1
    obtain ⟨h0, mv, F, h1, h2, h3⟩ := h
    have c1 := h1.cell (i := 1) rfl
    have hl := h2.run hi0 hi1
    have hnx := fun a ha => relNext h3 hge a ha
    obtain ⟨q, hq⟩ : ∃ q, q = pv (F (k : Int)) := ⟨_, rfl⟩
    rw [← hq] at hl hnx
    rw [Int.toNat_natCast] at hnx
    have HNX := Lib.hid hnx
    have HHAS := Lib.hid hHas
    have HS := Lib.hid (next_spec (S := R k) (n := n) (hR k))
    obtain ⟨r, hr⟩ : ∃ r, r = groupN R k := ⟨_, rfl⟩
    rw [Int.toNat_natCast, ← hr]
    have HR := Lib.hid hr
    have H0 := Lib.hid (hnx 0 (by decide))
    obtain ⟨z0, hz0⟩ : ∃ z, z = nextN n (R k) 0 := ⟨_, rfl⟩
    rw [← hz0] at H0
    have HZ0 := Lib.hid hz0
    have HN6 := Lib.hid hn6
    have HK := Lib.hid hk
    clear hf hf1 hge hlt h0 h1 h2 h3 hq hnx hHas hr hz0 hn6 hk hi0 hi1
    go_enter Try.func34, Try.ntmps34
    go_wp2_with fail
    refine HL.out.mono ?_
    rintro e w' ⟨rfl, rfl⟩
    go_wp2_with fail
    refine HF.out.mono ?_
    rintro e w' ⟨rfl, rfl⟩
    go_wp2_with fail
    refine H0.out.mono ?_
    rintro e w' ⟨rfl, rfl⟩
    go_wp2_with fail
    go_loopw [5] (fun z' wr => w = wr ∧ ∃ (a : Nat) (z : Int), z' = .int .i64 z ∧ Hid (z = nextN n (R k) (a : Int) ∧ Srch R k a ∧ a ≤ n)) (fun z' _ => mz n (intOf z'))
    case atStart => exact ⟨rfl, 0, z0, rfl, Lib.hid ⟨HZ0.out, fun x hx => absurd hx (by omega), Nat.zero_le _⟩⟩
    case round =>
      obtain ⟨rfl, a, z, rfl, HI⟩ := hrel
      rcases HS.out a with ⟨e1, e2⟩ | ⟨j, e1, e2, e3, e4, e5⟩
      · obtain rfl : z = -1 := HI.out.1.trans e1
        have HR1 : Hid (r = k) := Lib.hid (by
          rw [HR.out]
          refine srch_end (a := max a k) (fun x hx hxk => ?_) (by omega)
          by_cases hxa : x < a
          · exact HI.out.2.1 x hxa hxk
          · rw [e2 x (by omega)]; rfl)
        clear e1 e2 HI
        go_wp2_with fail
        go_ret
        exact ⟨by rw [HR1.out]; rfl, rfl⟩
      · obtain rfl : z = (j : Int) := HI.out.1.trans e1
        have HJ : Hid (Srch R k j) := Lib.hid fun x hx hxk => by
          by_cases hxa : x < a
          · exact HI.out.2.1 x hxa hxk
          · rw [e5 x (by omega) hx]; rfl
        have HE4 := Lib.hid e4
        have t0 : decide (0 ≤ (j : Int)) = true := decide_eq_true (by omega)
        have HM : Hid (j < n ∧ a ≤ j) := Lib.hid ⟨e3, e2⟩
        by_cases hjk : j < k
        · have t1 : decide ((j : Int) < (k : Int)) = true := decide_eq_true (by omega)
          have t2 : decide (j < k) = true := decide_eq_true hjk
          have HJK := Lib.hid hjk
          have H5 := Lib.hid (HHAS.out j (by omega) (by have := HN6.out; omega))
          obtain ⟨b, hb⟩ : ∃ b, b = leadI R (j : Int) (k : Int) := ⟨_, rfl⟩
          rw [← hb] at H5
          have hb2 : b = R j k := by rw [hb]; simp [leadI]
          have HB := Lib.hid hb2
          have H6 := Lib.hid (HNX.out ((j : Int) + 1) (by have := HN6.out; omega))
          obtain ⟨z2, hz2⟩ : ∃ z, z = nextN n (R k) ((j : Int) + 1) := ⟨_, rfl⟩
          rw [← hz2] at H6
          have HZ2 := Lib.hid hz2
          have hjb : j ≤ 65536 := by have := HN6.out; omega
          clear e1 e2 e3 e4 e5 hjk hb hb2 hz2 HI
          cases b
          · go_wp2_with fail
            refine H5.out.mono ?_
            rintro e w' ⟨rfl, rfl⟩
            go_wp2_with fail
            refine H6.out.mono ?_
            rintro e w' ⟨rfl, rfl⟩
            go_wp2_with fail
            go_roundw
            case rel => exact ⟨trivial, j + 1, z2, rfl, Lib.hid ⟨HZ2.out, fun x hx hxk => by
              by_cases hxj : x < j
              · exact HJ.out x hxj hxk
              · obtain rfl : x = j := by omega
                rw [← HB.out, Bool.and_false], by have := HM.out; omega⟩⟩
            case measure =>
              show mz n z2 < mz n (j : Int)
              rw [HZ2.out]
              rcases HS.out (j + 1) with ⟨e1, -⟩ | ⟨j2, e1, e2, e3, -⟩
              · rw [show ((j : Int) + 1) = ((j + 1 : Nat) : Int) by omega, e1]; exact mz_neg HM.out.1
              · rw [show ((j : Int) + 1) = ((j + 1 : Nat) : Int) by omega, e1]; exact mz_step (by omega) e3
          · have HR1 : Hid (r = j) := Lib.hid (by rw [HR.out]; exact srch_hit HJ.out HJK.out HE4.out HB.out.symm)
            go_wp2_with fail
            refine H5.out.mono ?_
            rintro e w' ⟨rfl, rfl⟩
            go_wp2_with fail
            go_ret
            exact ⟨by rw [HR1.out]; rfl, rfl⟩
        · have t1 : decide ((j : Int) < (k : Int)) = false := decide_eq_false (by omega)
          have t2 : decide (j < k) = false := decide_eq_false hjk
          have HR1 : Hid (r = k) := Lib.hid (by rw [HR.out]; exact srch_end HJ.out (by omega))
          clear e1 e2 e3 e4 e5 hjk HI
          go_wp2_with fail
          go_ret
          exact ⟨by rw [HR1.out]; rfl, rfl⟩
theorem group_nil (w : World) (i : Int) : Calls Try.prog 34 #[.pointer none, .int .i64 i] w fun e w' => e = .returned (.int .i64 (-1)) ∧ w = w' := by
  have HL := Lib.hid (len_nil w)
  have HF := Lib.hid (fits_any w i 0)
  rw [show (decide (0 ≤ i) && decide (i < 0)) = false by by_cases h : 0 ≤ i <;> simp [h]] at HF
  go_enter Try.func34, Try.ntmps34
  go_wp2_with fail
  refine HL.out.mono ?_
  rintro e w' ⟨rfl, rfl⟩
  go_wp2_with fail
  refine HF.out.mono ?_
  rintro e w' ⟨rfl, rfl⟩
  go_wp2_with fail
  go_ret
  exact ⟨rfl, rfl⟩
end Go.Proofs.Ytbcifodifadoiaa.reW
