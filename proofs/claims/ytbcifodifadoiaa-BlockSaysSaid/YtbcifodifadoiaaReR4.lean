/- The walks of the document's Has, Alike, Before, Group. -/
import Derived.Test.YtbcifodifadoiaaReR3
namespace Go.Proofs.Ytbcifodifadoiaa.reW
open Go Go.RowKit Go.Par Go.Kit Go.Proofs.Ytbcifodifadoiaa.Mk Go.Proofs.Ytbcifodifadoiaa.mkW Go.Proofs.Ytbcifodifadoiaa.Re Go.Proofs.Ytbcifodifadoiaa.mkR Go.Proofs.Ytbcifodifadoiaa.mkL

theorem hasB_lead {L : List (Nat × Nat)} {o : List Nat} {i : Int} (h : ∀ j : Nat, j ∈ o ↔ (0 ≤ i ∧ leadB L i.toNat j = true)) (j : Int) : hasB o j = leadI (leadB L) i j := by
  unfold leadI
  by_cases hj : 0 ≤ j
  · obtain ⟨m, rfl⟩ := Int.eq_ofNat_of_zero_le hj
    rw [hasB_contains, Bool.eq_iff_iff, List.contains_iff_mem, h]
    simp
  · rw [decide_eq_false hj]
    rw [Bool.false_and, Bool.and_false]
    exact hasB_no fun k x hx => by omega
set_option maxHeartbeats 400000 in
theorem ref_hasr (w : World) (N : Int) (v : Value) (L : List (Nat × Nat)) (hv : RefV w v L) (hL : L.length ≤ 1000000) (i j : Int) :
    Calls Try.prog 46 #[.agg #[.int .i64 N, v], .int .i64 i, .int .i64 j] w fun e w' => e = .returned (.bool (leadI (leadB L) i j)) ∧ Grow w w' := by
  have HV := Lib.hid hv
  obtain ⟨A, c, rfl, -⟩ := hv
  obtain ⟨l, hl⟩ : ∃ l, l = L.length := ⟨_, rfl⟩
  rw [← hl] at HV ⊢
  obtain ⟨W1, hW1⟩ : ∃ W, W = w.alloc (.cells #[.int .i64 N, .slice A l c] TX8) := ⟨_, rfl⟩
  obtain ⟨b0, hb0⟩ : ∃ b, b = w.heap.size := ⟨_, rfl⟩
  have hg1 : Grow w W1 := by rw [hW1]; exact Grow.alloc _ _
  have hbx : Blk W1 b0 TX8 [.int .i64 N, .slice A l c] := by rw [hW1]; exact Blk.new w _ _ _ rfl hb0
  have HB := Lib.hid (behind_any W1 N _ L (HV.out.grow hg1) hL i)
  obtain ⟨r, hr⟩ : ∃ r, r = leadI (leadB L) i j := ⟨_, rfl⟩
  rw [← hr]
  have HRR := Lib.hid hr
  clear hr
  have HG1 := Lib.hid hg1
  have HW1 := Lib.hid hW1
  have HB0 := Lib.hid hb0
  clear hl hW1 hb0 hg1 hL
  go_enter Try.func46, Try.ntmps46
  go_wp2_with fail
  rw [← HW1.out, ← HB0.out]
  go_wp2_with (refine load_blk rfl _ _ rfl b0 rfl _ _ _ hbx und8 rfl (by rw [size8]; rfl) ?_)
  refine HB.out.mono ?_
  rintro e w2 ⟨v', o, rfl, hi, -, ho, hg2⟩
  obtain ⟨A2, c2, rfl, a2, b2, r2, -⟩ := hi
  obtain ⟨lo, hlo⟩ : ∃ n, n = o.length := ⟨_, rfl⟩
  have HIN := Lib.hid (in_any w2 A2 lo c2 o hlo (by rw [hlo]; exact a2) b2 r2 j)
  rw [hasB_lead ho j, ← HRR.out] at HIN
  have HG2 := Lib.hid (HG1.out.trans hg2)
  rw [← hlo]
  clear hlo a2 b2 r2 ho hg2 hbx
  go_wp2_with fail
  refine HIN.out.mono ?_
  rintro e w' ⟨rfl, rfl⟩
  go_wp2_with fail
  go_ret
  exact ⟨rfl, HG2.out⟩
set_option maxHeartbeats 1000000 in
theorem ref_before (w : World) (N : Int) (v : Value) (L : List (Nat × Nat)) (hv : RefV w v L) (hL : L.length ≤ 1000000) (i j : Int) :
    Calls Try.prog 41 #[.agg #[.int .i64 N, v], .int .i64 i, .int .i64 j] w fun e w' => e = .returned (.bool (aheadI (leadB L) i j)) ∧ Grow w w' := by
  have HV := Lib.hid hv
  obtain ⟨A, c, rfl, -⟩ := hv
  obtain ⟨l, hl⟩ : ∃ l, l = L.length := ⟨_, rfl⟩
  rw [← hl] at HV ⊢
  obtain ⟨W1, hW1⟩ : ∃ W, W = w.alloc (.cells #[.int .i64 N, .slice A l c] TX8) := ⟨_, rfl⟩
  obtain ⟨b0, hb0⟩ : ∃ b, b = w.heap.size := ⟨_, rfl⟩
  have hg1 : Grow w W1 := by rw [hW1]; exact Grow.alloc _ _
  have hbx : Blk W1 b0 TX8 [.int .i64 N, .slice A l c] := by rw [hW1]; exact Blk.new w _ _ _ rfl hb0
  have HBX := Lib.hid hbx
  obtain ⟨a, ha⟩ : ∃ a, a = leadI (leadB L) i j := ⟨_, rfl⟩
  obtain ⟨b, hb⟩ : ∃ a, a = leadI (leadB L) j i := ⟨_, rfl⟩
  have HA := Lib.hid (ref_hasr W1 N _ L (HV.out.grow hg1) hL i j)
  have HB : Hid (∀ w', Grow W1 w' → Calls Try.prog 46 #[.agg #[.int .i64 N, .slice A l c], .int .i64 j, .int .i64 i] w' fun e w2 => e = .returned (.bool b) ∧ Grow w' w2) := Lib.hid fun w' hg => by
    rw [hb]; exact ref_hasr w' N _ L (HV.out.grow (hg1.trans hg)) hL j i
  rw [← ha] at HA
  unfold aheadI
  rw [← ha, ← hb]
  have HG1 := Lib.hid hg1
  have HW1 := Lib.hid hW1
  have HB0 := Lib.hid hb0
  clear hl hW1 hb0 hg1 hL ha hb HV
  cases a
  · go_enter Try.func41, Try.ntmps41
    go_wp2_with fail
    rw [← HW1.out, ← HB0.out]
    go_wp2_with (refine load_blk rfl _ _ rfl b0 rfl _ _ _ hbx und8 rfl (by rw [size8]; rfl) ?_)
    refine HA.out.mono ?_
    rintro e w2 ⟨rfl, hg2⟩
    have HG2 := Lib.hid (HG1.out.trans hg2)
    clear hg2
    go_wp2_with fail
    go_ret
    exact ⟨rfl, HG2.out⟩
  · go_enter Try.func41, Try.ntmps41
    go_wp2_with fail
    rw [← HW1.out, ← HB0.out]
    go_wp2_with (refine load_blk rfl _ _ rfl b0 rfl _ _ _ hbx und8 rfl (by rw [size8]; rfl) ?_)
    refine HA.out.mono ?_
    rintro e w2 ⟨rfl, hg2⟩
    have hbx2 := HBX.out.grow hg2
    have HB2 := Lib.hid (HB.out w2 hg2)
    have HG2 := Lib.hid (HG1.out.trans hg2)
    clear hg2
    go_wp2_with (refine load_blk rfl _ _ rfl b0 rfl _ _ _ hbx2 und8 rfl (by rw [size8]; rfl) ?_)
    refine HB2.out.mono ?_
    rintro e w3 ⟨rfl, hg3⟩
    have HG3 := Lib.hid (HG2.out.trans hg3)
    clear hg3
    go_wp2_with fail
    go_ret
    exact ⟨by cases b <;> rfl, HG3.out⟩
end Go.Proofs.Ytbcifodifadoiaa.reW
