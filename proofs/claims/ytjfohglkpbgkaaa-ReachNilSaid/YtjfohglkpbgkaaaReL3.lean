/- The walk of ReachNil. -/
import Derived.Test.YtjfohglkpbgkaaaReL
namespace Go.Proofs.Ytjfohglkpbgkaaa.reL
open Go Go.RowKit Go.Par Go.Kit Go.Proofs.Ytjfohglkpbgkaaa.Mk Go.Proofs.Ytjfohglkpbgkaaa.mkW Go.Proofs.Ytjfohglkpbgkaaa.Re Go.Proofs.Ytjfohglkpbgkaaa.reW

def noR : Nat → Nat → Bool := fun _ _ => false
theorem no_lead (i j : Int) : leadI noR i j = false := by unfold leadI noR; simp
theorem no_alike (i j : Int) : alikeI 0 noR i j = false := by
  unfold alikeI
  by_cases h : 0 ≤ i
  · have h2 : ¬ i < ((0 : Nat) : Int) := by omega
    rw [decide_eq_false h2]; simp
  · rw [decide_eq_false h]; simp
theorem no_group (i : Int) : groupI 0 noR i = -1 := by
  unfold groupI
  by_cases h : 0 ≤ i
  · have h2 : ¬ i < ((0 : Nat) : Int) := by omega
    rw [decide_eq_false h2]; simp
  · rw [decide_eq_false h]; simp
set_option maxRecDepth 100000 in
set_option maxHeartbeats 4000000 in
theorem nil_walk (i j : Int) (hi : i64ok i) (hj : i64ok j) (w : World) :
    Calls Try.prog 9 #[.int .i64 i, .int .i64 j] w fun e w' => e = .returned (.bool true) ∧ Grow w w' := by
  obtain ⟨b0, hb0⟩ : ∃ b, b = w.heap.size := ⟨_, rfl⟩
  obtain ⟨W1, hW1⟩ : ∃ W, W = w.alloc (.cells #[.int .i64 0, .map none] TR) := ⟨_, rfl⟩
  have hg1 : Grow w W1 := by rw [hW1]; exact Grow.alloc _ _
  have hrel : RelP W1 b0 0 noR := ⟨by decide, .map none, fun _ => none, by rw [hW1]; exact Blk.new _ _ _ _ rfl hb0, .inr ⟨rfl, rfl⟩, ⟨fun _ _ e => (by cases e), fun _ _ _ _ => rfl⟩⟩
  have N1 := Lib.hid (reW.len_nil W1)
  have N2 := Lib.hid (hasr_nil W1 i j)
  have N3 := Lib.hid (alike_nil W1 i i)
  have N4 := Lib.hid (before_nil W1 i j)
  have N5 := Lib.hid (group_nil W1 i)
  have P1 := Lib.hid (reW.len_any W1 b0 0 noR hrel)
  have p2 := hasr_any W1 b0 0 noR hrel i j hi.1 hi.2
  have p3 := alike_any W1 b0 0 noR hrel i i hi.1 hi.2 hi.1 hi.2
  have p5 := group_any W1 b0 0 noR hrel (fun _ _ h => (by cases h)) i hi.1 hi.2
  rw [no_lead] at p2
  rw [no_alike] at p3
  rw [no_group] at p5
  have P2 := Lib.hid p2
  have P3 := Lib.hid p3
  have P5 := Lib.hid p5
  obtain ⟨W2, hW2⟩ : ∃ W, W = W1.alloc (.cells #[.int .i64 i, .int .i64 j] T2) := ⟨_, rfl⟩
  obtain ⟨b1, hb1⟩ : ∃ b, b = W1.heap.size := ⟨_, rfl⟩
  have hg2 : Grow W1 W2 := by rw [hW2]; exact Grow.alloc _ _
  have hof := reW.of_any W2 (-1) (some ⟨b1, 0, none⟩) 1 1 [(i, j)] (by
    rw [hW2, hb1]
    exact ⟨rfl, fun _ => rfl, Row.new W1 [.int .i64 i, .int .i64 j] T2 (0, 0)⟩) (by decide) (fun x hx => by
    obtain rfl := List.mem_singleton.1 hx
    exact ⟨hi, hj⟩)
  rw [show clampN (-1) = 0 by decide] at hof
  have HOF := Lib.hid hof
  have HW1 := Lib.hid hW1
  have HB0 := Lib.hid hb0
  have HW2 := Lib.hid hW2
  have HB1 := Lib.hid hb1
  have HG := Lib.hid (hg1.trans hg2)
  clear hb0 hW1 hg1 hrel p2 p3 p5 hW2 hb1 hg2 hof hi hj
  go_enter Try.func9, Try.ntmps9
  go_wp2_with fail
  rw [← HB0.out, ← HW1.out]
  refine N1.out.mono ?_
  rintro e w' ⟨rfl, rfl⟩
  go_wp2_with fail
  refine N2.out.mono ?_
  rintro e w' ⟨rfl, rfl⟩
  go_wp2_with fail
  refine N3.out.mono ?_
  rintro e w' ⟨rfl, rfl⟩
  go_wp2_with fail
  refine N4.out.mono ?_
  rintro e w' ⟨rfl, rfl⟩
  go_wp2_with fail
  refine N5.out.mono ?_
  rintro e w' ⟨rfl, rfl⟩
  go_wp2_with fail
  refine P1.out.mono ?_
  rintro e w' ⟨rfl, rfl⟩
  go_wp2_with fail
  refine P2.out.mono ?_
  rintro e w' ⟨rfl, rfl⟩
  go_wp2_with fail
  refine P3.out.mono ?_
  rintro e w' ⟨rfl, rfl⟩
  go_wp2_with fail
  refine P5.out.mono ?_
  rintro e w' ⟨rfl, rfl⟩
  go_wp2_with fail
  rw [← HB1.out, ← HW2.out]
  refine HOF.out.mono ?_
  rintro e w3 ⟨gr, rfl, hrel, hg3⟩
  have HL := Lib.hid (reW.len_any w3 gr 0 _ hrel)
  have HG3 := Lib.hid (HG.out.trans hg3)
  clear hrel hg3
  go_wp2_with fail
  refine HL.out.mono ?_
  rintro e w' ⟨rfl, rfl⟩
  have HWK := Lib.hid (works_any w3)
  go_wp2_with fail
  refine HWK.out.mono ?_
  rintro e w4 ⟨rfl, hg4⟩
  have HG4 := Lib.hid (HG3.out.trans hg4)
  clear hg4
  go_wp2_with fail
  go_ret
  exact ⟨rfl, HG4.out⟩
end Go.Proofs.Ytjfohglkpbgkaaa.reL
