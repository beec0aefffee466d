/- The statements on relations: the chapter's example; ReachSays. -/
import Derived.Test.YtjfohglkpbgkaaaReR5
namespace Go.Proofs.Ytjfohglkpbgkaaa.reL
open Go Go.RowKit Go.Par Go.Kit Go.Proofs.Ytjfohglkpbgkaaa.Mk Go.Proofs.Ytjfohglkpbgkaaa.mkW Go.Proofs.Ytjfohglkpbgkaaa.Re Go.Proofs.Ytjfohglkpbgkaaa.reW

theorem e_ahead : aheadI (leadB (vp 3 [(0, 1), (1, 2), (2, 1)])) 0 2 = true := by decide +kernel
theorem e_alike : alikeI 3 (leadB (vp 3 [(0, 1), (1, 2), (2, 1)])) 1 2 = true := by decide +kernel
theorem e_group : groupI 3 (leadB (vp 3 [(0, 1), (1, 2), (2, 1)])) 2 = 1 := by decide +kernel
theorem e_has : leadI (leadB (vp 3 [(0, 1), (1, 2), (2, 1)])) 1 1 = true := by decide +kernel
theorem e_not : leadI (leadB (vp 3 [(0, 1), (1, 2), (2, 1)])) 0 0 = false := by decide +kernel
theorem lead_lt {n : Nat} {xs : List (Int × Int)} (i j : Nat) (h : leadB (vp n xs) i j = true) : j < n := by
  obtain ⟨y, hy⟩ := (leadB_iff.1 h).dst
  exact (vp_lt hy).2
theorem lead_lt1 {n : Nat} {xs : List (Int × Int)} (i j : Nat) (h : leadB (vp n xs) i j = true) : i < n := by
  obtain ⟨y, hy⟩ := (leadB_iff.1 h).src
  exact (vp_lt hy).1
theorem vp_len (n : Nat) (xs : List (Int × Int)) : (vp n xs).length ≤ xs.length := by
  unfold vp
  rw [List.length_map]
  exact List.length_filter_le _ _
set_option maxRecDepth 100000 in
set_option maxHeartbeats 1000000 in
theorem works_any (w : World) : Calls Try.prog 38 #[] w fun e w' => e = .returned (.bool true) ∧ Grow w w' := by
  obtain ⟨xs, hxs⟩ : ∃ xs : List (Int × Int), xs = [(0, 1), (1, 2), (2, 1)] := ⟨_, rfl⟩
  obtain ⟨W1, hW1⟩ : ∃ W, W = w.alloc (.cells #[.int .i64 0, .int .i64 1, .int .i64 1, .int .i64 2, .int .i64 2, .int .i64 1] T2) := ⟨_, rfl⟩
  have hr : Recs 2 prow W1 (some ⟨w.heap.size, 0, none⟩) 3 xs := by
    rw [hxs, hW1]
    exact ⟨rfl, fun _ => rfl, Row.new w [.int .i64 0, .int .i64 1, .int .i64 1, .int .i64 2, .int .i64 2, .int .i64 1] T2 (0, 0)⟩
  have hok : ∀ x ∈ xs, PairOk x := by
    rw [hxs]
    intro x hx
    simp only [List.mem_cons, List.not_mem_nil, or_false] at hx
    rcases hx with rfl | rfl | rfl <;> exact ⟨⟨by decide, by decide⟩, ⟨by decide, by decide⟩⟩
  have hof := reW.of_any W1 3 (some ⟨w.heap.size, 0, none⟩) 3 3 xs hr (by decide) hok
  rw [show clampN 3 = 3 by decide] at hof
  obtain ⟨R, hR⟩ : ∃ R, R = leadB (vp 3 xs) := ⟨_, rfl⟩
  rw [← hR] at hof
  have HOF := Lib.hid hof
  have HW1 := Lib.hid hW1
  have hG1 : Grow w W1 := by rw [hW1]; exact Grow.alloc _ _
  have HG1 := Lib.hid hG1
  have HE : Hid (aheadI R 0 2 = true ∧ alikeI 3 R 1 2 = true ∧ groupI 3 R 2 = 1 ∧ leadI R 1 1 = true ∧ leadI R 0 0 = false) := Lib.hid (by rw [hR, hxs]; exact ⟨e_ahead, e_alike, e_group, e_has, e_not⟩)
  have HLT : Hid (∀ i j, R i j = true → j < 3) := Lib.hid (by rw [hR]; exact lead_lt)
  clear hof hr hok hR hxs hW1 hG1
  go_enter Try.func38, Try.ntmps38
  go_wp2_with fail
  rw [← HW1.out]
  refine HOF.out.mono ?_
  rintro e w2 ⟨gr, rfl, hrel, hg2⟩
  have HG2 := Lib.hid (HG1.out.trans hg2)
  have hb := before_any w2 gr 3 R hrel 0 2 (by decide) (by decide) (by decide) (by decide)
  have ha := alike_any w2 gr 3 R hrel 1 2 (by decide) (by decide) (by decide) (by decide)
  have hgp := group_any w2 gr 3 R hrel HLT.out 2 (by decide) (by decide)
  have hh1 := hasr_any w2 gr 3 R hrel 1 1 (by decide) (by decide)
  have hh0 := hasr_any w2 gr 3 R hrel 0 0 (by decide) (by decide)
  have hl := reW.len_any w2 gr 3 R hrel
  rw [HE.out.1] at hb
  rw [HE.out.2.1] at ha
  rw [HE.out.2.2.1] at hgp
  rw [HE.out.2.2.2.1] at hh1
  rw [HE.out.2.2.2.2] at hh0
  have HB := Lib.hid hb
  have HA := Lib.hid ha
  have HGP := Lib.hid hgp
  have HH1 := Lib.hid hh1
  have HH0 := Lib.hid hh0
  have HL := Lib.hid hl
  clear hb ha hgp hh1 hh0 hl hrel hg2
  go_wp2_with fail
  refine HB.out.mono ?_
  rintro e w' ⟨rfl, rfl⟩
  go_wp2_with fail
  refine HA.out.mono ?_
  rintro e w' ⟨rfl, rfl⟩
  go_wp2_with fail
  refine HGP.out.mono ?_
  rintro e w' ⟨rfl, rfl⟩
  go_wp2_with fail
  refine HH1.out.mono ?_
  rintro e w' ⟨rfl, rfl⟩
  go_wp2_with fail
  refine HH0.out.mono ?_
  rintro e w' ⟨rfl, rfl⟩
  go_wp2_with fail
  refine HL.out.mono ?_
  rintro e w' ⟨rfl, rfl⟩
  go_wp2_with fail
  go_ret
  exact ⟨rfl, HG2.out⟩
end Go.Proofs.Ytjfohglkpbgkaaa.reL
