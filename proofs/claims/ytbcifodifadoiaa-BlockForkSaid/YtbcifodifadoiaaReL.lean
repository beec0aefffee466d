/- The statements on relations: the chapter's example; ReachSays. -/
import Derived.Test.YtbcifodifadoiaaReO
namespace Go.Proofs.Ytbcifodifadoiaa.reL
open Go Go.RowKit Go.Par Go.Kit Go.Proofs.Ytbcifodifadoiaa.Mk Go.Proofs.Ytbcifodifadoiaa.mkW Go.Proofs.Ytbcifodifadoiaa.Re Go.Proofs.Ytbcifodifadoiaa.reW

theorem e_ahead : aheadI (leadB (vp 3 [(0, 1), (1, 2), (2, 1)])) 0 2 = true := by decide +kernel
theorem e_alike : alikeI 3 (leadB (vp 3 [(0, 1), (1, 2), (2, 1)])) 1 2 = true := by decide +kernel
theorem e_group : groupI 3 (leadB (vp 3 [(0, 1), (1, 2), (2, 1)])) 2 = 1 := by decide +kernel
theorem e_has : leadI (leadB (vp 3 [(0, 1), (1, 2), (2, 1)])) 1 1 = true := by decide +kernel
theorem e_not : leadI (leadB (vp 3 [(0, 1), (1, 2), (2, 1)])) 0 0 = false := by decide +kernel
theorem lead_lt {n : Nat} {xs : List (Int × Int)} (i j : Nat) (h : leadB (vp n xs) i j = true) : j < n := by
  obtain ⟨y, hy⟩ := (leadB_iff.1 h).dst
  exact (vp_lt hy).2
theorem lead_lt1 {n : Nat} {xs : List (Int × Int)} (i j : Nat) (h : leadB (vp n xs) i j = true) : i < n := by
  obtain ⟨y, hy⟩ := (leadB_iff.1 h).src
  exact (vp_lt hy).1
theorem vp_len (n : Nat) (xs : List (Int × Int)) : (vp n xs).length ≤ xs.length := by
  unfold vp
  rw [List.length_map]
  exact List.length_filter_le _ _
end Go.Proofs.Ytbcifodifadoiaa.reL
