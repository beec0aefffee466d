/- BlockFork: what is reckoned out, for each of the thirty-six. -/
import Derived.Test.YtbcifodifadoiaaBkK
import Derived.Test.YtbcifodifadoiaaToO
namespace Go.Proofs.Ytbcifodifadoiaa.bk
open Go Go.RowKit Go.Par Go.Kit Go.Proofs.Ytbcifodifadoiaa.Bk Go.Proofs.Ytbcifodifadoiaa.reW Go.Proofs.Ytbcifodifadoiaa.mkW Go.Proofs.Ytbcifodifadoiaa.Re

def rowA (k : Nat) : List (Int × Int) := (List.range k).map fun (i : Nat) => ((i : Int) + 1, (i : Int) + 2)
def rowB (a k : Nat) : List (Int × Int) := (List.range k).map fun (i : Nat) => ((a : Int) + 1 + (i : Int), (a : Int) + 2 + (i : Int))
def st4 (a b : Nat) : List (Int × Int) := [(0, 1), (0, (a : Int) + 1), ((a : Int), (a : Int) + (b : Int) + 1), ((a : Int) + (b : Int), (a : Int) + (b : Int) + 1)]
def stp (a b : Nat) : List (Int × Int) := st4 a b ++ rowA (a - 1) ++ rowB a (b - 1)
def rel1 (a b : Nat) : Nat → Nat → Bool := leadB (vp (a + b + 2) (stp a b))
def rel2 (a b : Nat) : Nat → Nat → Bool := leadB (vp (a + b + 2) (stp a b ++ [(1, (a : Int) + 1)]))
def blk (n : Nat) (R : Nat → Nat → Bool) : List T := blocksF (aheadI R) (nearI R) n ((To.orderN n R).map fun (n : Nat) => (n : Int))
def chkT (a b : Nat) : List T → Bool
  | [.mk k0 _ _, .mk k1 _ [.mk _ _ s0, .mk _ _ s1], .mk _ n2 _] => (k0 == 1) && ((k1 == 2) && ((n2 == (a : Int) + (b : Int) + 1) && ((s0.length == a) && (s1.length == b))))
  | _ => false
def chk1 (a b : Nat) (ts : List T) : Bool := chkT a b ts && (oddL ts == 1)
def chk2 (a b : Nat) (ts : List T) : Bool := (ts.all fun t => !((t.kind == 2) && ((thingsL [t]).length == a + b))) && decide (3 ≤ ts.length)
set_option maxRecDepth 1000000 in
theorem chk1_all : ((List.range 36).all fun i => chk1 (1 + i % 6) (1 + i / 6) (blk (1 + i % 6 + (1 + i / 6) + 2) (rel1 (1 + i % 6) (1 + i / 6)))) = true := by decide +kernel
set_option maxRecDepth 1000000 in
theorem chk2_all : ((List.range 36).all fun i => chk2 (1 + i % 6) (1 + i / 6) (blk (1 + i % 6 + (1 + i / 6) + 2) (rel2 (1 + i % 6) (1 + i / 6)))) = true := by decide +kernel
theorem chk1_at {a b : Nat} (ha : 1 ≤ a ∧ a ≤ 6) (hb : 1 ≤ b ∧ b ≤ 6) : chk1 a b (blk (a + b + 2) (rel1 a b)) = true := by
  have h := List.all_eq_true.1 chk1_all ((a - 1) + 6 * (b - 1)) (List.mem_range.2 (by omega))
  have e1 : 1 + ((a - 1) + 6 * (b - 1)) % 6 = a := by omega
  have e2 : 1 + ((a - 1) + 6 * (b - 1)) / 6 = b := by omega
  rw [e1, e2] at h
  exact h
theorem chk2_at {a b : Nat} (ha : 1 ≤ a ∧ a ≤ 6) (hb : 1 ≤ b ∧ b ≤ 6) : chk2 a b (blk (a + b + 2) (rel2 a b)) = true := by
  have h := List.all_eq_true.1 chk2_all ((a - 1) + 6 * (b - 1)) (List.mem_range.2 (by omega))
  have e1 : 1 + ((a - 1) + 6 * (b - 1)) % 6 = a := by omega
  have e2 : 1 + ((a - 1) + 6 * (b - 1)) / 6 = b := by omega
  rw [e1, e2] at h
  exact h
theorem chkT_get {a b : Nat} {ts : List T} (h : chkT a b ts = true) : ∃ z0 s0 z1 kA zA sA kB zB sB k2 s2, ts = [.mk 1 z0 s0, .mk 2 z1 [.mk kA zA sA, .mk kB zB sB], .mk k2 ((a : Int) + (b : Int) + 1) s2] ∧ sA.length = a ∧ sB.length = b := by
  unfold chkT at h
  split at h
  · simp only [Bool.and_eq_true, beq_iff_eq] at h
    obtain ⟨rfl, rfl, rfl, h1, h2⟩ := h
    exact ⟨_, _, _, _, _, _, _, _, _, _, _, rfl, h1, h2⟩
  · cases h
end Go.Proofs.Ytbcifodifadoiaa.bk
