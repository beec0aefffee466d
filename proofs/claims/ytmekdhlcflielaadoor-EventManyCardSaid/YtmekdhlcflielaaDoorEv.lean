/- Events, plain: what they have, whether they may be, their bytes; by the program and by the document. -/
import Derived.Test.YtmekdhlcflielaaDoorRd
namespace Go.Proofs.YtmekdhlcflielaaDoor.ev
open Go Go.Kit Vi Go.Proofs.YtmekdhlcflielaaDoor.bfW

structure Ev where
  k : Nat
  node : Nat
  peer : Nat
  K : Int
  at_ : Int
  mask : Nat
  draw : Nat
  b : List UInt8
structure Ev.ok (e : Ev) : Prop where
  k : e.k ≤ 255
  node : e.node ≤ 255
  peer : e.peer ≤ 255
  K0 : -9223372036854775808 ≤ e.K
  K1 : e.K ≤ 9223372036854775807
  a0 : -9223372036854775808 ≤ e.at_
  a1 : e.at_ ≤ 9223372036854775807
  mask : e.mask < 4294967296
  draw : e.draw < 18446744073709551616
def hasL : List Nat := [0, 33, 1, 17, 4, 4, 4, 12, 1, 5, 1, 3, 0]
def hasN (k : Nat) : Nat := hasL.getD k 0
def hb (k i : Nat) : Bool := hasN k / 2 ^ i % 2 == 1
theorem hasN_big {k : Nat} (h : 12 < k) : hasN k = 0 := by
  unfold hasN
  rw [List.getD_eq_getElem?_getD, List.getElem?_eq_none (by simp [hasL]; omega)]
  rfl
def oneB (n : Nat) : Bool := decide (1 ≤ n) && decide (n ≤ 64)
def lowB (x : Int) : Bool := decide (0 ≤ x) && decide (x ≤ 1048576)
/-! what is wrong with an event, one after another -/
def bad1 (e : Ev) : Bool := decide (e.k < 1) || decide (12 < e.k)
def bad2 (e : Ev) : Bool := !hb e.k 0 && e.node != 0
def bad3 (e : Ev) : Bool := hb e.k 0 && !oneB e.node
def bad4 (e : Ev) : Bool := !hb e.k 1 && e.peer != 0
def bad5 (e : Ev) : Bool := hb e.k 1 && (!oneB e.peer || e.peer == e.node)
def bad6 (e : Ev) : Bool := !hb e.k 2 && e.K != 0
def bad7 (e : Ev) : Bool := !lowB e.K
def bad8 (e : Ev) : Bool := !hb e.k 3 && (e.at_ != 0 || e.mask != 0)
def bad9 (e : Ev) : Bool := !lowB e.at_
def bad10 (e : Ev) : Bool := !hb e.k 4 && e.draw != 0
def bad11 (e : Ev) : Bool := !hb e.k 5 && e.b.length != 0
def bad12 (e : Ev) : Bool := decide (131072 < e.b.length)
def goodB (e : Ev) : Bool := !(bad1 e || (bad2 e || (bad3 e || (bad4 e || (bad5 e || (bad6 e || (bad7 e || (bad8 e || (bad9 e || (bad10 e || (bad11 e || bad12 e)))))))))))
def sameB (a b : Ev) : Bool := a.k == b.k && (a.node == b.node && (a.peer == b.peer && (a.K == b.K && (a.at_ == b.at_ && (a.mask == b.mask && (a.draw == b.draw && decide (a.b = b.b)))))))
theorem sameB_iff {a b : Ev} : sameB a b = true ↔ a = b := by
  cases a; cases b
  simp [sameB]
theorem sameB_self (a : Ev) : sameB a a = true := sameB_iff.2 rfl
/-- an event with just what its kind has -/
def plainE (e : Ev) : Ev := ⟨e.k, if hb e.k 0 then e.node else 0, if hb e.k 1 then e.peer else 0, if hb e.k 2 then e.K else 0, if hb e.k 3 then e.at_ else 0, if hb e.k 3 then e.mask else 0, if hb e.k 4 then e.draw else 0, if hb e.k 5 then e.b else []⟩
def kindB (k : Nat) : Bool := decide (1 ≤ k) && decide (k ≤ 12)
/-- has a kind, by the document, a Node? -/
def nodedB (k : Nat) : Bool := decide (k ≤ 3) || (decide (8 ≤ k) && decide (k ≤ 11))
/-- may an event be, by the document? -/
def rgoodB (e : Ev) : Bool :=
  if !kindB e.k || (!sameB (plainE e) e || (decide (131072 < e.b.length) || (decide (e.K < 0) || (decide (1048576 < e.K) || (decide (e.at_ < 0) || decide (1048576 < e.at_)))))) then false else
  if nodedB e.k && (decide (e.node < 1) || decide (64 < e.node)) then false else
  e.k != 11 || (decide (1 ≤ e.peer) && (decide (e.peer ≤ 64) && e.peer != e.node))
theorem kind_cases {k : Nat} (h : kindB k = true) : k = 1 ∨ k = 2 ∨ k = 3 ∨ k = 4 ∨ k = 5 ∨ k = 6 ∨ k = 7 ∨ k = 8 ∨ k = 9 ∨ k = 10 ∨ k = 11 ∨ k = 12 := by
  unfold kindB at h
  simp only [Bool.and_eq_true, decide_eq_true_eq] at h
  omega
set_option maxHeartbeats 4000000 in
theorem good_eq (e : Ev) : rgoodB e = goodB e := by
  obtain ⟨k, node, peer, K, at_, mask, draw, b⟩ := e
  by_cases hk : kindB k = true
  · have hl : (b.length = 0) ↔ b = [] := List.length_eq_zero_iff
    rcases kind_cases hk with rfl | rfl | rfl | rfl | rfl | rfl | rfl | rfl | rfl | rfl | rfl | rfl <;>
    · rw [Bool.eq_iff_iff]
      simp [rgoodB, goodB, bad1, bad2, bad3, bad4, bad5, bad6, bad7, bad8, bad9, bad10, bad11, bad12, sameB, plainE, kindB, nodedB, oneB, lowB, hb, hasN, hasL, eq_comm (a := ([] : List UInt8)), eq_comm (a := (0 : Int)), eq_comm (a := (0 : Nat))]
      try simp only [← hl]
      try omega
  · have h1 : kindB k = false := by simpa using hk
    have h2 : bad1 ⟨k, node, peer, K, at_, mask, draw, b⟩ = true := by
      unfold bad1
      unfold kindB at h1
      simp only [Bool.and_eq_false_iff, decide_eq_false_iff_not] at h1
      simp only [Bool.or_eq_true, decide_eq_true_eq]
      omega
    unfold rgoodB goodB
    rw [h1, h2]
    rfl
end Go.Proofs.YtmekdhlcflielaaDoor.ev
