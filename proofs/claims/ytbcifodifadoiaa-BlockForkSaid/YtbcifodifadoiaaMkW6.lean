/- The walks of sets: Copy; Or, And of two sets, of one, of nil. -/
import Derived.Test.YtbcifodifadoiaaMkW5
import Derived.Lib.BufferMore
import Derived.Lib.SlBytesConst
import Derived.WalkLawsBesides
namespace Go.Proofs.Ytbcifodifadoiaa.mkW
open Go Go.RowKit Go.Par Go.Kit Go.Proofs.Ytbcifodifadoiaa.Mk

theorem one_b64 (ws : List (BitVec 64)) : ∀ u ∈ ws.map b64, u.oneCell' = true := by
  intro u hu
  simp only [List.mem_map] at hu
  obtain ⟨x, _, rfl⟩ := hu
  rfl
theorem MSr.row {w : World} {g : Nat} {h : Option Nat} {n : Nat} {ws : List (BitVec 64)} (m : MSr w g h n ws) : ∃ A c, w.cell? ⟨g, 0, none⟩ = some (.int .i64 (n : Int)) ∧ w.cell? ⟨g, 1, none⟩ = some (.slice A ws.length c) ∧ Row w A ws.length (ws.map b64) := by
  obtain ⟨A, c, h1, h2, h3⟩ := m
  obtain ⟨A', c', e, _, _, r⟩ := own_form h2
  injection e with e1 e2 e3
  subst e1
  rw [Nat.mul_one] at r
  exact ⟨A, c, h1.cell (i := 0) rfl, h1.cell (i := 1) rfl, r⟩
theorem good_nil : GoodW 0 [] (fun _ => false) := ⟨by decide, rfl, fun j => by simp [bit], fun j h => by cases h⟩
theorem orTo_at' {ws ts : List (BitVec 64)} {n k : Nat} : (orTo ws ts n k)[k]? = ws[k]? := by unfold orTo; rw [List.getElem?_mapIdx]; cases ws[k]? <;> simp
theorem andTo_at' {ws ts : List (BitVec 64)} {n k : Nat} : (andTo ws ts n k)[k]? = ws[k]? := by unfold andTo; rw [List.getElem?_mapIdx]; cases ws[k]? <;> simp
theorem wordOf_eq {ws us : List (BitVec 64)} {k n : Nat} (h : ws[k]? = us[k]?) : wordOf ws k n = wordOf us k n := by unfold wordOf; rw [h]
section
variable {w : World} {B : Nat} {K : Nat → Prop} {g : Nat} {h : Option Nat} {n : Nat} {S : Nat → Bool}
theorem or_two (m : MS w g h n S) (hf : Free B K g h) (hB : B ≤ w.heap.size) {g2 : Nat} {h2 : Option Nat} {n2 : Nat} {T : Nat → Bool} (m2 : MS w g2 h2 n2 T) (k2 : g2 < B ∨ K g2) (k3 : ∀ k, h2 = some k → k < B ∨ K k) :
    Calls Try.prog 26 #[.pointer (some ⟨g, 0, none⟩), .pointer (some ⟨g2, 0, none⟩)] w fun e w' => e = .returned (.bool (diff n S (uni S T n))) ∧ MS w' g h n (uni S T n) ∧ Keep B K w w' := by
  obtain ⟨ws, hr, hgd⟩ := m.raw
  obtain ⟨ts, hr2, hgt⟩ := m2.raw
  exact or_gen w B K g h n S ws hr hgd hf hB _ n2 ts T hgt (fun wr k hk _ hke => word_any wr g2 h2 n2 ts (hr2.keep hke k2 k3) k n (by have := hgd.1; omega) hgd.1)
theorem or_self (m : MS w g h n S) (hf : Free B K g h) (hB : B ≤ w.heap.size) :
    Calls Try.prog 26 #[.pointer (some ⟨g, 0, none⟩), .pointer (some ⟨g, 0, none⟩)] w fun e w' => e = .returned (.bool (diff n S (uni S S n))) ∧ MS w' g h n (uni S S n) ∧ Keep B K w w' := by
  obtain ⟨ws, hr, hgd⟩ := m.raw
  exact or_gen w B K g h n S ws hr hgd hf hB _ n ws S hgd (fun wr k hk hm _ => by
    rw [← wordOf_eq (ws := orTo ws ws n k) orTo_at']
    exact word_any wr g h n _ hm k n (by have := hgd.1; omega) hgd.1)
theorem or_none (m : MS w g h n S) (hf : Free B K g h) (hB : B ≤ w.heap.size) :
    Calls Try.prog 26 #[.pointer (some ⟨g, 0, none⟩), .pointer none] w fun e w' => e = .returned (.bool (diff n S (uni S (fun _ => false) n))) ∧ MS w' g h n (uni S (fun _ => false) n) ∧ Keep B K w w' := by
  obtain ⟨ws, hr, hgd⟩ := m.raw
  exact or_gen w B K g h n S ws hr hgd hf hB _ 0 [] _ good_nil (fun wr k _ _ _ => word_nil wr k n)
end
theorem diff_same (n : Nat) (S : Nat → Bool) : diff n S S = false := by unfold diff; rw [List.any_eq_false]; intro x _; simp
theorem uni_none (S : Nat → Bool) (n : Nat) : uni S (fun _ => false) n = S := by funext j; simp [uni]
theorem within_ms {w : World} {g g2 : Nat} {h h2 : Option Nat} {n n2 : Nat} {S T : Nat → Bool} (m : MS w g h n S) (m2 : MS w g2 h2 n2 T) :
    Calls Try.prog 35 #[.pointer (some ⟨g, 0, none⟩), .pointer (some ⟨g2, 0, none⟩)] w fun e w' => e = .returned (.bool (allIn n S T)) ∧ w = w' :=
  within_gen w _ _ n S T m.good.1 m.good.2 (fun a ha => next_any w g h n S m a ha) (fun a => has_any w g2 h2 n2 T m2 a)
theorem put_nil (w : World) (i : Int) : Calls Try.prog 24 #[.pointer none, .int .i64 i] w fun e w' => e = .returned (.bool false) ∧ w = w' := by
  go_enter Try.func24, Try.ntmps24
  go_wp2_with fail
  refine (fits_nil w i).mono ?_
  rintro e w' ⟨rfl, rfl⟩
  go_wp2_with fail
  go_ret
  exact ⟨rfl, rfl⟩
theorem or_nil (w : World) (v : Value) : Calls Try.prog 26 #[.pointer none, v] w fun e w' => e = .returned (.bool false) ∧ w = w' := by
  go_enter Try.func26, Try.ntmps26
  go_wp2_with fail
  refine (room_nil w).mono ?_
  rintro e w' ⟨rfl, rfl⟩
  go_wp2_with fail
  go_loop [5, 12] (fun r i => r = .bool false ∧ i = .int .i64 0) (fun _ _ => 0)
  case atStart => exact ⟨rfl, rfl⟩
  case round =>
    obtain ⟨rfl, rfl⟩ := hrel
    go_wp2_with fail
    go_ret
    exact ⟨rfl, rfl⟩
end Go.Proofs.Ytbcifodifadoiaa.mkW
