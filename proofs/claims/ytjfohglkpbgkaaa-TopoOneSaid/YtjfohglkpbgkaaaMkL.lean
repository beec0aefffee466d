/- The statements of sets: works, of, MaskUnites. -/
import Derived.Test.YtjfohglkpbgkaaaMkW6
namespace Go.Proofs.Ytjfohglkpbgkaaa.mkL
open Go Go.RowKit Go.Par Go.Kit Go.Proofs.Ytjfohglkpbgkaaa.Mk Go.Proofs.Ytjfohglkpbgkaaa.mkW

theorem w_elems : elems 70 (putS 70 (putS 70 (fun _ => false) 64) 3) = [3, 64] := by decide +kernel
theorem w_next : nextN 70 (putS 70 (putS 70 (fun _ => false) 64) 3) 4 = 64 := by decide +kernel
theorem free_of {B g : Nat} {h : Option Nat} {K : Nat → Prop} (h1 : B ≤ g) (h2 : ¬ K g) (h3 : ∀ k, h = some k → B ≤ k ∧ ¬ K k) : Free B K g h := ⟨⟨h1, h2⟩, h3⟩

set_option maxRecDepth 100000 in
set_option maxHeartbeats 1000000 in
theorem works_any (w : World) : Calls Try.prog 19 #[] w fun e w' => e = .returned (.bool true) ∧ Grow w w' := by
  have H1 := Lib.hid (new_any 70 w (by decide) (by decide))
  rw [show clampN 70 = 70 by decide] at H1
  obtain ⟨B, hB⟩ : ∃ B, B = w.heap.size := ⟨_, rfl⟩
  have HB := Lib.hid hB
  rw [← hB] at H1
  clear hB
  go_enter Try.func19, Try.ntmps19
  go_wp2_with fail
  refine H1.out.mono ?_
  rintro e w1 ⟨rfl, m1, hg1⟩
  have hfr : Free B (fun _ => False) (B + 1) (some B) := free_of (by omega) (fun h => h) (fun k hk => ⟨by injection hk; omega, fun h => h⟩)
  have hp2 := put_any w1 B (fun _ => False) (B + 1) (some B) 70 _ m1 hfr 64
  rw [show (fitB 70 64 && !memI (fun _ => false) 64) = true by decide] at hp2
  have H2 := Lib.hid hp2
  have HG1 := Lib.hid hg1
  have HFR := Lib.hid hfr
  clear m1 hfr hp2 hg1 H1
  go_wp2_with fail
  refine H2.out.mono ?_
  rintro e w2 ⟨rfl, m2, hk2⟩
  have hp3 := put_any w2 B (fun _ => False) (B + 1) (some B) 70 _ m2 HFR.out 3
  rw [show (fitB 70 3 && !memI (putS 70 (fun _ => false) 64) 3) = true by decide] at hp3
  have H3 := Lib.hid hp3
  have HG2 : Hid (Grow w w2) := Lib.hid (hk2.grow HG1.out HB.out)
  clear m2 hk2 hp3 H2
  go_wp2_with fail
  refine H3.out.mono ?_
  rintro e w3 ⟨rfl, m3, hk3⟩
  have HG3 : Hid (Grow w w3) := Lib.hid (hk3.grow HG2.out HB.out)
  obtain ⟨S, hS⟩ : ∃ S, S = putS 70 (putS 70 (fun _ => false) 64) 3 := ⟨_, rfl⟩
  rw [← hS] at m3
  have hl := list_any w3 (B + 1) (some B) 70 S m3
  rw [show elems 70 S = [3, 64] by rw [hS]; exact w_elems] at hl
  have HN : Hid (nextN 70 S 4 = 64) := Lib.hid (by rw [hS]; exact w_next)
  have HL := Lib.hid hl
  have HM := Lib.hid m3
  clear m3 hk3 hl hS H3
  go_wp2_with fail
  refine HL.out.mono ?_
  rintro e w4 ⟨v4, rfl, ho4, hg4⟩
  replace ho4 : w4.ownsRow w3.heap.size 3 1 v4 2 [.int .i64 3, .int .i64 64] := ho4
  obtain ⟨A4, c4, rfl, a1, a2, a3⟩ := own_form ho4
  rw [Nat.mul_one] at a3
  obtain ⟨b, off, rfl, hc⟩ := a3.2 (by decide)
  have c0 := hc 0 _ rfl
  have c1 := hc 1 _ rfl
  rw [Nat.add_zero] at c0
  have HX := Lib.hid (next_any w4 (B + 1) (some B) 70 S (HM.out.grow hg4) 4 (by decide))
  rw [HN.out] at HX
  have HR := Lib.hid (room_any w4 (B + 1) (some B) 70 S (HM.out.grow hg4))
  have HG4 := Lib.hid (HG3.out.trans hg4)
  clear ho4 a3 hc hg4 HL
  go_wp2_with fail
  refine HX.out.mono ?_
  rintro e w5 ⟨rfl, rfl⟩
  go_wp2_with fail
  refine HR.out.mono ?_
  rintro e w5 ⟨rfl, rfl⟩
  go_wp2_with fail
  go_ret
  exact ⟨rfl, HG4.out⟩

/-- the numbers of a list -/
def ofS (N : Nat) (L : List Int) : Nat → Bool := L.foldl (fun S z => putS N S z) (fun _ => false)
theorem ofS_snoc (N : Nat) (L : List Int) (k : Nat) (z : Int) (h : L[k]? = some z) : ofS N (L.take (k + 1)) = putS N (ofS N (L.take k)) z := by
  unfold ofS; rw [List.take_add_one, h]; simp
set_option maxRecDepth 100000 in
set_option maxHeartbeats 1000000 in
theorem of_any (N0 : Int) (hn0 : -9223372036854775808 ≤ N0) (hn1 : N0 ≤ 9223372036854775807) (A : Option Addr) (n c : Nat) (zs : List Int) (w0 w : World) (hr : Row w0 A n (zs.map (Value.int .i64))) (hg0 : Grow w0 w) (hnm : n ≤ maxLen) :
    Calls Try.prog 13 #[.int .i64 N0, .slice A n c] w fun e w' => ∃ g h, e = .returned (.pointer (some ⟨g, 0, none⟩)) ∧ MS w' g h (clampN N0) (ofS (clampN N0) (zs.take (min n 60))) ∧ Grow w w' := by
  unfold maxLen at hnm
  have hzl : zs.length = n := by have := hr.1; simpa using this
  obtain ⟨N, hN⟩ : ∃ N, N = clampN N0 := ⟨_, rfl⟩
  have H1 := Lib.hid (new_any N0 w hn0 hn1)
  rw [← hN] at H1 ⊢
  obtain ⟨B, hB⟩ : ∃ B, B = w.heap.size := ⟨_, rfl⟩
  have HB := Lib.hid hB
  rw [← hB] at H1
  have HFR : Hid (Free B (fun _ => False) (B + 1) (some B)) := Lib.hid (free_of (by omega) (fun h => h) (fun k hk => ⟨by injection hk; omega, fun h => h⟩))
  have HROW := Lib.hid (hr.grow hg0)
  have HZL := Lib.hid hzl
  clear hB hN hzl hr hg0
  go_enter Try.func13, Try.ntmps13
  go_wp2_with fail
  refine H1.out.mono ?_
  rintro e w1 ⟨rfl, m1, hg1⟩
  have HM1 := Lib.hid m1
  have HG1 := Lib.hid hg1
  clear m1 hg1 H1
  go_wp2_with fail
  go_loopw [6] (fun i wr => ∃ k : Nat, k ≤ n ∧ k ≤ 60 ∧ i = .int .i64 (k : Int) ∧ MS wr (B + 1) (some B) N (ofS N (zs.take k)) ∧ Grow w wr) (fun i _ => n - (intOf i).toNat)
  case atStart => exact ⟨0, by omega, by omega, rfl, HM1.out, HG1.out⟩
  case round =>
    obtain ⟨k, hk, hk60, rfl, hm, hg⟩ := hrel
    clear HM1
    by_cases hlt : k < n
    · by_cases h60 : k < 60
      · obtain ⟨b, off, u, rfl, hu, hcell⟩ := (HROW.out.grow hg).at_ hlt
        obtain ⟨z, hz, rfl⟩ : ∃ z, zs[k]? = some z ∧ Value.int .i64 z = u := by simpa [List.getElem?_map] using hu
        have HSN := Lib.hid (ofS_snoc N zs k z hz)
        have HP := Lib.hid (put_any wr B (fun _ => False) (B + 1) (some B) N _ hm HFR.out z)
        have HG := Lib.hid hg
        clear hu hz hm hg
        go_wp2_with fail
        refine HP.out.mono ?_
        rintro e w2 ⟨rfl, m2, hk2⟩
        have HM2 := Lib.hid m2
        have HG2 : Hid (Grow w w2) := Lib.hid (hk2.grow HG.out HB.out)
        clear m2 hk2
        go_wp2_with fail
        go_roundw
        case rel => exact ⟨k + 1, by omega, by omega, by go_num, by rw [HSN.out]; exact HM2.out, HG2.out⟩
        case measure => simp [intOf] <;> omega
      · obtain rfl : k = 60 := by omega
        have hmin : min n 60 = 60 := by omega
        have HMN := Lib.hid hmin
        have HM := Lib.hid hm
        clear hmin hm
        go_wp2_with fail
        go_ret
        exact ⟨_, _, rfl, by rw [HMN.out]; exact HM.out, hg⟩
    · obtain rfl : k = n := by omega
      have hmin : min k 60 = k := by omega
      have HMN := Lib.hid hmin
      have HM := Lib.hid hm
      clear hmin hm
      go_wp2_with fail
      go_ret
      exact ⟨_, _, rfl, by rw [HMN.out]; exact HM.out, hg⟩
end Go.Proofs.Ytjfohglkpbgkaaa.mkL
