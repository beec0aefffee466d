/- The walks of the document's bits, further: Rot, Ones, First. -/
import Derived.Test.YtgpcijpadelcfaaBtR
namespace Go.Proofs.Ytgpcijpadelcfaa.btW
open Go Go.RowKit Go.Par Go.Kit

theorem tmod_facts (n : Int) : ∃ r : Int, n.tmod 64 = r ∧ -64 < r ∧ r < 64 ∧ (r < 0 → r + 64 = (Bt.kmod n : Int)) ∧ (0 ≤ r → r = (Bt.kmod n : Int)) := by
  refine ⟨_, rfl, ?_, ?_, ?_, ?_⟩
  · have := Int.lt_tmod_of_pos n (show (0 : Int) < 64 by decide); omega
  · exact Int.tmod_lt_of_pos n (by decide)
  · intro h
    unfold Bt.kmod
    have h1 := Int.tmod_add_mul_tdiv n 64
    have h2 := Int.lt_tmod_of_pos n (show (0 : Int) < 64 by decide)
    omega
  · intro h
    unfold Bt.kmod
    have h1 := Int.tmod_add_mul_tdiv n 64
    have h2 := Int.tmod_lt_of_pos n (show (0 : Int) < 64 by decide)
    omega

/-- a slice of the bits of a number, its cells -/
theorem bits_cell {w : World} {A : Option Addr} {x : BitVec 64} (h : Bools w A 64 (Bt.bitsOf x)) {j : Nat} (hj : j < 64) : ∃ b off, A = some ⟨b, off, none⟩ ∧ w.cell? ⟨b, off + j, none⟩ = some (.bool (x.getLsbD j)) := by
  obtain ⟨b, off, u, e, hu, hc⟩ := h.at_ hj
  rw [Bt.bitsOf_at x j hj] at hu
  obtain rfl := Option.some.inj hu
  exact ⟨b, off, e, hc⟩

theorem rot_snoc (x : BitVec 64) (k i : Nat) (hk : k < 64) (h : i < 64) : (Bt.bitsOf (Bt.rot x k)).take (i + 1) = (Bt.bitsOf (Bt.rot x k)).take i ++ [x.getLsbD ((i + 64 - k) % 64)] := by
  rw [bits_snoc _ _ h, Bt.rot_at x k i hk h]

set_option maxHeartbeats 400000 in
theorem ref_rot_any (x : BitVec 64) (n : Int) (w : World) : Calls Try.prog 18 #[.int .u64 (x.toNat : Int), .int .i64 n] w fun e w' => e = .returned (.int .u64 ((Bt.rot x (Bt.kmod n)).toNat : Int)) ∧ Grow w w' := by
  obtain ⟨r, hr, hr1, hr2, hr3, hr4⟩ := tmod_facts n
  have hk := Bt.kmod_lt n
  generalize Bt.kmod n = k at hr3 hr4 hk ⊢
  obtain ⟨y, hy⟩ : ∃ y, y = Bt.rot x k := ⟨_, rfl⟩
  rw [← hy]
  have HY := Lib.hid hy
  clear hy
  have hcase : (r < 0 ∧ r + 64 = (k : Int)) ∨ (0 ≤ r ∧ r = (k : Int)) := by omega
  clear hr3 hr4
  rcases hcase with ⟨h0, h1⟩ | ⟨h0, rfl⟩
  all_goals
    go_enter Try.func18, Try.ntmps18
    go_wp2_with fail
    refine (ref_bits_any x w).mono ?_
    rintro e w1 ⟨v, rfl, hown, hg1⟩
    obtain ⟨A, c, rfl, -, -, hb⟩ := hown.form
    rw [Bt.bitsOf_len] at hb ⊢
    clear hown
    go_wp2_with fail
    go_loopw [7, 8] (fun u i wr => ∃ j : Nat, j ≤ 64 ∧ i = .int .i64 j ∧ wr.ownsRow w1.heap.size 4 1 u j (bools ((Bt.bitsOf y).take j)) ∧ Grow w1 wr) (fun _ i _ => 64 - (intOf i).toNat)
    case atStart => exact ⟨0, by omega, rfl, by simpa [bools] using World.ownsRow_nil _ _ _ _, Grow.refl _⟩
    case round =>
      obtain ⟨j, hj, rfl, hown, hg2⟩ := hrel
      by_cases hlt : j < 64
      · obtain ⟨b, off, rfl, hcell⟩ := bits_cell (hb.grow hg2) (j := (j + 64 - k) % 64) (by omega)
        have hsn := rot_snoc x k j hk hlt
        rw [← HY.out] at hsn
        generalize x.getLsbD ((j + 64 - k) % 64) = q at hsn hcell
        have HS := Lib.hid hsn
        have HG2 := Lib.hid hg2
        have hsz := hg2.size
        clear hsn hg2 hg1
        go_wp2_with (at_builtin; refine append_fresh 1 Try.underlying83 ib ibz ibs ibb rfl rfl _ _ rfl w1.heap.size _ _ _ hown rfl rfl rfl ?_ ?_ ?_ ?_; (unfold maxLen; omega); omega; exact hsz; intro v1 w2 hown1 hgb1 hh1)
        go_roundw
        case rel =>
          refine ⟨j + 1, by omega, by go_num, ?_, grow_by (HG2.out.trans (Grow.alloc wr _)) hgb1 (own_base hown)⟩
          rw [HS.out, ← bools_snoc]; exact hown1
        case measure => simp [intOf]; omega
      · obtain rfl : j = 64 := by omega
        have h64 : (Bt.bitsOf y).take 64 = Bt.bitsOf y := List.take_of_length_le (by rw [Bt.bitsOf_len]; omega)
        rw [h64] at hown
        obtain ⟨A2, c2, rfl, h1, h2, h3⟩ := own_form hown
        rw [Nat.mul_one] at h3
        go_wp2_with fail
        refine (ref_num_any _ _ _ _ _ h3 (by decide)).mono ?_
        rintro e w2 ⟨rfl, rfl⟩
        go_wp2_with fail
        go_ret
        exact ⟨ret_int (by rw [Bt.num_bits]), hg1.trans hg2⟩

def count (x : BitVec 64) (k : Nat) : Nat := (List.range k).countP x.getLsbD
theorem count_succ (x : BitVec 64) (k : Nat) : count x (k + 1) = count x k + if x.getLsbD k then 1 else 0 := by
  unfold count
  rw [List.range_succ, List.countP_append, List.countP_singleton]
theorem count_le (x : BitVec 64) (k : Nat) : count x k ≤ k := by
  have := List.countP_le_length (p := x.getLsbD) (l := List.range k)
  simpa [count] using this

set_option maxHeartbeats 400000 in
theorem ref_ones_any (x : BitVec 64) (w : World) : Calls Try.prog 20 #[.int .u64 (x.toNat : Int)] w fun e w' => e = .returned (.int .i64 (Bt.ones x : Int)) ∧ Grow w w' := by
  go_enter Try.func20, Try.ntmps20
  go_wp2_with fail
  refine (ref_bits_any x w).mono ?_
  rintro e w1 ⟨v, rfl, hown, hg1⟩
  obtain ⟨A, c, rfl, -, -, hb⟩ := hown.form
  rw [Bt.bitsOf_len] at hb ⊢
  clear hown
  go_wp2_with fail
  go_loop [3, 5] (fun n i => ∃ j : Nat, j ≤ 64 ∧ i = .int .i64 j ∧ n = .int .i64 (count x j : Int)) (fun _ i => 64 - (intOf i).toNat)
  case atStart => exact ⟨0, by omega, rfl, rfl⟩
  case round =>
    obtain ⟨j, hj, rfl, rfl⟩ := hrel
    by_cases hlt : j < 64
    · obtain ⟨b, off, rfl, hcell⟩ := bits_cell hb hlt
      have hc1 := count_succ x j
      have hc2 := count_le x j
      cases hq : x.getLsbD j
      · rw [hq] at hcell hc1
        have hc3 : count x (j + 1) = count x j := by simpa using hc1
        have HC := Lib.hid hc3
        clear hc1 hc3 hq
        generalize count x j = N at HC hc2 ⊢
        go_wp2
        go_round
        case rel => exact ⟨j + 1, by omega, by go_num, by rw [HC.out]⟩
        case measure => simp [intOf] <;> omega
      · rw [hq] at hcell hc1
        have hc3 : count x (j + 1) = count x j + 1 := by simpa using hc1
        have HC := Lib.hid hc3
        clear hc1 hc3 hq
        generalize count x j = N at HC hc2 ⊢
        go_wp2
        go_round
        case rel => exact ⟨j + 1, by omega, by go_num, by rw [HC.out]; go_num⟩
        case measure => simp [intOf] <;> omega
    · obtain rfl : j = 64 := by omega
      go_wp2
      go_ret
      exact ⟨rfl, hg1⟩

set_option maxHeartbeats 400000 in
theorem ref_first_any (x : BitVec 64) (w : World) : Calls Try.prog 22 #[.int .u64 (x.toNat : Int)] w fun e w' => e = .returned (.int .i64 (Bt.first x : Int)) ∧ Grow w w' := by
  go_enter Try.func22, Try.ntmps22
  go_wp2_with fail
  refine (ref_bits_any x w).mono ?_
  rintro e w1 ⟨v, rfl, hown, hg1⟩
  obtain ⟨A, c, rfl, -, -, hb⟩ := hown.form
  rw [Bt.bitsOf_len] at hb ⊢
  clear hown
  go_wp2_with fail
  go_loop [4] (fun i => ∃ j : Nat, j ≤ 64 ∧ i = .int .i64 j ∧ Hid (∀ q, q < j → x.getLsbD q = false)) (fun i => 64 - (intOf i).toNat)
  case atStart => exact ⟨0, by omega, rfl, fun q h => by omega⟩
  case round =>
    obtain ⟨j, hj, rfl, hno⟩ := hrel
    by_cases hlt : j < 64
    · obtain ⟨b, off, rfl, hcell⟩ := bits_cell hb hlt
      cases hq : x.getLsbD j
      · rw [hq] at hcell
        have HN : Hid (∀ q, q < j + 1 → x.getLsbD q = false) := fun q h => by
          by_cases hqj : q = j
          · subst hqj; exact hq
          · exact hno.out q (by omega)
        clear hq
        go_wp2
        go_round
        case rel => exact ⟨j + 1, by omega, by go_num, HN⟩
        case measure => simp [intOf] <;> omega
      · rw [hq] at hcell
        have hf := Lib.hid (Bt.first_of hlt hq hno.out)
        clear hq
        go_wp2
        go_ret
        exact ⟨ret_int (by rw [hf.out]), hg1⟩
    · obtain rfl : j = 64 := by omega
      have hf := Lib.hid (Bt.first_none hno.out)
      go_wp2
      go_ret
      exact ⟨ret_int (by rw [hf.out]; rfl), hg1⟩
end Go.Proofs.Ytgpcijpadelcfaa.btW
