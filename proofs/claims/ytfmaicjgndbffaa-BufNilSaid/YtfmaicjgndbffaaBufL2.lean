/- The statements of what is written and read: write. -/
import Derived.Test.YtfmaicjgndbffaaBufL
namespace Go.Proofs.Ytfmaicjgndbffaa.bfL
open Go Go.RowKit Go.Par Go.Kit Vi Go.Proofs.Ytfmaicjgndbffaa.cl Go.Proofs.Ytfmaicjgndbffaa.bfW
open Go.Proofs.Ytfmaicjgndbffaa.viW hiding i8 i8s i8z i8b info8

/-- a thing's bytes -/
def it (x : Item) : List UInt8 := if x.k = 0 then vb x.num else if x.k = 1 then [Vi.u8 x.b] else vb x.t.length ++ x.t
theorem it_len (x : Item) (h : x.t.length ≤ 300) : (it x).length ≤ 310 := by
  unfold it
  split
  · have := vb_len_le x.num; omega
  · split
    · simp
    · have := vb_len_le x.t.length; rw [List.length_append]; omega
def itv (x : Item) : Value := .agg #[.int .u8 (x.k : Int), .int .u64 (x.num : Int), .int .u8 (x.b : Int), .string (str x.t)]

set_option maxRecDepth 100000 in
set_option maxHeartbeats 1000000 in
theorem write_any (w : World) (B : Nat) (K : Nat → Prop) (hK : ∀ k, K k → k < w.heap.size) (g : Nat) (L : List UInt8) (h : Wb w B K g L) (x : Item) (ok : ItemOk x) (ht : x.t.length ≤ 300) (hlen : L.length ≤ 100000000) :
    Calls Try.prog 22 #[.pointer (some ⟨g, 0, none⟩), .agg #[.int .u8 (x.k : Int), .int .u64 (x.num : Int), .int .u8 (x.b : Int), .string (str x.t)]] w fun e w' => ∃ v, e = .returned v ∧ Sl w' v (it x) ∧ Wb w' B K g (L ++ it x) ∧ Keep B K w w' := by
  obtain ⟨k, num, b, t⟩ := x
  obtain ⟨ok1, ok2, ok3⟩ := ok
  dsimp only at ok1 ok2 ok3 ht ⊢
  obtain ⟨g0, hg0⟩ : ∃ g0, g0 = w.heap.size := ⟨_, rfl⟩
  have hsz := h.size
  have hK1 : ∀ i, (K i ∨ i = g0) → i < (w.alloc (.cells #[.int .u8 (k : Int), .int .u64 (num : Int), .int .u8 (b : Int), .string (str t)] 43)).heap.size := fun i hi => by
    rcases hi with hi | hi
    · have := hK i hi; simp; omega
    · simp; omega
  have hb1 : Blk (w.alloc (.cells #[.int .u8 (k : Int), .int .u64 (num : Int), .int .u8 (b : Int), .string (str t)] 43)) g0 43 [.int .u8 (k : Int), .int .u64 (num : Int), .int .u8 (b : Int), .string (str t)] := Blk.new w _ _ _ rfl hg0
  have hw1 : Wb (w.alloc (.cells #[.int .u8 (k : Int), .int .u64 (num : Int), .int .u8 (b : Int), .string (str t)] 43)) B (fun i => K i ∨ i = g0) g L := (h.more (fun i hi hlt => by rcases hi with hi | hi; exact hi; omega)).grow (Grow.alloc w _)
  have hk1 : Keep B K w (w.alloc (.cells #[.int .u8 (k : Int), .int .u64 (num : Int), .int .u8 (b : Int), .string (str t)] 43)) := Keep.of (Grow.alloc w _) hsz
  have hsz1 : (w.alloc (.cells #[.int .u8 (k : Int), .int .u64 (num : Int), .int .u8 (b : Int), .string (str t)] 43)).heap.size = g0 + 1 := by simp [hg0]
  generalize hW1 : w.alloc (.cells #[.int .u8 (k : Int), .int .u64 (num : Int), .int .u8 (b : Int), .string (str t)] 43) = W1 at hK1 hb1 hw1 hk1 hsz1
  have HK1 := Lib.hid hK1
  have HB1 := Lib.hid hb1
  have HW1 := Lib.hid hw1
  have HKE := Lib.hid hk1
  have HS1 := Lib.hid hsz1
  have HE1 := Lib.hid hW1
  have HG0 := Lib.hid hg0
  have b0 := hb1.cell (i := 0) rfl
  have b1 := hb1.cell (i := 1) rfl
  have b2 := hb1.cell (i := 2) rfl
  have b3 := hb1.cell (i := 3) rfl
  clear hK1 hb1 hw1 hk1 hsz1 hW1 h hK
  by_cases h0 : k = 0
  · have e : it ⟨k, num, b, t⟩ = vb num := by unfold it; rw [if_pos h0]
    rw [e]
    have t0 : ((k : Int) == 0) = true := beq_iff_eq.2 (by omega)
    have hrow : Row (W1.alloc (.cells #[.int .u64 (num : Int)] 22)) (some ⟨W1.heap.size, 0, none⟩) 1 ([num].map u64v) := Row.new W1 [.int .u64 (num : Int)] 22 (0, 0)
    have hN := num_w (W1.alloc (.cells #[.int .u64 (num : Int)] 22)) B (fun i => (K i ∨ i = g0) ∨ i = W1.heap.size) (fun i hi => by
      rcases hi with hi | hi
      · have := HK1.out i hi; simp; omega
      · simp; omega) g L ((HW1.out.more (fun i hi hlt => by rcases hi with hi | hi; exact hi; omega)).grow (Grow.alloc W1 _)) (some ⟨W1.heap.size, 0, none⟩) 1 1 [num] hrow (fun _ ad had => by injection had with had; rw [← had]; exact .inr (.inr rfl)) (fun y hy => by simp at hy; omega) (by omega)
    rw [show vbs [num] = vb num by simp [vbs]] at hN
    have HN := Lib.hid hN
    have HR := Lib.hid (fun W => ref_bytes_own num ok2 W)
    obtain ⟨M, hM⟩ : ∃ M, M = vb num := ⟨_, rfl⟩
    rw [← hM] at HN HR ⊢
    clear hN hrow e h0 hM hg0
    rw [HS1.out] at HN
    go_enter Try.func22, Try.ntmps22
    go_wp2_with fail
    rw [HE1.out, ← HG0.out]
    refine HN.out.mono ?_
    rintro e w2 ⟨rfl, hw2, hk2⟩
    have d1 := (hk2.blk (HB1.out.grow (Grow.alloc W1 _)) (.inl (.inr rfl))).cell (i := 1) rfl
    have hke : Keep B K w w2 := (HKE.out.trans (Keep.of (Grow.alloc W1 _) HW1.out.size)).trans (hk2.less (fun i hi => .inl (.inl hi)))
    have HKE2 := Lib.hid hke
    have HW2 := Lib.hid (hw2.more (K2 := K) (fun i hi _ => .inl (.inl hi)))
    clear hke hk2 hw2 HN
    go_wp2_with fail
    refine (HR.out w2).mono ?_
    rintro e w3 ⟨v3, rfl, ho3, hg3⟩
    have HS3 := Lib.hid (own_sl ho3)
    obtain ⟨A3, n3, c3, rfl, -, -, -⟩ := HS3.out
    have HG3 := Lib.hid hg3
    clear ho3 hg3 HR
    go_wp2_with fail
    go_ret
    exact ⟨_, rfl, HS3.out, HW2.out.grow HG3.out, HKE2.out.trans (Keep.of HG3.out HW2.out.size)⟩
  · have t0 : ((k : Int) == 0) = false := beq_false_of_ne (by omega)
    by_cases h1 : k = 1
    · have e : it ⟨k, num, b, t⟩ = [Vi.u8 b] := by unfold it; rw [if_neg h0, if_pos h1]
      rw [e]
      have t1 : ((k : Int) == 1) = true := beq_iff_eq.2 (by omega)
      obtain ⟨y, hy⟩ : ∃ y, y = Vi.u8 b := ⟨_, rfl⟩
      have hyb : (y.toNat : Int) = (b : Int) := by rw [hy, Vi.u8_toNat ok3]
      rw [← hy]
      have hrow : ∀ W : World, Bytes (W.alloc (.cells #[.int .u8 (b : Int)] 5)) (some ⟨W.heap.size, 0, none⟩) 1 [y] := fun W => Bytes.new W [y] _ _ rfl (by simp [u8s, u8v, hyb]) rfl
      have hN := byte_w (W1.alloc (.cells #[.int .u8 (b : Int)] 5)) B (fun i => K i ∨ i = g0) (fun i hi => by have := HK1.out i hi; simp; omega) g L (HW1.out.grow (Grow.alloc W1 _)) (some ⟨W1.heap.size, 0, none⟩) 1 1 [y] (hrow W1) (by omega)
      have HN := Lib.hid hN
      have HROW := Lib.hid hrow
      clear hN hrow e h0 h1 hy hyb hg0
      rw [HS1.out] at HN
      go_enter Try.func22, Try.ntmps22
      go_wp2_with fail
      rw [HE1.out, ← HG0.out]
      refine HN.out.mono ?_
      rintro e w2 ⟨rfl, hw2, hk2⟩
      have d1 := (hk2.blk (HB1.out.grow (Grow.alloc W1 _)) (.inr rfl)).cell (i := 2) rfl
      have hke : Keep B K w w2 := (HKE.out.trans (Keep.of (Grow.alloc W1 _) HW1.out.size)).trans (hk2.less (fun i hi => .inl hi))
      have HKE2 := Lib.hid hke
      have HW2 := Lib.hid (hw2.more (K2 := K) (fun i hi _ => .inl hi))
      clear hke hk2 hw2 HN
      go_wp2_with fail
      go_ret
      exact ⟨_, rfl, Sl.mk (HROW.out w2) (by decide) (by decide), HW2.out.grow (Grow.alloc _ _), HKE2.out.trans (Keep.of (Grow.alloc _ _) HW2.out.size)⟩
    · have e : it ⟨k, num, b, t⟩ = vb t.length ++ t := by unfold it; rw [if_neg h0, if_neg h1]
      rw [e]
      have t1 : ((k : Int) == 1) = false := beq_false_of_ne (by omega)
      have hN := text_w W1 B (fun i => K i ∨ i = g0) HK1.out g L HW1.out t (by omega)
      have HN := Lib.hid hN
      have HR := Lib.hid (fun W => ref_text_w t (by omega) W)
      obtain ⟨M, hM⟩ : ∃ M, M = vb t.length ++ t := ⟨_, rfl⟩
      rw [← hM] at HN HR ⊢
      clear hN e h0 h1 hM hg0
      go_enter Try.func22, Try.ntmps22
      go_wp2_with fail
      rw [HE1.out, ← HG0.out]
      refine HN.out.mono ?_
      rintro e w2 ⟨rfl, hw2, hk2⟩
      have d1 := (hk2.blk HB1.out (.inr rfl)).cell (i := 3) rfl
      have hke : Keep B K w w2 := HKE.out.trans (hk2.less (fun i hi => .inl hi))
      have HKE2 := Lib.hid hke
      have HW2 := Lib.hid (hw2.more (K2 := K) (fun i hi _ => .inl hi))
      clear hke hk2 hw2 HN
      go_wp2_with fail
      refine (HR.out w2).mono ?_
      rintro e w3 ⟨v3, rfl, ho3, hg3⟩
      have HS3 := Lib.hid (own_sl ho3)
      obtain ⟨A3, n3, c3, rfl, -, -, -⟩ := HS3.out
      have HG3 := Lib.hid hg3
      clear ho3 hg3 HR
      go_wp2_with fail
      go_ret
      exact ⟨_, rfl, HS3.out, HW2.out.grow HG3.out, HKE2.out.trans (Keep.of HG3.out HW2.out.size)⟩
end Go.Proofs.Ytfmaicjgndbffaa.bfL
