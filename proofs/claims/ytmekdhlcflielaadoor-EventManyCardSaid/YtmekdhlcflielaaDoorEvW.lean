/- The walk of event.write (printed by gen_evw.py). -/
import Derived.Test.YtmekdhlcflielaaDoorEvE
namespace Go.Proofs.YtmekdhlcflielaaDoor.ev
open Go Go.RowKit Go.Par Go.Kit Vi Go.Proofs.YtmekdhlcflielaaDoor.bfW
open Go.Proofs.YtmekdhlcflielaaDoor.viW hiding i8 i8s i8z i8b info8

set_option maxRecDepth 100000 in
set_option maxHeartbeats 16000000 in
theorem write_nat (w : World) (B : Nat) (KK : Nat → Prop) (hKK : ∀ k, KK k → k < w.heap.size) (g : Nat) (L : List UInt8) (h : Wb w B KK g L) (k node peer K at_ mask draw : Nat) (b : List UInt8) (A : Option Addr) (n c : Nat) (hby : Bytes w A n b) (hA : 0 < n → ∀ ad, A = some ad → ad.block < B ∨ KK ad.block)
    (ok1 : k ≤ 255) (ok2 : node ≤ 255) (ok3 : peer ≤ 255) (ok4 : K ≤ 1048576) (ok5 : at_ ≤ 1048576) (ok6 : mask < 4294967296) (ok7 : draw < 18446744073709551616) (hlen : L.length + n ≤ 100000000000000) (ht : Tab w) :
    Calls Tryd.prog 19 #[.pointer (some ⟨g, 0, none⟩), .agg #[.int .u8 (k : Int), .int .u8 (node : Int), .int .u8 (peer : Int), .int .i64 (K : Int), .int .i64 (at_ : Int), .int .u32 (mask : Int), .int .u64 (draw : Int), .slice A n c]] w fun r w' => r = .returned (.tuple #[]) ∧ Wb w' B KK g (L ++ evb ⟨k, node, peer, (K : Int), (at_ : Int), mask, draw, b⟩) ∧ Keep B KK w w' := by
  obtain ⟨g0, hg0⟩ : ∃ g0, g0 = w.heap.size := ⟨_, rfl⟩
  obtain ⟨W1, hW1⟩ : ∃ W, W = w.alloc (.cells #[.int .u8 (k : Int), .int .u8 (node : Int), .int .u8 (peer : Int), .int .i64 (K : Int), .int .i64 (at_ : Int), .int .u32 (mask : Int), .int .u64 (draw : Int), .slice A n c] TE) := ⟨_, rfl⟩
  have hg1 : Grow w W1 := by rw [hW1]; exact Grow.alloc _ _
  have hb1 : Blk W1 g0 TE [.int .u8 (k : Int), .int .u8 (node : Int), .int .u8 (peer : Int), .int .i64 (K : Int), .int .i64 (at_ : Int), .int .u32 (mask : Int), .int .u64 (draw : Int), .slice A n c] := by rw [hW1]; exact Blk.new _ _ _ _ rfl hg0
  obtain ⟨K1, hK1d⟩ : ∃ K1 : Nat → Prop, K1 = fun i => KK i ∨ i = g0 := ⟨_, rfl⟩
  have hs1 : W1.heap.size = g0 + 1 := by rw [hW1, hg0]; simp
  have hw1 : Wb W1 B K1 g L := by rw [hK1d]; exact (h.more (fun i hi hlt => by rcases hi with hi | hi; exact hi; omega)).grow hg1
  have hK1 : ∀ i, K1 i → i < W1.heap.size := fun i hi => by
    rw [hK1d] at hi
    rcases hi with hi | hi
    · have := hKK i hi; omega
    · omega
  have hg0K : K1 g0 := by rw [hK1d]; exact .inr rfl
  have hA1 : 0 < n → ∀ ad, A = some ad → ad.block < B ∨ K1 ad.block := fun h0 ad e => by
    rcases hA h0 ad e with h | h
    · exact .inl h
    · rw [hK1d]; exact .inr (.inl h)
  have hkl : ∀ i, KK i → K1 i := fun i hi => by rw [hK1d]; exact .inl hi
  have hbl : b.length = n := hby.len
  have HKL := Lib.hid hkl
  have HK1 := Lib.hid hK1
  have HG0 := Lib.hid hg0K
  have HA1 := Lib.hid hA1
  have HBY := Lib.hid (hby.grow hg1)
  have HB1 := Lib.hid hb1
  have HWB := Lib.hid hw1
  have HG := Lib.hid hg1
  have HW1 := Lib.hid hW1
  have HKP := Lib.hid (Keep.of (K := KK) hg1 h.size)
  have HE0 := Lib.hid hg0
  have HBL := Lib.hid hbl
  have HOF := Lib.hid (of_any W1 k ok1 (ht.grow hg1))
  have HLN := Lib.hid hlen
  obtain ⟨h0, eh0⟩ : ∃ q, q = hb k 0 := ⟨_, rfl⟩
  obtain ⟨h1, eh1⟩ : ∃ q, q = hb k 1 := ⟨_, rfl⟩
  obtain ⟨h2, eh2⟩ : ∃ q, q = hb k 2 := ⟨_, rfl⟩
  obtain ⟨h3, eh3⟩ : ∃ q, q = hb k 3 := ⟨_, rfl⟩
  obtain ⟨h4, eh4⟩ : ∃ q, q = hb k 4 := ⟨_, rfl⟩
  obtain ⟨h5, eh5⟩ : ∃ q, q = hb k 5 := ⟨_, rfl⟩
  have hres : evb ⟨k, node, peer, (K : Int), (at_ : Int), mask, draw, b⟩ = [Vi.u8 k] ++ (if h0 then [Vi.u8 node] else []) ++ (if h1 then [Vi.u8 peer] else []) ++ (if h2 then vb K else []) ++ (if h3 then vb at_ ++ vb mask else []) ++ (if h4 then vb draw else []) ++ (if h5 then vb b.length ++ b else []) := by
    unfold evb
    rw [eh0, eh1, eh2, eh3, eh4, eh5]
    simp only [Int.toNat_natCast]
  obtain ⟨P0, hP0⟩ : ∃ P, P = (if h0 then [Vi.u8 node] else []) := ⟨_, rfl⟩
  obtain ⟨P1, hP1⟩ : ∃ P, P = (if h1 then [Vi.u8 peer] else []) := ⟨_, rfl⟩
  obtain ⟨P2, hP2⟩ : ∃ P, P = (if h2 then vb K else []) := ⟨_, rfl⟩
  obtain ⟨P3, hP3⟩ : ∃ P, P = (if h3 then vb at_ ++ vb mask else []) := ⟨_, rfl⟩
  obtain ⟨P4, hP4⟩ : ∃ P, P = (if h4 then vb draw else []) := ⟨_, rfl⟩
  obtain ⟨P5, hP5⟩ : ∃ P, P = (if h5 then vb b.length ++ b else []) := ⟨_, rfl⟩
  obtain ⟨Q0, hQ0⟩ : ∃ Q, Q = L ++ [Vi.u8 k] := ⟨_, rfl⟩
  obtain ⟨Q1, hQ1⟩ : ∃ Q, Q = Q0 ++ P0 := ⟨_, rfl⟩
  obtain ⟨Q2, hQ2⟩ : ∃ Q, Q = Q1 ++ P1 := ⟨_, rfl⟩
  obtain ⟨Q3, hQ3⟩ : ∃ Q, Q = Q2 ++ P2 := ⟨_, rfl⟩
  obtain ⟨Q4, hQ4⟩ : ∃ Q, Q = Q3 ++ P3 := ⟨_, rfl⟩
  obtain ⟨Q5, hQ5⟩ : ∃ Q, Q = Q4 ++ P4 := ⟨_, rfl⟩
  obtain ⟨Q6, hQ6⟩ : ∃ Q, Q = Q5 ++ P5 := ⟨_, rfl⟩
  have hresQ : L ++ evb ⟨k, node, peer, (K : Int), (at_ : Int), mask, draw, b⟩ = Q6 := by
    rw [hres, hQ6, hQ5, hQ4, hQ3, hQ2, hQ1, hQ0, hP0, hP1, hP2, hP3, hP4, hP5]
    simp only [List.append_assoc, List.cons_append, List.nil_append]
  rw [hresQ]
  have HQ0 := Lib.hid hQ0
  have HQ1 := Lib.hid hQ1
  have HQ2 := Lib.hid hQ2
  have HQ3 := Lib.hid hQ3
  have HQ4 := Lib.hid hQ4
  have HQ5 := Lib.hid hQ5
  have HQ6 := Lib.hid hQ6
  have hl0 : P0.length ≤ 1 := by rw [hP0]; exact ite_len (l := [Vi.u8 node]) (by simp)
  have hl1 : P1.length ≤ 1 := by rw [hP1]; exact ite_len (l := [Vi.u8 peer]) (by simp)
  have hl2 : P2.length ≤ 10 := by rw [hP2]; exact ite_len (l := vb K) (vb_len_le _)
  have hl3 : P3.length ≤ 20 := by rw [hP3]; exact ite_len (l := vb at_ ++ vb mask) (by have := vb_len_le at_; have := vb_len_le mask; rw [List.length_append]; omega)
  have hl4 : P4.length ≤ 10 := by rw [hP4]; exact ite_len (l := vb draw) (vb_len_le _)
  have HLQ : Hid (Q0.length = L.length + 1 ∧ Q1.length = Q0.length + P0.length ∧ Q2.length = Q1.length + P1.length ∧ Q3.length = Q2.length + P2.length ∧ Q4.length = Q3.length + P3.length ∧ Q5.length = Q4.length + P4.length) := Lib.hid ⟨by rw [hQ0]; simp, by rw [hQ1, List.length_append], by rw [hQ2, List.length_append], by rw [hQ3, List.length_append], by rw [hQ4, List.length_append], by rw [hQ5, List.length_append]⟩
  have HLP := Lib.hid (And.intro hl0 (And.intro hl1 (And.intro hl2 (And.intro hl3 hl4))))
  obtain ⟨m0_, em0, z0, nz0⟩ := hbit_ex k 0 (by decide) h0 eh0
  obtain ⟨m1_, em1, z1, nz1⟩ := hbit_ex k 1 (by decide) h1 eh1
  obtain ⟨m2_, em2, z2, nz2⟩ := hbit_ex k 2 (by decide) h2 eh2
  obtain ⟨m3_, em3, z3, nz3⟩ := hbit_ex k 3 (by decide) h3 eh3
  obtain ⟨m4_, em4, z4, nz4⟩ := hbit_ex k 4 (by decide) h4 eh4
  obtain ⟨m5_, em5, z5, nz5⟩ := hbit_ex k 5 (by decide) h5 eh5
  replace em0 : bits .and .u8 (hasN k : Int) 1 = m0_ := em0
  replace em1 : bits .and .u8 (hasN k : Int) 2 = m1_ := em1
  replace em2 : bits .and .u8 (hasN k : Int) 4 = m2_ := em2
  replace em3 : bits .and .u8 (hasN k : Int) 8 = m3_ := em3
  replace em4 : bits .and .u8 (hasN k : Int) 16 = m4_ := em4
  replace em5 : bits .and .u8 (hasN k : Int) 32 = m5_ := em5
  obtain ⟨hh, hhd⟩ : ∃ x, x = hasN k := ⟨_, rfl⟩
  rw [← hhd] at HOF em0 em1 em2 em3 em4 em5
  have Z0 := Lib.hid (And.intro em0 (And.intro z0 nz0))
  have HP0 := Lib.hid hP0
  have Z1 := Lib.hid (And.intro em1 (And.intro z1 nz1))
  have HP1 := Lib.hid hP1
  have Z2 := Lib.hid (And.intro em2 (And.intro z2 nz2))
  have HP2 := Lib.hid hP2
  have Z3 := Lib.hid (And.intro em3 (And.intro z3 nz3))
  have HP3 := Lib.hid hP3
  have Z4 := Lib.hid (And.intro em4 (And.intro z4 nz4))
  have HP4 := Lib.hid hP4
  have Z5 := Lib.hid (And.intro em5 (And.intro z5 nz5))
  have HP5 := Lib.hid hP5
  have HRES := Lib.hid hK1d
  clear h hby hA ht hlen hg0 hW1 hg1 hb1 hK1d hs1 hw1 hK1 hg0K hA1 hkl hbl hres hresQ hhd hKK hQ0 hQ1 hQ2 hQ3 hQ4 hQ5 hQ6 eh0 hP0 em0 z0 nz0 eh1 hP1 em1 z1 nz1 eh2 hP2 em2 z2 nz2 eh3 hP3 em3 z3 nz3 eh4 hP4 em4 z4 nz4 eh5 hP5 em5 z5 nz5 hl0 hl1 hl2 hl3 hl4
  have HB := Lib.hid (byte_w1 W1 B K1 HK1.out g L HWB.out k ok1 (by have := HLN.out; omega))
  go_enter Tryd.func19, Tryd.ntmps19
  try dsimp only
  repeat (first | with_reducible (refine wp_region_cut (k := 1) ?_) | go_values | go_guarded | go_step | go_upon | go_back)
  rw [← HW1.out, ← HE0.out]
  unfold Cut
  have x0 := HB1.out.cell (i := 0) rfl
  go_wp2_with fail
  refine HOF.out.mono ?_
  rintro r w' ⟨rfl, rfl⟩
  go_wp2_with fail
  refine HB.out.mono ?_
  rintro r w2 ⟨rfl, hw2, hk2⟩
  have HW2 : Hid (Wb w2 B K1 g Q0) := Lib.hid (by rw [HQ0.out]; exact hw2)
  have HK2 := Lib.hid hk2
  clear hw2 hk2 HB x0
  dsimp only
  repeat (first | with_reducible (refine wp_seq_cut (k := 3) ?_) | go_values | go_guarded | go_step | go_upon | go_back)
  refine wp_cut [none, none, none, none, none, none, none, none, none, none, none, none, none, some 13, some 14, some 15, some 16, some 17, some 18, some 19, some 20, none, none, none, none, none, none, none, none, none, none, none, none, none, none, none, none, none, none, none, none, none, none, none, none, none, none, none, none, none, none, none, none, none, none, none, none, none, none, none, none, none, none, none, none, none] (JW W1 B K1 g Q1) ?cutA3 ?cutB3
  case cutB3 =>
    intro f w' A hA hJ
    replace hA : A = ⟨#[_, _, _, _, _, _, _, _, _, _, _, _, _, f 13, f 14, f 15, f 16, f 17, f 18, f 19, f 20, _, _, _, _, _, _, _, _, _, _, _, _, _, _, _, _, _, _, _, _, _, _, _, _, _, _, _, _, _, _, _, _, _, _, _, _, _, _, _, _, _, _, _, _, _], _⟩ := hA
    subst hA
    obtain ⟨hw2, hk2⟩ := hJ
    obtain ⟨w2, hww⟩ : ∃ W, W = w' := ⟨_, rfl⟩
    rw [← hww] at hw2 hk2 ⊢
    have HW2 := Lib.hid hw2
    have HK2 := Lib.hid hk2
    clear hw2 hk2 hww
    repeat (first | with_reducible (refine wp_seq_cut (k := 5) ?_) | go_values | go_guarded | go_step | go_upon | go_back)
    refine wp_cut [none, none, none, none, none, none, none, none, none, none, none, none, none, none, none, none, none, none, none, none, none, some 21, some 22, some 23, some 24, some 25, some 26, some 27, some 28, none, none, none, none, none, none, none, none, none, none, none, none, none, none, none, none, none, none, none, none, none, none, none, none, none, none, none, none, none, none, none, none, none, none, none, none, none] (JW W1 B K1 g Q2) ?cutA5 ?cutB5
    case cutB5 =>
      intro f w' A hA hJ
      replace hA : A = ⟨#[_, _, _, _, _, _, _, _, _, _, _, _, _, _, _, _, _, _, _, _, _, f 21, f 22, f 23, f 24, f 25, f 26, f 27, f 28, _, _, _, _, _, _, _, _, _, _, _, _, _, _, _, _, _, _, _, _, _, _, _, _, _, _, _, _, _, _, _, _, _, _, _, _, _], _⟩ := hA
      subst hA
      obtain ⟨hw2, hk2⟩ := hJ
      obtain ⟨w2, hww⟩ : ∃ W, W = w' := ⟨_, rfl⟩
      rw [← hww] at hw2 hk2 ⊢
      have HW2 := Lib.hid hw2
      have HK2 := Lib.hid hk2
      clear hw2 hk2 hww
      repeat (first | with_reducible (refine wp_seq_cut (k := 7) ?_) | go_values | go_guarded | go_step | go_upon | go_back)
      refine wp_cut [none, none, none, none, none, none, none, none, none, none, none, none, none, none, none, none, none, none, none, none, none, none, none, none, none, none, none, none, none, some 29, some 30, some 31, some 32, some 33, some 34, some 35, some 36, some 37, none, none, none, none, none, none, none, none, none, none, none, none, none, none, none, none, none, none, none, none, none, none, none, none, none, none, none, none] (JW W1 B K1 g Q3) ?cutA7 ?cutB7
      case cutB7 =>
        intro f w' A hA hJ
        replace hA : A = ⟨#[_, _, _, _, _, _, _, _, _, _, _, _, _, _, _, _, _, _, _, _, _, _, _, _, _, _, _, _, _, f 29, f 30, f 31, f 32, f 33, f 34, f 35, f 36, f 37, _, _, _, _, _, _, _, _, _, _, _, _, _, _, _, _, _, _, _, _, _, _, _, _, _, _, _, _], _⟩ := hA
        subst hA
        obtain ⟨hw2, hk2⟩ := hJ
        obtain ⟨w2, hww⟩ : ∃ W, W = w' := ⟨_, rfl⟩
        rw [← hww] at hw2 hk2 ⊢
        have HW2 := Lib.hid hw2
        have HK2 := Lib.hid hk2
        clear hw2 hk2 hww
        repeat (first | with_reducible (refine wp_seq_cut (k := 9) ?_) | go_values | go_guarded | go_step | go_upon | go_back)
        refine wp_cut [none, none, none, none, none, none, none, none, none, none, none, none, none, none, none, none, none, none, none, none, none, none, none, none, none, none, none, none, none, none, none, none, none, none, none, none, none, none, some 38, some 39, some 40, some 41, some 42, some 43, some 44, some 45, some 46, some 47, some 48, some 49, none, none, none, none, none, none, none, none, none, none, none, none, none, none, none, none] (JW W1 B K1 g Q4) ?cutA9 ?cutB9
        case cutB9 =>
          intro f w' A hA hJ
          replace hA : A = ⟨#[_, _, _, _, _, _, _, _, _, _, _, _, _, _, _, _, _, _, _, _, _, _, _, _, _, _, _, _, _, _, _, _, _, _, _, _, _, _, f 38, f 39, f 40, f 41, f 42, f 43, f 44, f 45, f 46, f 47, f 48, f 49, _, _, _, _, _, _, _, _, _, _, _, _, _, _, _, _], _⟩ := hA
          subst hA
          obtain ⟨hw2, hk2⟩ := hJ
          obtain ⟨w2, hww⟩ : ∃ W, W = w' := ⟨_, rfl⟩
          rw [← hww] at hw2 hk2 ⊢
          have HW2 := Lib.hid hw2
          have HK2 := Lib.hid hk2
          clear hw2 hk2 hww
          repeat (first | with_reducible (refine wp_seq_cut (k := 11) ?_) | go_values | go_guarded | go_step | go_upon | go_back)
          refine wp_cut [none, none, none, none, none, none, none, none, none, none, none, none, none, none, none, none, none, none, none, none, none, none, none, none, none, none, none, none, none, none, none, none, none, none, none, none, none, none, none, none, none, none, none, none, none, none, none, none, none, none, some 50, some 51, some 52, some 53, some 54, some 55, some 56, some 57, none, none, none, none, none, none, none, none] (JW W1 B K1 g Q5) ?cutA11 ?cutB11
          case cutB11 =>
            intro f w' A hA hJ
            replace hA : A = ⟨#[_, _, _, _, _, _, _, _, _, _, _, _, _, _, _, _, _, _, _, _, _, _, _, _, _, _, _, _, _, _, _, _, _, _, _, _, _, _, _, _, _, _, _, _, _, _, _, _, _, _, f 50, f 51, f 52, f 53, f 54, f 55, f 56, f 57, _, _, _, _, _, _, _, _], _⟩ := hA
            subst hA
            obtain ⟨hw2, hk2⟩ := hJ
            obtain ⟨w2, hww⟩ : ∃ W, W = w' := ⟨_, rfl⟩
            rw [← hww] at hw2 hk2 ⊢
            have HW2 := Lib.hid hw2
            have HK2 := Lib.hid hk2
            clear hw2 hk2 hww
            obtain ⟨em, z, nz⟩ := Z5.out
            cases h5
            · replace z : (_ == (0 : Int)) = true := z
              have hp : P5 = [] := HP5.out
              go_wp2_with fail
              have hfin : Wb w2 B K1 g Q6 := by rw [HQ6.out, hp, List.append_nil]; exact HW2.out
              go_end0
              refine ⟨rfl, ?_, HKP.out.trans (HK2.out.less HKL.out)⟩
              have hf2 := hfin.more (K2 := KK) (fun q hq _ => HKL.out q hq)
              exact hf2
            · replace z : (_ == (0 : Int)) = false := z
              have hp : P5 = vb b.length ++ b := HP5.out
              have xf := (HK2.out.blk HB1.out HG0.out).cell (i := 7) rfl
              have cs := conv_str (P := Tryd.prog) Tryd.underlying23 Tryd.underlying5 Tryd.underlying9 (HBY.out.keep HK2.out HA1.out) c
              have HC := Lib.hid (text_w w2 B K1 (fun q hq => Nat.lt_of_lt_of_le (HK1.out q hq) HK2.out.size) g _ HW2.out b (by have := HLN.out; have := HBL.out; have := HLP.out; have := HLQ.out; omega))
              clear HW2
              go_wp2_with fail
              refine HC.out.mono ?_
              rintro r w3 ⟨rfl, hw3, hk3⟩
              have HW3 := Lib.hid hw3
              have HK3 := Lib.hid (HK2.out.trans hk3)
              clear hw3 hk3 HC
              go_wp2_with fail
              have hfin : Wb w3 B K1 g Q6 := by rw [HQ6.out, hp]; exact HW3.out
              go_end0
              refine ⟨rfl, ?_, HKP.out.trans (HK3.out.less HKL.out)⟩
              have hf2 := hfin.more (K2 := KK) (fun q hq _ => HKL.out q hq)
              exact hf2
          obtain ⟨em, z, nz⟩ := Z4.out
          cases h4
          · replace z : (_ == (0 : Int)) = true := z
            have hp : P4 = [] := HP4.out
            go_wp2_with fail
            exact CutEnd.mk rfl ⟨by rw [HQ5.out, hp, List.append_nil]; exact HW2.out, HK2.out⟩
          · replace z : (_ == (0 : Int)) = false := z
            have hp : P4 = vb draw := HP4.out
            have xf := (HK2.out.blk HB1.out HG0.out).cell (i := 6) rfl
            have HC := Lib.hid (num_wn w2 B K1 (fun q hq => Nat.lt_of_lt_of_le (HK1.out q hq) HK2.out.size) g _ HW2.out [draw] 1 rfl #[.int .u64 (draw : Int)] rfl (fun y hy => by rw [List.mem_singleton.1 hy]; omega) (by have := HLN.out; have := HLP.out; have := HLQ.out; omega))
            clear HW2
            go_wp2_with fail
            refine HC.out.mono ?_
            rintro r w3 ⟨rfl, hw3, hk3⟩
            have HW3 := Lib.hid hw3
            have HK3 := Lib.hid (HK2.out.trans hk3)
            clear hw3 hk3 HC
            go_wp2_with fail
            exact CutEnd.mk rfl ⟨by rw [HQ5.out, hp, ← (show vbs [draw] = vb draw by simp [vbs])]; exact HW3.out, HK3.out⟩
        obtain ⟨em, z, nz⟩ := Z3.out
        cases h3
        · replace z : (_ == (0 : Int)) = true := z
          have hp : P3 = [] := HP3.out
          go_wp2_with fail
          exact CutEnd.mk rfl ⟨by rw [HQ4.out, hp, List.append_nil]; exact HW2.out, HK2.out⟩
        · replace z : (_ == (0 : Int)) = false := z
          have hp : P3 = vb at_ ++ vb mask := HP3.out
          have xf := (HK2.out.blk HB1.out HG0.out).cell (i := 4) rfl
          have xf2 := (HK2.out.blk HB1.out HG0.out).cell (i := 5) rfl
          have HC := Lib.hid (num_wn w2 B K1 (fun q hq => Nat.lt_of_lt_of_le (HK1.out q hq) HK2.out.size) g _ HW2.out [at_, mask] 2 rfl #[.int .u64 (at_ : Int), .int .u64 (mask : Int)] rfl (fun y hy => by simp only [List.mem_cons, List.not_mem_nil, or_false] at hy; omega) (by have := HLN.out; have := HLP.out; have := HLQ.out; omega))
          clear HW2
          go_wp2_with fail
          refine HC.out.mono ?_
          rintro r w3 ⟨rfl, hw3, hk3⟩
          have HW3 := Lib.hid hw3
          have HK3 := Lib.hid (HK2.out.trans hk3)
          clear hw3 hk3 HC
          go_wp2_with fail
          exact CutEnd.mk rfl ⟨by rw [HQ4.out, hp, ← (show vbs [at_, mask] = vb at_ ++ vb mask by simp [vbs])]; exact HW3.out, HK3.out⟩
      obtain ⟨em, z, nz⟩ := Z2.out
      cases h2
      · replace z : (_ == (0 : Int)) = true := z
        have hp : P2 = [] := HP2.out
        go_wp2_with fail
        exact CutEnd.mk rfl ⟨by rw [HQ3.out, hp, List.append_nil]; exact HW2.out, HK2.out⟩
      · replace z : (_ == (0 : Int)) = false := z
        have hp : P2 = vb K := HP2.out
        have xf := (HK2.out.blk HB1.out HG0.out).cell (i := 3) rfl
        have HC := Lib.hid (num_wn w2 B K1 (fun q hq => Nat.lt_of_lt_of_le (HK1.out q hq) HK2.out.size) g _ HW2.out [K] 1 rfl #[.int .u64 (K : Int)] rfl (fun y hy => by rw [List.mem_singleton.1 hy]; omega) (by have := HLN.out; have := HLP.out; have := HLQ.out; omega))
        clear HW2
        go_wp2_with fail
        refine HC.out.mono ?_
        rintro r w3 ⟨rfl, hw3, hk3⟩
        have HW3 := Lib.hid hw3
        have HK3 := Lib.hid (HK2.out.trans hk3)
        clear hw3 hk3 HC
        go_wp2_with fail
        exact CutEnd.mk rfl ⟨by rw [HQ3.out, hp, ← (show vbs [K] = vb K by simp [vbs])]; exact HW3.out, HK3.out⟩
    obtain ⟨em, z, nz⟩ := Z1.out
    cases h1
    · replace z : (_ == (0 : Int)) = true := z
      have hp : P1 = [] := HP1.out
      go_wp2_with fail
      exact CutEnd.mk rfl ⟨by rw [HQ2.out, hp, List.append_nil]; exact HW2.out, HK2.out⟩
    · replace z : (_ == (0 : Int)) = false := z
      have hp : P1 = [Vi.u8 peer] := HP1.out
      have xf := (HK2.out.blk HB1.out HG0.out).cell (i := 2) rfl
      have HC := Lib.hid (byte_w1 w2 B K1 (fun q hq => Nat.lt_of_lt_of_le (HK1.out q hq) HK2.out.size) g _ HW2.out peer ok3 (by have := HLN.out; have := HLP.out; have := HLQ.out; omega))
      clear HW2
      go_wp2_with fail
      refine HC.out.mono ?_
      rintro r w3 ⟨rfl, hw3, hk3⟩
      have HW3 := Lib.hid hw3
      have HK3 := Lib.hid (HK2.out.trans hk3)
      clear hw3 hk3 HC
      go_wp2_with fail
      exact CutEnd.mk rfl ⟨by rw [HQ2.out, hp]; exact HW3.out, HK3.out⟩
  obtain ⟨em, z, nz⟩ := Z0.out
  cases h0
  · replace z : (_ == (0 : Int)) = true := z
    have hp : P0 = [] := HP0.out
    go_wp2_with fail
    exact CutEnd.mk rfl ⟨by rw [HQ1.out, hp, List.append_nil]; exact HW2.out, HK2.out⟩
  · replace z : (_ == (0 : Int)) = false := z
    have hp : P0 = [Vi.u8 node] := HP0.out
    have xf := (HK2.out.blk HB1.out HG0.out).cell (i := 1) rfl
    have HC := Lib.hid (byte_w1 w2 B K1 (fun q hq => Nat.lt_of_lt_of_le (HK1.out q hq) HK2.out.size) g _ HW2.out node ok2 (by have := HLN.out; have := HLP.out; have := HLQ.out; omega))
    clear HW2
    go_wp2_with fail
    refine HC.out.mono ?_
    rintro r w3 ⟨rfl, hw3, hk3⟩
    have HW3 := Lib.hid hw3
    have HK3 := Lib.hid (HK2.out.trans hk3)
    clear hw3 hk3 HC
    go_wp2_with fail
    exact CutEnd.mk rfl ⟨by rw [HQ1.out, hp]; exact HW3.out, HK3.out⟩
end Go.Proofs.YtmekdhlcflielaaDoor.ev
