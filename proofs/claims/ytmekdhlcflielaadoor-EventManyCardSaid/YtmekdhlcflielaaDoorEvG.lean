/- The walks of events: of, one, low, Good (printed by gen_evgood.py). -/
import Derived.Test.YtmekdhlcflielaaDoorEv
import Derived.Test.YtmekdhlcflielaaDoorCut
import Derived.Test.YtmekdhlcflielaaDoorFast
import Derived.Test.YtmekdhlcflielaaDoorStr
namespace Go.Proofs.YtmekdhlcflielaaDoor.ev
open Go Go.RowKit Go.Par Go.Kit Go.Proofs.YtmekdhlcflielaaDoor.bfW

abbrev TE : TypeId := 41
def Tab (w : World) : Prop := ∀ k, k < 13 → w.cell? ⟨0, k, none⟩ = some (.int .u8 (hasN k : Int))
theorem Tab.grow {w w' : World} (h : Tab w) (hg : Grow w w') : Tab w' := fun k hk => hg.cell (h k hk)
def evRow (v : Value) (e : Ev) : List Value := [.int .u8 (e.k : Int), .int .u8 (e.node : Int), .int .u8 (e.peer : Int), .int .i64 e.K, .int .i64 e.at_, .int .u32 (e.mask : Int), .int .u64 (e.draw : Int), v]
theorem hbit (k i : Nat) (hi : i < 6) : bits .and .u8 (hasN k : Int) ((2 ^ i : Nat) : Int) = if hb k i then ((2 ^ i : Nat) : Int) else 0 := by
  by_cases h : 12 < k
  · unfold hb
    rw [hasN_big h]
    have : ∀ i < 6, bits .and .u8 ((0 : Nat) : Int) ((2 ^ i : Nat) : Int) = if (0 / 2 ^ i % 2 == 1) then ((2 ^ i : Nat) : Int) else 0 := by decide +kernel
    exact this i hi
  · have : ∀ k < 13, ∀ i < 6, bits .and .u8 (hasN k : Int) ((2 ^ i : Nat) : Int) = if hb k i then ((2 ^ i : Nat) : Int) else 0 := by decide +kernel
    exact this k (by omega) i hi
theorem hbit_ex (k i : Nat) (hi : i < 6) (q : Bool) (hq : q = hb k i) : ∃ m : Int, bits .and .u8 (hasN k : Int) ((2 ^ i : Nat) : Int) = m ∧ (m == 0) = !q ∧ (m != 0) = q := by
  subst hq
  rw [hbit k i hi]
  have hp : 0 < 2 ^ i := Nat.pow_pos (by decide)
  cases hb k i
  · exact ⟨0, rfl, rfl, rfl⟩
  · refine ⟨((2 ^ i : Nat) : Int), rfl, ?_, ?_⟩
    · rw [beq_eq_false_iff_ne.2 (by omega)]; rfl
    · rw [bne_iff_ne.2 (by omega)]
theorem of_any (w : World) (k : Nat) (hk : k ≤ 255) (ht : Tab w) : Calls Tryd.prog 31 #[.int .u8 (k : Int)] w fun r w' => r = .returned (.int .u8 (hasN k : Int)) ∧ w = w' := by
  by_cases h : 12 < k
  · have t1 : decide (12 < k) = true := decide_eq_true h
    have t1' : decide ((12 : Int) < (k : Int)) = true := decide_eq_true (by omega)
    rw [hasN_big h]
    clear h ht
    go_enter Tryd.func31, Tryd.ntmps31
    go_wp2_with fail
    go_ret
    exact ⟨rfl, rfl⟩
  · have t1 : decide (12 < k) = false := decide_eq_false h
    have t1' : decide ((12 : Int) < (k : Int)) = false := decide_eq_false (by omega)
    have hk13 : k < 13 := by omega
    have c1 := ht k hk13
    obtain ⟨h9, hh9⟩ : ∃ x, x = hasN k := ⟨_, rfl⟩
    rw [← hh9] at c1 ⊢
    clear h ht hh9
    go_enter Tryd.func31, Tryd.ntmps31
    go_wp2_with fail
    go_ret
    exact ⟨rfl, rfl⟩
theorem one_any (w : World) (n : Nat) (hn : n ≤ 255) : Calls Tryd.prog 32 #[.int .u8 (n : Int)] w fun r w' => r = .returned (.bool (oneB n)) ∧ w = w' := by
  unfold oneB
  obtain ⟨q1, h1⟩ : ∃ q, q = decide (1 ≤ n) := ⟨_, rfl⟩
  obtain ⟨q2, h2⟩ : ∃ q, q = decide (n ≤ 64) := ⟨_, rfl⟩
  rw [← h1, ← h2]
  have t1 := h1.symm
  have t1' : decide ((1 : Int) ≤ (n : Int)) = q1 := by rw [h1, decide_eq_decide]; omega
  have t2 := h2.symm
  have t2' : decide ((n : Int) ≤ 64) = q2 := by rw [h2, decide_eq_decide]; omega
  clear h1 h2
  cases q1
  · clear t2 t2'
    go_enter Tryd.func32, Tryd.ntmps32
    go_wp2_with fail
    go_ret
    exact ⟨rfl, rfl⟩
  go_enter Tryd.func32, Tryd.ntmps32
  go_wp2_with fail
  go_ret
  exact ⟨rfl, rfl⟩
theorem low_any (w : World) (n : Int) : Calls Tryd.prog 33 #[.int .i64 n] w fun r w' => r = .returned (.bool (lowB n)) ∧ w = w' := by
  unfold lowB
  obtain ⟨q1, h1⟩ : ∃ q, q = decide (0 ≤ n) := ⟨_, rfl⟩
  obtain ⟨q2, h2⟩ : ∃ q, q = decide (n ≤ 1048576) := ⟨_, rfl⟩
  rw [← h1, ← h2]
  have t1 := h1.symm
  have t2 := h2.symm
  clear h1 h2
  cases q1
  · clear t2
    go_enter Tryd.func33, Tryd.ntmps33
    go_wp2_with fail
    go_ret
    exact ⟨rfl, rfl⟩
  go_enter Tryd.func33, Tryd.ntmps33
  go_wp2_with fail
  go_ret
  exact ⟨rfl, rfl⟩
set_option maxRecDepth 100000 in
set_option maxHeartbeats 16000000 in
theorem good_any (w : World) (e : Ev) (ok : e.ok) (A : Option Addr) (n c : Nat) (hn : n = e.b.length) (ht : Tab w) :
    Calls Tryd.prog 14 #[.agg #[.int .u8 (e.k : Int), .int .u8 (e.node : Int), .int .u8 (e.peer : Int), .int .i64 e.K, .int .i64 e.at_, .int .u32 (e.mask : Int), .int .u64 (e.draw : Int), .slice A n c]] w fun r w' => r = .returned (.bool (goodB e)) ∧ Grow w w' := by
  obtain ⟨k, node, peer, K, at_, mask, draw, b⟩ := e
  obtain ⟨ok1, ok2, ok3, -, -, -, -, -, -⟩ := ok
  dsimp only at ok1 ok2 ok3 hn ⊢
  obtain ⟨W1, hW1⟩ : ∃ W, W = w.alloc (.cells #[.int .u8 (k : Int), .int .u8 (node : Int), .int .u8 (peer : Int), .int .i64 K, .int .i64 at_, .int .u32 (mask : Int), .int .u64 (draw : Int), .slice A n c] TE) := ⟨_, rfl⟩
  have hg1 : Grow w W1 := by rw [hW1]; exact Grow.alloc _ _
  have hb1 : Blk W1 w.heap.size TE [.int .u8 (k : Int), .int .u8 (node : Int), .int .u8 (peer : Int), .int .i64 K, .int .i64 at_, .int .u32 (mask : Int), .int .u64 (draw : Int), .slice A n c] := by rw [hW1]; exact Blk.new _ _ _ _ rfl rfl
  have x0 := hb1.cell (i := 0) rfl
  have x1 := hb1.cell (i := 1) rfl
  have x2 := hb1.cell (i := 2) rfl
  have x3 := hb1.cell (i := 3) rfl
  have x4 := hb1.cell (i := 4) rfl
  have x5 := hb1.cell (i := 5) rfl
  have x6 := hb1.cell (i := 6) rfl
  have x7 := hb1.cell (i := 7) rfl
  obtain ⟨h0, eh0⟩ : ∃ q, q = hb k 0 := ⟨_, rfl⟩
  obtain ⟨h1, eh1⟩ : ∃ q, q = hb k 1 := ⟨_, rfl⟩
  obtain ⟨h2, eh2⟩ : ∃ q, q = hb k 2 := ⟨_, rfl⟩
  obtain ⟨h3, eh3⟩ : ∃ q, q = hb k 3 := ⟨_, rfl⟩
  obtain ⟨h4, eh4⟩ : ∃ q, q = hb k 4 := ⟨_, rfl⟩
  obtain ⟨h5, eh5⟩ : ∃ q, q = hb k 5 := ⟨_, rfl⟩
  obtain ⟨p1, ep1⟩ : ∃ q, q = decide (k < 1) := ⟨_, rfl⟩
  obtain ⟨p2, ep2⟩ : ∃ q, q = decide (12 < k) := ⟨_, rfl⟩
  obtain ⟨n0, en0⟩ : ∃ q, q = (node != 0) := ⟨_, rfl⟩
  obtain ⟨n1, en1⟩ : ∃ q, q = oneB node := ⟨_, rfl⟩
  obtain ⟨q0, eq0⟩ : ∃ q, q = (peer != 0) := ⟨_, rfl⟩
  obtain ⟨q1, eq1⟩ : ∃ q, q = oneB peer := ⟨_, rfl⟩
  obtain ⟨q2, eq2⟩ : ∃ q, q = (peer == node) := ⟨_, rfl⟩
  obtain ⟨K0, eK0⟩ : ∃ q, q = (K != 0) := ⟨_, rfl⟩
  obtain ⟨K1, eK1⟩ : ∃ q, q = lowB K := ⟨_, rfl⟩
  obtain ⟨a0, ea0⟩ : ∃ q, q = (at_ != 0) := ⟨_, rfl⟩
  obtain ⟨m0, em0⟩ : ∃ q, q = (mask != 0) := ⟨_, rfl⟩
  obtain ⟨a1, ea1⟩ : ∃ q, q = lowB at_ := ⟨_, rfl⟩
  obtain ⟨d0, ed0⟩ : ∃ q, q = (draw != 0) := ⟨_, rfl⟩
  obtain ⟨l0, el0⟩ : ∃ q, q = (n != 0) := ⟨_, rfl⟩
  obtain ⟨l1, el1⟩ : ∃ q, q = decide (131072 < n) := ⟨_, rfl⟩
  obtain ⟨b1, eb1⟩ : ∃ q, q = (p1 || p2) := ⟨_, rfl⟩
  obtain ⟨b2, eb2⟩ : ∃ q, q = (!h0 && n0) := ⟨_, rfl⟩
  obtain ⟨b3, eb3⟩ : ∃ q, q = (h0 && !n1) := ⟨_, rfl⟩
  obtain ⟨b4, eb4⟩ : ∃ q, q = (!h1 && q0) := ⟨_, rfl⟩
  obtain ⟨b5, eb5⟩ : ∃ q, q = (h1 && (!q1 || q2)) := ⟨_, rfl⟩
  obtain ⟨b6, eb6⟩ : ∃ q, q = (!h2 && K0) := ⟨_, rfl⟩
  obtain ⟨b7, eb7⟩ : ∃ q, q = (!K1) := ⟨_, rfl⟩
  obtain ⟨b8, eb8⟩ : ∃ q, q = (!h3 && (a0 || m0)) := ⟨_, rfl⟩
  obtain ⟨b9, eb9⟩ : ∃ q, q = (!a1) := ⟨_, rfl⟩
  obtain ⟨b10, eb10⟩ : ∃ q, q = (!h4 && d0) := ⟨_, rfl⟩
  obtain ⟨b11, eb11⟩ : ∃ q, q = (!h5 && l0) := ⟨_, rfl⟩
  obtain ⟨b12, eb12⟩ : ∃ q, q = (l1) := ⟨_, rfl⟩
  have hres : goodB ⟨k, node, peer, K, at_, mask, draw, b⟩ = (!(b1 || (b2 || (b3 || (b4 || (b5 || (b6 || (b7 || (b8 || (b9 || (b10 || (b11 || (b12))))))))))))) := by
    rw [eb1, eb2, eb3, eb4, eb5, eb6, eb7, eb8, eb9, eb10, eb11, eb12]
    rw [eh0, eh1, eh2, eh3, eh4, eh5, ep1, ep2, en0, en1, eq0, eq1, eq2, eK0, eK1, ea0, em0, ea1, ed0, el0, el1]
    unfold goodB bad1 bad2 bad3 bad4 bad5 bad6 bad7 bad8 bad9 bad10 bad11 bad12
    rw [hn]
  rw [hres]
  obtain ⟨m0_, em0, z0, nz0⟩ := hbit_ex k 0 (by decide) h0 eh0
  obtain ⟨m1_, em1, z1, nz1⟩ := hbit_ex k 1 (by decide) h1 eh1
  obtain ⟨m2_, em2, z2, nz2⟩ := hbit_ex k 2 (by decide) h2 eh2
  obtain ⟨m3_, em3, z3, nz3⟩ := hbit_ex k 3 (by decide) h3 eh3
  obtain ⟨m4_, em4, z4, nz4⟩ := hbit_ex k 4 (by decide) h4 eh4
  obtain ⟨m5_, em5, z5, nz5⟩ := hbit_ex k 5 (by decide) h5 eh5
  replace em0 : bits .and .u8 (hasN k : Int) 1 = m0_ := em0
  replace em1 : bits .and .u8 (hasN k : Int) 2 = m1_ := em1
  replace em2 : bits .and .u8 (hasN k : Int) 4 = m2_ := em2
  replace em3 : bits .and .u8 (hasN k : Int) 8 = m3_ := em3
  replace em4 : bits .and .u8 (hasN k : Int) 16 = m4_ := em4
  replace em5 : bits .and .u8 (hasN k : Int) 32 = m5_ := em5
  have HOF := Lib.hid (of_any W1 k ok1 (ht.grow hg1))
  have HON := Lib.hid (one_any W1 node ok2)
  have HOP := Lib.hid (one_any W1 peer ok3)
  have HLK := Lib.hid (low_any W1 K)
  have HLA := Lib.hid (low_any W1 at_)
  rw [← en1] at HON
  rw [← eq1] at HOP
  rw [← eK1] at HLK
  rw [← ea1] at HLA
  obtain ⟨h, hh⟩ : ∃ x, x = hasN k := ⟨_, rfl⟩
  rw [← hh] at HOF em0 em1 em2 em3 em4 em5
  have tp1 : decide (k < 1) = p1 := ep1.symm
  have tp1' : decide ((k : Int) < 1) = p1 := by rw [ep1, decide_eq_decide]; omega
  have tp2 : decide (12 < k) = p2 := ep2.symm
  have tp2' : decide ((12 : Int) < (k : Int)) = p2 := by rw [ep2, decide_eq_decide]; omega
  have bne : ∀ (x : Nat) (q : Bool), q = (x != 0) → ((x : Int) != 0) = q := fun x q h => by rw [h, Bool.eq_iff_iff, bne_iff_ne, bne_iff_ne]; omega
  have tn0 := en0.symm
  have tn0' := bne _ _ en0
  have tq0 := eq0.symm
  have tq0' := bne _ _ eq0
  have tq2 := eq2.symm
  have tq2' : ((peer : Int) == (node : Int)) = q2 := by rw [eq2, Bool.eq_iff_iff, beq_iff_eq, beq_iff_eq]; omega
  have tK0 := eK0.symm
  have ta0 := ea0.symm
  have tm0 := em0.symm
  have tmk := em0
  have tmm := (show m0 = (mask != 0) from ‹m0 = (mask != 0)›).symm
  have tmm' := bne _ _ ‹m0 = (mask != 0)›
  have td0 := ed0.symm
  have td0' := bne _ _ ed0
  have tl0 := el0.symm
  have tl0' := bne _ _ el0
  have tl1 := el1.symm
  have tl1' : decide ((131072 : Int) < (n : Int)) = l1 := by rw [el1, decide_eq_decide]; omega
  have HG := Lib.hid hg1
  have HW1 := Lib.hid hW1
  have EB1 := Lib.hid eb1
  have EB2 := Lib.hid eb2
  have EB3 := Lib.hid eb3
  have EB4 := Lib.hid eb4
  have EB5 := Lib.hid eb5
  have EB6 := Lib.hid eb6
  have EB7 := Lib.hid eb7
  have EB8 := Lib.hid eb8
  have EB9 := Lib.hid eb9
  have EB10 := Lib.hid eb10
  have EB11 := Lib.hid eb11
  have EB12 := Lib.hid eb12
  have Z0 := Lib.hid (And.intro em0 (And.intro z0 nz0))
  have Z1 := Lib.hid (And.intro em1 (And.intro z1 nz1))
  have Z2 := Lib.hid (And.intro em2 (And.intro z2 nz2))
  have Z3 := Lib.hid (And.intro em3 (And.intro z3 nz3))
  have Z4 := Lib.hid (And.intro em4 (And.intro z4 nz4))
  have Z5 := Lib.hid (And.intro em5 (And.intro z5 nz5))
  clear hn ht hW1 hg1 hb1 hres hh ok1 ok2 ok3 bne tm0 tmk eh0 eb1 eh1 eb2 eh2 eb3 eh3 eb4 eh4 eb5 eh5 eb6 eb7 eb8 eb9 eb10 eb11 eb12 ep1 ep2 en0 en1 eq0 eq1 eq2 eK0 eK1 ea0 ea1 ed0 el0 el1 em0 z0 nz0 em1 z1 nz1 em2 z2 nz2 em3 z3 nz3 em4 z4 nz4 em5 z5 nz5
  clear ‹m0 = (mask != 0)›
  go_enter Tryd.func14, Tryd.ntmps14
  try dsimp only
  repeat (first | with_reducible (refine wp_region_cut (k := 1) ?_) | go_values | go_guarded | go_step | go_upon | go_back)
  rw [← HW1.out]
  unfold Cut
  go_wp2_with fail
  refine HOF.out.mono ?_
  rintro r w' ⟨rfl, rfl⟩
  dsimp only
  repeat (first | with_reducible (refine wp_region_cut (k := 2) ?_) | go_values | go_guarded | go_step | go_upon | go_back)
  refine wp_cut [none, none, none, none, none, none, none, some 7, some 8, some 9, some 10, some 11, some 12, some 13, some 14, some 15, none, none, none, none, none, none, none, none, none, none, none, none, none, none, none, none, none, none, none, none, none, none, none, none, none, none, none, none, none, none, none, none, none, none, none, none, none, none, none, none, none, none, none, none, none, none, none, none, none, none, none, none, none, none, none, none, none, none, none, none, none, none, none, none, none, none, none, none, none, none, none, none, none, none, none, none, none, none, none, none, none, none, none, none, none, none, none, none, none, none, none] (AtB 7 b1 W1) ?cutA2 ?cutB2
  case cutB2 =>
    intro f w' A hA hJ
    replace hA : A = ⟨#[_, _, _, _, _, _, _, f 7, f 8, f 9, f 10, f 11, f 12, f 13, f 14, f 15, _, _, _, _, _, _, _, _, _, _, _, _, _, _, _, _, _, _, _, _, _, _, _, _, _, _, _, _, _, _, _, _, _, _, _, _, _, _, _, _, _, _, _, _, _, _, _, _, _, _, _, _, _, _, _, _, _, _, _, _, _, _, _, _, _, _, _, _, _, _, _, _, _, _, _, _, _, _, _, _, _, _, _, _, _, _, _, _, _, _, _], _⟩ := hA
    subst hA
    obtain ⟨f7, hw⟩ := hJ
    replace hw := hw.symm
    subst hw
    rw [f7]
    clear f7 EB1
    cases b1
    case true => 
      go_wp2_with fail
      go_ret
      exact ⟨rfl, HG.out⟩
    case false =>
      repeat (first | with_reducible (refine wp_region_cut (k := 3) ?_) | go_values | go_guarded | go_step | go_upon | go_back)
      refine wp_cut [none, none, none, none, none, none, none, some 7, none, none, none, none, none, none, none, none, some 16, some 17, some 18, some 19, some 20, some 21, some 22, some 23, none, none, none, none, none, none, none, none, none, none, none, none, none, none, none, none, none, none, none, none, none, none, none, none, none, none, none, none, none, none, none, none, none, none, none, none, none, none, none, none, none, none, none, none, none, none, none, none, none, none, none, none, none, none, none, none, none, none, none, none, none, none, none, none, none, none, none, none, none, none, none, none, none, none, none, none, none, none, none, none, none, none, none] (AtB 7 b2 W1) ?cutA3 ?cutB3
      case cutB3 =>
        intro f w' A hA hJ
        replace hA : A = ⟨#[_, _, _, _, _, _, _, f 7, _, _, _, _, _, _, _, _, f 16, f 17, f 18, f 19, f 20, f 21, f 22, f 23, _, _, _, _, _, _, _, _, _, _, _, _, _, _, _, _, _, _, _, _, _, _, _, _, _, _, _, _, _, _, _, _, _, _, _, _, _, _, _, _, _, _, _, _, _, _, _, _, _, _, _, _, _, _, _, _, _, _, _, _, _, _, _, _, _, _, _, _, _, _, _, _, _, _, _, _, _, _, _, _, _, _, _], _⟩ := hA
        subst hA
        obtain ⟨f7, hw⟩ := hJ
        replace hw := hw.symm
        subst hw
        rw [f7]
        clear f7 EB2
        cases b2
        case true => 
          go_wp2_with fail
          go_ret
          exact ⟨rfl, HG.out⟩
        case false =>
          repeat (first | with_reducible (refine wp_region_cut (k := 4) ?_) | go_values | go_guarded | go_step | go_upon | go_back)
          refine wp_cut [none, none, none, none, none, none, none, some 7, none, none, none, none, none, none, none, none, none, none, none, none, none, none, none, none, some 24, some 25, some 26, some 27, some 28, some 29, some 30, some 31, some 32, none, none, none, none, none, none, none, none, none, none, none, none, none, none, none, none, none, none, none, none, none, none, none, none, none, none, none, none, none, none, none, none, none, none, none, none, none, none, none, none, none, none, none, none, none, none, none, none, none, none, none, none, none, none, none, none, none, none, none, none, none, none, none, none, none, none, none, none, none, none, none, none, none, none] (AtB 7 b3 W1) ?cutA4 ?cutB4
          case cutB4 =>
            intro f w' A hA hJ
            replace hA : A = ⟨#[_, _, _, _, _, _, _, f 7, _, _, _, _, _, _, _, _, _, _, _, _, _, _, _, _, f 24, f 25, f 26, f 27, f 28, f 29, f 30, f 31, f 32, _, _, _, _, _, _, _, _, _, _, _, _, _, _, _, _, _, _, _, _, _, _, _, _, _, _, _, _, _, _, _, _, _, _, _, _, _, _, _, _, _, _, _, _, _, _, _, _, _, _, _, _, _, _, _, _, _, _, _, _, _, _, _, _, _, _, _, _, _, _, _, _, _, _], _⟩ := hA
            subst hA
            obtain ⟨f7, hw⟩ := hJ
            replace hw := hw.symm
            subst hw
            rw [f7]
            clear f7 EB3
            cases b3
            case true => 
              go_wp2_with fail
              go_ret
              exact ⟨rfl, HG.out⟩
            case false =>
              repeat (first | with_reducible (refine wp_region_cut (k := 5) ?_) | go_values | go_guarded | go_step | go_upon | go_back)
              refine wp_cut [none, none, none, none, none, none, none, some 7, none, none, none, none, none, none, none, none, none, none, none, none, none, none, none, none, none, none, none, none, none, none, none, none, none, some 33, some 34, some 35, some 36, some 37, some 38, some 39, some 40, none, none, none, none, none, none, none, none, none, none, none, none, none, none, none, none, none, none, none, none, none, none, none, none, none, none, none, none, none, none, none, none, none, none, none, none, none, none, none, none, none, none, none, none, none, none, none, none, none, none, none, none, none, none, none, none, none, none, none, none, none, none, none, none, none, none] (AtB 7 b4 W1) ?cutA5 ?cutB5
              case cutB5 =>
                intro f w' A hA hJ
                replace hA : A = ⟨#[_, _, _, _, _, _, _, f 7, _, _, _, _, _, _, _, _, _, _, _, _, _, _, _, _, _, _, _, _, _, _, _, _, _, f 33, f 34, f 35, f 36, f 37, f 38, f 39, f 40, _, _, _, _, _, _, _, _, _, _, _, _, _, _, _, _, _, _, _, _, _, _, _, _, _, _, _, _, _, _, _, _, _, _, _, _, _, _, _, _, _, _, _, _, _, _, _, _, _, _, _, _, _, _, _, _, _, _, _, _, _, _, _, _, _, _], _⟩ := hA
                subst hA
                obtain ⟨f7, hw⟩ := hJ
                replace hw := hw.symm
                subst hw
                rw [f7]
                clear f7 EB4
                cases b4
                case true => 
                  go_wp2_with fail
                  go_ret
                  exact ⟨rfl, HG.out⟩
                case false =>
                  repeat (first | with_reducible (refine wp_region_cut (k := 6) ?_) | go_values | go_guarded | go_step | go_upon | go_back)
                  refine wp_cut [none, none, none, none, none, none, none, some 7, none, none, none, none, none, none, none, none, none, none, none, none, none, none, none, none, none, none, none, none, none, none, none, none, none, none, none, none, none, none, none, none, none, some 41, some 42, some 43, some 44, some 45, some 46, some 47, some 48, some 49, some 50, some 51, some 52, some 53, some 54, some 55, some 56, none, none, none, none, none, none, none, none, none, none, none, none, none, none, none, none, none, none, none, none, none, none, none, none, none, none, none, none, none, none, none, none, none, none, none, none, none, none, none, none, none, none, none, none, none, none, none, none, none, none] (AtB 7 b5 W1) ?cutA6 ?cutB6
                  case cutB6 =>
                    intro f w' A hA hJ
                    replace hA : A = ⟨#[_, _, _, _, _, _, _, f 7, _, _, _, _, _, _, _, _, _, _, _, _, _, _, _, _, _, _, _, _, _, _, _, _, _, _, _, _, _, _, _, _, _, f 41, f 42, f 43, f 44, f 45, f 46, f 47, f 48, f 49, f 50, f 51, f 52, f 53, f 54, f 55, f 56, _, _, _, _, _, _, _, _, _, _, _, _, _, _, _, _, _, _, _, _, _, _, _, _, _, _, _, _, _, _, _, _, _, _, _, _, _, _, _, _, _, _, _, _, _, _, _, _, _, _], _⟩ := hA
                    subst hA
                    obtain ⟨f7, hw⟩ := hJ
                    replace hw := hw.symm
                    subst hw
                    rw [f7]
                    clear f7 EB5
                    cases b5
                    case true => 
                      go_wp2_with fail
                      go_ret
                      exact ⟨rfl, HG.out⟩
                    case false =>
                      repeat (first | with_reducible (refine wp_region_cut (k := 7) ?_) | go_values | go_guarded | go_step | go_upon | go_back)
                      refine wp_cut [none, none, none, none, none, none, none, some 7, none, none, none, none, none, none, none, none, none, none, none, none, none, none, none, none, none, none, none, none, none, none, none, none, none, none, none, none, none, none, none, none, none, none, none, none, none, none, none, none, none, none, none, none, none, none, none, none, none, some 57, some 58, some 59, some 60, some 61, some 62, some 63, some 64, none, none, none, none, none, none, none, none, none, none, none, none, none, none, none, none, none, none, none, none, none, none, none, none, none, none, none, none, none, none, none, none, none, none, none, none, none, none, none, none, none, none] (AtB 7 b6 W1) ?cutA7 ?cutB7
                      case cutB7 =>
                        intro f w' A hA hJ
                        replace hA : A = ⟨#[_, _, _, _, _, _, _, f 7, _, _, _, _, _, _, _, _, _, _, _, _, _, _, _, _, _, _, _, _, _, _, _, _, _, _, _, _, _, _, _, _, _, _, _, _, _, _, _, _, _, _, _, _, _, _, _, _, _, f 57, f 58, f 59, f 60, f 61, f 62, f 63, f 64, _, _, _, _, _, _, _, _, _, _, _, _, _, _, _, _, _, _, _, _, _, _, _, _, _, _, _, _, _, _, _, _, _, _, _, _, _, _, _, _, _, _], _⟩ := hA
                        subst hA
                        obtain ⟨f7, hw⟩ := hJ
                        replace hw := hw.symm
                        subst hw
                        rw [f7]
                        clear f7 EB6
                        cases b6
                        case true => 
                          go_wp2_with fail
                          go_ret
                          exact ⟨rfl, HG.out⟩
                        case false =>
                          repeat (first | with_reducible (refine wp_region_cut (k := 8) ?_) | go_values | go_guarded | go_step | go_upon | go_back)
                          refine wp_cut [none, none, none, none, none, none, none, some 7, none, none, none, none, none, none, none, none, none, none, none, none, none, none, none, none, none, none, none, none, none, none, none, none, none, none, none, none, none, none, none, none, none, none, none, none, none, none, none, none, none, none, none, none, none, none, none, none, none, none, none, none, none, none, none, none, none, some 65, some 66, some 67, some 68, none, none, none, none, none, none, none, none, none, none, none, none, none, none, none, none, none, none, none, none, none, none, none, none, none, none, none, none, none, none, none, none, none, none, none, none, none, none] (AtB 7 b7 W1) ?cutA8 ?cutB8
                          case cutB8 =>
                            intro f w' A hA hJ
                            replace hA : A = ⟨#[_, _, _, _, _, _, _, f 7, _, _, _, _, _, _, _, _, _, _, _, _, _, _, _, _, _, _, _, _, _, _, _, _, _, _, _, _, _, _, _, _, _, _, _, _, _, _, _, _, _, _, _, _, _, _, _, _, _, _, _, _, _, _, _, _, _, f 65, f 66, f 67, f 68, _, _, _, _, _, _, _, _, _, _, _, _, _, _, _, _, _, _, _, _, _, _, _, _, _, _, _, _, _, _, _, _, _, _, _, _, _, _], _⟩ := hA
                            subst hA
                            obtain ⟨f7, hw⟩ := hJ
                            replace hw := hw.symm
                            subst hw
                            rw [f7]
                            clear f7 EB7
                            cases b7
                            case true => 
                              go_wp2_with fail
                              go_ret
                              exact ⟨rfl, HG.out⟩
                            case false =>
                              repeat (first | with_reducible (refine wp_region_cut (k := 9) ?_) | go_values | go_guarded | go_step | go_upon | go_back)
                              refine wp_cut [none, none, none, none, none, none, none, some 7, none, none, none, none, none, none, none, none, none, none, none, none, none, none, none, none, none, none, none, none, none, none, none, none, none, none, none, none, none, none, none, none, none, none, none, none, none, none, none, none, none, none, none, none, none, none, none, none, none, none, none, none, none, none, none, none, none, none, none, none, none, some 69, some 70, some 71, some 72, some 73, some 74, some 75, some 76, some 77, some 78, some 79, some 80, some 81, none, none, none, none, none, none, none, none, none, none, none, none, none, none, none, none, none, none, none, none, none, none, none, none, none] (AtB 7 b8 W1) ?cutA9 ?cutB9
                              case cutB9 =>
                                intro f w' A hA hJ
                                replace hA : A = ⟨#[_, _, _, _, _, _, _, f 7, _, _, _, _, _, _, _, _, _, _, _, _, _, _, _, _, _, _, _, _, _, _, _, _, _, _, _, _, _, _, _, _, _, _, _, _, _, _, _, _, _, _, _, _, _, _, _, _, _, _, _, _, _, _, _, _, _, _, _, _, _, f 69, f 70, f 71, f 72, f 73, f 74, f 75, f 76, f 77, f 78, f 79, f 80, f 81, _, _, _, _, _, _, _, _, _, _, _, _, _, _, _, _, _, _, _, _, _, _, _, _, _], _⟩ := hA
                                subst hA
                                obtain ⟨f7, hw⟩ := hJ
                                replace hw := hw.symm
                                subst hw
                                rw [f7]
                                clear f7 EB8
                                cases b8
                                case true => 
                                  go_wp2_with fail
                                  go_ret
                                  exact ⟨rfl, HG.out⟩
                                case false =>
                                  repeat (first | with_reducible (refine wp_region_cut (k := 10) ?_) | go_values | go_guarded | go_step | go_upon | go_back)
                                  refine wp_cut [none, none, none, none, none, none, none, some 7, none, none, none, none, none, none, none, none, none, none, none, none, none, none, none, none, none, none, none, none, none, none, none, none, none, none, none, none, none, none, none, none, none, none, none, none, none, none, none, none, none, none, none, none, none, none, none, none, none, none, none, none, none, none, none, none, none, none, none, none, none, none, none, none, none, none, none, none, none, none, none, none, none, none, some 82, some 83, some 84, some 85, none, none, none, none, none, none, none, none, none, none, none, none, none, none, none, none, none, none, none, none, none] (AtB 7 b9 W1) ?cutA10 ?cutB10
                                  case cutB10 =>
                                    intro f w' A hA hJ
                                    replace hA : A = ⟨#[_, _, _, _, _, _, _, f 7, _, _, _, _, _, _, _, _, _, _, _, _, _, _, _, _, _, _, _, _, _, _, _, _, _, _, _, _, _, _, _, _, _, _, _, _, _, _, _, _, _, _, _, _, _, _, _, _, _, _, _, _, _, _, _, _, _, _, _, _, _, _, _, _, _, _, _, _, _, _, _, _, _, _, f 82, f 83, f 84, f 85, _, _, _, _, _, _, _, _, _, _, _, _, _, _, _, _, _, _, _, _, _], _⟩ := hA
                                    subst hA
                                    obtain ⟨f7, hw⟩ := hJ
                                    replace hw := hw.symm
                                    subst hw
                                    rw [f7]
                                    clear f7 EB9
                                    cases b9
                                    case true => 
                                      go_wp2_with fail
                                      go_ret
                                      exact ⟨rfl, HG.out⟩
                                    case false =>
                                      repeat (first | with_reducible (refine wp_region_cut (k := 11) ?_) | go_values | go_guarded | go_step | go_upon | go_back)
                                      refine wp_cut [none, none, none, none, none, none, none, some 7, none, none, none, none, none, none, none, none, none, none, none, none, none, none, none, none, none, none, none, none, none, none, none, none, none, none, none, none, none, none, none, none, none, none, none, none, none, none, none, none, none, none, none, none, none, none, none, none, none, none, none, none, none, none, none, none, none, none, none, none, none, none, none, none, none, none, none, none, none, none, none, none, none, none, none, none, none, none, some 86, some 87, some 88, some 89, some 90, some 91, some 92, some 93, none, none, none, none, none, none, none, none, none, none, none, none, none] (AtB 7 b10 W1) ?cutA11 ?cutB11
                                      case cutB11 =>
                                        intro f w' A hA hJ
                                        replace hA : A = ⟨#[_, _, _, _, _, _, _, f 7, _, _, _, _, _, _, _, _, _, _, _, _, _, _, _, _, _, _, _, _, _, _, _, _, _, _, _, _, _, _, _, _, _, _, _, _, _, _, _, _, _, _, _, _, _, _, _, _, _, _, _, _, _, _, _, _, _, _, _, _, _, _, _, _, _, _, _, _, _, _, _, _, _, _, _, _, _, _, f 86, f 87, f 88, f 89, f 90, f 91, f 92, f 93, _, _, _, _, _, _, _, _, _, _, _, _, _], _⟩ := hA
                                        subst hA
                                        obtain ⟨f7, hw⟩ := hJ
                                        replace hw := hw.symm
                                        subst hw
                                        rw [f7]
                                        clear f7 EB10
                                        cases b10
                                        case true => 
                                          go_wp2_with fail
                                          go_ret
                                          exact ⟨rfl, HG.out⟩
                                        case false =>
                                          repeat (first | with_reducible (refine wp_region_cut (k := 12) ?_) | go_values | go_guarded | go_step | go_upon | go_back)
                                          refine wp_cut [none, none, none, none, none, none, none, some 7, none, none, none, none, none, none, none, none, none, none, none, none, none, none, none, none, none, none, none, none, none, none, none, none, none, none, none, none, none, none, none, none, none, none, none, none, none, none, none, none, none, none, none, none, none, none, none, none, none, none, none, none, none, none, none, none, none, none, none, none, none, none, none, none, none, none, none, none, none, none, none, none, none, none, none, none, none, none, none, none, none, none, none, none, none, none, some 94, some 95, some 96, some 97, some 98, some 99, some 100, some 101, some 102, none, none, none, none] (AtB 7 b11 W1) ?cutA12 ?cutB12
                                          case cutB12 =>
                                            intro f w' A hA hJ
                                            replace hA : A = ⟨#[_, _, _, _, _, _, _, f 7, _, _, _, _, _, _, _, _, _, _, _, _, _, _, _, _, _, _, _, _, _, _, _, _, _, _, _, _, _, _, _, _, _, _, _, _, _, _, _, _, _, _, _, _, _, _, _, _, _, _, _, _, _, _, _, _, _, _, _, _, _, _, _, _, _, _, _, _, _, _, _, _, _, _, _, _, _, _, _, _, _, _, _, _, _, _, f 94, f 95, f 96, f 97, f 98, f 99, f 100, f 101, f 102, _, _, _, _], _⟩ := hA
                                            subst hA
                                            obtain ⟨f7, hw⟩ := hJ
                                            replace hw := hw.symm
                                            subst hw
                                            rw [f7]
                                            clear f7 EB11
                                            cases b11
                                            case true => 
                                              go_wp2_with fail
                                              go_ret
                                              exact ⟨rfl, HG.out⟩
                                            case false =>
                                              repeat (first | with_reducible (refine wp_region_cut (k := 13) ?_) | go_values | go_guarded | go_step | go_upon | go_back)
                                              refine wp_cut [none, none, none, none, none, none, none, some 7, none, none, none, none, none, none, none, none, none, none, none, none, none, none, none, none, none, none, none, none, none, none, none, none, none, none, none, none, none, none, none, none, none, none, none, none, none, none, none, none, none, none, none, none, none, none, none, none, none, none, none, none, none, none, none, none, none, none, none, none, none, none, none, none, none, none, none, none, none, none, none, none, none, none, none, none, none, none, none, none, none, none, none, none, none, none, none, none, none, none, none, none, none, none, none, some 103, some 104, some 105, some 106] (AtB 7 b12 W1) ?cutA13 ?cutB13
                                              case cutB13 =>
                                                intro f w' A hA hJ
                                                replace hA : A = ⟨#[_, _, _, _, _, _, _, f 7, _, _, _, _, _, _, _, _, _, _, _, _, _, _, _, _, _, _, _, _, _, _, _, _, _, _, _, _, _, _, _, _, _, _, _, _, _, _, _, _, _, _, _, _, _, _, _, _, _, _, _, _, _, _, _, _, _, _, _, _, _, _, _, _, _, _, _, _, _, _, _, _, _, _, _, _, _, _, _, _, _, _, _, _, _, _, _, _, _, _, _, _, _, _, _, f 103, f 104, f 105, f 106], _⟩ := hA
                                                subst hA
                                                obtain ⟨f7, hw⟩ := hJ
                                                replace hw := hw.symm
                                                subst hw
                                                rw [f7]
                                                clear f7 EB12
                                                cases b12
                                                · go_wp2_with fail
                                                  go_ret
                                                  exact ⟨rfl, HG.out⟩
                                                · go_wp2_with fail
                                                  go_ret
                                                  exact ⟨rfl, HG.out⟩
                                              clear tp1 tp1' tp2 tp2' tn0 tn0' tq0 tq0' tq2 tq2' tK0 ta0 tmm tmm' td0 td0' tl0 tl0'
                                              cases l1
                                              · skip
                                                go_wp2_with fail
                                                exact CutEnd.mk rfl ⟨congrArg Value.bool EB12.out.symm, rfl⟩
                                              · skip
                                                go_wp2_with fail
                                                exact CutEnd.mk rfl ⟨congrArg Value.bool EB12.out.symm, rfl⟩
                                          clear tp1 tp1' tp2 tp2' tn0 tn0' tq0 tq0' tq2 tq2' tK0 ta0 tmm tmm' td0 td0' tl1 tl1'
                                          obtain ⟨em, z, nz⟩ := Z5.out
                                          cases h5
                                          · skip
                                            cases l0
                                            · skip
                                              replace z : (_ == (0 : Int)) = true := z
                                              go_wp2_with fail
                                              exact CutEnd.mk rfl ⟨congrArg Value.bool EB11.out.symm, rfl⟩
                                            · skip
                                              replace z : (_ == (0 : Int)) = true := z
                                              go_wp2_with fail
                                              exact CutEnd.mk rfl ⟨congrArg Value.bool EB11.out.symm, rfl⟩
                                          · skip
                                            cases l0
                                            · skip
                                              replace z : (_ == (0 : Int)) = false := z
                                              go_wp2_with fail
                                              exact CutEnd.mk rfl ⟨congrArg Value.bool EB11.out.symm, rfl⟩
                                            · skip
                                              replace z : (_ == (0 : Int)) = false := z
                                              go_wp2_with fail
                                              exact CutEnd.mk rfl ⟨congrArg Value.bool EB11.out.symm, rfl⟩
                                      clear tp1 tp1' tp2 tp2' tn0 tn0' tq0 tq0' tq2 tq2' tK0 ta0 tmm tmm' tl0 tl0' tl1 tl1'
                                      obtain ⟨em, z, nz⟩ := Z4.out
                                      cases h4
                                      · skip
                                        cases d0
                                        · skip
                                          replace z : (_ == (0 : Int)) = true := z
                                          go_wp2_with fail
                                          exact CutEnd.mk rfl ⟨congrArg Value.bool EB10.out.symm, rfl⟩
                                        · skip
                                          replace z : (_ == (0 : Int)) = true := z
                                          go_wp2_with fail
                                          exact CutEnd.mk rfl ⟨congrArg Value.bool EB10.out.symm, rfl⟩
                                      · skip
                                        cases d0
                                        · skip
                                          replace z : (_ == (0 : Int)) = false := z
                                          go_wp2_with fail
                                          exact CutEnd.mk rfl ⟨congrArg Value.bool EB10.out.symm, rfl⟩
                                        · skip
                                          replace z : (_ == (0 : Int)) = false := z
                                          go_wp2_with fail
                                          exact CutEnd.mk rfl ⟨congrArg Value.bool EB10.out.symm, rfl⟩
                                  clear tp1 tp1' tp2 tp2' tn0 tn0' tq0 tq0' tq2 tq2' tK0 ta0 tmm tmm' td0 td0' tl0 tl0' tl1 tl1'
                                  cases a1
                                  · skip
                                    go_wp2_with (go_at_call 33; refine HLA.out.mono ?_; rintro r w' ⟨rfl, rfl⟩)
                                    exact CutEnd.mk rfl ⟨congrArg Value.bool EB9.out.symm, rfl⟩
                                  · skip
                                    go_wp2_with (go_at_call 33; refine HLA.out.mono ?_; rintro r w' ⟨rfl, rfl⟩)
                                    exact CutEnd.mk rfl ⟨congrArg Value.bool EB9.out.symm, rfl⟩
                              clear tp1 tp1' tp2 tp2' tn0 tn0' tq0 tq0' tq2 tq2' tK0 td0 td0' tl0 tl0' tl1 tl1'
                              obtain ⟨em, z, nz⟩ := Z3.out
                              cases h3
                              · skip
                                cases a0
                                · skip
                                  cases m0
                                  · skip
                                    replace z : (_ == (0 : Int)) = true := z
                                    go_wp2_with fail
                                    exact CutEnd.mk rfl ⟨congrArg Value.bool EB8.out.symm, rfl⟩
                                  · skip
                                    replace z : (_ == (0 : Int)) = true := z
                                    go_wp2_with fail
                                    exact CutEnd.mk rfl ⟨congrArg Value.bool EB8.out.symm, rfl⟩
                                · skip
                                  cases m0
                                  · skip
                                    replace z : (_ == (0 : Int)) = true := z
                                    go_wp2_with fail
                                    exact CutEnd.mk rfl ⟨congrArg Value.bool EB8.out.symm, rfl⟩
                                  · skip
                                    replace z : (_ == (0 : Int)) = true := z
                                    go_wp2_with fail
                                    exact CutEnd.mk rfl ⟨congrArg Value.bool EB8.out.symm, rfl⟩
                              · skip
                                cases a0
                                · skip
                                  cases m0
                                  · skip
                                    replace z : (_ == (0 : Int)) = false := z
                                    go_wp2_with fail
                                    exact CutEnd.mk rfl ⟨congrArg Value.bool EB8.out.symm, rfl⟩
                                  · skip
                                    replace z : (_ == (0 : Int)) = false := z
                                    go_wp2_with fail
                                    exact CutEnd.mk rfl ⟨congrArg Value.bool EB8.out.symm, rfl⟩
                                · skip
                                  cases m0
                                  · skip
                                    replace z : (_ == (0 : Int)) = false := z
                                    go_wp2_with fail
                                    exact CutEnd.mk rfl ⟨congrArg Value.bool EB8.out.symm, rfl⟩
                                  · skip
                                    replace z : (_ == (0 : Int)) = false := z
                                    go_wp2_with fail
                                    exact CutEnd.mk rfl ⟨congrArg Value.bool EB8.out.symm, rfl⟩
                          clear tp1 tp1' tp2 tp2' tn0 tn0' tq0 tq0' tq2 tq2' tK0 ta0 tmm tmm' td0 td0' tl0 tl0' tl1 tl1'
                          cases K1
                          · skip
                            go_wp2_with (go_at_call 33; refine HLK.out.mono ?_; rintro r w' ⟨rfl, rfl⟩)
                            exact CutEnd.mk rfl ⟨congrArg Value.bool EB7.out.symm, rfl⟩
                          · skip
                            go_wp2_with (go_at_call 33; refine HLK.out.mono ?_; rintro r w' ⟨rfl, rfl⟩)
                            exact CutEnd.mk rfl ⟨congrArg Value.bool EB7.out.symm, rfl⟩
                      clear tp1 tp1' tp2 tp2' tn0 tn0' tq0 tq0' tq2 tq2' ta0 tmm tmm' td0 td0' tl0 tl0' tl1 tl1'
                      obtain ⟨em, z, nz⟩ := Z2.out
                      cases h2
                      · skip
                        cases K0
                        · skip
                          replace z : (_ == (0 : Int)) = true := z
                          go_wp2_with fail
                          exact CutEnd.mk rfl ⟨congrArg Value.bool EB6.out.symm, rfl⟩
                        · skip
                          replace z : (_ == (0 : Int)) = true := z
                          go_wp2_with fail
                          exact CutEnd.mk rfl ⟨congrArg Value.bool EB6.out.symm, rfl⟩
                      · skip
                        cases K0
                        · skip
                          replace z : (_ == (0 : Int)) = false := z
                          go_wp2_with fail
                          exact CutEnd.mk rfl ⟨congrArg Value.bool EB6.out.symm, rfl⟩
                        · skip
                          replace z : (_ == (0 : Int)) = false := z
                          go_wp2_with fail
                          exact CutEnd.mk rfl ⟨congrArg Value.bool EB6.out.symm, rfl⟩
                  clear tp1 tp1' tp2 tp2' tn0 tn0' tq0 tq0' tK0 ta0 tmm tmm' td0 td0' tl0 tl0' tl1 tl1'
                  obtain ⟨em, z, nz⟩ := Z1.out
                  cases h1
                  · skip
                    cases q1
                    · skip
                      cases q2
                      · skip
                        replace z : (_ == (0 : Int)) = true := z
                        go_wp2_with (go_at_call 32; refine HOP.out.mono ?_; rintro r w' ⟨rfl, rfl⟩)
                        exact CutEnd.mk rfl ⟨congrArg Value.bool EB5.out.symm, rfl⟩
                      · skip
                        replace z : (_ == (0 : Int)) = true := z
                        go_wp2_with (go_at_call 32; refine HOP.out.mono ?_; rintro r w' ⟨rfl, rfl⟩)
                        exact CutEnd.mk rfl ⟨congrArg Value.bool EB5.out.symm, rfl⟩
                    · skip
                      cases q2
                      · skip
                        replace z : (_ == (0 : Int)) = true := z
                        go_wp2_with (go_at_call 32; refine HOP.out.mono ?_; rintro r w' ⟨rfl, rfl⟩)
                        exact CutEnd.mk rfl ⟨congrArg Value.bool EB5.out.symm, rfl⟩
                      · skip
                        replace z : (_ == (0 : Int)) = true := z
                        go_wp2_with (go_at_call 32; refine HOP.out.mono ?_; rintro r w' ⟨rfl, rfl⟩)
                        exact CutEnd.mk rfl ⟨congrArg Value.bool EB5.out.symm, rfl⟩
                  · skip
                    cases q1
                    · skip
                      cases q2
                      · skip
                        replace z : (_ == (0 : Int)) = false := z
                        go_wp2_with (go_at_call 32; refine HOP.out.mono ?_; rintro r w' ⟨rfl, rfl⟩)
                        exact CutEnd.mk rfl ⟨congrArg Value.bool EB5.out.symm, rfl⟩
                      · skip
                        replace z : (_ == (0 : Int)) = false := z
                        go_wp2_with (go_at_call 32; refine HOP.out.mono ?_; rintro r w' ⟨rfl, rfl⟩)
                        exact CutEnd.mk rfl ⟨congrArg Value.bool EB5.out.symm, rfl⟩
                    · skip
                      cases q2
                      · skip
                        replace z : (_ == (0 : Int)) = false := z
                        go_wp2_with (go_at_call 32; refine HOP.out.mono ?_; rintro r w' ⟨rfl, rfl⟩)
                        exact CutEnd.mk rfl ⟨congrArg Value.bool EB5.out.symm, rfl⟩
                      · skip
                        replace z : (_ == (0 : Int)) = false := z
                        go_wp2_with (go_at_call 32; refine HOP.out.mono ?_; rintro r w' ⟨rfl, rfl⟩)
                        exact CutEnd.mk rfl ⟨congrArg Value.bool EB5.out.symm, rfl⟩
              clear tp1 tp1' tp2 tp2' tn0 tn0' tq2 tq2' tK0 ta0 tmm tmm' td0 td0' tl0 tl0' tl1 tl1'
              obtain ⟨em, z, nz⟩ := Z1.out
              cases h1
              · skip
                cases q0
                · skip
                  replace z : (_ == (0 : Int)) = true := z
                  go_wp2_with fail
                  exact CutEnd.mk rfl ⟨congrArg Value.bool EB4.out.symm, rfl⟩
                · skip
                  replace z : (_ == (0 : Int)) = true := z
                  go_wp2_with fail
                  exact CutEnd.mk rfl ⟨congrArg Value.bool EB4.out.symm, rfl⟩
              · skip
                cases q0
                · skip
                  replace z : (_ == (0 : Int)) = false := z
                  go_wp2_with fail
                  exact CutEnd.mk rfl ⟨congrArg Value.bool EB4.out.symm, rfl⟩
                · skip
                  replace z : (_ == (0 : Int)) = false := z
                  go_wp2_with fail
                  exact CutEnd.mk rfl ⟨congrArg Value.bool EB4.out.symm, rfl⟩
          clear tp1 tp1' tp2 tp2' tn0 tn0' tq0 tq0' tq2 tq2' tK0 ta0 tmm tmm' td0 td0' tl0 tl0' tl1 tl1'
          obtain ⟨em, z, nz⟩ := Z0.out
          cases h0
          · skip
            cases n1
            · skip
              replace z : (_ == (0 : Int)) = true := z
              go_wp2_with (go_at_call 32; refine HON.out.mono ?_; rintro r w' ⟨rfl, rfl⟩)
              exact CutEnd.mk rfl ⟨congrArg Value.bool EB3.out.symm, rfl⟩
            · skip
              replace z : (_ == (0 : Int)) = true := z
              go_wp2_with (go_at_call 32; refine HON.out.mono ?_; rintro r w' ⟨rfl, rfl⟩)
              exact CutEnd.mk rfl ⟨congrArg Value.bool EB3.out.symm, rfl⟩
          · skip
            cases n1
            · skip
              replace z : (_ == (0 : Int)) = false := z
              go_wp2_with (go_at_call 32; refine HON.out.mono ?_; rintro r w' ⟨rfl, rfl⟩)
              exact CutEnd.mk rfl ⟨congrArg Value.bool EB3.out.symm, rfl⟩
            · skip
              replace z : (_ == (0 : Int)) = false := z
              go_wp2_with (go_at_call 32; refine HON.out.mono ?_; rintro r w' ⟨rfl, rfl⟩)
              exact CutEnd.mk rfl ⟨congrArg Value.bool EB3.out.symm, rfl⟩
      clear tp1 tp1' tp2 tp2' tq0 tq0' tq2 tq2' tK0 ta0 tmm tmm' td0 td0' tl0 tl0' tl1 tl1'
      obtain ⟨em, z, nz⟩ := Z0.out
      cases h0
      · skip
        cases n0
        · skip
          replace z : (_ == (0 : Int)) = true := z
          go_wp2_with fail
          exact CutEnd.mk rfl ⟨congrArg Value.bool EB2.out.symm, rfl⟩
        · skip
          replace z : (_ == (0 : Int)) = true := z
          go_wp2_with fail
          exact CutEnd.mk rfl ⟨congrArg Value.bool EB2.out.symm, rfl⟩
      · skip
        cases n0
        · skip
          replace z : (_ == (0 : Int)) = false := z
          go_wp2_with fail
          exact CutEnd.mk rfl ⟨congrArg Value.bool EB2.out.symm, rfl⟩
        · skip
          replace z : (_ == (0 : Int)) = false := z
          go_wp2_with fail
          exact CutEnd.mk rfl ⟨congrArg Value.bool EB2.out.symm, rfl⟩
  clear tn0 tn0' tq0 tq0' tq2 tq2' tK0 ta0 tmm tmm' td0 td0' tl0 tl0' tl1 tl1'
  cases p1
  · skip
    cases p2
    · skip
      go_wp2_with fail
      exact CutEnd.mk rfl ⟨congrArg Value.bool EB1.out.symm, rfl⟩
    · skip
      go_wp2_with fail
      exact CutEnd.mk rfl ⟨congrArg Value.bool EB1.out.symm, rfl⟩
  · skip
    cases p2
    · skip
      go_wp2_with fail
      exact CutEnd.mk rfl ⟨congrArg Value.bool EB1.out.symm, rfl⟩
    · skip
      go_wp2_with fail
      exact CutEnd.mk rfl ⟨congrArg Value.bool EB1.out.symm, rfl⟩
end Go.Proofs.YtmekdhlcflielaaDoor.ev
