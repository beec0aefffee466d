/- The walk of event.read (printed by gen_evrd.py). -/
import Derived.Test.YtmekdhlcflielaaDoorEv2
namespace Go.Proofs.YtmekdhlcflielaaDoor.ev
open Go Go.RowKit Go.Par Go.Kit Vi Go.Proofs.YtmekdhlcflielaaDoor.bfW
open Go.Proofs.YtmekdhlcflielaaDoor.viW hiding i8 i8s i8z i8b info8

abbrev zE : List Value := [.int .u8 0, .int .u8 0, .int .u8 0, .int .i64 0, .int .i64 0, .int .u32 0, .int .u64 0, .slice none 0 0]
def eRow (k x1 x2 x3 x4 x5 x6 : Nat) (v : Value) : List Value := [.int .u8 (k : Int), .int .u8 (x1 : Int), .int .u8 (x2 : Int), .int .i64 (x3 : Int), .int .i64 (x4 : Int), .int .u32 (x5 : Int), .int .u64 (x6 : Int), v]
/-- behind a piece: what reads, and the event as far as it is read -/
structure JRd (w0 : World) (T : TypeId) (B : Nat) (K0 : Nat → Prop) (g g2 g3 : Nat) (L : List UInt8) (e : Nat) (row : List Value) (w' : World) : Prop where
  r : Rdr T w' B (fun i => i ≠ g) g L e
  b3 : Blk w' g3 TE row
  b2 : Blk w' g2 TE zE
  k : Keep B K0 w0 w'
def JR (w0 : World) (T : TypeId) (B : Nat) (K0 : Nat → Prop) (g g2 g3 : Nat) (L : List UInt8) (e : Nat) (row : List Value) (_ : Nat → Value) (w' : World) : Prop := JRd w0 T B K0 g g2 g3 L e row w'
def JR7 (w0 : World) (T : TypeId) (B : Nat) (K0 : Nat → Prop) (g g2 g3 : Nat) (L : List UInt8) (e : Nat) (k x1 x2 x3 x4 x5 x6 : Nat) (l : List UInt8) (_ : Nat → Value) (w' : World) : Prop := ∃ v, JRd w0 T B K0 g g2 g3 L e (eRow k x1 x2 x3 x4 x5 x6 v) w' ∧ BO w' v l ∧ ∃ A n c, v = .slice A n c
section
variable {w0 w w' : World} {T : TypeId} {B : Nat} {K0 : Nat → Prop} {g g2 g3 : Nat} {L L' : List UInt8} {e e' : Nat} {row : List Value}
/-- a call that reads -/
theorem JRd.call (h : JRd w0 T B K0 g g2 g3 L e row w) (hr : Rdr T w' B (fun i => i ≠ g) g L' e') (hk : Keep B (fun i => i ≠ g) w w') (h2 : g2 ≠ g) (h3 : g3 ≠ g) (hK : ∀ i, K0 i → i ≠ g) : JRd w0 T B K0 g g2 g3 L' e' row w' :=
  ⟨hr, hk.blk h.b3 h3, hk.blk h.b2 h2, h.k.trans (hk.less hK)⟩
theorem JRd.grow (h : JRd w0 T B K0 g g2 g3 L e row w) (hg : Grow w w') : JRd w0 T B K0 g g2 g3 L e row w' :=
  ⟨h.r.grow hg, h.b3.grow hg, h.b2.grow hg, h.k.trans (Keep.of hg (by have := h.r.lt; omega))⟩
/-- a field is stored -/
theorem JRd.set (h : JRd w0 T B K0 g g2 g3 L e row w) (h3 : g3 ≠ g) (h23 : g2 ≠ g3) (hB : B ≤ g3) (hK : ¬ K0 g3) (i : Nat) (u : Value) : JRd w0 T B K0 g g2 g3 L e (row.set i u) (w.setCell ⟨g3, i, none⟩ u) :=
  ⟨h.r.keep ((Keep.refl w).setCell (K := fun j => j ≠ g3) (p := ⟨g3, i, none⟩) hB (fun hn => hn rfl) u) (fun e => h3 e.symm), h.b3.set_ i u, h.b2.far (p := ⟨g3, i, none⟩) h23 u, h.k.setCell (p := ⟨g3, i, none⟩) hB hK u⟩
end
theorem Keep.setRow {B : Nat} {K : Nat → Prop} {w w' : World} (h : Keep B K w w') {g : Nat} (hB : B ≤ g) (hK : ¬ K g) (l : Array Value) : Keep B K w (w'.setRow g l) :=
  ⟨below_setRow h.1 hB l, fun k hk hl => (setRow_other w' g k l (fun e => hK (e ▸ hk))).trans (h.2 k hk hl)⟩
theorem rtext_len (L : List UInt8) (e : Nat) : (rtext L e 131072).1.length ≤ 131072 := by
  unfold rtext
  split
  · simp
  · split
    · simp
    · split
      · simp
      · split
        · simp
        · rename_i h _
          dsimp only
          rw [List.length_take]
          omega
theorem opt_f {α : Type} {x z : α} {r : α × List UInt8 × Nat} {L L' : List UInt8} {e e' : Nat} (h : (x, L', e') = opt false r z L e) : x = z ∧ L' = L ∧ e' = e := by
  unfold opt at h
  rw [if_neg (by decide)] at h
  injection h with h1 h2
  injection h2 with h2 h3
  exact ⟨h1, h2, h3⟩
theorem opt_t {α : Type} {x z : α} {r : α × List UInt8 × Nat} {L L' : List UInt8} {e e' : Nat} (h : (x, L', e') = opt true r z L e) : r = (x, L', e') := by
  unfold opt at h
  rw [if_pos rfl] at h
  exact h.symm
set_option maxRecDepth 100000 in
set_option maxHeartbeats 16000000 in
theorem read_any (w : World) (B : Nat) (KK : Nat → Prop) (hKK : ∀ k, KK k → k < w.heap.size) (g : Nat) (L : List UInt8) (e : Nat) (h : Rdr TR w B KK g L e) (hLm : L.length ≤ maxLen) (ht : Tab w) (hB : 0 < B) :
    Calls Tryd.prog 26 #[.pointer (some ⟨g, 0, none⟩)] w fun r w' => (∃ A n c, r = .returned (.agg (evRow (.slice A n c) (rdEv L e).1).toArray) ∧ BO w' (.slice A n c) (rdEv L e).1.b) ∧ Rdr TR w' B KK g (rdEv L e).2.1 (rdEv L e).2.2 ∧ Keep B KK w w' := by
  obtain ⟨g2, hg2⟩ : ∃ g2, g2 = w.heap.size := ⟨_, rfl⟩
  obtain ⟨W1, hW1⟩ : ∃ W, W = w.alloc (.cells #[.int .u8 0, .int .u8 0, .int .u8 0, .int .i64 0, .int .i64 0, .int .u32 0, .int .u64 0, .slice none 0 0] TE) := ⟨_, rfl⟩
  have hg1 : Grow w W1 := by rw [hW1]; exact Grow.alloc _ _
  have hb2 : Blk W1 g2 TE zE := by rw [hW1]; exact Blk.new _ _ _ _ rfl hg2
  have hlt := h.lt
  have hKg : ∀ i, KK i → i ≠ g := fun i hi e1 => by obtain ⟨_, _, _, _, _, _, _, _, _, h9⟩ := h; subst e1; exact h9 hi
  have hrd1 : Rdr TR W1 B (fun i => i ≠ g) g L e := (h.grow hg1).to (fun hn => hn rfl)
  have hby := byte_any W1 B (fun i => i ≠ g) g L e hrd1 12
  have hresd : rdEv L e = rdEv L e := rfl
  obtain ⟨⟨k, L0, e0⟩, hr0⟩ : ∃ r, r = rbyte L e 12 := ⟨_, rfl⟩
  have hk255 : k ≤ 255 := by have := rbyte_le L e 12; rw [← hr0] at this; dsimp only at this; omega
  obtain ⟨h0, eh0⟩ : ∃ q, q = hb k 0 := ⟨_, rfl⟩
  obtain ⟨h1, eh1⟩ : ∃ q, q = hb k 1 := ⟨_, rfl⟩
  obtain ⟨h2, eh2⟩ : ∃ q, q = hb k 2 := ⟨_, rfl⟩
  obtain ⟨h3, eh3⟩ : ∃ q, q = hb k 3 := ⟨_, rfl⟩
  obtain ⟨h4, eh4⟩ : ∃ q, q = hb k 4 := ⟨_, rfl⟩
  obtain ⟨h5, eh5⟩ : ∃ q, q = hb k 5 := ⟨_, rfl⟩
  obtain ⟨⟨x1, L1, e1⟩, hr1⟩ : ∃ r, r = opt h0 (rbyte L0 e0 64) 0 L0 e0 := ⟨_, rfl⟩
  obtain ⟨⟨x2, L2, e2⟩, hr2⟩ : ∃ r, r = opt h1 (rbyte L1 e1 64) 0 L1 e1 := ⟨_, rfl⟩
  obtain ⟨⟨x3, L3, e3⟩, hr3⟩ : ∃ r, r = opt h2 (rnum L2 e2 1048576) 0 L2 e2 := ⟨_, rfl⟩
  obtain ⟨⟨x4, L4, e4⟩, hr4⟩ : ∃ r, r = opt h3 (rnum L3 e3 1048576) 0 L3 e3 := ⟨_, rfl⟩
  obtain ⟨⟨x5, L5, e5⟩, hr5⟩ : ∃ r, r = opt h3 (rnum L4 e4 4294967295) 0 L4 e4 := ⟨_, rfl⟩
  obtain ⟨⟨x6, L6, e6⟩, hr6⟩ : ∃ r, r = opt h4 (rnum L5 e5 18446744073709551615) 0 L5 e5 := ⟨_, rfl⟩
  obtain ⟨⟨x7, L7, e7⟩, hr7⟩ : ∃ r, r = opt h5 (rtext L6 e6 131072) [] L6 e6 := ⟨_, rfl⟩
  have hres : rdEv L e = (⟨k, x1, x2, (x3 : Int), (x4 : Int), x5, x6, x7⟩, L7, e7) := by
    unfold rdEv
    dsimp only
    rw [← hr0]
    dsimp only
    rw [← eh0, ← eh1, ← eh2, ← eh3, ← eh4, ← eh5]
    rw [← hr1]
    dsimp only
    rw [← hr2]
    dsimp only
    rw [← hr3]
    dsimp only
    rw [← hr4]
    dsimp only
    rw [← hr5]
    dsimp only
    rw [← hr6]
    dsimp only
    rw [← hr7]
  rw [hres]
  rw [← hr0] at hby
  obtain ⟨m0_, em0, z0, nz0⟩ := hbit_ex k 0 (by decide) h0 eh0
  obtain ⟨m1_, em1, z1, nz1⟩ := hbit_ex k 1 (by decide) h1 eh1
  obtain ⟨m2_, em2, z2, nz2⟩ := hbit_ex k 2 (by decide) h2 eh2
  obtain ⟨m3_, em3, z3, nz3⟩ := hbit_ex k 3 (by decide) h3 eh3
  obtain ⟨m4_, em4, z4, nz4⟩ := hbit_ex k 4 (by decide) h4 eh4
  obtain ⟨m5_, em5, z5, nz5⟩ := hbit_ex k 5 (by decide) h5 eh5
  replace em0 : bits .and .u8 (hasN k : Int) 1 = m0_ := em0
  replace em1 : bits .and .u8 (hasN k : Int) 2 = m1_ := em1
  replace em2 : bits .and .u8 (hasN k : Int) 4 = m2_ := em2
  replace em3 : bits .and .u8 (hasN k : Int) 8 = m3_ := em3
  replace em4 : bits .and .u8 (hasN k : Int) 16 = m4_ := em4
  replace em5 : bits .and .u8 (hasN k : Int) 32 = m5_ := em5
  have hof := fun (w' : World) (hk : Keep B (fun i => i ≠ g) W1 w') => of_any w' k hk255 ((ht.grow hg1).keep hk hB)
  obtain ⟨hh, hhd⟩ : ∃ x, x = hasN k := ⟨_, rfl⟩
  rw [← hhd] at hof em0 em1 em2 em3 em4 em5
  have hL7 : True := trivial
  have HOF := Lib.hid hof
  have HBY := Lib.hid hby
  have HKG := Lib.hid hKg
  have HB2 := Lib.hid hb2
  have HG2 := Lib.hid hg2
  have HW1 := Lib.hid hW1
  have HG1 := Lib.hid hg1
  have HLT : Hid (B ≤ g ∧ g < w.heap.size ∧ W1.heap.size = g2 + 1) := Lib.hid ⟨hlt.1, hlt.2, by rw [hW1, hg2]; simp⟩
  have HKK := Lib.hid hKK
  have HLM := Lib.hid hLm
  have Z0 := Lib.hid (And.intro em0 (And.intro z0 nz0))
  have Z1 := Lib.hid (And.intro em1 (And.intro z1 nz1))
  have Z2 := Lib.hid (And.intro em2 (And.intro z2 nz2))
  have Z3 := Lib.hid (And.intro em3 (And.intro z3 nz3))
  have Z4 := Lib.hid (And.intro em4 (And.intro z4 nz4))
  have Z5 := Lib.hid (And.intro em5 (And.intro z5 nz5))
  have HR_1 := Lib.hid hr1
  have HR_2 := Lib.hid hr2
  have HR_3 := Lib.hid hr3
  have HR_4 := Lib.hid hr4
  have HR_5 := Lib.hid hr5
  have HR_6 := Lib.hid hr6
  have HR_7 := Lib.hid hr7
  have HBD : Hid (x1 ≤ 64 ∧ x2 ≤ 64 ∧ x3 ≤ 1048576 ∧ x4 ≤ 1048576 ∧ x5 ≤ 4294967295) := Lib.hid (by
    refine ⟨?_, ?_, ?_, ?_, ?_⟩
    · have := opt_le (q := h0) (L := L0) (e := e0) (rbyte_le L0 e0 64)
      rw [← hr1] at this
      exact this
    · have := opt_le (q := h1) (L := L1) (e := e1) (rbyte_le L1 e1 64)
      rw [← hr2] at this
      exact this
    · have := opt_le (q := h2) (L := L2) (e := e2) (rnum_le L2 e2 1048576)
      rw [← hr3] at this
      exact this
    · have := opt_le (q := h3) (L := L3) (e := e3) (rnum_le L3 e3 1048576)
      rw [← hr4] at this
      exact this
    · have := opt_le (q := h3) (L := L4) (e := e4) (rnum_le L4 e4 4294967295)
      rw [← hr5] at this
      exact this)
  clear hg2 hW1 hg1 hb2 hlt hKg hrd1 hby hresd hr0 hres hof hhd h ht hKK hLm hL7 eh0 em0 z0 nz0 eh1 em1 z1 nz1 eh2 em2 z2 nz2 eh3 em3 z3 nz3 eh4 em4 z4 nz4 eh5 em5 z5 nz5 hr1 hr2 hr3 hr4 hr5 hr6 hr7
  go_enter Tryd.func26, Tryd.ntmps26
  try dsimp only
  repeat (first | with_reducible (refine wp_region_cut (k := 1) ?_) | go_values | go_guarded | go_step | go_upon | go_back)
  rw [← HW1.out, ← HG2.out]
  unfold Cut
  go_wp2_with fail
  refine HBY.out.mono ?_
  rintro r w2 ⟨rfl, hr2, hk2⟩
  obtain ⟨g3, hg3⟩ : ∃ g3, g3 = w2.heap.size := ⟨_, rfl⟩
  obtain ⟨W3, hW3⟩ : ∃ W, W = w2.alloc (.cells #[.int .u8 (k : Int), .int .u8 0, .int .u8 0, .int .i64 0, .int .i64 0, .int .u32 0, .int .u64 0, .slice none 0 0] TE) := ⟨_, rfl⟩
  have hg23 : Grow w2 W3 := by rw [hW3]; exact Grow.alloc _ _
  obtain ⟨K0, hK0⟩ : ∃ K0 : Nat → Prop, K0 = fun i => i ≠ g ∧ i < w.heap.size := ⟨_, rfl⟩
  have hs2 := hk2.size
  have hJ0 : JRd w TR B K0 g g2 g3 L0 e0 (eRow k 0 0 0 0 0 0 (.slice none 0 0)) W3 := by
    refine ⟨hr2.grow hg23, by rw [hW3]; exact Blk.new _ _ _ _ rfl hg3, (hk2.blk HB2.out (by have := HLT.out; have := HG2.out; omega)).grow hg23, ?_⟩
    refine (Keep.of HG1.out (by have := HLT.out; omega)).trans ((hk2.less (fun i hi => by rw [hK0] at hi; exact hi.1)).trans (Keep.of hg23 (by have := HLT.out; have := HG2.out; omega)))
  have HQ : Hid (g2 ≠ g ∧ g3 ≠ g ∧ g2 ≠ g3 ∧ B ≤ g3 ∧ ¬ K0 g3 ∧ (∀ i, K0 i → i ≠ g) ∧ ¬ K0 g2 ∧ B ≤ g2) := Lib.hid (by
    have h1 := HLT.out
    have h2 := HG2.out
    refine ⟨by omega, by omega, by omega, by omega, ?_, ?_, ?_, by omega⟩
    · rw [hK0]; rintro ⟨-, h⟩; omega
    · intro i hi; rw [hK0] at hi; exact hi.1
    · rw [hK0]; rintro ⟨-, h⟩; omega)
  have HKL : Hid (∀ i, KK i → K0 i) := Lib.hid (by intro i hi; rw [hK0]; exact ⟨HKG.out i hi, HKK.out i hi⟩)
  have HOF3 := Lib.hid (HOF.out W3 (hk2.trans (Keep.of hg23 (by have := HLT.out; have := HG2.out; omega))))
  have HJ := Lib.hid hJ0
  have HW3 := Lib.hid hW3
  have HG3 := Lib.hid hg3
  have x0 := hJ0.b3.cell (i := 0) rfl
  clear hr2 hk2 hg3 hW3 hg23 hK0 hs2 hJ0 HBY HOF
  dsimp only
  repeat (first | with_reducible (refine wp_region_cut (k := 2) ?_) | go_values | go_guarded | go_step | go_upon | go_back)
  rw [← HG3.out, ← HW3.out]
  unfold Cut
  go_wp2_with fail
  refine HOF3.out.mono ?_
  rintro r w' ⟨rfl, rfl⟩
  clear x0
  dsimp only
  repeat (first | with_reducible (refine wp_seq_cut (k := 3) ?_) | go_values | go_guarded | go_step | go_upon | go_back)
  refine wp_cut [none, none, none, none, none, none, none, none, none, none, none, some 11, some 12, some 13, some 14, some 15, some 16, none, none, none, none, none, none, none, none, none, none, none, none, none, none, none, none, none, none, none, none, none, none, none, none, none, none, none, none, none, none, none, none, none, none, none, none, none, none] (JR w TR B K0 g g2 g3 L1 e1 (eRow k x1 0 0 0 0 0 (.slice none 0 0))) ?cutA3 ?cutB3
  case cutB3 =>
    intro f w' A hA hJ
    replace hA : A = ⟨#[_, _, _, _, _, _, _, _, _, _, _, f 11, f 12, f 13, f 14, f 15, f 16, _, _, _, _, _, _, _, _, _, _, _, _, _, _, _, _, _, _, _, _, _, _, _, _, _, _, _, _, _, _, _, _, _, _, _, _, _, _], _⟩ := hA
    subst hA
    obtain ⟨wc, hww⟩ : ∃ W, W = w' := ⟨_, rfl⟩
    rw [← hww] at hJ ⊢
    clear hww
    have HJ := Lib.hid (show JRd w TR B K0 g g2 g3 L1 e1 (eRow k x1 0 0 0 0 0 (.slice none 0 0)) wc from hJ)
    clear hJ
    repeat (first | with_reducible (refine wp_seq_cut (k := 5) ?_) | go_values | go_guarded | go_step | go_upon | go_back)
    refine wp_cut [none, none, none, none, none, none, none, none, none, none, none, none, none, none, none, none, none, some 17, some 18, some 19, some 20, some 21, some 22, none, none, none, none, none, none, none, none, none, none, none, none, none, none, none, none, none, none, none, none, none, none, none, none, none, none, none, none, none, none, none, none] (JR w TR B K0 g g2 g3 L2 e2 (eRow k x1 x2 0 0 0 0 (.slice none 0 0))) ?cutA5 ?cutB5
    case cutB5 =>
      intro f w' A hA hJ
      replace hA : A = ⟨#[_, _, _, _, _, _, _, _, _, _, _, _, _, _, _, _, _, f 17, f 18, f 19, f 20, f 21, f 22, _, _, _, _, _, _, _, _, _, _, _, _, _, _, _, _, _, _, _, _, _, _, _, _, _, _, _, _, _, _, _, _], _⟩ := hA
      subst hA
      obtain ⟨wc, hww⟩ : ∃ W, W = w' := ⟨_, rfl⟩
      rw [← hww] at hJ ⊢
      clear hww
      have HJ := Lib.hid (show JRd w TR B K0 g g2 g3 L2 e2 (eRow k x1 x2 0 0 0 0 (.slice none 0 0)) wc from hJ)
      clear hJ
      repeat (first | with_reducible (refine wp_seq_cut (k := 7) ?_) | go_values | go_guarded | go_step | go_upon | go_back)
      refine wp_cut [none, none, none, none, none, none, none, none, none, none, none, none, none, none, none, none, none, none, none, none, none, none, none, some 23, some 24, some 25, some 26, some 27, some 28, some 29, none, none, none, none, none, none, none, none, none, none, none, none, none, none, none, none, none, none, none, none, none, none, none, none, none] (JR w TR B K0 g g2 g3 L3 e3 (eRow k x1 x2 x3 0 0 0 (.slice none 0 0))) ?cutA7 ?cutB7
      case cutB7 =>
        intro f w' A hA hJ
        replace hA : A = ⟨#[_, _, _, _, _, _, _, _, _, _, _, _, _, _, _, _, _, _, _, _, _, _, _, f 23, f 24, f 25, f 26, f 27, f 28, f 29, _, _, _, _, _, _, _, _, _, _, _, _, _, _, _, _, _, _, _, _, _, _, _, _, _], _⟩ := hA
        subst hA
        obtain ⟨wc, hww⟩ : ∃ W, W = w' := ⟨_, rfl⟩
        rw [← hww] at hJ ⊢
        clear hww
        have HJ := Lib.hid (show JRd w TR B K0 g g2 g3 L3 e3 (eRow k x1 x2 x3 0 0 0 (.slice none 0 0)) wc from hJ)
        clear hJ
        repeat (first | with_reducible (refine wp_seq_cut (k := 9) ?_) | go_values | go_guarded | go_step | go_upon | go_back)
        refine wp_cut [none, none, none, none, none, none, none, none, none, none, none, none, none, none, none, none, none, none, none, none, none, none, none, none, none, none, none, none, none, none, some 30, some 31, some 32, some 33, some 34, some 35, some 36, some 37, some 38, some 39, some 40, none, none, none, none, none, none, none, none, none, none, none, none, none, none] (JR w TR B K0 g g2 g3 L5 e5 (eRow k x1 x2 x3 x4 x5 0 (.slice none 0 0))) ?cutA9 ?cutB9
        case cutB9 =>
          intro f w' A hA hJ
          replace hA : A = ⟨#[_, _, _, _, _, _, _, _, _, _, _, _, _, _, _, _, _, _, _, _, _, _, _, _, _, _, _, _, _, _, f 30, f 31, f 32, f 33, f 34, f 35, f 36, f 37, f 38, f 39, f 40, _, _, _, _, _, _, _, _, _, _, _, _, _, _], _⟩ := hA
          subst hA
          obtain ⟨wc, hww⟩ : ∃ W, W = w' := ⟨_, rfl⟩
          rw [← hww] at hJ ⊢
          clear hww
          have HJ := Lib.hid (show JRd w TR B K0 g g2 g3 L5 e5 (eRow k x1 x2 x3 x4 x5 0 (.slice none 0 0)) wc from hJ)
          clear hJ
          repeat (first | with_reducible (refine wp_seq_cut (k := 11) ?_) | go_values | go_guarded | go_step | go_upon | go_back)
          refine wp_cut [none, none, none, none, none, none, none, none, none, none, none, none, none, none, none, none, none, none, none, none, none, none, none, none, none, none, none, none, none, none, none, none, none, none, none, none, none, none, none, none, none, some 41, some 42, some 43, some 44, some 45, some 46, none, none, none, none, none, none, none, none] (JR w TR B K0 g g2 g3 L6 e6 (eRow k x1 x2 x3 x4 x5 x6 (.slice none 0 0))) ?cutA11 ?cutB11
          case cutB11 =>
            intro f w' A hA hJ
            replace hA : A = ⟨#[_, _, _, _, _, _, _, _, _, _, _, _, _, _, _, _, _, _, _, _, _, _, _, _, _, _, _, _, _, _, _, _, _, _, _, _, _, _, _, _, _, f 41, f 42, f 43, f 44, f 45, f 46, _, _, _, _, _, _, _, _], _⟩ := hA
            subst hA
            obtain ⟨wc, hww⟩ : ∃ W, W = w' := ⟨_, rfl⟩
            rw [← hww] at hJ ⊢
            clear hww
            have HJ := Lib.hid (show JRd w TR B K0 g g2 g3 L6 e6 (eRow k x1 x2 x3 x4 x5 x6 (.slice none 0 0)) wc from hJ)
            clear hJ
            repeat (first | with_reducible (refine wp_seq_cut (k := 13) ?_) | go_values | go_guarded | go_step | go_upon | go_back)
            refine wp_cut [none, none, none, none, none, none, none, none, none, none, none, none, none, none, none, none, none, none, none, none, none, none, none, none, none, none, none, none, none, none, none, none, none, none, none, none, none, none, none, none, none, none, none, none, none, none, none, some 47, some 48, some 49, some 50, some 51, some 52, some 53, none] (JR7 w TR B K0 g g2 g3 L7 e7 k x1 x2 x3 x4 x5 x6 x7) ?cutA13 ?cutB13
            case cutB13 =>
              intro f w' A hA hJ
              replace hA : A = ⟨#[_, _, _, _, _, _, _, _, _, _, _, _, _, _, _, _, _, _, _, _, _, _, _, _, _, _, _, _, _, _, _, _, _, _, _, _, _, _, _, _, _, _, _, _, _, _, _, f 47, f 48, f 49, f 50, f 51, f 52, f 53, _], _⟩ := hA
              subst hA
              obtain ⟨wc, hww⟩ : ∃ W, W = w' := ⟨_, rfl⟩
              rw [← hww] at hJ ⊢
              clear hww
              obtain ⟨v, hj, hbo, A7, n7, c7, rfl⟩ := hJ
              have hb2' := hj.b2
              have hb3' := hj.b3
              go_wp2_with (first | (refine load_blk rfl _ _ rfl g3 rfl _ _ _ hb3' undE rfl (by rw [sizeE]; rfl) ?_) | (refine store_blk rfl _ _ _ rfl g2 (eRow k x1 x2 x3 x4 x5 x6 (.slice A7 n7 c7)) rfl rfl _ _ hb2' (by rw [sizeE]; rfl) rfl rfl ?_))
              have hK2 : Keep B (fun i => i ≠ g2) wc (wc.setRow g2 (eRow k x1 x2 x3 x4 x5 x6 (.slice A7 n7 c7)).toArray) := Keep.setRow (Keep.refl wc) HQ.out.2.2.2.2.2.2.2 (fun hn => hn rfl) _
              refine ret_blk rfl g2 _ (eRow k x1 x2 x3 x4 x5 x6 (.slice A7 n7 c7)) _ rfl (hb2'.setRow _) undE rfl (by rw [sizeE]; rfl) rfl ?_
              refine ⟨⟨A7, n7, c7, rfl, hbo.keep hK2 fun j cs fz hjj e1 => ?_⟩, (hj.r.keep hK2 (fun e1 => HQ.out.1 e1.symm)).to (fun hn => HKG.out g hn rfl), ?_⟩
              · subst e1
                have h9 : wc.heap[j]? = _ := hb2'
                rw [hjj] at h9
                injection h9 with h9
                injection h9 with _ h9 _
                exact absurd h9 (by decide)
              · exact (Keep.setRow (K := K0) hj.k HQ.out.2.2.2.2.2.2.2 HQ.out.2.2.2.2.2.2.1 _).less HKL.out
            obtain ⟨em, z, nz⟩ := Z5.out
            cases h5
            · replace z : (_ == (0 : Int)) = true := z
              go_wp2_with fail
              obtain ⟨ra, rb, rc⟩ := opt_f HR_7.out
              refine CutEnd.mk rfl ?_
              unfold JR7
              rw [ra, rb, rc]
              exact ⟨_, HJ.out, BO.nil _, _, _, _, rfl⟩
            · replace z : (_ == (0 : Int)) = false := z
              have hc := text_any wc B (fun i => i ≠ g) g L6 e6 HJ.out.r 131072 (by decide)
              rw [opt_t HR_7.out] at hc
              have HC := Lib.hid hc
              clear hc
              have hx7 : x7.length ≤ 131072 := by have := rtext_len L6 e6; rw [opt_t HR_7.out] at this; exact this
              go_wp2_with fail
              refine HC.out.mono ?_
              rintro r w3 ⟨rfl, hr3, hk3⟩
              have hJ3 := HJ.out.call hr3 hk3 HQ.out.1 HQ.out.2.1 HQ.out.2.2.2.2.2.1
              obtain ⟨v, W, hrun, hgW, hbo, A7, n7, c7, rfl⟩ := conv_bo w3 x7 (by unfold maxLen; omega)
              have hJ4 := hJ3.grow hgW
              have cf := hJ4.b3.cell (i := 7) rfl
              have ff := hJ4.b3.free 7
              have HBO : Hid (BO (W.setCell ⟨g3, 7, none⟩ (.slice A7 n7 c7)) (.slice A7 n7 c7) x7) := Lib.hid (hbo.keep ((Keep.refl W).setCell (B := 0) (K := fun j => j ≠ g3) (p := ⟨g3, 7, none⟩) (Nat.zero_le _) (fun hn => hn rfl) _) fun j cs fz hjj e1 => by
                subst e1
                have h9 : W.heap[j]? = _ := hJ4.b3
                rw [hjj] at h9
                injection h9 with h9
                injection h9 with _ h9 _
                exact absurd h9 (by decide))
              have HJ4 := Lib.hid hJ4
              clear hr3 hk3 hJ3 HC hgW hbo hJ4 hx7
              go_wp2_with fail
              exact CutEnd.mk rfl ⟨_, (HJ4.out.set HQ.out.2.1 HQ.out.2.2.1 HQ.out.2.2.2.1 HQ.out.2.2.2.2.1 7 (.slice A7 n7 c7)), HBO.out, _, _, _, rfl⟩
          obtain ⟨em, z, nz⟩ := Z4.out
          cases h4
          · replace z : (_ == (0 : Int)) = true := z
            go_wp2_with fail
            obtain ⟨ra, rb, rc⟩ := opt_f HR_6.out
            refine CutEnd.mk rfl ?_
            unfold JR
            rw [ra, rb, rc]
            exact HJ.out
          · replace z : (_ == (0 : Int)) = false := z
            have hc := num_any wc B (fun i => i ≠ g) g L5 e5 HJ.out.r 18446744073709551615
            rw [opt_t HR_6.out] at hc
            have HC := Lib.hid hc
            clear hc
            go_wp2_with fail
            refine HC.out.mono ?_
            rintro r w3 ⟨rfl, hr3, hk3⟩
            have hJ3 := HJ.out.call hr3 hk3 HQ.out.1 HQ.out.2.1 HQ.out.2.2.2.2.2.1
            have cf := hJ3.b3.cell (i := 6) rfl
            have ff := hJ3.b3.free 6
            have HJ3 := Lib.hid hJ3
            clear hr3 hk3 hJ3 HC
            go_wp2_with fail
            exact CutEnd.mk rfl (HJ3.out.set HQ.out.2.1 HQ.out.2.2.1 HQ.out.2.2.2.1 HQ.out.2.2.2.2.1 6 (.int .u64 (x6 : Int)))
        obtain ⟨em, z, nz⟩ := Z3.out
        cases h3
        · replace z : (_ == (0 : Int)) = true := z
          go_wp2_with fail
          obtain ⟨ra, rb, rc⟩ := opt_f HR_4.out
          obtain ⟨rd, re, rf⟩ := opt_f HR_5.out
          refine CutEnd.mk rfl ?_
          unfold JR
          rw [rd, re, rf, ra, rb, rc]
          exact HJ.out
        · replace z : (_ == (0 : Int)) = false := z
          have hc := num_any wc B (fun i => i ≠ g) g L3 e3 HJ.out.r 1048576
          rw [opt_t HR_4.out] at hc
          have HC := Lib.hid hc
          clear hc
          have hx4 : x4 ≤ 1048576 := HBD.out.2.2.2.1
          have hx5 : x5 ≤ 4294967295 := HBD.out.2.2.2.2
          go_wp2_with fail
          refine HC.out.mono ?_
          rintro r w3 ⟨rfl, hr3, hk3⟩
          have hJ3 := HJ.out.call hr3 hk3 HQ.out.1 HQ.out.2.1 HQ.out.2.2.2.2.2.1
          have hc := num_any w3 B (fun i => i ≠ g) g L4 e4 hJ3.r 4294967295
          rw [opt_t HR_5.out] at hc
          have HC2 := Lib.hid hc
          have HJ3 := Lib.hid hJ3
          clear hr3 hk3 hJ3 HC hc
          go_wp2_with fail
          refine HC2.out.mono ?_
          rintro r w4 ⟨rfl, hr4, hk4⟩
          have hJ4 := HJ3.out.call hr4 hk4 HQ.out.1 HQ.out.2.1 HQ.out.2.2.2.2.2.1
          have cf := hJ4.b3.cell (i := 4) rfl
          have ff := hJ4.b3.free 4
          have hJ5 := (hJ4.set HQ.out.2.1 HQ.out.2.2.1 HQ.out.2.2.2.1 HQ.out.2.2.2.2.1 4 (.int .i64 (x4 : Int)))
          have cf5 := hJ5.b3.cell (i := 5) rfl
          have ff5 := hJ5.b3.free 5
          have HJ5 := Lib.hid hJ5
          clear hr4 hk4 hJ4 hJ5 HC2
          go_wp2_with fail
          exact CutEnd.mk rfl (HJ5.out.set HQ.out.2.1 HQ.out.2.2.1 HQ.out.2.2.2.1 HQ.out.2.2.2.2.1 5 (.int .u32 (x5 : Int)))
      obtain ⟨em, z, nz⟩ := Z2.out
      cases h2
      · replace z : (_ == (0 : Int)) = true := z
        go_wp2_with fail
        obtain ⟨ra, rb, rc⟩ := opt_f HR_3.out
        refine CutEnd.mk rfl ?_
        unfold JR
        rw [ra, rb, rc]
        exact HJ.out
      · replace z : (_ == (0 : Int)) = false := z
        have hc := num_any wc B (fun i => i ≠ g) g L2 e2 HJ.out.r 1048576
        rw [opt_t HR_3.out] at hc
        have HC := Lib.hid hc
        clear hc
        have hx3 : x3 ≤ 1048576 := HBD.out.2.2.1
        go_wp2_with fail
        refine HC.out.mono ?_
        rintro r w3 ⟨rfl, hr3, hk3⟩
        have hJ3 := HJ.out.call hr3 hk3 HQ.out.1 HQ.out.2.1 HQ.out.2.2.2.2.2.1
        have cf := hJ3.b3.cell (i := 3) rfl
        have ff := hJ3.b3.free 3
        have HJ3 := Lib.hid hJ3
        clear hr3 hk3 hJ3 HC
        go_wp2_with fail
        exact CutEnd.mk rfl (HJ3.out.set HQ.out.2.1 HQ.out.2.2.1 HQ.out.2.2.2.1 HQ.out.2.2.2.2.1 3 (.int .i64 (x3 : Int)))
    obtain ⟨em, z, nz⟩ := Z1.out
    cases h1
    · replace z : (_ == (0 : Int)) = true := z
      go_wp2_with fail
      obtain ⟨ra, rb, rc⟩ := opt_f HR_2.out
      refine CutEnd.mk rfl ?_
      unfold JR
      rw [ra, rb, rc]
      exact HJ.out
    · replace z : (_ == (0 : Int)) = false := z
      have hc := byte_any wc B (fun i => i ≠ g) g L1 e1 HJ.out.r 64
      rw [opt_t HR_2.out] at hc
      have HC := Lib.hid hc
      clear hc
      go_wp2_with fail
      refine HC.out.mono ?_
      rintro r w3 ⟨rfl, hr3, hk3⟩
      have hJ3 := HJ.out.call hr3 hk3 HQ.out.1 HQ.out.2.1 HQ.out.2.2.2.2.2.1
      have cf := hJ3.b3.cell (i := 2) rfl
      have ff := hJ3.b3.free 2
      have HJ3 := Lib.hid hJ3
      clear hr3 hk3 hJ3 HC
      go_wp2_with fail
      exact CutEnd.mk rfl (HJ3.out.set HQ.out.2.1 HQ.out.2.2.1 HQ.out.2.2.2.1 HQ.out.2.2.2.2.1 2 (.int .u8 (x2 : Int)))
  obtain ⟨em, z, nz⟩ := Z0.out
  cases h0
  · replace z : (_ == (0 : Int)) = true := z
    go_wp2_with fail
    obtain ⟨ra, rb, rc⟩ := opt_f HR_1.out
    refine CutEnd.mk rfl ?_
    unfold JR
    rw [ra, rb, rc]
    exact HJ.out
  · replace z : (_ == (0 : Int)) = false := z
    have hc := byte_any W3 B (fun i => i ≠ g) g L0 e0 HJ.out.r 64
    rw [opt_t HR_1.out] at hc
    have HC := Lib.hid hc
    clear hc
    go_wp2_with fail
    refine HC.out.mono ?_
    rintro r w3 ⟨rfl, hr3, hk3⟩
    have hJ3 := HJ.out.call hr3 hk3 HQ.out.1 HQ.out.2.1 HQ.out.2.2.2.2.2.1
    have cf := hJ3.b3.cell (i := 1) rfl
    have ff := hJ3.b3.free 1
    have HJ3 := Lib.hid hJ3
    clear hr3 hk3 hJ3 HC
    go_wp2_with fail
    exact CutEnd.mk rfl (HJ3.out.set HQ.out.2.1 HQ.out.2.2.1 HQ.out.2.2.2.1 HQ.out.2.2.2.2.1 1 (.int .u8 (x1 : Int)))
end Go.Proofs.YtmekdhlcflielaaDoor.ev
