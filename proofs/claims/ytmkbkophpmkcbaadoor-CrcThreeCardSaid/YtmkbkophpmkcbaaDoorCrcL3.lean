/- The statement CrcThree: the walk. -/
import Derived.Test.YtmkbkophpmkcbaaDoorCrcL
import Derived.WalkLawsBesides
namespace Go.Proofs.YtmkbkophpmkcbaaDoor.crcL
open Go Go.RowKit Go.Par Go.Kit Go.Proofs.YtmkbkophpmkcbaaDoor.crcW

/-- three lists, turned by one another -/
def xor3 (a b c : List UInt8) : List UInt8 := List.zipWith (· ^^^ ·) (List.zipWith (· ^^^ ·) a b) c
theorem xor3_len (a b c : List UInt8) {m : Nat} (h1 : a.length = m) (h2 : b.length = m) (h3 : c.length = m) : (xor3 a b c).length = m := by simp [xor3, h1, h2, h3]
theorem xor3_at {a b c : List UInt8} {k : Nat} {x y z : UInt8} (h1 : a[k]? = some x) (h2 : b[k]? = some y) (h3 : c[k]? = some z) : (xor3 a b c)[k]? = some (x ^^^ y ^^^ z) := by
  simp [xor3, List.getElem?_zipWith, h1, h2, h3]
theorem bv_xor3 (a b c : List UInt8) : bv (xor3 a b c) = List.zipWith (· ^^^ ·) (List.zipWith (· ^^^ ·) (bv a) (bv b)) (bv c) := by
  have : ∀ a b : List UInt8, (List.zipWith (· ^^^ ·) a b).map UInt8.toBitVec = List.zipWith (· ^^^ ·) (a.map UInt8.toBitVec) (b.map UInt8.toBitVec) := by
    intro a
    induction a with
    | nil => intro b; rfl
    | cons x a ih =>
      intro b
      cases b with
      | nil => rfl
      | cons y b => simp [ih]
  simp only [bv, xor3, this]
theorem sum_xor3 (a b c : List UInt8) (h1 : a.length = b.length) (h2 : b.length = c.length) : sum [xor3 a b c] = sum [a] ^^^ sum [b] ^^^ sum [c] := by
  rw [sum_one, sum_one, sum_one, sum_one, bv_xor3]
  exact Crc.more_three _ _ _ (by simpa [bv] using h1) (by simpa [bv] using h2)
theorem take_at {l : List UInt8} {k m : Nat} {x : UInt8} (h : l[k]? = some x) (hk : k < m) : (l.take m)[k]? = some x := by rw [List.getElem?_take, if_pos hk, h]
/-- a row that is filled from the left -/
def fill (xs : List UInt8) (m k : Nat) : List Value := u8s (xs.take k) ++ List.replicate (m - k) (.int .u8 0)
theorem fill_set {xs : List UInt8} {m k : Nat} {v : UInt8} (hl : xs.length = m) (hk : k < m) (hv : xs[k]? = some v) : (fill xs m k).set k (.int .u8 (v.toNat : Int)) = fill xs m (k + 1) := by
  have h1 : (u8s (xs.take k)).length = k := by simp [u8s]; omega
  unfold fill
  rw [List.set_append_right _ _ (by omega), h1, Nat.sub_self, show m - k = (m - (k + 1)) + 1 by omega, List.replicate_succ, List.set_cons_zero,
    List.take_succ_eq_append_getElem (by omega)]
  have : xs[k] = v := by rw [List.getElem?_eq_getElem (by omega)] at hv; exact Option.some.inj hv
  simp [u8s, u8v, this]
theorem fill_at {xs : List UInt8} {m k : Nat} (hl : xs.length = m) (hk : k < m) : (fill xs m k)[k]? = some (.int .u8 0) := by
  have h1 : (u8s (xs.take k)).length = k := by simp [u8s]; omega
  unfold fill
  rw [List.getElem?_append_right (by omega), h1, Nat.sub_self, List.getElem?_replicate, if_pos (by omega)]
theorem fill_end {xs : List UInt8} {m : Nat} (hl : xs.length = m) : fill xs m m = u8s xs := by
  unfold fill
  rw [Nat.sub_self, List.take_of_length_le (by omega)]; simp
theorem xorb {x y v : UInt8} (h : v = x ^^^ y) : bits .xor .u8 (x.toNat : Int) (y.toNat : Int) = (v.toNat : Int) := by
  subst h
  have := xor8 (x := x.toBitVec) (y := y.toBitVec) rfl rfl
  rw [← UInt8.toBitVec_xor] at this
  exact this

set_option maxRecDepth 100000 in
set_option maxHeartbeats 2000000 in
theorem three_walk (A : Option Addr) (n c : Nat) (l : List UInt8) (A2 : Option Addr) (n2 c2 : Nat) (l2 : List UInt8) (A3 : Option Addr) (n3 c3 : Nat) (l3 : List UInt8) (w : World)
    (hb : Bytes w A n l) (hc : n ≤ c) (hm : c ≤ maxLen) (hb2 : Bytes w A2 n2 l2) (hc2 : n2 ≤ c2) (hm2 : c2 ≤ maxLen) (hb3 : Bytes w A3 n3 l3) (hc3 : n3 ≤ c3) (hm3 : c3 ≤ maxLen) (ht : Tab w) :
    Calls Tryd.prog 6 #[.slice A n c, .slice A2 n2 c2, .slice A3 n3 c3] w fun e w' => e = .returned (.bool true) ∧ Grow w w' := by
  unfold maxLen at hm hm2 hm3
  obtain ⟨m, hmm⟩ : ∃ m, m = min (min (min n n2) n3) 500 := ⟨_, rfl⟩
  have hmin : ∀ W : World, (Builtin.min_ #[3, 3, 3, 3] 3 #[.int .i64 (n : Int), .int .i64 (n2 : Int), .int .i64 (n3 : Int), .int .i64 500]).run Tryd.prog W = .ok (.int .i64 (m : Int)) W := run_min4 _ _ n n2 n3 500 m hmm
  have h1 : m ≤ n := by omega
  have h2 : m ≤ n2 := by omega
  have h3 : m ≤ n3 := by omega
  have h4 : m ≤ 500 := by omega
  clear hmm
  have hmk := make_row (P := Tryd.prog) (z := .int .u8 0) Tryd.underlying25 i8 i8z i8s rfl m (by rw [i8b]; omega) (by omega)
  have hl1 := hb.len
  have hl2 := hb2.len
  have hl3 := hb3.len
  obtain ⟨xs, hxs⟩ : ∃ xs, xs = xor3 (l.take m) (l2.take m) (l3.take m) := ⟨_, rfl⟩
  have hxl : xs.length = m := by rw [hxs]; exact xor3_len _ _ _ (by simp; omega) (by simp; omega) (by simp; omega)
  have hsx : sum [xs] = sum [l.take m] ^^^ sum [l2.take m] ^^^ sum [l3.take m] := by rw [hxs]; exact sum_xor3 _ _ (l3.take m) (by simp; omega) (by simp; omega)
  have HX := Lib.hid hxs
  have HL := Lib.hid hxl
  have HS := Lib.hid hsx
  clear hxs hxl hsx hl1 hl2 hl3
  obtain ⟨g, hgw⟩ : ∃ g, g = w.heap.size := ⟨_, rfl⟩
  have HG := Lib.hid hgw
  go_enter Tryd.func6, Tryd.ntmps6
  go_wp2_with fail
  have hblk0 : Blk (w.alloc (.cells (Array.replicate m (.int .u8 0)) 5)) g 5 (fill xs m 0) := Blk.new w _ _ _ (by simp [fill, u8s]) hgw
  have hgr0 := Grow.alloc w (.cells (Array.replicate m (.int .u8 0)) 5)
  generalize w.alloc (.cells (Array.replicate m (.int .u8 0)) 5) = w1 at hblk0 hgr0 ⊢
  rw [← hgw]
  clear hmk hmin hgw
  go_loopw [9] (fun i wr => ∃ k : Nat, k ≤ m ∧ i = .int .i64 k ∧ Grow w wr ∧ Blk wr g 5 (fill xs m k)) (fun i _ => m - (intOf i).toNat)
  case atStart => exact ⟨0, Nat.zero_le _, rfl, hgr0, hblk0⟩
  case round =>
    obtain ⟨k, hk, rfl, hg, hblk⟩ := hrel
    clear hblk0 hgr0
    by_cases hlt : k < m
    · obtain ⟨b, off, x, rfl, hx, hcell⟩ := (hb.grow hg).at_ (k := k) (by omega)
      obtain ⟨b2, off2, x2, rfl, hx2, hcell2⟩ := (hb2.grow hg).at_ (k := k) (by omega)
      obtain ⟨b3, off3, x3, rfl, hx3, hcell3⟩ := (hb3.grow hg).at_ (k := k) (by omega)
      obtain ⟨y, hy⟩ : ∃ y, y = x ^^^ x2 := ⟨_, rfl⟩
      obtain ⟨z, hz⟩ : ∃ z, z = y ^^^ x3 := ⟨_, rfl⟩
      have hxk : xs[k]? = some z := by rw [HX.out, hz, hy]; exact xor3_at (take_at hx hlt) (take_at hx2 hlt) (take_at hx3 hlt)
      have e1 := xorb hy
      have e2 := xorb hz
      have HF := Lib.hid (fill_set HL.out hlt hxk)
      have hc0 := hblk.cell (fill_at HL.out hlt)
      have hf0 := hblk.free k
      have hgb : w.heap.size ≤ g := Nat.le_of_eq HG.out.symm
      clear hy hz hxk hx hx2 hx3
      go_wp2_with fail
      apply (fun (v0 v1 v2 v3 v4 v5 v6 v7 v8 v9 v10 v11 v12 v13 v14 v15 v16 : Value) mono obl tail => wp_region_par (R := Grow) (Φ := phi [veq v0, veq v1, veq v2, veq v3, veq v4, veq v5, veq v6, veq v7, veq v8, veq v9, veq v10, veq v11, veq v12, veq v13, veq v14, veq v15, veq v16]) (m := 17) (dls := [[], [], [], [], [(26, 2), (27, 3)], [(28, 4)], [], [], [(30, 6), (31, 7)], [(32, 8)], [(29, 5), (33, 9)], [], [], [(35, 11), (36, 12)], [(37, 13)], [(34, 10), (38, 14)], [(24, 0), (25, 1)]]) (ds := [24, 25, 26, 27, 28, 29, 30, 31, 32, 33, 34, 35, 36, 37, 38, 39, 40]) (by kernel_rfl) (by kernel_rfl) (by decide) rfl (Grow.drew _) (fun _ _ _ => Grow.trans) (mono_phi mono) obl tail)
      case obl =>
        refine obls_cons (fun f w' hR hH Q hQ => ?_) ?_
        · skip
          have c1 := hR.cell hcell
          have c2 := hR.cell hcell2
          have c3 := hR.cell hcell3
          simp only [view, List.foldl]
          repeat (first | go_guarded | go_step)
          exact hQ _ _ (Grow.refl _) rfl rfl
        refine obls_cons (fun f w' hR hH Q hQ => ?_) ?_
        · skip
          have c1 := hR.cell hcell
          have c2 := hR.cell hcell2
          have c3 := hR.cell hcell3
          simp only [view, List.foldl]
          repeat (first | go_guarded | go_step)
          exact hQ _ _ (Grow.refl _) rfl rfl
        refine obls_cons (fun f w' hR hH Q hQ => ?_) ?_
        · skip
          have c1 := hR.cell hcell
          have c2 := hR.cell hcell2
          have c3 := hR.cell hcell3
          simp only [view, List.foldl]
          repeat (first | go_guarded | go_step)
          exact hQ _ _ (Grow.refl _) rfl rfl
        refine obls_cons (fun f w' hR hH Q hQ => ?_) ?_
        · skip
          have c1 := hR.cell hcell
          have c2 := hR.cell hcell2
          have c3 := hR.cell hcell3
          simp only [view, List.foldl]
          repeat (first | go_guarded | go_step)
          exact hQ _ _ (Grow.refl _) rfl rfl
        refine obls_cons (fun f w' hR hH Q hQ => ?_) ?_
        · skip
          have c1 := hR.cell hcell
          have c2 := hR.cell hcell2
          have c3 := hR.cell hcell3
          obtain ⟨h2, h3, -⟩ := hH
          simp only [view, List.foldl, Act.put, List.setIfInBounds_toArray, List.set_cons_zero, List.set_cons_succ]
          rw [show f 2 = _ from h2]
          rw [show f 3 = _ from h3]
          clear h2 h3
          repeat (first | go_guarded | go_step)
          exact hQ _ _ (Grow.refl _) rfl rfl
        refine obls_cons (fun f w' hR hH Q hQ => ?_) ?_
        · skip
          have c1 := hR.cell hcell
          have c2 := hR.cell hcell2
          have c3 := hR.cell hcell3
          obtain ⟨h4, -⟩ := hH
          simp only [view, List.foldl, Act.put, List.setIfInBounds_toArray, List.set_cons_zero, List.set_cons_succ]
          rw [show f 4 = _ from h4]
          clear h4
          repeat (first | go_guarded | go_step)
          exact hQ _ _ (Grow.refl _) rfl rfl
        refine obls_cons (fun f w' hR hH Q hQ => ?_) ?_
        · skip
          have c1 := hR.cell hcell
          have c2 := hR.cell hcell2
          have c3 := hR.cell hcell3
          simp only [view, List.foldl]
          repeat (first | go_guarded | go_step)
          exact hQ _ _ (Grow.refl _) rfl rfl
        refine obls_cons (fun f w' hR hH Q hQ => ?_) ?_
        · skip
          have c1 := hR.cell hcell
          have c2 := hR.cell hcell2
          have c3 := hR.cell hcell3
          simp only [view, List.foldl]
          repeat (first | go_guarded | go_step)
          exact hQ _ _ (Grow.refl _) rfl rfl
        refine obls_cons (fun f w' hR hH Q hQ => ?_) ?_
        · skip
          have c1 := hR.cell hcell
          have c2 := hR.cell hcell2
          have c3 := hR.cell hcell3
          obtain ⟨h6, h7, -⟩ := hH
          simp only [view, List.foldl, Act.put, List.setIfInBounds_toArray, List.set_cons_zero, List.set_cons_succ]
          rw [show f 6 = _ from h6]
          rw [show f 7 = _ from h7]
          clear h6 h7
          repeat (first | go_guarded | go_step)
          exact hQ _ _ (Grow.refl _) rfl rfl
        refine obls_cons (fun f w' hR hH Q hQ => ?_) ?_
        · skip
          have c1 := hR.cell hcell
          have c2 := hR.cell hcell2
          have c3 := hR.cell hcell3
          obtain ⟨h8, -⟩ := hH
          simp only [view, List.foldl, Act.put, List.setIfInBounds_toArray, List.set_cons_zero, List.set_cons_succ]
          rw [show f 8 = _ from h8]
          clear h8
          repeat (first | go_guarded | go_step)
          exact hQ _ _ (Grow.refl _) rfl rfl
        refine obls_cons (fun f w' hR hH Q hQ => ?_) ?_
        · skip
          have c1 := hR.cell hcell
          have c2 := hR.cell hcell2
          have c3 := hR.cell hcell3
          obtain ⟨h5, h9, -⟩ := hH
          simp only [view, List.foldl, Act.put, List.setIfInBounds_toArray, List.set_cons_zero, List.set_cons_succ]
          rw [show f 5 = _ from h5]
          rw [show f 9 = _ from h9]
          clear h5 h9
          repeat (first | go_guarded | go_step)
          exact hQ _ _ (Grow.refl _) rfl rfl
        refine obls_cons (fun f w' hR hH Q hQ => ?_) ?_
        · skip
          have c1 := hR.cell hcell
          have c2 := hR.cell hcell2
          have c3 := hR.cell hcell3
          simp only [view, List.foldl]
          repeat (first | go_guarded | go_step)
          exact hQ _ _ (Grow.refl _) rfl rfl
        refine obls_cons (fun f w' hR hH Q hQ => ?_) ?_
        · skip
          have c1 := hR.cell hcell
          have c2 := hR.cell hcell2
          have c3 := hR.cell hcell3
          simp only [view, List.foldl]
          repeat (first | go_guarded | go_step)
          exact hQ _ _ (Grow.refl _) rfl rfl
        refine obls_cons (fun f w' hR hH Q hQ => ?_) ?_
        · skip
          have c1 := hR.cell hcell
          have c2 := hR.cell hcell2
          have c3 := hR.cell hcell3
          obtain ⟨h11, h12, -⟩ := hH
          simp only [view, List.foldl, Act.put, List.setIfInBounds_toArray, List.set_cons_zero, List.set_cons_succ]
          rw [show f 11 = _ from h11]
          rw [show f 12 = _ from h12]
          clear h11 h12
          repeat (first | go_guarded | go_step)
          exact hQ _ _ (Grow.refl _) rfl rfl
        refine obls_cons (fun f w' hR hH Q hQ => ?_) ?_
        · skip
          have c1 := hR.cell hcell
          have c2 := hR.cell hcell2
          have c3 := hR.cell hcell3
          obtain ⟨h13, -⟩ := hH
          simp only [view, List.foldl, Act.put, List.setIfInBounds_toArray, List.set_cons_zero, List.set_cons_succ]
          rw [show f 13 = _ from h13]
          clear h13
          repeat (first | go_guarded | go_step)
          exact hQ _ _ (Grow.refl _) rfl rfl
        refine obls_cons (fun f w' hR hH Q hQ => ?_) ?_
        · skip
          have c1 := hR.cell hcell
          have c2 := hR.cell hcell2
          have c3 := hR.cell hcell3
          obtain ⟨h10, h14, -⟩ := hH
          simp only [view, List.foldl, Act.put, List.setIfInBounds_toArray, List.set_cons_zero, List.set_cons_succ]
          rw [show f 10 = _ from h10]
          rw [show f 14 = _ from h14]
          clear h10 h14
          repeat (first | go_guarded | go_step)
          exact hQ _ _ (Grow.refl _) rfl rfl
        refine obls_cons (fun f w' hR hH Q hQ => ?_) ?_
        · skip
          have c1 := hR.cell hcell
          have c2 := hR.cell hcell2
          have c3 := hR.cell hcell3
          obtain ⟨h0, h1, -⟩ := hH
          simp only [view, List.foldl, Act.put, List.setIfInBounds_toArray, List.set_cons_zero, List.set_cons_succ]
          rw [show f 0 = _ from h0]
          rw [show f 1 = _ from h1]
          clear h0 h1
          repeat (first | go_guarded | go_step)
          exact hQ _ _ (Grow.refl _) rfl rfl
        exact obls_nil
      case mono => exact ⟨Mono.veq _, Mono.veq _, Mono.veq _, Mono.veq _, Mono.veq _, Mono.veq _, Mono.veq _, Mono.veq _, Mono.veq _, Mono.veq _, Mono.veq _, Mono.veq _, Mono.veq _, Mono.veq _, Mono.veq _, Mono.veq _, Mono.veq _, trivial⟩
      case tail =>
        intro f w' hR hH
        simp only [view, List.zipIdx, List.foldl, Act.put, List.setIfInBounds_toArray, List.set_cons_zero, List.set_cons_succ]
        obtain ⟨-, -, -, -, -, -, -, -, -, -, -, -, -, -, -, q15, q16, -⟩ := hH
        rw [show f 15 = _ from q15]
        rw [show f 16 = _ from q16]
        clear q15 q16
        generalize f 0 = x0
        generalize f 1 = x1
        generalize f 2 = x2
        generalize f 3 = x3
        generalize f 4 = x4
        generalize f 5 = x5
        generalize f 6 = x6
        generalize f 7 = x7
        generalize f 8 = x8
        generalize f 9 = x9
        generalize f 10 = x10
        generalize f 11 = x11
        generalize f 12 = x12
        generalize f 13 = x13
        generalize f 14 = x14
        have c0 := hR.cell hc0
        have hblk' := hblk.grow hR
        have f0 := hblk'.free k
        go_wp2
        go_roundw
        case rel => exact ⟨k + 1, by omega, by go_num, Grow.set_ (hg.trans hR) hgb _, by have := hblk'.set_ k (.int .u8 (z.toNat : Int)); rwa [HF.out] at this⟩
        case measure => simp [intOf]; omega
    · obtain rfl : k = m := by omega
      have hbx : Bytes wr (some ⟨g, 0, none⟩) k xs := by
        have := hblk.row
        rw [fill_end HL.out, show (u8s xs).length = k by rw [← HL.out]; simp [u8s]] at this
        exact this
      have ht' := ht.grow hg
      have hb' := (hb.grow hg).take h1
      have hb2' := (hb2.grow hg).take h2
      have hb3' := (hb3.grow hg).take h3
      have hs1 := slice_hi (P := Tryd.prog) Tryd.underlying25 i8 A n c k (by omega)
      have hs2 := slice_hi (P := Tryd.prog) Tryd.underlying25 i8 A2 n2 c2 k (by omega)
      have hs3 := slice_hi (P := Tryd.prog) Tryd.underlying25 i8 A3 n3 c3 k (by omega)
      obtain ⟨S1, hS1⟩ : ∃ S, sum [l.take k] = S := ⟨_, rfl⟩
      obtain ⟨S2, hS2⟩ : ∃ S, sum [l2.take k] = S := ⟨_, rfl⟩
      obtain ⟨S3, hS3⟩ : ∃ S, sum [l3.take k] = S := ⟨_, rfl⟩
      obtain ⟨S4, hS4⟩ : ∃ S, S = S1 ^^^ S2 := ⟨_, rfl⟩
      obtain ⟨S5, hS5⟩ : ∃ S, S = S4 ^^^ S3 := ⟨_, rfl⟩
      have hk1 := Lib.hid (sum_as hS1)
      have hk2 := Lib.hid (sum_as hS2)
      have hk3 := Lib.hid (sum_as hS3)
      have hkx := Lib.hid (sum_as (ls := [xs]) (S := S5) (by rw [HS.out, hS5, hS4, hS1, hS2, hS3]))
      have e4 : bits .xor .u32 (S1.toNat : Int) (S2.toNat : Int) = (S4.toNat : Int) := by subst hS4; exact xor32 rfl rfl
      have e5 : bits .xor .u32 (S4.toNat : Int) (S3.toNat : Int) = (S5.toNat : Int) := by subst hS5; exact xor32 rfl rfl
      clear hS1 hS2 hS3 hS4 hS5
      go_wp2_with fail
      apply (fun (v0 v2 v3 v4 v5 v7 v8 v9 v10 v12 v13 v14 v15 v16 v18 v19 v20 v21 v22 v23 v24 : Value) mono obl tail => wp_region_par (R := Grow) (Φ := phi [veq v0, (IsParts [xs]), veq v2, veq v3, veq v4, veq v5, (IsParts [l.take k]), veq v7, veq v8, veq v9, veq v10, (IsParts [l2.take k]), veq v12, veq v13, veq v14, veq v15, veq v16, (IsParts [l3.take k]), veq v18, veq v19, veq v20, veq v21, veq v22, veq v23, veq v24]) (m := 25) (dls := [[], [(41, 0)], [(42, 1)], [], [], [(44, 3), (45, 4)], [(46, 5)], [(47, 6)], [], [], [(49, 8), (50, 9)], [(51, 10)], [(52, 11)], [(48, 7), (53, 12)], [], [], [(55, 14), (56, 15)], [(57, 16)], [(58, 17)], [(54, 13), (59, 18)], [(43, 2), (60, 19)], [(61, 20)], [(62, 21)], [(62, 21), (63, 22)], [(64, 23)]]) (ds := [41, 42, 43, 44, 45, 46, 47, 48, 49, 50, 51, 52, 53, 54, 55, 56, 57, 58, 59, 60, 61, 62, 63, 64, 6]) (by kernel_rfl) (by kernel_rfl) (by decide) rfl (Grow.drew _) (fun _ _ _ => Grow.trans) (mono_phi mono) obl tail)
      case obl =>
        refine obls_cons (fun f w' hR hH Q hQ => ?_) ?_
        · skip
          simp only [view, List.foldl]
          repeat (first | go_guarded | go_step)
          exact hQ _ _ (Grow.refl _) rfl rfl
        refine obls_cons (fun f w' hR hH Q hQ => ?_) ?_
        · skip
          obtain ⟨h0, -⟩ := hH
          simp only [view, List.foldl, Act.put, List.setIfInBounds_toArray, List.set_cons_zero, List.set_cons_succ]
          rw [show f 0 = _ from h0]
          clear h0
          repeat (first | go_guarded | go_step)
          exact hQ _ _ (Grow.alloc _ _) ⟨_, _, _, rfl, by decide, Parts.one _ _ rfl (Sl.mk (hbx.grow hR) (Nat.le_refl _) (by unfold maxLen; omega))⟩ rfl
        refine obls_cons (fun f w' hR hH Q hQ => ?_) ?_
        · skip
          obtain ⟨h1, -⟩ := hH
          simp only [view, List.foldl, Act.put, List.setIfInBounds_toArray, List.set_cons_zero, List.set_cons_succ]
          generalize f 1 = u1 at h1 ⊢
          replace h1 : (IsParts [xs]) u1 w' := h1
          obtain ⟨A1, n1, c1, rfl, hn1, hp1⟩ := h1
          go_wp2_with (go_at_call 18; refine (hkx.out _ _ _ _ hp1 hn1 (ht'.grow hR)).mono ?_; rintro e w1 ⟨rfl, rfl⟩)
          exact hQ _ _ (Grow.refl _) rfl rfl
        refine obls_cons (fun f w' hR hH Q hQ => ?_) ?_
        · skip
          simp only [view, List.foldl]
          repeat (first | go_guarded | go_step)
          exact hQ _ _ (Grow.refl _) rfl rfl
        refine obls_cons (fun f w' hR hH Q hQ => ?_) ?_
        · skip
          simp only [view, List.foldl]
          repeat (first | go_guarded | go_step)
          exact hQ _ _ (Grow.refl _) rfl rfl
        refine obls_cons (fun f w' hR hH Q hQ => ?_) ?_
        · skip
          obtain ⟨h3, h4, -⟩ := hH
          simp only [view, List.foldl, Act.put, List.setIfInBounds_toArray, List.set_cons_zero, List.set_cons_succ]
          rw [show f 3 = _ from h3]
          rw [show f 4 = _ from h4]
          clear h3 h4
          repeat (first | go_guarded | go_step)
          exact hQ _ _ (Grow.refl _) rfl rfl
        refine obls_cons (fun f w' hR hH Q hQ => ?_) ?_
        · skip
          obtain ⟨h5, -⟩ := hH
          simp only [view, List.foldl, Act.put, List.setIfInBounds_toArray, List.set_cons_zero, List.set_cons_succ]
          rw [show f 5 = _ from h5]
          clear h5
          repeat (first | go_guarded | go_step)
          exact hQ _ _ (Grow.alloc _ _) ⟨_, _, _, rfl, by decide, Parts.one _ _ rfl (Sl.mk (hb'.grow hR) (by omega) (by unfold maxLen; omega))⟩ rfl
        refine obls_cons (fun f w' hR hH Q hQ => ?_) ?_
        · skip
          obtain ⟨h6, -⟩ := hH
          simp only [view, List.foldl, Act.put, List.setIfInBounds_toArray, List.set_cons_zero, List.set_cons_succ]
          generalize f 6 = u6 at h6 ⊢
          replace h6 : (IsParts [l.take k]) u6 w' := h6
          obtain ⟨A1, n1, c1, rfl, hn1, hp1⟩ := h6
          go_wp2_with (go_at_call 18; refine (hk1.out _ _ _ _ hp1 hn1 (ht'.grow hR)).mono ?_; rintro e w1 ⟨rfl, rfl⟩)
          exact hQ _ _ (Grow.refl _) rfl rfl
        refine obls_cons (fun f w' hR hH Q hQ => ?_) ?_
        · skip
          simp only [view, List.foldl]
          repeat (first | go_guarded | go_step)
          exact hQ _ _ (Grow.refl _) rfl rfl
        refine obls_cons (fun f w' hR hH Q hQ => ?_) ?_
        · skip
          simp only [view, List.foldl]
          repeat (first | go_guarded | go_step)
          exact hQ _ _ (Grow.refl _) rfl rfl
        refine obls_cons (fun f w' hR hH Q hQ => ?_) ?_
        · skip
          obtain ⟨h8, h9, -⟩ := hH
          simp only [view, List.foldl, Act.put, List.setIfInBounds_toArray, List.set_cons_zero, List.set_cons_succ]
          rw [show f 8 = _ from h8]
          rw [show f 9 = _ from h9]
          clear h8 h9
          repeat (first | go_guarded | go_step)
          exact hQ _ _ (Grow.refl _) rfl rfl
        refine obls_cons (fun f w' hR hH Q hQ => ?_) ?_
        · skip
          obtain ⟨h10, -⟩ := hH
          simp only [view, List.foldl, Act.put, List.setIfInBounds_toArray, List.set_cons_zero, List.set_cons_succ]
          rw [show f 10 = _ from h10]
          clear h10
          repeat (first | go_guarded | go_step)
          exact hQ _ _ (Grow.alloc _ _) ⟨_, _, _, rfl, by decide, Parts.one _ _ rfl (Sl.mk (hb2'.grow hR) (by omega) (by unfold maxLen; omega))⟩ rfl
        refine obls_cons (fun f w' hR hH Q hQ => ?_) ?_
        · skip
          obtain ⟨h11, -⟩ := hH
          simp only [view, List.foldl, Act.put, List.setIfInBounds_toArray, List.set_cons_zero, List.set_cons_succ]
          generalize f 11 = u11 at h11 ⊢
          replace h11 : (IsParts [l2.take k]) u11 w' := h11
          obtain ⟨A1, n1, c1, rfl, hn1, hp1⟩ := h11
          go_wp2_with (go_at_call 18; refine (hk2.out _ _ _ _ hp1 hn1 (ht'.grow hR)).mono ?_; rintro e w1 ⟨rfl, rfl⟩)
          exact hQ _ _ (Grow.refl _) rfl rfl
        refine obls_cons (fun f w' hR hH Q hQ => ?_) ?_
        · skip
          obtain ⟨h7, h12, -⟩ := hH
          simp only [view, List.foldl, Act.put, List.setIfInBounds_toArray, List.set_cons_zero, List.set_cons_succ]
          rw [show f 7 = _ from h7]
          rw [show f 12 = _ from h12]
          clear h7 h12
          repeat (first | go_guarded | go_step)
          exact hQ _ _ (Grow.refl _) rfl rfl
        refine obls_cons (fun f w' hR hH Q hQ => ?_) ?_
        · skip
          simp only [view, List.foldl]
          repeat (first | go_guarded | go_step)
          exact hQ _ _ (Grow.refl _) rfl rfl
        refine obls_cons (fun f w' hR hH Q hQ => ?_) ?_
        · skip
          simp only [view, List.foldl]
          repeat (first | go_guarded | go_step)
          exact hQ _ _ (Grow.refl _) rfl rfl
        refine obls_cons (fun f w' hR hH Q hQ => ?_) ?_
        · skip
          obtain ⟨h14, h15, -⟩ := hH
          simp only [view, List.foldl, Act.put, List.setIfInBounds_toArray, List.set_cons_zero, List.set_cons_succ]
          rw [show f 14 = _ from h14]
          rw [show f 15 = _ from h15]
          clear h14 h15
          repeat (first | go_guarded | go_step)
          exact hQ _ _ (Grow.refl _) rfl rfl
        refine obls_cons (fun f w' hR hH Q hQ => ?_) ?_
        · skip
          obtain ⟨h16, -⟩ := hH
          simp only [view, List.foldl, Act.put, List.setIfInBounds_toArray, List.set_cons_zero, List.set_cons_succ]
          rw [show f 16 = _ from h16]
          clear h16
          repeat (first | go_guarded | go_step)
          exact hQ _ _ (Grow.alloc _ _) ⟨_, _, _, rfl, by decide, Parts.one _ _ rfl (Sl.mk (hb3'.grow hR) (by omega) (by unfold maxLen; omega))⟩ rfl
        refine obls_cons (fun f w' hR hH Q hQ => ?_) ?_
        · skip
          obtain ⟨h17, -⟩ := hH
          simp only [view, List.foldl, Act.put, List.setIfInBounds_toArray, List.set_cons_zero, List.set_cons_succ]
          generalize f 17 = u17 at h17 ⊢
          replace h17 : (IsParts [l3.take k]) u17 w' := h17
          obtain ⟨A1, n1, c1, rfl, hn1, hp1⟩ := h17
          go_wp2_with (go_at_call 18; refine (hk3.out _ _ _ _ hp1 hn1 (ht'.grow hR)).mono ?_; rintro e w1 ⟨rfl, rfl⟩)
          exact hQ _ _ (Grow.refl _) rfl rfl
        refine obls_cons (fun f w' hR hH Q hQ => ?_) ?_
        · skip
          obtain ⟨h13, h18, -⟩ := hH
          simp only [view, List.foldl, Act.put, List.setIfInBounds_toArray, List.set_cons_zero, List.set_cons_succ]
          rw [show f 13 = _ from h13]
          rw [show f 18 = _ from h18]
          clear h13 h18
          repeat (first | go_guarded | go_step)
          exact hQ _ _ (Grow.refl _) rfl rfl
        refine obls_cons (fun f w' hR hH Q hQ => ?_) ?_
        · skip
          obtain ⟨h2, h19, -⟩ := hH
          simp only [view, List.foldl, Act.put, List.setIfInBounds_toArray, List.set_cons_zero, List.set_cons_succ]
          rw [show f 2 = _ from h2]
          rw [show f 19 = _ from h19]
          clear h2 h19
          repeat (first | go_guarded | go_step)
          exact hQ _ _ (Grow.refl _) rfl rfl
        refine obls_cons (fun f w' hR hH Q hQ => ?_) ?_
        · skip
          obtain ⟨h20, -⟩ := hH
          simp only [view, List.foldl, Act.put, List.setIfInBounds_toArray, List.set_cons_zero, List.set_cons_succ]
          rw [show f 20 = _ from h20]
          clear h20
          repeat (first | go_guarded | go_step)
          exact hQ _ _ (Grow.refl _) rfl rfl
        refine obls_cons (fun f w' hR hH Q hQ => ?_) ?_
        · skip
          obtain ⟨h21, -⟩ := hH
          simp only [view, List.foldl, Act.put, List.setIfInBounds_toArray, List.set_cons_zero, List.set_cons_succ]
          rw [show f 21 = _ from h21]
          clear h21
          go_wp2_with (go_at_call 15; refine (works_any _ (ht'.grow hR)).mono ?_; rintro e w1 ⟨rfl, hg2⟩)
          exact hQ _ _ hg2 rfl rfl
        refine obls_cons (fun f w' hR hH Q hQ => ?_) ?_
        · skip
          obtain ⟨h21, h22, -⟩ := hH
          simp only [view, List.foldl, Act.put, List.setIfInBounds_toArray, List.set_cons_zero, List.set_cons_succ]
          rw [show f 21 = _ from h21]
          rw [show f 22 = _ from h22]
          clear h21 h22
          repeat (first | go_guarded | go_step)
          exact hQ _ _ (Grow.refl _) rfl rfl
        refine obls_cons (fun f w' hR hH Q hQ => ?_) ?_
        · skip
          obtain ⟨h23, -⟩ := hH
          simp only [view, List.foldl, Act.put, List.setIfInBounds_toArray, List.set_cons_zero, List.set_cons_succ]
          rw [show f 23 = _ from h23]
          clear h23
          repeat (first | go_guarded | go_step)
          exact hQ _ _ (Grow.refl _) rfl rfl
        exact obls_nil
      case mono => exact ⟨Mono.veq _, IsParts.mono, Mono.veq _, Mono.veq _, Mono.veq _, Mono.veq _, IsParts.mono, Mono.veq _, Mono.veq _, Mono.veq _, Mono.veq _, IsParts.mono, Mono.veq _, Mono.veq _, Mono.veq _, Mono.veq _, Mono.veq _, IsParts.mono, Mono.veq _, Mono.veq _, Mono.veq _, Mono.veq _, Mono.veq _, Mono.veq _, Mono.veq _, trivial⟩
      case tail =>
        intro f w' hR hH
        simp only [view, List.zipIdx, List.foldl, Act.put, List.setIfInBounds_toArray, List.set_cons_zero, List.set_cons_succ]
        obtain ⟨-, -, -, -, -, -, -, -, -, -, -, -, -, -, -, -, -, -, -, -, -, -, -, -, q24, -⟩ := hH
        rw [show f 24 = _ from q24]
        clear q24
        generalize f 0 = x0
        generalize f 1 = x1
        generalize f 2 = x2
        generalize f 3 = x3
        generalize f 4 = x4
        generalize f 5 = x5
        generalize f 6 = x6
        generalize f 7 = x7
        generalize f 8 = x8
        generalize f 9 = x9
        generalize f 10 = x10
        generalize f 11 = x11
        generalize f 12 = x12
        generalize f 13 = x13
        generalize f 14 = x14
        generalize f 15 = x15
        generalize f 16 = x16
        generalize f 17 = x17
        generalize f 18 = x18
        generalize f 19 = x19
        generalize f 20 = x20
        generalize f 21 = x21
        generalize f 22 = x22
        generalize f 23 = x23
        go_wp2
        go_ret
        exact ⟨rfl, hg.trans hR⟩
end Go.Proofs.YtmkbkophpmkcbaaDoor.crcL
