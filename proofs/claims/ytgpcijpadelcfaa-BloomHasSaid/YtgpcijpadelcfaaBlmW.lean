/- The walks of the hints: place, Put, Has, Of, Or, Ones. -/
import Derived.Test.YtgpcijpadelcfaaArr
import Derived.Test.YtgpcijpadelcfaaBloom
import Derived.Test.YtgpcijpadelcfaaBtR4
namespace Go.Proofs.Ytgpcijpadelcfaa.blmW
open Go Go.RowKit Go.Par Go.Kit Go.Proofs.Ytgpcijpadelcfaa.btW

def u64v (x : BitVec 64) : Value := .int .u64 (x.toNat : Int)
def u64s (l : List (BitVec 64)) : List Value := l.map u64v
def pv (p : Nat × Nat) : Value := .agg #[.int .u8 (p.1 : Int), .int .u16 (p.2 : Int)]
abbrev bv (ws : List (BitVec 64)) : Value := .agg (u64s ws).toArray
structure PidOk (p : Nat × Nat) : Prop where
  a : p.1 < 256
  s : p.2 < 65536

theorem or_u32 (x y : Nat) (hx : x < 256) (hy : y < 65536) : bits .or .u32 ((x : Int) * 65536) (y : Int) = ((x * 65536 + y : Nat) : Int) := by
  have := u32_or_nat (x * 65536) y (by omega) (by omega)
  rw [show ((x : Int) * 65536) = ((x * 65536 : Nat) : Int) by omega, this]
  congr 1
  rw [Nat.mul_comm x, show 65536 = 2 ^ 16 from rfl]
  exact (Nat.two_pow_add_eq_or_of_lt (by omega) x).symm
theorem pack_any (a s : Nat) (ha : a < 256) (hs : s < 65536) (w : World) : Calls Try.prog 69 #[.agg #[.int .u8 (a : Int), .int .u16 (s : Int)]] w fun e w' => e = .returned (.int .u32 ((a * 65536 + s : Nat) : Int)) ∧ Grow w w' := by
  have e1 := or_u32 a s ha hs
  go_enter Try.func69, Try.ntmps69
  go_wp2
  go_ret
  exact ⟨rfl, Grow.alloc _ _⟩

def plw (a s k : Nat) : BitVec 64 := BitVec.ofNat 64 (k * 4294967296 + (a * 65536 + s))
set_option maxHeartbeats 400000 in
theorem place_any (a s k : Nat) (ha : a < 256) (hs : s < 65536) (hk : k < 3) (w : World) :
    Calls Try.prog 64 #[.agg #[.int .u8 (a : Int), .int .u16 (s : Int)], .int .i64 (k : Int)] w fun e w' => e = .returned (.int .u8 ((Blm.pl (a, s) (k + 1) : Nat) : Int)) ∧ Grow w w' := by
  have hj := fun W => join_any (k + 1) (a * 65536 + s) (by omega) (by omega) W
  obtain ⟨x, hx⟩ : ∃ x, x = plw a s (k + 1) := ⟨_, rfl⟩
  have hxe : ((k + 1 : Nat) : Int) * 4294967296 + ((a * 65536 + s : Nat) : Int) = (x.toNat : Int) := by
    rw [hx, plw, BitVec.toNat_ofNat]; omega
  have hp : Blm.pl (a, s) (k + 1) = (Bt.mix x).toNat / 16777216 % 256 := by rw [hx]; rfl
  have hm := fun W => mix_any x W
  rw [hp]
  rw [hxe] at hj
  have HJ := Lib.hid hj
  have HM := Lib.hid hm
  generalize Bt.mix x = y at *
  have hy := y.isLt
  have HP := Lib.hid (fun W => pack_any a s ha hs W)
  clear hj hm hp hxe hx
  go_enter Try.func64, Try.ntmps64
  go_wp2_with fail
  refine (HP.out _).mono ?_
  rintro e w1 ⟨rfl, hg⟩
  have HG := Lib.hid hg
  clear hg
  go_wp2_with fail
  refine (HJ.out _).mono ?_
  rintro e w2 ⟨rfl, rfl⟩
  go_wp2_with fail
  refine (HM.out _).mono ?_
  rintro e w2 ⟨rfl, rfl⟩
  go_wp2_with fail
  go_ret
  exact ⟨by first | rfl | (go_num; done) | skip, (Grow.alloc _ _).trans HG.out⟩

theorem len4 {ws : List (BitVec 64)} (h : ws.length = 4) : ∃ a b c d, ws = [a, b, c, d] := by
  match ws, h with
  | [a, b, c, d], _ => exact ⟨a, b, c, d, rfl⟩
theorem infoB : (Try.prog.info? 47).map (·.size) = some 4 := by kernel_rfl
theorem undB : Try.prog.underlying 47 = some (.array 4 22) := by kernel_rfl
def zeros4 : List Value := [.int .u64 0, .int .u64 0, .int .u64 0, .int .u64 0]
def putTo (ws : List (BitVec 64)) (p : Nat × Nat) : Nat → List (BitVec 64)
  | 0 => ws
  | k + 1 => Blm.put1 (putTo ws p k) (Blm.pl p (k + 1))
theorem putTo_len (ws : List (BitVec 64)) (p : Nat × Nat) : ∀ k, (putTo ws p k).length = ws.length
  | 0 => rfl
  | k + 1 => by rw [putTo, Blm.put1_len, putTo_len ws p k]
theorem u64s_at {ws : List (BitVec 64)} {i : Nat} (h : i < ws.length) : (u64s ws)[i]? = some (.int .u64 ((ws.getD i 0#64).toNat : Int)) := by
  simp [u64s, u64v, List.getD_eq_getElem?_getD, h]
theorem u64s_set (ws : List (BitVec 64)) (i : Nat) (x : BitVec 64) : (u64s ws).set i (.int .u64 (x.toNat : Int)) = u64s (ws.set i x) := by simp [u64s, u64v, List.map_set]
theorem all_u64s (V : List (BitVec 64)) : (u64s V).all (·.oneCell') = true := by
  rw [List.all_eq_true]
  intro u hu
  simp only [u64s, List.mem_map] at hu
  obtain ⟨x, _, rfl⟩ := hu
  rfl
theorem and_63' (at_ : Nat) (h : at_ < 256) : bits .and .u8 (at_ : Int) 63 = ((at_ % 64 : Nat) : Int) := by
  have hh : ∀ x : BitVec 8, (x &&& 63#8).toNat = x.toNat % 64 := by decide
  have e : bits .and .u8 (at_ : Int) 63 = ((BitVec.ofNat 8 at_ &&& 63#8).toNat : Int) := by
    rw [BitVec.toNat_and, BitVec.toNat_ofNat, Nat.mod_eq_of_lt h]
    exact u8_and_nat at_ 63 h (by decide)
  rw [e, hh, BitVec.toNat_ofNat]; omega
theorem one_shl (k : Nat) : IntKind.u64.wrap (2 ^ k) = ((1#64 <<< k).toNat : Int) := by
  have := wshl 1#64 k (2 ^ k) rfl
  rw [← this]
  congr 1
  simp

set_option maxRecDepth 100000 in
set_option maxHeartbeats 1000000 in
theorem put_any (ws : List (BitVec 64)) (hl : ws.length = 4) (a s : Nat) (ha : a < 256) (hs : s < 65536) (w : World) :
    Calls Try.prog 35 #[bv ws, .agg #[.int .u8 (a : Int), .int .u16 (s : Int)]] w fun e w' => e = .returned (bv (Blm.put ws (a, s))) ∧ Grow w w' := by
  have hend : Blm.put ws (a, s) = putTo ws (a, s) 3 := rfl
  rw [hend]
  have hl2 := fun k => putTo_len ws (a, s) k
  have h0 : putTo ws (a, s) 0 = ws := rfl
  have hst : ∀ k, putTo ws (a, s) (k + 1) = Blm.put1 (putTo ws (a, s) k) (Blm.pl (a, s) (k + 1)) := fun _ => rfl
  generalize putTo ws (a, s) = F at hl2 hst h0 ⊢
  have HF := Lib.hid h0
  have HL := Lib.hid hl2
  have HS := Lib.hid hst
  have H4 := Lib.hid hl
  clear hend hl2 hst h0
  obtain ⟨x0, x1, x2, x3, rfl⟩ := len4 hl
  clear hl
  show Calls Try.prog 35 #[.agg #[.int .u64 (x0.toNat : Int), .int .u64 (x1.toNat : Int), .int .u64 (x2.toNat : Int), .int .u64 (x3.toNat : Int)], .agg #[.int .u8 (a : Int), .int .u16 (s : Int)]] w fun e w' => e = .returned (bv (F 3)) ∧ Grow w w'
  obtain ⟨g, hg⟩ : ∃ g, g = w.heap.size := ⟨_, rfl⟩
  have HG := Lib.hid hg
  clear hg
  go_enter Try.func35, Try.ntmps35
  go_wp2_with fail
  rw [← HG.out]
  go_loopw [5, 6, 7] (fun _ _ i wr => ∃ k : Nat, k ≤ 3 ∧ i = .int .i64 (k : Int) ∧ Blk wr g 47 (u64s (F k)) ∧ Blk wr (g + 1) 49 [.int .u8 (a : Int), .int .u16 (s : Int)] ∧ Blk wr (g + 1 + 1) 47 zeros4 ∧ Grow w wr) (fun _ _ i _ => 3 - (intOf i).toNat)
  case atStart =>
    refine ⟨0, by omega, rfl, ?_, ?_, ?_, ((Grow.alloc _ _).trans (Grow.alloc _ _)).trans (Grow.alloc _ _)⟩
    · rw [HF.out]
      exact (Blk.new w _ _ (u64s [x0, x1, x2, x3]) rfl HG.out).grow ((Grow.alloc _ _).trans (Grow.alloc _ _))
    · exact (Blk.new _ _ _ _ rfl (by rw [HG.out]; simp)).grow (Grow.alloc _ _)
    · exact Blk.new _ _ _ _ rfl (by rw [HG.out]; simp)
  case round =>
    obtain ⟨k, hk, rfl, b2, b3, b4, hgr⟩ := hrel
    have hgb : w.heap.size ≤ g := Nat.le_of_eq HG.out.symm
    by_cases hlt : k < 3
    · have hp := Blm.pl_lt (a, s) (k + 1)
      have hplace := Lib.hid (fun W => place_any a s k ha hs hlt W)
      have hstep := HS.out k
      have hlen := HL.out k
      have H4' := H4.out
      generalize F k = V at b2 hstep hlen ⊢
      generalize Blm.pl (a, s) (k + 1) = at_ at hp hplace hstep
      unfold Blm.put1 at hstep
      obtain ⟨y, hy⟩ : ∃ y, y = V.getD (at_ / 64) 0#64 := ⟨_, rfl⟩
      obtain ⟨z, hz⟩ : ∃ z, z = 1#64 <<< (at_ % 64) := ⟨_, rfl⟩
      obtain ⟨v, hv⟩ : ∃ v, v = y ||| z := ⟨_, rfl⟩
      rw [← hy, ← hz, ← hv] at hstep
      have hat := u64s_at (ws := V) (i := at_ / 64) (by rw [hlen]; simp; omega)
      rw [← hy] at hat
      have hcell := b2.cell hat
      have hset := u64s_set V (at_ / 64) v
      rw [← hstep] at hset
      have e1 := and_63' at_ hp
      have e2 := one_shl (at_ % 64)
      rw [← hz] at e2
      have e3 : bits .or .u64 (y.toNat : Int) (z.toNat : Int) = (v.toNat : Int) := by rw [hv]; exact or64 rfl rfl
      have c0 := b3.cell (i := 0) rfl
      have c1 := b3.cell (i := 1) rfl
      have f0 := b2.free (at_ / 64)
      have HSET := Lib.hid hset
      have B2 := Lib.hid b2
      have B3 := Lib.hid b3
      have B4 := Lib.hid b4
      have HGR := Lib.hid hgr
      clear hset hstep hlen hy hz hv hat b2 b3 b4 hgr H4'
      go_wp2_with fail
      refine (hplace.out _).mono ?_
      rintro e w1 ⟨rfl, hg1⟩
      have hcell' := hg1.cell hcell
      have f0' := (B2.out.grow hg1).free (at_ / 64)
      have HG1 := Lib.hid hg1
      clear hg1 hcell f0 c0 c1
      go_wp2_with fail
      go_roundw
      case rel =>
        refine ⟨k + 1, by omega, by go_num, ?_, ?_, ?_, Grow.set_ (HGR.out.trans HG1.out) hgb _⟩
        · have := (B2.out.grow HG1.out).set_ (at_ / 64) (.int .u64 (v.toNat : Int))
          rw [HSET.out] at this; exact this
        · exact (B3.out.grow HG1.out).far (by dsimp only; omega) _
        · exact (B4.out.grow HG1.out).far (by dsimp only; omega) _
      case measure => simp [intOf] <;> omega
    · obtain rfl : k = 3 := by omega
      have hlen := HL.out 3
      have h4 := H4.out
      obtain ⟨V, hV⟩ : ∃ V, V = F 3 := ⟨_, rfl⟩
      rw [← hV] at b2 hlen
      have HV := Lib.hid hV
      clear hV
      go_wp2_with (first | (refine load_blk rfl _ _ rfl g rfl _ _ _ b2 undB rfl (by rw [infoB]; simp [u64s] <;> omega) ?_) | (refine store_blk rfl _ _ _ rfl (g + 1 + 1) (u64s V) rfl rfl _ _ b4 (by rw [infoB]; simp [u64s] <;> omega) (by simp [u64s, zeros4] <;> omega) (all_u64s V) ?_))
      refine ret_blk rfl (g + 1 + 1) _ (u64s V) _ rfl (b4.setRow (u64s V)) undB rfl (by rw [infoB]; simp [u64s] <;> omega) rfl ⟨by rw [← HV.out], Grow.setRow hgr (by omega) _⟩

theorem sz64 (w : World) : (sizeOf 22).run Try.prog w = .ok 1 w := by kernel_rfl
theorem undU : Try.prog.underlying 22 = some (.int .u64) := Try.underlying22
theorem u64s_ints (ws : List (BitVec 64)) : u64s ws = ints .u64 (ws.map fun x => (x.toNat : Int)) := by simp [u64s, u64v, ints]
theorem beq_words (a b : List (BitVec 64)) : ((a.map fun x => (x.toNat : Int)) == (b.map fun x => (x.toNat : Int))) = (a == b) := by
  rw [Bool.eq_iff_iff, beq_iff_eq, beq_iff_eq]
  constructor
  · intro h
    exact List.map_inj_right (fun x y hxy => BitVec.eq_of_toNat_eq (by omega)) |>.1 h
  · intro h; rw [h]
theorem eql_words {a b : List (BitVec 64)} (ha : a.length = 4) (hb : b.length = 4) (w : World) :
    (Op.equalIn 10000 47 (.agg (u64s a).toArray) (.agg (u64s b).toArray)).run Try.prog w = .ok (a == b) w := by
  rw [u64s_ints, u64s_ints, ← beq_words]
  exact run_equalIn_ints w 9998 _ _ 4 .u64 undB undU sz64 _ _ (by simpa using ha) (by simpa using hb)

set_option maxRecDepth 100000 in
set_option maxHeartbeats 1000000 in
theorem has_any (ws : List (BitVec 64)) (hl : ws.length = 4) (a s : Nat) (ha : a < 256) (hs : s < 65536) (w : World) :
    Calls Try.prog 37 #[bv ws, .agg #[.int .u8 (a : Int), .int .u16 (s : Int)]] w fun e w' => e = .returned (.bool (Blm.has ws (a, s))) ∧ Grow w w' := by
  have hP := Lib.hid (put_any ws hl a s ha hs)
  have heq := eql_words (a := Blm.put ws (a, s)) (b := ws) (by rw [Blm.put_len]; exact hl) hl
  rw [show (Blm.put ws (a, s) == ws) = Blm.has ws (a, s) by rw [Bool.eq_iff_iff, beq_iff_eq]; exact Blm.put_has hl _] at heq
  generalize Blm.has ws (a, s) = r at heq ⊢
  generalize Blm.put ws (a, s) = V at heq hP
  have H4 := Lib.hid hl
  have HB : Hid (∀ w : World, ∀ g, g = w.heap.size → Blk (w.alloc (.cells (u64s ws).toArray 47)) g 47 (u64s ws)) := Lib.hid fun w g hg => Blk.new w _ _ _ rfl hg
  obtain ⟨x0, x1, x2, x3, rfl⟩ := len4 hl
  clear hl
  obtain ⟨g, hg⟩ : ∃ g, g = w.heap.size := ⟨_, rfl⟩
  have HG := Lib.hid hg
  clear hg
  go_enter Try.func37, Try.ntmps37
  go_wp2_with fail
  rw [← HG.out]
  have b1 := (HB.out w g HG.out).grow (Grow.alloc _ (.cells #[.int .u8 (a : Int), .int .u16 (s : Int)] 49))
  have b2 : Blk ((w.alloc (.cells (u64s [x0, x1, x2, x3]).toArray 47)).alloc (.cells #[.int .u8 (a : Int), .int .u16 (s : Int)] 49)) (g + 1) 49 [.int .u8 (a : Int), .int .u16 (s : Int)] := Blk.new _ _ _ _ rfl (by rw [HG.out]; simp)
  have B1 := Lib.hid b1
  have B2 := Lib.hid b2
  clear b1 b2
  apply (fun (v0 v1 v2 v3 v4 v5 : Value) mono obl tail => wp_region_par (R := Grow) (Φ := phi [veq v0, veq v1, veq v2, veq v3, veq v4, veq v5]) (m := 6) (dls := [[], [], [(5, 0), (6, 1)], [], [(7, 2), (8, 3)], [(9, 4)]]) (ds := [5, 6, 7, 8, 9, 4]) (by kernel_rfl) (by kernel_rfl) (by decide) rfl (Grow.drew _) (fun _ _ _ => Grow.trans) (mono_phi mono) obl tail)
  case obl =>
    refine obls_cons (fun f w' hR hH Q hQ => ?_) ?_
    · skip
      simp only [view, List.foldl]
      go_wp2_with (refine load_blk rfl _ _ rfl g rfl _ _ _ (B1.out.grow hR) undB rfl infoB ?_)
      exact hQ _ _ (Grow.refl _) rfl rfl
    refine obls_cons (fun f w' hR hH Q hQ => ?_) ?_
    · skip
      simp only [view, List.foldl]
      have c0 := (B2.out.grow hR).cell (i := 0) rfl
      have c1 := (B2.out.grow hR).cell (i := 1) rfl
      repeat (first | go_guarded | go_step)
      exact hQ _ _ (Grow.refl _) rfl rfl
    refine obls_cons (fun f w' hR hH Q hQ => ?_) ?_
    · skip
      obtain ⟨h0, h1, -⟩ := hH
      simp only [view, List.foldl, Act.put, List.setIfInBounds_toArray, List.set_cons_zero, List.set_cons_succ]
      rw [show f 0 = _ from h0]
      rw [show f 1 = _ from h1]
      clear h0 h1
      go_wp2_with (go_at_call 35; refine (hP.out _).mono ?_; rintro e w1 ⟨rfl, hg1⟩)
      exact hQ _ _ hg1 rfl rfl
    refine obls_cons (fun f w' hR hH Q hQ => ?_) ?_
    · skip
      simp only [view, List.foldl]
      go_wp2_with (refine load_blk rfl _ _ rfl g rfl _ _ _ (B1.out.grow hR) undB rfl infoB ?_)
      exact hQ _ _ (Grow.refl _) rfl rfl
    refine obls_cons (fun f w' hR hH Q hQ => ?_) ?_
    · skip
      obtain ⟨h2, h3, -⟩ := hH
      simp only [view, List.foldl, Act.put, List.setIfInBounds_toArray, List.set_cons_zero, List.set_cons_succ]
      rw [show f 2 = _ from h2]
      rw [show f 3 = _ from h3]
      clear h2 h3
      repeat (first | go_guarded | go_step)
      exact hQ _ _ (Grow.refl _) rfl rfl
    refine obls_cons (fun f w' hR hH Q hQ => ?_) ?_
    · skip
      obtain ⟨h4, -⟩ := hH
      simp only [view, List.foldl, Act.put, List.setIfInBounds_toArray, List.set_cons_zero, List.set_cons_succ]
      rw [show f 4 = _ from h4]
      clear h4
      repeat (first | go_guarded | go_step)
      exact hQ _ _ (Grow.refl _) rfl rfl
    exact obls_nil
  case mono => exact ⟨Mono.veq _, Mono.veq _, Mono.veq _, Mono.veq _, Mono.veq _, Mono.veq _, trivial⟩
  case tail =>
    intro f w' hR hH
    simp only [view, List.zipIdx, List.foldl, Act.put, List.setIfInBounds_toArray, List.set_cons_zero, List.set_cons_succ, List.drop_succ_cons, List.drop_zero]
    obtain ⟨-, -, -, -, -, q5, -⟩ := hH
    rw [show f 5 = _ from q5]
    clear q5
    generalize f 0 = x0
    generalize f 1 = x1
    generalize f 2 = x2
    generalize f 3 = x3
    generalize f 4 = x4
    go_wp2_with fail
    go_ret
    exact ⟨rfl, ((Grow.alloc _ _).trans (Grow.alloc _ _)).trans hR⟩

/-! patches in a row -/
def pc (l : List (Nat × Nat)) : List Value := l.flatMap fun p => [.int .u8 (p.1 : Int), .int .u16 (p.2 : Int)]
theorem pc_len (l : List (Nat × Nat)) : (pc l).length = l.length * 2 := by
  induction l with
  | nil => rfl
  | cons p l ih => simp only [pc, List.flatMap_cons, List.length_append] at ih ⊢; rw [ih]; simp; omega
theorem pc_at : ∀ (l : List (Nat × Nat)) (k : Nat) (p : Nat × Nat), l[k]? = some p → (pc l)[k * 2]? = some (.int .u8 (p.1 : Int)) ∧ (pc l)[k * 2 + 1]? = some (.int .u16 (p.2 : Int))
  | [], k, p, h => by simp at h
  | q :: l, 0, p, h => by
    simp only [List.getElem?_cons_zero, Option.some.injEq] at h
    subst h
    exact ⟨rfl, rfl⟩
  | q :: l, k + 1, p, h => by
    have := pc_at l k p (by simpa using h)
    rw [show (k + 1) * 2 = k * 2 + 2 by omega]
    exact this
def Pids (w : World) (A : Option Addr) (n : Nat) (l : List (Nat × Nat)) : Prop := l.length = n ∧ Row w A (n * 2) (pc l) ∧ ∀ p ∈ l, p.1 < 256 ∧ p.2 < 65536
theorem Pids.grow {w w' : World} {A : Option Addr} {n : Nat} {l : List (Nat × Nat)} (h : Pids w A n l) (hg : Grow w w') : Pids w' A n l := ⟨h.1, h.2.1.grow hg, h.2.2⟩
theorem Pids.at_ {w : World} {A : Option Addr} {n : Nat} {l : List (Nat × Nat)} (h : Pids w A n l) {k : Nat} (hk : k < n) :
    ∃ b off a s, A = some ⟨b, off, none⟩ ∧ l[k]? = some (a, s) ∧ a < 256 ∧ s < 65536 ∧ w.cell? ⟨b, off + k * 2, none⟩ = some (.int .u8 (a : Int)) ∧ w.cell? ⟨b, off + k * 2 + 1, none⟩ = some (.int .u16 (s : Int)) := by
  obtain ⟨h1, h2, h3⟩ := h
  obtain ⟨b, off, e, hc⟩ := h2.2 (by omega)
  have hl : k < l.length := by omega
  have hx := List.getElem?_eq_getElem hl
  have h4 := h3 l[k] (List.getElem_mem hl)
  obtain ⟨h5, h6⟩ := pc_at l k _ hx
  exact ⟨b, off, l[k].1, l[k].2, e, hx, h4.1, h4.2, hc _ _ h5, by rw [Nat.add_assoc]; exact hc _ _ h6⟩

set_option maxRecDepth 100000 in
set_option maxHeartbeats 1000000 in
theorem of_any (A : Option Addr) (n c : Nat) (l : List (Nat × Nat)) (w : World) (hp : Pids w A n l) (hn : n ≤ maxLen) :
    Calls Try.prog 39 #[.slice A n c] w fun e w' => e = .returned (bv (Blm.of l)) ∧ Grow w w' := by
  unfold maxLen at hn
  have hlen := Lib.hid hp.1
  obtain ⟨g, hg⟩ : ∃ g, g = w.heap.size := ⟨_, rfl⟩
  have HG := Lib.hid hg
  clear hg
  go_enter Try.func39, Try.ntmps39
  go_wp2_with fail
  rw [← HG.out]
  go_loopw [5, 8] (fun _ i wr => ∃ k : Nat, k ≤ n ∧ i = .int .i64 (k : Int) ∧ Blk wr g 47 zeros4 ∧ Blk wr (g + 1) 47 (u64s (Blm.of (l.take k))) ∧ Grow w wr) (fun _ i _ => n - (intOf i).toNat)
  case atStart =>
    refine ⟨0, by omega, rfl, ?_, ?_, (Grow.alloc _ _).trans (Grow.alloc _ _)⟩
    · exact (Blk.new _ _ _ _ rfl HG.out).grow (Grow.alloc _ _)
    · exact Blk.new _ _ _ _ rfl (by rw [HG.out]; simp)
  case round =>
    obtain ⟨k, hk, rfl, b3, b4, hgr⟩ := hrel
    have hgb : w.heap.size ≤ g := Nat.le_of_eq HG.out.symm
    by_cases hlt : k < n
    · obtain ⟨b, off, a, s, rfl, hx, ha, hs, hc0, hc1⟩ := (hp.grow hgr).at_ hlt
      have hsn := Blm.of_snoc l k (a, s) hx
      have hol := Blm.of_len (l.take k)
      have hpl := Blm.put_len (Blm.of (l.take k)) (a, s)
      have hP := Lib.hid (put_any (Blm.of (l.take k)) hol a s ha hs)
      generalize Blm.of (l.take k) = V at *
      generalize Blm.put V (a, s) = V2 at *
      have HS := Lib.hid hsn
      have hsz := hgr.size
      have HGR := Lib.hid hgr
      have B3 := Lib.hid b3
      have B4 := Lib.hid b4
      clear hsn hx b3 b4 hgr
      go_wp2_with (refine load_blk rfl _ _ rfl (g + 1) rfl _ _ _ (B4.out.grow (Grow.alloc _ _)) undB rfl (by rw [infoB]; simp [u64s]; omega) ?_)
      refine (hP.out _).mono ?_
      rintro e w1 ⟨rfl, hg1⟩
      have B4' := Lib.hid ((B4.out.grow (Grow.alloc _ _)).grow hg1)
      have B3' := Lib.hid ((B3.out.grow (Grow.alloc _ _)).grow hg1)
      have HG1 := Lib.hid ((HGR.out.trans (Grow.alloc _ _)).trans hg1)
      clear hg1
      go_wp2_with (refine store_blk rfl _ _ _ rfl (g + 1) (u64s V2) rfl rfl _ _ B4'.out (by rw [infoB]; simp [u64s] <;> omega) (by simp [u64s] <;> omega) (all_u64s V2) ?_)
      go_roundw
      case rel => exact ⟨k + 1, by omega, by go_num, B3'.out.farRow (by omega) _, by rw [HS.out]; exact B4'.out.setRow _, Grow.setRow HG1.out (by omega) _⟩
      case measure => simp [intOf] <;> omega
    · obtain rfl : k = n := by omega
      have hol := Blm.of_len l
      rw [List.take_of_length_le (by rw [hlen.out]; omega)] at b4
      obtain ⟨V, hV⟩ : ∃ V, V = Blm.of l := ⟨_, rfl⟩
      rw [← hV] at b4 hol
      have HV := Lib.hid hV
      clear hV
      go_wp2_with (first | (refine load_blk rfl _ _ rfl (g + 1) rfl _ _ _ b4 undB rfl (by rw [infoB]; simp [u64s] <;> omega) ?_) | (refine store_blk rfl _ _ _ rfl g (u64s V) rfl rfl _ _ b3 (by rw [infoB]; simp [u64s] <;> omega) (by simp [u64s, zeros4] <;> omega) (all_u64s V) ?_))
      refine ret_blk rfl g _ (u64s V) _ rfl (b3.setRow (u64s V)) undB rfl (by rw [infoB]; simp [u64s] <;> omega) rfl ⟨by rw [← HV.out], Grow.setRow hgr (by omega) _⟩

theorem u64s_zip (a b : List (BitVec 64)) (k : Nat) (v : BitVec 64) (hl : a.length = 4) (hk : k < 4) (hx : (Blm.orW a b)[k]? = some v) (h4 : (Blm.orW a b).length = 4) :
    (u64s ((Blm.orW a b).take k ++ a.drop k)).set k (.int .u64 (v.toNat : Int)) = u64s ((Blm.orW a b).take (k + 1) ++ a.drop (k + 1)) := by
  rw [u64s_set]
  congr 1
  rw [List.set_append_right _ _ (by simp; omega), List.take_succ_eq_append_getElem (by omega)]
  have h1 : ((Blm.orW a b).take k).length = k := by simp; omega
  rw [h1, Nat.sub_self, List.drop_eq_getElem_cons (by omega : k < a.length), List.set_cons_zero]
  have : (Blm.orW a b)[k] = v := by rw [List.getElem?_eq_getElem (by omega)] at hx; exact Option.some.inj hx
  simp [this]
set_option maxRecDepth 100000 in
set_option maxHeartbeats 1000000 in
theorem or_any (a b : List (BitVec 64)) (ha : a.length = 4) (hb : b.length = 4) (w : World) :
    Calls Try.prog 43 #[bv a, bv b] w fun e w' => e = .returned (bv (Blm.orW a b)) ∧ Grow w w' := by
  have h4 := Blm.orW_len ha hb
  have hat : ∀ k, k < 4 → ∃ x y v, a[k]? = some x ∧ b[k]? = some y ∧ (Blm.orW a b)[k]? = some v ∧ v = x ||| y := by
    intro k hk
    refine ⟨a[k], b[k], _, List.getElem?_eq_getElem (by omega), List.getElem?_eq_getElem (by omega), ?_, rfl⟩
    simp [Blm.orW, ha, hb, hk]
  have hzip := fun k v hk hx => u64s_zip a b k v ha hk hx h4
  have hmid : ∀ k, k ≤ 4 → ((Blm.orW a b).take k ++ a.drop k).length = 4 := by intro k hk; simp; omega
  have h0 : (Blm.orW a b).take 0 ++ a.drop 0 = a := by simp
  have hend : (Blm.orW a b).take 4 ++ a.drop 4 = Blm.orW a b := by
    rw [List.take_of_length_le (by omega), List.drop_of_length_le (by omega)]; simp
  have hmat : ∀ k x, k < 4 → a[k]? = some x → ((Blm.orW a b).take k ++ a.drop k)[k]? = some x := by
    intro k x hk hx
    rw [List.getElem?_append_right (by simp; omega)]
    simp [h4, show min k 4 = k by omega, hx]
  obtain ⟨F, hF⟩ : ∃ F : Nat → List (BitVec 64), F = fun k => (Blm.orW a b).take k ++ a.drop k := ⟨_, rfl⟩
  obtain ⟨O, hO⟩ : ∃ O, O = Blm.orW a b := ⟨_, rfl⟩
  have F0 := Lib.hid (show F 0 = a by rw [hF]; exact h0)
  have F4 := Lib.hid (show F 4 = O by rw [hF, hO]; exact hend)
  have FL := Lib.hid (show ∀ k, k ≤ 4 → (F k).length = 4 by rw [hF]; exact hmid)
  have FA := Lib.hid (show ∀ k x, k < 4 → a[k]? = some x → (F k)[k]? = some x by rw [hF]; exact hmat)
  have FS := Lib.hid (show ∀ k v, k < 4 → O[k]? = some v → (u64s (F k)).set k (.int .u64 (v.toNat : Int)) = u64s (F (k + 1)) by rw [hF, hO]; exact hzip)
  have AT := Lib.hid (show ∀ k, k < 4 → ∃ x y v, a[k]? = some x ∧ b[k]? = some y ∧ O[k]? = some v ∧ v = x ||| y by rw [hO]; exact hat)
  have OL := Lib.hid (show O.length = 4 by rw [hO]; exact h4)
  rw [← hO]
  have HA := Lib.hid ha
  have HB := Lib.hid hb
  clear hF hO h4 hat hzip hmid h0 hend hmat ha hb
  obtain ⟨g, hg⟩ : ∃ g, g = w.heap.size := ⟨_, rfl⟩
  have HG := Lib.hid hg
  clear hg
  have HN : Hid (∀ (W : World) (V : List (BitVec 64)) g, g = W.heap.size → Blk (W.alloc (.cells (u64s V).toArray 47)) g 47 (u64s V)) := Lib.hid fun w V g hg => Blk.new w _ _ _ rfl hg
  obtain ⟨x0, x1, x2, x3, ra⟩ := len4 HA.out
  obtain ⟨y0, y1, y2, y3, rb⟩ := len4 HB.out
  have RA := Lib.hid ra
  have RB := Lib.hid rb
  rw [ra, rb]
  clear ra rb
  go_enter Try.func43, Try.ntmps43
  go_wp2_with (refine load_blk rfl _ _ rfl (w.heap.size + 1) rfl _ (u64s b) _ (by rw [RB.out]; exact (HN.out (w.alloc _) _ _ (by simp)).grow (Grow.alloc _ _)) undB rfl (by rw [infoB, RB.out]; rfl) ?_)
  rw [← HG.out]
  go_loopw [5, 6, 8] (fun _ _ i wr => ∃ k : Nat, k ≤ 4 ∧ i = .int .i64 (k : Int) ∧ Blk wr g 47 (u64s (F k)) ∧ Blk wr (g + 1 + 1) 47 zeros4 ∧ Grow w wr) (fun _ _ i _ => 4 - (intOf i).toNat)
  case atStart =>
    refine ⟨0, by omega, rfl, ?_, ?_, ((Grow.alloc _ _).trans (Grow.alloc _ _)).trans (Grow.alloc _ _)⟩
    · rw [F0.out, RA.out]
      exact (HN.out w _ g HG.out).grow ((Grow.alloc _ _).trans (Grow.alloc _ _))
    · exact Blk.new _ _ _ _ rfl (by rw [HG.out]; simp)
  case round =>
    obtain ⟨k, hk, rfl, b3, b4, hgr⟩ := hrel
    have hgb : w.heap.size ≤ g := Nat.le_of_eq HG.out.symm
    by_cases hlt : k < 4
    · obtain ⟨x, y, v, h1, h2, h3, h5⟩ := AT.out k hlt
      have h6 := FS.out k v hlt h3
      have h7 := FA.out k x hlt h1
      have hidx := run_index_arr (P := Try.prog) undB undU sz64 (u64s b) k (.int .u64 (y.toNat : Int)) hlt (by simp [u64s, u64v, h2])
      have e3 : bits .or .u64 (x.toNat : Int) (y.toNat : Int) = (v.toNat : Int) := by rw [h5]; exact or64 rfl rfl
      have hcell := b3.cell (i := k) (u := .int .u64 (x.toNat : Int)) (by simp [u64s, u64v, h7])
      have f0 := b3.free k
      have HS := Lib.hid h6
      have B3 := Lib.hid b3
      have B4 := Lib.hid b4
      have HGR := Lib.hid hgr
      clear h1 h2 h3 h5 h6 h7 b3 b4 hgr
      go_wp2_with fail
      go_roundw
      case rel =>
        refine ⟨k + 1, by omega, by go_num, ?_, B4.out.far (by dsimp only; omega) _, Grow.set_ HGR.out hgb _⟩
        have := B3.out.set_ k (.int .u64 (v.toNat : Int))
        rw [HS.out] at this; exact this
      case measure => simp [intOf] <;> omega
    · obtain rfl : k = 4 := by omega
      rw [F4.out] at b3
      have hol := OL.out
      go_wp2_with (first | (refine load_blk rfl _ _ rfl g rfl _ _ _ b3 undB rfl (by rw [infoB]; simp [u64s] <;> omega) ?_) | (refine store_blk rfl _ _ _ rfl (g + 1 + 1) (u64s O) rfl rfl _ _ b4 (by rw [infoB]; simp [u64s] <;> omega) (by simp [u64s, zeros4] <;> omega) (all_u64s O) ?_))
      refine ret_blk rfl (g + 1 + 1) _ (u64s O) _ rfl (b4.setRow (u64s O)) undB rfl (by rw [infoB]; simp [u64s] <;> omega) rfl ⟨rfl, Grow.setRow hgr (by omega) _⟩

theorem ones_take (ws : List (BitVec 64)) (k : Nat) (x : BitVec 64) (h : ws[k]? = some x) : Blm.ones (ws.take (k + 1)) = Blm.ones (ws.take k) + Bt.ones x := by
  rw [List.take_succ_eq_append_getElem (List.getElem?_eq_some_iff.1 h).1, (List.getElem?_eq_some_iff.1 h).2]
  simp [Blm.ones]
theorem ones_bound (ws : List (BitVec 64)) : ∀ k, Blm.ones (ws.take k) ≤ 64 * k
  | 0 => by simp [Blm.ones]
  | k + 1 => by
    have ih := ones_bound ws k
    cases h : ws[k]? with
    | none => rw [List.take_of_length_le (by have := List.getElem?_eq_none_iff.1 h; omega)] ; rw [List.take_of_length_le (by have := List.getElem?_eq_none_iff.1 h; omega)] at ih; omega
    | some x => rw [ones_take ws k x h]; have := Bt.ones_le x; omega
set_option maxRecDepth 100000 in
set_option maxHeartbeats 1000000 in
theorem ones_any' (a : List (BitVec 64)) (ha : a.length = 4) (w : World) :
    Calls Try.prog 41 #[bv a] w fun e w' => e = .returned (.int .i64 (Blm.ones a : Int)) ∧ Grow w w' := by
  have HA := Lib.hid ha
  clear ha
  obtain ⟨x0, x1, x2, x3, ra⟩ := len4 HA.out
  have RA := Lib.hid ra
  obtain ⟨N, hN⟩ : ∃ N, N = Blm.ones a := ⟨_, rfl⟩
  rw [← hN]
  have HN := Lib.hid hN
  rw [ra]
  clear ra hN
  go_enter Try.func41, Try.ntmps41
  go_wp2_with (refine load_blk rfl _ _ rfl w.heap.size rfl _ (u64s a) _ (by rw [RA.out]; exact Blk.new _ _ _ _ rfl rfl) undB rfl (by rw [infoB, RA.out]; rfl) ?_)
  go_loopw [3, 5, 7] (fun n _ i wr => ∃ k : Nat, k ≤ 4 ∧ i = .int .i64 (k : Int) ∧ n = .int .i64 (Blm.ones (a.take k) : Int) ∧ Grow w wr) (fun _ _ i _ => 4 - (intOf i).toNat)
  case atStart => exact ⟨0, by omega, rfl, by simp [Blm.ones], Grow.alloc _ _⟩
  case round =>
    obtain ⟨k, hk, rfl, rfl, hgr⟩ := hrel
    by_cases hlt : k < 4
    · have hak := List.getElem?_eq_getElem (l := a) (i := k) (by rw [HA.out]; exact hlt)
      generalize a[k]'(by rw [HA.out]; exact hlt) = x at hak
      have hidx := run_index_arr (P := Try.prog) undB undU sz64 (u64s a) k (.int .u64 (x.toNat : Int)) hlt (by simp [u64s, u64v, hak])
      have HT := Lib.hid (ones_take a k x hak)
      have hb := ones_bound a k
      have hb2 := Bt.ones_le x
      have HO := Lib.hid (ones_any x)
      generalize Blm.ones (a.take k) = m at HT hb ⊢
      generalize Bt.ones x = m2 at HT hb2 HO
      clear hak
      go_wp2_with (go_at_call 19; refine (HO.out _).mono ?_; rintro e w1 ⟨rfl, rfl⟩)
      go_roundw
      case rel => exact ⟨k + 1, by omega, by go_num, by rw [HT.out]; go_num, hgr⟩
      case measure => simp [intOf] <;> omega
    · obtain rfl : k = 4 := by omega
      rw [List.take_of_length_le (by rw [HA.out]; omega), ← HN.out]
      go_wp2_with fail
      go_ret
      exact ⟨rfl, hgr⟩
end Go.Proofs.Ytgpcijpadelcfaa.blmW
