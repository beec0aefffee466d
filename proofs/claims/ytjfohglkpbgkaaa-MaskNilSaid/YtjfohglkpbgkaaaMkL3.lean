/- The statement MaskNil. -/
import Derived.Test.YtjfohglkpbgkaaaMkL
namespace Go.Proofs.Ytjfohglkpbgkaaa.mkL
open Go Go.RowKit Go.Par Go.Kit Go.Proofs.Ytjfohglkpbgkaaa.Mk Go.Proofs.Ytjfohglkpbgkaaa.mkW

def no : Nat → Bool := fun _ => false
theorem no_put (i : Int) : (fitB 0 i && !memI no i) = false ∧ putS 0 no i = no := by
  have h : fitB 0 i = false := by unfold fitB; rw [Bool.eq_false_iff]; intro h; simp only [Bool.and_eq_true, decide_eq_true_eq] at h; omega
  exact ⟨by rw [h]; rfl, by unfold putS; rw [h]; rfl⟩
theorem no_mem (i : Int) : memI no i = false := by unfold memI no; exact Bool.and_false _
theorem no_del (i : Int) : delS no i = no := by unfold delS; rw [no_mem]; rfl
theorem no_uni (T : Nat → Bool) : uni no T 0 = no := by funext j; simp [uni, no]
theorem no_uni2 (n : Nat) : uni no no n = no := by funext j; simp [uni, no]
theorem no_int (T : Nat → Bool) : int no T = no := by funext j; simp [int, no]
theorem no_next (n : Nat) (a : Int) : nextN n no a = -1 := nextN_none (fun _ _ _ => rfl)
theorem no_elems (n : Nat) : elems n no = [] := by unfold elems no; simp
theorem no_all (n : Nat) (T : Nat → Bool) : allIn n no T = true := allIn_of (fun j h => by cases h)
theorem far_blk {w w' : World} {B gp g : Nat} {t : TypeId} {cs : List Value} (h : Blk w g t cs) (hk : Keep B (fun k => k ≠ gp) w w') (hn : g ≠ gp) : Blk w' g t cs := hk.blk h hn

set_option maxRecDepth 100000 in
set_option maxHeartbeats 2000000 in
theorem none_ms (w : World) (B gp bi bt g n : Nat) (h : Option Nat) (T : Nat → Bool) (i : Int) (hi1 : i ≤ 9223372036854775807) (mp : MS w gp none 0 no) (mt : MS w g h n T) (hg : g ≠ gp) (hh : ∀ k, h = some k → k ≠ gp)
    (cb : Blk w bi 3 [.int .i64 i]) (ct : Blk w bt 24 [.pointer (some ⟨g, 0, none⟩)]) (hbi : bi ≠ gp) (hbt : bt ≠ gp) (hB : B ≤ gp) (hBw : B ≤ w.heap.size) :
    Calls Try.prog 37 #[.pointer (some ⟨gp, 0, none⟩), .pointer (some ⟨bi, 0, none⟩), .pointer (some ⟨bt, 0, none⟩)] w fun e w' => e = .returned (.bool true) ∧ MS w' gp none 0 no ∧ Keep B (fun k => k ≠ gp) w w' := by
  have HFR : Hid (Free B (fun k => k ≠ gp) gp none) := Lib.hid (free_of hB (fun h => h rfl) (fun k hk => by cases hk))
  have H0 := Lib.hid (room_any w gp none 0 no mp)
  have hput := put_any w B (fun k => k ≠ gp) gp none 0 no mp HFR.out i
  rw [(no_put i).1, (no_put i).2] at hput
  have H1 := Lib.hid hput
  have c0 := cb.cell (i := 0) rfl
  have CB := Lib.hid cb
  have CT := Lib.hid ct
  have MT := Lib.hid mt
  clear mp mt cb ct hput
  go_enter Try.func37, Try.ntmps37
  go_wp2_with fail
  refine H0.out.mono ?_
  rintro e w' ⟨rfl, rfl⟩
  go_wp2_with fail
  refine H1.out.mono ?_
  rintro e w1 ⟨rfl, m1, k1⟩
  have c1 := (far_blk CB.out k1 hbi).cell (i := 0) rfl
  have hdr := drop_any w1 B (fun k => k ≠ gp) gp none 0 no m1 HFR.out i
  rw [no_mem, no_del] at hdr
  have H2 := Lib.hid hdr
  have K1 := Lib.hid k1
  clear m1 k1 hdr c0 H1
  go_wp2_with fail
  refine H2.out.mono ?_
  rintro e w2 ⟨rfl, m2, k2⟩
  have K2 := Lib.hid (K1.out.trans k2)
  have c2 := (far_blk CB.out K2.out hbi).cell (i := 0) rfl
  have hhas := has_any w2 gp none 0 no m2 i
  rw [no_mem] at hhas
  have H3 := Lib.hid hhas
  have c2t := (far_blk CT.out K2.out hbt).cell (i := 0) rfl
  have MT2 := Lib.hid (MT.out.keep K2.out (.inr hg) (fun k hk => .inr (hh k hk)))
  have SZ2 : Hid (B ≤ w2.heap.size) := Lib.hid (by have := K2.out.size; omega)
  have hor := or_two (K := fun k => k ≠ gp) m2 HFR.out SZ2.out MT2.out (.inr hg) (fun k hk => .inr (hh k hk))
  rw [no_uni, diff_same] at hor
  have H4 := Lib.hid hor
  clear m2 k2 hhas hor c1 H2
  go_wp2_with fail
  refine H3.out.mono ?_
  rintro e w' ⟨rfl, rfl⟩
  go_wp2_with fail
  refine H4.out.mono ?_
  rintro e w3 ⟨rfl, m3, k3⟩
  have K3 := Lib.hid (K2.out.trans k3)
  have c3t := (far_blk CT.out K3.out hbt).cell (i := 0) rfl
  have MT3 := Lib.hid (MT.out.keep K3.out (.inr hg) (fun k hk => .inr (hh k hk)))
  have SZ3 : Hid (B ≤ w3.heap.size) := Lib.hid (by have := K3.out.size; omega)
  have hand := and_two (K := fun k => k ≠ gp) m3 HFR.out SZ3.out MT3.out (.inr hg) (fun k hk => .inr (hh k hk))
  rw [no_int, diff_same] at hand
  have H5 := Lib.hid hand
  clear m3 k3 hand c2 c2t H3 H4
  go_wp2_with fail
  refine H5.out.mono ?_
  rintro e w4 ⟨rfl, m4, k4⟩
  have K4 := Lib.hid (K3.out.trans k4)
  have c4 := (far_blk CB.out K4.out hbi).cell (i := 0) rfl
  have hco := count_any w4 gp none 0 no m4
  rw [no_elems] at hco
  have hnx := next_any w4 gp none 0 no m4 i hi1
  rw [no_next] at hnx
  have hli := list_any w4 gp none 0 no m4
  rw [no_elems] at hli
  have H6 := Lib.hid hco
  have H7 := Lib.hid hnx
  have H8 := Lib.hid hli
  have M4 := Lib.hid m4
  have SZ4 : Hid (B ≤ w4.heap.size) := Lib.hid (by have := K4.out.size; omega)
  clear m4 k4 hco hnx hli c3t H5
  go_wp2_with fail
  refine H6.out.mono ?_
  rintro e w' ⟨rfl, rfl⟩
  go_wp2_with fail
  refine H7.out.mono ?_
  rintro e w' ⟨rfl, rfl⟩
  go_wp2_with fail
  refine H8.out.mono ?_
  rintro e w5 ⟨v5, rfl, ho5, hg5⟩
  replace ho5 : w5.ownsRow w4.heap.size 3 1 v5 0 [] := ho5
  obtain ⟨A5, c5, rfl, -, -, -⟩ := own_form ho5
  have HG5 := Lib.hid hg5
  clear ho5 hg5 H8
  go_wp2_with fail
  go_ret
  exact ⟨rfl, M4.out.grow HG5.out, K4.out.trans (Keep.of HG5.out SZ4.out)⟩

set_option maxRecDepth 100000 in
set_option maxHeartbeats 2000000 in
theorem none_nil (w : World) (bi bt : Nat) (p : Value) (i : Int) (cb : Blk w bi 3 [.int .i64 i]) (ct : Blk w bt 24 [p]) :
    Calls Try.prog 37 #[.pointer none, .pointer (some ⟨bi, 0, none⟩), .pointer (some ⟨bt, 0, none⟩)] w fun e w' => e = .returned (.bool true) ∧ w = w' := by
  have c0 := cb.cell (i := 0) rfl
  have c1 := ct.cell (i := 0) rfl
  clear cb ct
  go_enter Try.func37, Try.ntmps37
  go_wp2_with fail
  refine (room_nil w).mono ?_
  rintro e w' ⟨rfl, rfl⟩
  go_wp2_with fail
  refine (put_nil w i).mono ?_
  rintro e w' ⟨rfl, rfl⟩
  go_wp2_with fail
  refine (drop_nil w i).mono ?_
  rintro e w' ⟨rfl, rfl⟩
  go_wp2_with fail
  refine (has_nil w i).mono ?_
  rintro e w' ⟨rfl, rfl⟩
  go_wp2_with fail
  refine (or_nil w p).mono ?_
  rintro e w' ⟨rfl, rfl⟩
  go_wp2_with fail
  refine (and_nil w p).mono ?_
  rintro e w' ⟨rfl, rfl⟩
  go_wp2_with fail
  refine (count_nil w).mono ?_
  rintro e w' ⟨rfl, rfl⟩
  go_wp2_with fail
  refine (next_nil w i).mono ?_
  rintro e w' ⟨rfl, rfl⟩
  go_wp2_with fail
  refine (list_nil w).mono ?_
  rintro e w' ⟨rfl, rfl⟩
  go_wp2_with fail
  go_ret
  exact ⟨rfl, rfl⟩

set_option maxRecDepth 100000 in
set_option maxHeartbeats 2000000 in
theorem nil_walk (N0 i : Int) (hn0 : -9223372036854775808 ≤ N0) (hn1 : N0 ≤ 9223372036854775807) (hi1 : i ≤ 9223372036854775807) (w : World) :
    Calls Try.prog 5 #[.int .i64 N0, .int .i64 i] w fun e w' => e = .returned (.bool true) ∧ Grow w w' := by
  have hnew := new_any N0 (w.alloc (.cells #[.int .i64 i] 3)) hn0 hn1
  obtain ⟨b, hb⟩ : ∃ b, b = w.heap.size := ⟨_, rfl⟩
  rw [show (w.alloc (.cells #[.int .i64 i] 3)).heap.size = b + 1 by simp [hb]] at hnew
  obtain ⟨N, hN⟩ : ∃ N, N = clampN N0 := ⟨_, rfl⟩
  have hmax := fun ts t W => run_max2i (P := Try.prog) ts t N0 0 (max N0 0) rfl W
  have hmin := fun ts t W => run_min2i (P := Try.prog) ts t (max N0 0) 65536 (N : Int) (by rw [hN]; unfold clampN; omega) W
  rw [← hN] at hnew
  have hN6 : N ≤ 65536 := by rw [hN]; exact clampN_le N0
  generalize max N0 0 = n' at hmax hmin
  have H1 := Lib.hid hnew
  have CB0 : Hid (Blk (w.alloc (.cells #[.int .i64 i] 3)) b 3 [.int .i64 i]) := Lib.hid (Blk.new w _ _ _ rfl hb)
  have HB := Lib.hid hb
  have HMX := Lib.hid hmax
  have HMN := Lib.hid hmin
  clear hnew hN hb hmax hmin
  go_enter Try.func5, Try.ntmps5
  go_wp2_with fail
  refine H1.out.mono ?_
  rintro e w1 ⟨rfl, m1, hg1⟩
  obtain ⟨s, hs⟩ : ∃ s, s = w1.heap.size := ⟨_, rfl⟩
  have HS := Lib.hid hs
  have lt1 := m1.lt
  rw [← hs] at lt1
  have hsz : b + 1 ≤ s := by omega
  obtain ⟨W, hW⟩ : ∃ W, W = (w1.alloc (.cells #[.pointer (some ⟨b + 1 + 1, 0, none⟩)] 24)).alloc (.cells #[.int .i64 0, .slice none 0 0] 52) := ⟨_, rfl⟩
  have hgW : Grow w1 W := by rw [hW]; exact (Grow.alloc _ _).trans (Grow.alloc _ _)
  have CB : Hid (Blk W b 3 [.int .i64 i]) := Lib.hid ((CB0.out.grow hg1).grow hgW)
  have CT : Hid (Blk W s 24 [.pointer (some ⟨b + 1 + 1, 0, none⟩)]) := Lib.hid (by rw [hW]; exact (Blk.new _ _ _ _ rfl hs).grow (Grow.alloc _ _))
  have MP : Hid (MS W (s + 1) none 0 no) := Lib.hid ⟨none, 0, [], by rw [hW]; exact Blk.new _ _ _ _ rfl (by simp [hs]), World.ownsRow_nil _ _ _ _, rfl, (fun k hk => by cases hk), good_nil⟩
  have MT : Hid (MS W (b + 1 + 1) (some (b + 1)) N no) := Lib.hid (m1.grow hgW)
  have HGW : Hid (Grow w W) := Lib.hid (((Grow.alloc w _).trans hg1).trans hgW)
  have hsW : W.heap.size = s + 2 := by rw [hW]; simp [hs]
  have HSW := Lib.hid hsW
  have HWW := Lib.hid hW
  have lt2 : b + 1 + 1 < s := lt1.1
  have N1 := Lib.hid (none_nil W b s _ i CB.out CT.out)
  have N2 := Lib.hid (none_ms W b (s + 1) b s (b + 1 + 1) N (some (b + 1)) no i hi1 MP.out MT.out (by omega) (fun k hk => by injection hk; omega) CB.out CT.out (by omega) (by omega) (by omega) (by omega))
  clear m1 hg1 lt1 hgW hW hsW hs H1
  go_wp2_with fail
  rw [← HB.out, ← HS.out, HWW.out.symm]
  refine N1.out.mono ?_
  rintro e w' ⟨rfl, rfl⟩
  go_wp2_with fail
  refine N2.out.mono ?_
  rintro e w2 ⟨rfl, mp2, k2⟩
  have MP2 := Lib.hid mp2
  have MT2 := Lib.hid (MT.out.keep k2 (.inr (show b + 1 + 1 ≠ s + 1 by omega)) (fun k hk => .inr (show k ≠ s + 1 by injection hk; omega)))
  have CT2 := Lib.hid (far_blk CT.out k2 (show s ≠ s + 1 by omega))
  have G2 : Hid (Grow w w2) := Lib.hid (k2.grow HGW.out HB.out)
  have S2 : Hid (b ≤ w2.heap.size) := Lib.hid (by have := k2.size; have := HSW.out; omega)
  have c2 := CT2.out.cell (i := 0) rfl
  have next0 : ∀ a : Int, Calls Try.prog 30 #[.pointer none, .int .i64 a] w2 fun e w' => e = .returned (.int .i64 (nextN 0 no a)) ∧ w2 = w' := fun a => by rw [no_next]; exact next_nil w2 a
  have has0 : ∀ a : Int, Calls Try.prog 28 #[.pointer none, .int .i64 a] w2 fun e w' => e = .returned (.bool (memI no a)) ∧ w2 = w' := fun a => by rw [no_mem]; exact has_nil w2 a
  have w1p := within_gen w2 (.pointer none) (.pointer (some ⟨s + 1, 0, none⟩)) 0 no no (by decide) (fun j h => by cases h) (fun a _ => next0 a) (fun a => has_any w2 (s + 1) none 0 no mp2 a)
  have w2p := within_gen w2 (.pointer (some ⟨s + 1, 0, none⟩)) (.pointer none) 0 no no (by decide) (fun j h => by cases h) (fun a ha => next_any w2 (s + 1) none 0 no mp2 a ha) has0
  have w1t := within_gen w2 (.pointer none) (.pointer (some ⟨b + 1 + 1, 0, none⟩)) 0 no no (by decide) (fun j h => by cases h) (fun a _ => next0 a) (fun a => has_any w2 _ _ N no MT2.out a)
  rw [no_all] at w1p w2p w1t
  have SM := Lib.hid (same_gen w2 _ _ _ _ w1p w2p)
  have WT := Lib.hid w1t
  have hfree : Free b (fun k => k ≠ b + 1 + 1 ∧ k ≠ b + 1) (b + 1 + 1) (some (b + 1)) := free_of (by omega) (fun h => h.1 rfl) (fun k hk => ⟨by injection hk; omega, fun h => h.2 (by injection hk; omega)⟩)
  have hor := or_none (K := fun k => k ≠ b + 1 + 1 ∧ k ≠ b + 1) MT2.out hfree S2.out
  rw [show uni no (fun _ => false) N = no from no_uni2 N, diff_same] at hor
  have OR := Lib.hid hor
  have HFR := Lib.hid hfree
  clear mp2 k2 w1p w2p w1t next0 has0 hfree hor N1 N2
  go_wp2_with fail
  refine (copy_nil w2).mono ?_
  rintro e w' ⟨rfl, rfl⟩
  go_wp2_with fail
  refine SM.out.mono ?_
  rintro e w' ⟨rfl, rfl⟩
  go_wp2_with fail
  refine WT.out.mono ?_
  rintro e w' ⟨rfl, rfl⟩
  go_wp2_with fail
  refine OR.out.mono ?_
  rintro e w3 ⟨rfl, mt3, k3⟩
  have MP3 := Lib.hid (MP2.out.keep k3 (.inr ⟨by omega, by omega⟩) (fun k hk => by cases hk))
  have CT3 := Lib.hid (k3.blk CT2.out ⟨by omega, by omega⟩)
  have G3 : Hid (Grow w w3) := Lib.hid (k3.grow G2.out HB.out)
  have S3 : Hid (b ≤ w3.heap.size) := Lib.hid (by have := k3.size; have := S2.out; omega)
  have c3 := CT3.out.cell (i := 0) rfl
  have hand := and_two (K := fun k => k ≠ b + 1 + 1 ∧ k ≠ b + 1) mt3 HFR.out S3.out MP3.out (.inr ⟨by omega, by omega⟩) (fun k hk => by cases hk)
  rw [no_int, diff_same] at hand
  have AN := Lib.hid hand
  clear mt3 k3 hand c2 SM WT OR
  go_wp2_with fail
  refine AN.out.mono ?_
  rintro e w4 ⟨rfl, mt4, k4⟩
  have CT4 := Lib.hid (k4.blk CT3.out ⟨by omega, by omega⟩)
  have G4 : Hid (Grow w w4) := Lib.hid (k4.grow G3.out HB.out)
  have c4 := CT4.out.cell (i := 0) rfl
  have RM := Lib.hid (room_any w4 _ _ N no mt4)
  have hmax := HMX.out
  have hmin := HMN.out
  clear mt4 k4 c3 AN
  go_wp2_with fail
  refine RM.out.mono ?_
  rintro e w' ⟨rfl, rfl⟩
  go_wp2_with fail
  refine (works_any _).mono ?_
  rintro e w5 ⟨rfl, hg5⟩
  go_wp2_with fail
  go_ret
  exact ⟨rfl, G4.out.trans hg5⟩
end Go.Proofs.Ytjfohglkpbgkaaa.mkL
