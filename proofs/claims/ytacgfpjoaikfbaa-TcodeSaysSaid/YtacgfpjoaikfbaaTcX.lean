/- The walk of the document's list. -/
import Derived.Test.YtacgfpjoaikfbaaTcF
namespace Go.Proofs.Ytacgfpjoaikfbaa.tc
open Go Go.RowKit Go.Par Go.Kit Vi Go.Proofs.Ytacgfpjoaikfbaa.bfW
open Go.Proofs.Ytacgfpjoaikfbaa.viW hiding i8 i8s i8z i8b info8

theorem LI.le {T : TypeId} {w wr : World} {B g M : Nat} {L1 : List UInt8} {e1 m : Nat} {acc : List (List UInt8)} {Li : List UInt8} {ei : Nat} {v : Value} (h : LI T w wr B g M L1 e1 m acc Li ei v) : acc.length + m = M := h.n
set_option maxRecDepth 100000 in
set_option maxHeartbeats 8000000 in
theorem rlist_any (w : World) (B g : Nat) (L : List UInt8) (e : Nat) (h : Rdr TX w B (fun i => i ≠ g) g L e) (hLL : L.length ≤ 131072) :
    Calls Try.prog 30 #[.pointer (some ⟨g, 0, none⟩)] w fun r w' =>
      ∃ v, r = .returned v ∧ w'.ownsRow w.heap.size TS 1 v (rdTxs L e).1.length (strs (rdTxs L e).1) ∧ Rdr TX w' B (fun i => i ≠ g) g (rdTxs L e).2.1 (rdTxs L e).2.2 ∧ Keep B (fun i => i ≠ g) w w' := by
  have hgl := h.lt
  have hB : B ≤ w.heap.size := by omega
  obtain ⟨⟨M, L1, e1⟩, hr1⟩ : ∃ r, r = rnum L e L.length := ⟨_, rfl⟩
  have hnm := ref_num_any w B (fun i => i ≠ g) g L e h L.length
  have hM : M ≤ L.length := by have := rnum_le L e L.length; rw [← hr1] at this; exact this
  rw [← hr1] at hnm
  obtain ⟨⟨D, L2, e2⟩, hd⟩ : ∃ r, r = decX M L1 e1 := ⟨_, rfl⟩
  have hres : rdTxs L e = (D, L2, e2) := by unfold rdTxs; rw [← hr1]; exact hd.symm
  rw [hres]
  obtain ⟨A0, n0, c0, hbk, hnc, hcm, hby, -⟩ := h
  have hn0 := hby.len
  have c00 := hbk.cell (i := 0) rfl
  have HNM := Lib.hid hnm
  have HB := Lib.hid hB
  have HD := Lib.hid hd
  rw [hn0] at HNM hM hLL
  have HM := Lib.hid (Nat.le_trans hM hLL)
  have hM' := Nat.le_trans hM hLL
  clear hgl hB hr1 hnm hM hd hres hbk hnc hcm hby hn0
  dsimp only
  go_enter Try.func30, Try.ntmps30
  go_wp2_with fail
  refine HNM.out.mono ?_
  rintro r w2 ⟨rfl, hr2, hk2⟩
  have hli : LI TX w w2 B g M L1 e1 M [] L1 e1 (.slice none 0 0) := ⟨hr2, World.ownsRow_nil _ _ _ _, by simp, by simp, hk2.less fun i hi => hi.1⟩
  have HLI := Lib.hid hli
  clear hr2 hk2 hli HNM c00
  go_wp2_with fail
  go_loopw [4, 5] (fun o' i' wr => ∃ (k m : Nat) (acc : List (List UInt8)) (Li : List UInt8) (ei : Nat) (v : Value), i' = .int .i64 (k : Int) ∧ k = acc.length ∧ v = o' ∧ LI TX w wr B g M L1 e1 m acc Li ei v) (fun _ i' _ => M - (intOf i').toNat)
  case atStart => exact ⟨0, M, [], L1, e1, _, rfl, rfl, rfl, HLI.out⟩
  case round =>
    clear HLI
    obtain ⟨k, m, acc, Li, ei, v, rfl, hka, rfl, hI⟩ := hrel
    have HI := Lib.hid hI
    have hkM : k + m = M := by rw [hka]; exact hI.n
    obtain ⟨A5, n5, c5, hbk5, -⟩ := hI.r
    have cc := hbk5.cell (i := 1) rfl
    have HKA := Lib.hid hka
    clear hI hbk5 hka
    by_cases hst : m = 0 ∨ ei ≠ 0
    · have hd := HD.out
      rw [HI.out.d, decX_stop hst, List.append_nil] at hd
      injection hd with h1 h2
      injection h2 with h2 h3
      have HEND : Hid (wr.ownsRow w.heap.size TS 1 v D.length (strs D) ∧ Rdr TX wr B (fun i => i ≠ g) g L2 e2 ∧ Keep B (fun i => i ≠ g) w wr) := Lib.hid (by
        rw [h1, h2, h3]
        exact ⟨HI.out.o, HI.out.r, HI.out.k.of_more fun i hi hl => ⟨hi, hl⟩⟩)
      obtain ⟨A5, c5, rfl, -, -, -⟩ := own_form HI.out.o
      rw [← HKA.out] at HEND ⊢
      clear h1 h2 h3
      by_cases hm0 : k < M
      · have t1 : decide (k < M) = true := decide_eq_true hm0
        have t1' : decide ((k : Int) < (M : Int)) = true := decide_eq_true (by omega)
        have s1 : ((ei : Int) == 0) = false := beq_false_of_ne (by omega)
        have s2 : (ei == 0) = false := beq_false_of_ne (by omega)
        clear hst hm0 hkM
        go_wp2_with fail
        go_ret
        exact ⟨_, rfl, HEND.out⟩
      · have t1 : decide (k < M) = false := decide_eq_false hm0
        have t1' : decide ((k : Int) < (M : Int)) = false := decide_eq_false (by omega)
        clear hst hm0 hkM
        go_wp2_with fail
        go_ret
        exact ⟨_, rfl, HEND.out⟩
    · obtain rfl : ei = 0 := by omega
      obtain ⟨m', rfl⟩ : ∃ m', m = m' + 1 := ⟨m - 1, by omega⟩
      have t1 : decide (k < M) = true := decide_eq_true (by omega)
      have t1' : decide ((k : Int) < (M : Int)) = true := decide_eq_true (by omega)
      have htc := ref_text_any wr B (fun i => i ≠ g) g Li 0 HI.out.r 131072 (by decide)
      obtain ⟨⟨t, L', e'⟩, ht⟩ : ∃ r, r = rtext Li 0 131072 := ⟨_, rfl⟩
      rw [← ht] at htc
      have HTC := Lib.hid htc
      have HTT := Lib.hid ht
      have hk9 : k ≤ 131072 := by omega
      have HKM := Lib.hid hkM
      clear htc ht hst hkM
      rw [show ((0 : Nat) : Int) = 0 from rfl] at cc
      go_wp2_with fail
      refine HTC.out.mono ?_
      rintro r w4 ⟨rfl, hr4, hk4⟩
      have hoq : w4.ownsRow w.heap.size TS 1 v acc.length (strs acc) := hk4.own HI.out.o fun k hk => by
        intro e9
        obtain ⟨cs, hb⟩ := ownS_blk HI.out.o hk
        obtain ⟨_, _, _, hb9, -⟩ := HI.out.r
        subst e9
        exact absurd (blk_ty hb9 hb) (by decide)
      have hsz4 : w.heap.size ≤ w4.heap.size := Nat.le_trans HI.out.k.size hk4.size
      obtain ⟨xs, hxs⟩ : ∃ xs, xs = strs acc := ⟨_, rfl⟩
      rw [← hxs, ← HKA.out] at hoq
      have HXS := Lib.hid hxs
      have HOQ := Lib.hid hoq
      have HR4 := Lib.hid hr4
      have HK4 := Lib.hid hk4
      have HSZ := Lib.hid hsz4
      clear hxs hoq hr4 hk4 hsz4 HTC cc
      go_wp2_with (at_builtin; refine wpList_append_row rfl _ _ _ rfl w.heap.size TS _ _ 1 16 Try.underlying37 iS iSz iSs iSb rfl (by decide) v k xs rfl (own_grow HOQ.out (Grow.alloc w4 (.cells #[.string (str t)] TS))) (some ⟨w4.heap.size, 0, none⟩) 1 1 [.string (str t)] rfl (Row.new w4 [.string (str t)] TS (0, 0)) (by intro u hu; rw [List.mem_singleton.1 hu]; rfl) (by have := HM.out; unfold maxLen; omega) (by have := HM.out; omega) (Nat.le_trans HSZ.out (Grow.alloc w4 (.cells #[.string (str t)] TS)).size) ?_; intro v1 w1 hown1 hgb1 _; obtain ⟨Av, cv, rfl, -, -, -⟩ := own_form hown1)
      have hli := LI.app (by decide) HI.out HB.out HTT.out (HR4.out.grow (Grow.alloc w4 (.cells #[.string (str t)] TS))) (HK4.out.trans (Keep.of (Grow.alloc w4 (.cells #[.string (str t)] TS)) (Nat.le_trans HB.out HSZ.out))) HXS.out HKA.out hgb1 hown1
      have HLI := Lib.hid hli
      clear hown1 hgb1 hli
      go_roundw
      case rel => exact ⟨k + 1, m', acc ++ [t], L', e', _, by go_num, by rw [List.length_append, List.length_singleton, HKA.out], rfl, HLI.out⟩
      case measure => have := HKM.out; simp [intOf] <;> omega
end Go.Proofs.Ytacgfpjoaikfbaa.tc
