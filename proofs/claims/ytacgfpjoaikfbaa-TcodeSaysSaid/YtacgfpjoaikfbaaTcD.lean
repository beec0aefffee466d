/- The walks of what Decode calls: the text closure, and lists of texts. -/
import Derived.Test.YtacgfpjoaikfbaaTcR
namespace Go.Proofs.Ytacgfpjoaikfbaa.tc
open Go Go.RowKit Go.Par Go.Kit Vi Go.Proofs.Ytacgfpjoaikfbaa.bfW
open Go.Proofs.Ytacgfpjoaikfbaa.viW hiding i8 i8s i8z i8b info8

abbrev TS : TypeId := 9
theorem infoS : (Try.prog.info? TS).isSome = true := by kernel_rfl
theorem iS : Try.prog.info? TS = some ((Try.prog.info? TS).get infoS) := by simp
theorem iSs : ((Try.prog.info? TS).get infoS).size = 1 := by kernel_rfl
theorem iSz : ((Try.prog.info? TS).get infoS).zero = some (.string ⟨#[]⟩) := by kernel_rfl
theorem iSb : ((Try.prog.info? TS).get infoS).bytes = 16 := by kernel_rfl
theorem ownS_blk {w : World} {base n : Nat} {v : Value} {xs : List Value} (h : w.ownsRow base TS 1 v n xs) {k : Nat} (hk : v.ownBlock = some k) : ∃ cs, Blk w k TS cs := by
  rcases h.2 with ⟨e, -⟩ | ⟨g', cap, cur, e, -, h5, -⟩
  · rw [e] at hk; cases hk
  · rw [e] at hk
    injection hk with hk
    subst hk
    exact ⟨cur.toList, by unfold Blk; rw [h5]⟩
theorem blk_ty {w : World} {g : Nat} {t t' : TypeId} {cs : List Value} {cs' : Array Value} {fz : Nat × Nat} (h : Blk w g t cs) (h' : w.heap[g]? = some (Obj.cells cs' t' fz)) : t = t' := by
  unfold Blk at h
  rw [h] at h'
  injection h' with h'
  injection h' with _ h' _
theorem rnum_le (L : List UInt8) (e m : Nat) : (rnum L e m).1 ≤ m := by
  unfold rnum
  split
  · exact Nat.zero_le _
  · split
    · exact Nat.zero_le _
    · split
      · exact Nat.zero_le _
      · omega
/-- the closure that reads one text -/
theorem textc_any (w : World) (B : Nat) (K : Nat → Prop) (g : Nat) (L : List UInt8) (e : Nat) (h : Rdr TR w B K g L e) (b : Nat) (c0 : w.cell? ⟨b, 0, none⟩ = some (.pointer (some ⟨g, 0, none⟩))) :
    Calls Try.prog 22 #[.pointer (some ⟨b, 0, none⟩)] w fun r w' => r = .returned (.string (str (rtext L e 131072).1)) ∧ Rdr TR w' B K g (rtext L e 131072).2.1 (rtext L e 131072).2.2 ∧ Keep B K w w' := by
  have HT := Lib.hid (text_any w B K g L e h 131072 (by decide))
  clear h
  go_enter Try.func22, Try.ntmps22
  go_wp2_with fail
  refine HT.out.mono ?_
  rintro r w' ⟨rfl, h1, h2⟩
  have HE := Lib.hid (And.intro h1 h2)
  clear h1 h2
  go_wp2_with fail
  go_ret
  exact ⟨rfl, HE.out⟩
theorem decX_stop {n : Nat} {L : List UInt8} {e : Nat} (h : n = 0 ∨ e ≠ 0) : decX n L e = ([], L, e) := by
  cases n with
  | zero => rw [decX]
  | succ n => rw [decX, if_neg (by omega)]
theorem decX_step (n : Nat) (L : List UInt8) : decX (n + 1) L 0 = ((rtext L 0 131072).1 :: (decX n (rtext L 0 131072).2.1 (rtext L 0 131072).2.2).1, (decX n (rtext L 0 131072).2.1 (rtext L 0 131072).2.2).2) := by
  rw [decX, if_pos rfl]
/-- the loop of a list of texts -/
structure LI (T : TypeId) (w wr : World) (B g M : Nat) (L1 : List UInt8) (e1 : Nat) (m : Nat) (acc : List (List UInt8)) (Li : List UInt8) (ei : Nat) (v : Value) : Prop where
  r : Rdr T wr B (fun i => i ≠ g) g Li ei
  o : wr.ownsRow w.heap.size TS 1 v acc.length (strs acc)
  n : acc.length + m = M
  d : decX M L1 e1 = (acc ++ (decX m Li ei).1, (decX m Li ei).2)
  k : Keep B (fun i => i ≠ g ∧ i < w.heap.size) w wr
theorem LI.app {T : TypeId} (hT : T ≠ TS) {w wr wq w1 : World} {B g M : Nat} {L1 : List UInt8} {e1 m' : Nat} {acc : List (List UInt8)} {Li : List UInt8} {v v1 : Value} (h : LI T w wr B g M L1 e1 (m' + 1) acc Li 0 v) (hB : B ≤ w.heap.size) {t L' : List UInt8} {e' : Nat} (ht : (t, L', e') = rtext Li 0 131072)
    (hr : Rdr T wq B (fun i => i ≠ g) g L' e') (hk : Keep B (fun i => i ≠ g) wr wq) {xs : List Value} (hxs : xs = strs acc) {la : Nat} (hla : la = acc.length) (hgb : wq.grownBy w1 v.ownBlock) (hown : w1.ownsRow w.heap.size TS 1 v1 (la + 1) (xs ++ [.string (str t)])) :
    LI T w w1 B g M L1 e1 m' (acc ++ [t]) L' e' v1 := by
  have hoq : ∀ k, v.ownBlock = some k → w.heap.size ≤ k ∧ k ≠ g := fun k hk => by
    refine ⟨own_base h.o k hk, fun e9 => ?_⟩
    obtain ⟨cs, hb⟩ := ownS_blk h.o hk
    obtain ⟨_, _, _, hb9, -⟩ := h.r
    subst e9
    exact hT (blk_ty hb9 hb)
  have hsz : B ≤ wq.heap.size := Nat.le_trans hB (Nat.le_trans h.k.size hk.size)
  have hk1 : Keep B (fun j => v.ownBlock ≠ some j) wq w1 := Keep.by_ (Keep.refl wq) hsz hgb fun k hk => ⟨Nat.le_trans hB (hoq k hk).1, fun hn => hn hk⟩
  refine ⟨hr.keep hk1 fun e9 => (hoq g e9).2 rfl, ?_, by have := h.n; rw [List.length_append, List.length_singleton]; omega, ?_, ?_⟩
  · have e : strs (acc ++ [t]) = xs ++ [.string (str t)] := by rw [hxs]; simp [strs]
    rw [e, List.length_append, List.length_singleton, ← hla]
    exact hown
  · rw [h.d, decX_step, ← ht]
    dsimp only
    rw [List.append_assoc]
    rfl
  · exact Keep.by_ (h.k.trans (hk.less fun i hi => hi.1)) hsz hgb fun k hk => ⟨Nat.le_trans hB (hoq k hk).1, fun hn => by have := (hoq k hk).1; have := hn.2; omega⟩
set_option maxRecDepth 100000 in
set_option maxHeartbeats 8000000 in
theorem list_any (w : World) (B g : Nat) (L : List UInt8) (e : Nat) (h : Rdr TR w B (fun i => i ≠ g) g L e) (hLL : L.length ≤ 131072) (b : Nat) (hb : Blk w b 53 [.pointer (some ⟨g, 0, none⟩)]) :
    Calls Try.prog 26 #[.pointer (some ⟨g, 0, none⟩), .func (.func 22) #[] #[.pointer (some ⟨b, 0, none⟩)]] w fun r w' =>
      ∃ v, r = .returned v ∧ w'.ownsRow w.heap.size TS 1 v (rdTxs L e).1.length (strs (rdTxs L e).1) ∧ Rdr TR w' B (fun i => i ≠ g) g (rdTxs L e).2.1 (rdTxs L e).2.2 ∧ Keep B (fun i => i ≠ g) w w' := by
  have hgl := h.lt
  have hB : B ≤ w.heap.size := by omega
  have hbl := hb.lt
  have hbg : b ≠ g := fun e9 => by
    subst e9
    obtain ⟨_, _, _, hb9, -⟩ := h
    exact absurd (blk_ty hb9 hb) (by decide)
  obtain ⟨⟨M, L1, e1⟩, hr1⟩ : ∃ r, r = rnum L e L.length := ⟨_, rfl⟩
  have hnm := num_any w B (fun i => i ≠ g) g L e h L.length
  have hM : M ≤ L.length := by have := rnum_le L e L.length; rw [← hr1] at this; exact this
  rw [← hr1] at hnm
  obtain ⟨⟨D, L2, e2⟩, hd⟩ : ∃ r, r = decX M L1 e1 := ⟨_, rfl⟩
  have hres : rdTxs L e = (D, L2, e2) := by unfold rdTxs; rw [← hr1]; exact hd.symm
  rw [hres]
  have HLF := Lib.hid (left_any w _ _ g L e h)
  have HNM := Lib.hid hnm
  have HB := Lib.hid hB
  have HBK := Lib.hid hb
  have HBG := Lib.hid hbg
  have HD := Lib.hid hd
  obtain ⟨ll, hll⟩ : ∃ ll, ll = L.length := ⟨_, rfl⟩
  rw [← hll] at HLF HNM hM hLL
  have HM := Lib.hid (Nat.le_trans hM hLL)
  clear h hgl hB hbl hbg hr1 hnm hM hd hres hb hll
  dsimp only
  go_enter Try.func26, Try.ntmps26
  go_wp2_with fail
  refine HLF.out.mono ?_
  rintro r w1 ⟨rfl, rfl⟩
  go_wp2_with fail
  refine HNM.out.mono ?_
  rintro r w2 ⟨rfl, hr2, hk2⟩
  have hli : LI TR w w2 B g M L1 e1 M [] L1 e1 (.slice none 0 0) := ⟨hr2, World.ownsRow_nil _ _ _ _, by simp, by simp, hk2.less fun i hi => hi.1⟩
  have HLI := Lib.hid hli
  clear hr2 hk2 hli HNM HLF
  go_wp2_with fail
  go_loopw [5, 6] (fun o' i' wr => ∃ (m : Nat) (acc : List (List UInt8)) (Li : List UInt8) (ei : Nat) (v : Value), i' = .int .u64 (m : Int) ∧ v = o' ∧ LI TR w wr B g M L1 e1 m acc Li ei v) (fun _ i' _ => (intOf i').toNat)
  case atStart => exact ⟨M, [], L1, e1, _, rfl, rfl, HLI.out⟩
  case round =>
    clear HLI
    obtain ⟨m, acc, Li, ei, v, rfl, rfl, hI⟩ := hrel
    have HI := Lib.hid hI
    have HERR := Lib.hid (err_any wr _ _ g Li ei hI.r)
    have hmM : m ≤ 131072 := by have := hI.n; have := HM.out; omega
    clear hI
    by_cases hst : m = 0 ∨ ei ≠ 0
    · have hd := HD.out
      rw [HI.out.d, decX_stop hst, List.append_nil] at hd
      injection hd with h1 h2
      injection h2 with h2 h3
      have HEND : Hid (wr.ownsRow w.heap.size TS 1 v D.length (strs D) ∧ Rdr TR wr B (fun i => i ≠ g) g L2 e2 ∧ Keep B (fun i => i ≠ g) w wr) := Lib.hid (by
        rw [h1, h2, h3]
        exact ⟨HI.out.o, HI.out.r, HI.out.k.of_more fun i hi hl => ⟨hi, hl⟩⟩)
      obtain ⟨A5, c5, rfl, -, -, -⟩ := own_form HI.out.o
      obtain ⟨la, hla⟩ : ∃ q, q = acc.length := ⟨_, rfl⟩
      rw [← hla] at HEND ⊢
      clear h1 h2 h3 hla
      by_cases hm0 : 0 < m
      · have t1 : decide (0 < m) = true := decide_eq_true hm0
        have t1' : decide ((0 : Int) < (m : Int)) = true := decide_eq_true (by omega)
        have s1 : ((ei : Int) == 0) = false := beq_false_of_ne (by omega)
        have s2 : (ei == 0) = false := beq_false_of_ne (by omega)
        clear hst hm0
        go_wp2_with (go_at_call 41; refine HERR.out.mono ?_; rintro r w' ⟨rfl, rfl⟩)
        go_ret
        exact ⟨_, rfl, HEND.out⟩
      · have t1 : decide (0 < m) = false := decide_eq_false hm0
        have t1' : decide ((0 : Int) < (m : Int)) = false := decide_eq_false (by omega)
        clear hst hm0
        go_wp2_with (go_at_call 41; refine HERR.out.mono ?_; rintro r w' ⟨rfl, rfl⟩)
        go_ret
        exact ⟨_, rfl, HEND.out⟩
    · obtain rfl : ei = 0 := by omega
      obtain ⟨m', rfl⟩ : ∃ m', m = m' + 1 := ⟨m - 1, by omega⟩
      have t1 : decide (0 < m' + 1) = true := decide_eq_true (by omega)
      have t1' : decide ((0 : Int) < ((m' + 1 : Nat) : Int)) = true := decide_eq_true (by omega)
      have hbk : Blk wr b 53 [.pointer (some ⟨g, 0, none⟩)] := HI.out.k.blk HBK.out ⟨HBG.out, HBK.out.lt⟩
      have htc := textc_any wr B (fun i => i ≠ g) g Li 0 HI.out.r b (hbk.cell (i := 0) rfl)
      obtain ⟨⟨t, L', e'⟩, ht⟩ : ∃ r, r = rtext Li 0 131072 := ⟨_, rfl⟩
      rw [← ht] at htc
      have HTC := Lib.hid htc
      have HTT := Lib.hid ht
      clear hbk htc ht hst
      go_wp2_with fail
      refine HERR.out.mono ?_
      rintro r w' ⟨rfl, rfl⟩
      go_wp2_with fail
      refine HTC.out.mono ?_
      rintro r w4 ⟨rfl, hr4, hk4⟩
      have hlen5 : acc.length + (m' + 1) = M := HI.out.n
      have hoq : w4.ownsRow w.heap.size TS 1 v acc.length (strs acc) := hk4.own HI.out.o fun k hk => by
        intro e9
        obtain ⟨cs, hb⟩ := ownS_blk HI.out.o hk
        obtain ⟨_, _, _, hb9, -⟩ := HI.out.r
        subst e9
        exact absurd (blk_ty hb9 hb) (by decide)
      have hsz4 : w.heap.size ≤ w4.heap.size := Nat.le_trans HI.out.k.size hk4.size
      obtain ⟨xs, hxs⟩ : ∃ xs, xs = strs acc := ⟨_, rfl⟩
      obtain ⟨la, hla⟩ : ∃ la, la = acc.length := ⟨_, rfl⟩
      rw [← hxs, ← hla] at hoq
      rw [← hla] at hlen5
      have HXS := Lib.hid hxs
      have HLA := Lib.hid hla
      have HOQ := Lib.hid hoq
      have HR4 := Lib.hid hr4
      have HK4 := Lib.hid hk4
      have HSZ := Lib.hid hsz4
      clear hxs hla hoq hr4 hk4 hsz4 HTC HERR
      go_wp2_with (at_builtin; refine wpList_append_row rfl _ _ _ rfl w.heap.size TS _ _ 1 16 Try.underlying37 iS iSz iSs iSb rfl (by decide) v la xs rfl (own_grow HOQ.out (Grow.alloc w4 (.cells #[.string (str t)] TS))) (some ⟨w4.heap.size, 0, none⟩) 1 1 [.string (str t)] rfl (Row.new w4 [.string (str t)] TS (0, 0)) (by intro u hu; rw [List.mem_singleton.1 hu]; rfl) (by have := HM.out; unfold maxLen; omega) (by have := HM.out; omega) (Nat.le_trans HSZ.out (Grow.alloc w4 (.cells #[.string (str t)] TS)).size) ?_; intro v1 w1 hown1 hgb1 _; obtain ⟨Av, cv, rfl, -, -, -⟩ := own_form hown1)
      have hli := LI.app (by decide) HI.out HB.out HTT.out (HR4.out.grow (Grow.alloc w4 (.cells #[.string (str t)] TS))) (HK4.out.trans (Keep.of (Grow.alloc w4 (.cells #[.string (str t)] TS)) (Nat.le_trans HB.out HSZ.out))) HXS.out HLA.out hgb1 hown1
      have HLI := Lib.hid hli
      clear hown1 hgb1 hli
      go_roundw
      case rel => exact ⟨m', acc ++ [t], L', e', _, by go_num, rfl, HLI.out⟩
      case measure => simp [intOf] <;> omega
end Go.Proofs.Ytacgfpjoaikfbaa.tc
