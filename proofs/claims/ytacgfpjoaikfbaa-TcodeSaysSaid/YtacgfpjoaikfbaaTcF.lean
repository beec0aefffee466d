/- The walk of the list of files. -/
import Derived.Test.YtacgfpjoaikfbaaTcE
namespace Go.Proofs.Ytacgfpjoaikfbaa.tc
open Go Go.RowKit Go.Par Go.Kit Vi Go.Proofs.Ytacgfpjoaikfbaa.bfW
open Go.Proofs.Ytacgfpjoaikfbaa.viW hiding i8 i8s i8z i8b info8

theorem infoF : (Try.prog.info? TF).isSome = true := by kernel_rfl
theorem iF : Try.prog.info? TF = some ((Try.prog.info? TF).get infoF) := by simp
theorem iFs : ((Try.prog.info? TF).get infoF).size = 3 := by kernel_rfl
theorem iFz : ((Try.prog.info? TF).get infoF).zero = some (.agg #[.string ⟨#[]⟩, .slice none 0 0, .slice none 0 0]) := by kernel_rfl
theorem iFb : ((Try.prog.info? TF).get infoF).bytes = 64 := by kernel_rfl
/-- files that are read, one behind another, in a row of the call's own -/
def OutF (w : World) (B : Nat) (v : Value) (acc : List Fil) : Prop := ∃ rows : List (List Value), rows.length = acc.length ∧ w.ownsRow B TF 3 v acc.length rows.flatten ∧ ∀ (j : Nat) (r : List Value) (f : Fil), rows[j]? = some r → acc[j]? = some f → ∃ u u', r = filRow u u' f ∧ SO w u f.also ∧ SO w u' f.lines
theorem OutF.nil (w : World) (B : Nat) : OutF w B (.slice none 0 0) [] := ⟨[], rfl, World.ownsRow_nil _ _ _ _, fun j r e h => by simp at h⟩
theorem own_blkF {w : World} {base n : Nat} {v : Value} {xs : List Value} (h : w.ownsRow base TF 3 v n xs) {k : Nat} (hk : v.ownBlock = some k) : ∃ cs, Blk w k TF cs := by
  rcases h.2 with ⟨e, -⟩ | ⟨g', cap, cur, e, -, h5, -⟩
  · rw [e] at hk; cases hk
  · rw [e] at hk
    injection hk with hk
    subst hk
    exact ⟨cur.toList, by unfold Blk; rw [h5]⟩
theorem OutF.keep {w w' : World} {B : Nat} {v : Value} {acc : List Fil} (h : OutF w B v acc) {B2 : Nat} {K : Nat → Prop} (hk : Keep B2 K w w') (h1 : ∀ j cs, Blk w j TF cs → v.ownBlock = some j → K j) (h2 : ∀ j cs fz, w.heap[j]? = some (Obj.cells cs TS fz) → K j) : OutF w' B v acc := by
  obtain ⟨rows, a1, a2, a3⟩ := h
  exact ⟨rows, a1, hk.own a2 fun k hk2 => by obtain ⟨cs, hb⟩ := own_blkF a2 hk2; exact h1 k cs hb hk2, fun j r e hr he => let ⟨u, u', hu, hb, hc⟩ := a3 j r e hr he; ⟨u, u', hu, hb.keep hk h2, hc.keep hk h2⟩⟩
theorem OutF.grow {w w' : World} {B : Nat} {v : Value} {acc : List Fil} (h : OutF w B v acc) (hg : Grow w w') : OutF w' B v acc := by
  obtain ⟨rows, a1, a2, a3⟩ := h
  exact ⟨rows, a1, own_grow a2 hg, fun j r e hr he => let ⟨u, u', hu, hb, hc⟩ := a3 j r e hr he; ⟨u, u', hu, hb.grow hg, hc.grow hg⟩⟩
/-- a file is appended -/
theorem OutF.app {w w' : World} {B : Nat} {v v' : Value} {acc : List Fil} {e : Fil} {u1 u2 : Value} (hu1 : SO w u1 e.also) (hu2 : SO w u2 e.lines) {rows : List (List Value)} {n : Nat} (hn : n = acc.length) (a1 : rows.length = acc.length) (a2 : w.ownsRow B TF 3 v n rows.flatten)
    (a3 : ∀ (j : Nat) (r : List Value) (f : Fil), rows[j]? = some r → acc[j]? = some f → ∃ u u', r = filRow u u' f ∧ SO w u f.also ∧ SO w u' f.lines)
    (hg : w.grownBy w' v.ownBlock) (ho : w'.ownsRow B TF 3 v' (n + 1) (rows.flatten ++ filRow u1 u2 e)) : OutF w' B v' (acc ++ [e]) := by
  have hk : Keep 0 (fun j => v.ownBlock ≠ some j) w w' := Keep.by_ (Keep.refl w) (Nat.zero_le _) hg fun k hk => ⟨Nat.zero_le _, fun hn => hn hk⟩
  have hK : ∀ j cs fz, w.heap[j]? = some (Obj.cells cs TS fz) → v.ownBlock ≠ some j := fun j cs fz hj e1 => by
    obtain ⟨cs', hb⟩ := own_blkF a2 e1
    exact absurd (blk_ty hb hj) (by decide)
  refine ⟨rows ++ [filRow u1 u2 e], by simp [a1], ?_, fun j r x hr hx => ?_⟩
  · rw [List.length_append, List.length_singleton, List.flatten_append, ← hn]
    simpa using ho
  · rcases Nat.lt_or_ge j acc.length with hj | hj
    · rw [List.getElem?_append_left (by omega)] at hr
      rw [List.getElem?_append_left hj] at hx
      obtain ⟨u, u', h1, h2, h3⟩ := a3 j r x hr hx
      exact ⟨u, u', h1, h2.keep hk hK, h3.keep hk hK⟩
    · rw [List.getElem?_append_right (by omega)] at hr
      rw [List.getElem?_append_right hj] at hx
      have hj0 : j - acc.length = 0 := by
        have := (List.getElem?_eq_some_iff.1 hx).1
        simp at this
        omega
      rw [a1, hj0] at hr
      rw [hj0] at hx
      simp only [List.getElem?_cons_zero, Option.some.injEq] at hr hx
      subst hr; subst hx
      exact ⟨u1, u2, rfl, hu1.keep hk hK, hu2.keep hk hK⟩
/-- a tree that is handed back -/
def TrV (w : World) (v : Value) (fs : List Fil) : Prop := ∃ A c, v = .slice A fs.length c ∧ fs.length ≤ c ∧ c ≤ maxLen ∧ Fils w A fs.length fs
theorem TrV.grow {w w' : World} {v : Value} {fs : List Fil} (h : TrV w v fs) (hg : Grow w w') : TrV w' v fs := let ⟨A, c, e, h1, h2, h3⟩ := h; ⟨A, c, e, h1, h2, h3.grow hg⟩
theorem TrV.nil (w : World) : TrV w (.slice none 0 0) [] := ⟨none, 0, rfl, Nat.le_refl _, by decide, rfl, [], Row.nil w none, rfl, fun j r e h => by simp at h⟩
theorem OutF.trV {w : World} {B : Nat} {v : Value} {acc : List Fil} (h : OutF w B v acc) : TrV w v acc := by
  obtain ⟨rows, a1, a2, a3⟩ := h
  obtain ⟨A, c, rfl, h1, h2, h3⟩ := own_form a2
  exact ⟨A, c, rfl, h1, h2, rfl, rows, h3, a1, fun j r e hr he => let ⟨u, u', hu, hb, hc⟩ := a3 j r e hr he; ⟨u, u', hu, hb.sl, hc.sl⟩⟩
theorem decF_stop {n : Nat} {L : List UInt8} {e : Nat} (h : n = 0 ∨ e ≠ 0) : decF n L e = ([], L, e) := by
  cases n with
  | zero => rw [decF]
  | succ n => rw [decF, if_neg (by omega)]
theorem decF_step (n : Nat) (L : List UInt8) : decF (n + 1) L 0 = ((rdFil L 0).1 :: (decF n (rdFil L 0).2.1 (rdFil L 0).2.2).1, (decF n (rdFil L 0).2.1 (rdFil L 0).2.2).2) := by
  rw [decF, if_pos rfl]
/-- the loop of a list of files -/
structure FI (T : TypeId) (w wr : World) (B g M : Nat) (L1 : List UInt8) (e1 : Nat) (m : Nat) (acc : List Fil) (Li : List UInt8) (ei : Nat) (v : Value) : Prop where
  r : Rdr T wr B (fun i => i ≠ g) g Li ei
  o : OutF wr w.heap.size v acc
  n : acc.length + m = M
  d : decF M L1 e1 = (acc ++ (decF m Li ei).1, (decF m Li ei).2)
  k : Keep B (fun i => i ≠ g ∧ i < w.heap.size) w wr
  l : Li.length ≤ 131072
set_option maxRecDepth 100000 in
set_option maxHeartbeats 8000000 in
theorem files_any (w : World) (B g : Nat) (L : List UInt8) (e : Nat) (h : Rdr TR w B (fun i => i ≠ g) g L e) (hLL : L.length ≤ 131072) (b : Nat) (hb : Blk w b 53 [.pointer (some ⟨g, 0, none⟩)])
    (b5 : Nat) (hb5 : Blk w b5 56 [.func (.func 22) #[] #[.pointer (some ⟨b, 0, none⟩)]]) :
    Calls Try.prog 24 #[.pointer (some ⟨g, 0, none⟩), .func (.func 25) #[] #[.pointer (some ⟨b5, 0, none⟩), .pointer (some ⟨b, 0, none⟩)]] w fun r w' =>
      ∃ v, r = .returned v ∧ OutF w' w.heap.size v (decF (rnum L e L.length).1 (rnum L e L.length).2.1 (rnum L e L.length).2.2).1 ∧
        Rdr TR w' B (fun i => i ≠ g) g (decF (rnum L e L.length).1 (rnum L e L.length).2.1 (rnum L e L.length).2.2).2.1 (decF (rnum L e L.length).1 (rnum L e L.length).2.1 (rnum L e L.length).2.2).2.2 ∧ Keep B (fun i => i ≠ g) w w' := by
  have hgl := h.lt
  have hB : B ≤ w.heap.size := by omega
  have hbg := rdr_ne h hb (by decide)
  have hb5g := rdr_ne h hb5 (by decide)
  obtain ⟨⟨M, L1, e1⟩, hr1⟩ : ∃ r, r = rnum L e L.length := ⟨_, rfl⟩
  have hnm := num_any w B (fun i => i ≠ g) g L e h L.length
  have hM : M ≤ L.length := by have := rnum_le L e L.length; rw [← hr1] at this; exact this
  have hL1 : L1.length ≤ 131072 := by have := rnum_len L e L.length; rw [← hr1] at this; exact Nat.le_trans this hLL
  rw [← hr1] at hnm ⊢
  dsimp only
  obtain ⟨⟨D, L2, e2⟩, hd⟩ : ∃ r, r = decF M L1 e1 := ⟨_, rfl⟩
  rw [← hd]
  have HLF := Lib.hid (left_any w _ _ g L e h)
  have HNM := Lib.hid hnm
  have HB := Lib.hid hB
  have HBK := Lib.hid hb
  have HB5 := Lib.hid hb5
  have HBG := Lib.hid hbg
  have HB5G := Lib.hid hb5g
  have HD := Lib.hid hd
  have HL1 := Lib.hid hL1
  obtain ⟨ll, hll⟩ : ∃ ll, ll = L.length := ⟨_, rfl⟩
  rw [← hll] at HLF HNM hM hLL
  have HM := Lib.hid (Nat.le_trans hM hLL)
  clear h hgl hB hbg hb5g hr1 hnm hM hL1 hd hb hb5 hll
  dsimp only
  go_enter Try.func24, Try.ntmps24
  go_wp2_with fail
  refine HLF.out.mono ?_
  rintro r w1 ⟨rfl, rfl⟩
  go_wp2_with fail
  refine HNM.out.mono ?_
  rintro r w2 ⟨rfl, hr2, hk2⟩
  have hli : FI TR w w2 B g M L1 e1 M [] L1 e1 (.slice none 0 0) := ⟨hr2, OutF.nil _ _, by simp, by simp, hk2.less fun i hi => hi.1, HL1.out⟩
  have HLI := Lib.hid hli
  clear hr2 hk2 hli HNM HLF
  go_wp2_with fail
  go_loopw [5, 6] (fun o' i' wr => ∃ (m : Nat) (acc : List Fil) (Li : List UInt8) (ei : Nat) (v : Value), i' = .int .u64 (m : Int) ∧ v = o' ∧ FI TR w wr B g M L1 e1 m acc Li ei v) (fun _ i' _ => (intOf i').toNat)
  case atStart => exact ⟨M, [], L1, e1, _, rfl, rfl, HLI.out⟩
  case round =>
    clear HLI
    obtain ⟨m, acc, Li, ei, v, rfl, rfl, hI⟩ := hrel
    have HI := Lib.hid hI
    have HERR := Lib.hid (err_any wr _ _ g Li ei hI.r)
    have hmM : m ≤ 131072 := by have := hI.n; have := HM.out; omega
    clear hI
    by_cases hst : m = 0 ∨ ei ≠ 0
    · have hd := HD.out
      rw [HI.out.d, decF_stop hst, List.append_nil] at hd
      injection hd with h1 h2
      injection h2 with h2 h3
      have HEND : Hid (OutF wr w.heap.size v D ∧ Rdr TR wr B (fun i => i ≠ g) g L2 e2 ∧ Keep B (fun i => i ≠ g) w wr) := Lib.hid (by
        rw [h1, h2, h3]
        exact ⟨HI.out.o, HI.out.r, HI.out.k.of_more fun i hi hl => ⟨hi, hl⟩⟩)
      obtain ⟨A5, c5, rfl, -⟩ := HI.out.o.trV
      obtain ⟨la, hla⟩ : ∃ q, q = acc.length := ⟨_, rfl⟩
      rw [← hla] at HEND ⊢
      clear h1 h2 h3 hla
      by_cases hm0 : 0 < m
      · have t1 : decide (0 < m) = true := decide_eq_true hm0
        have t1' : decide ((0 : Int) < (m : Int)) = true := decide_eq_true (by omega)
        have s1 : ((ei : Int) == 0) = false := beq_false_of_ne (by omega)
        have s2 : (ei == 0) = false := beq_false_of_ne (by omega)
        clear hst hm0
        go_wp2_with (go_at_call 41; refine HERR.out.mono ?_; rintro r w' ⟨rfl, rfl⟩)
        go_ret
        exact ⟨_, rfl, HEND.out⟩
      · have t1 : decide (0 < m) = false := decide_eq_false hm0
        have t1' : decide ((0 : Int) < (m : Int)) = false := decide_eq_false (by omega)
        clear hst hm0
        go_wp2_with (go_at_call 41; refine HERR.out.mono ?_; rintro r w' ⟨rfl, rfl⟩)
        go_ret
        exact ⟨_, rfl, HEND.out⟩
    · obtain rfl : ei = 0 := by omega
      obtain ⟨m', rfl⟩ : ∃ m', m = m' + 1 := ⟨m - 1, by omega⟩
      have t1 : decide (0 < m' + 1) = true := decide_eq_true (by omega)
      have t1' : decide ((0 : Int) < ((m' + 1 : Nat) : Int)) = true := decide_eq_true (by omega)
      have hbk : Blk wr b 53 [.pointer (some ⟨g, 0, none⟩)] := HI.out.k.blk HBK.out ⟨HBG.out, HBK.out.lt⟩
      have hb5 : Blk wr b5 56 [.func (.func 22) #[] #[.pointer (some ⟨b, 0, none⟩)]] := HI.out.k.blk HB5.out ⟨HB5G.out, HB5.out.lt⟩
      have htc := filc_any wr B g Li 0 HI.out.r HI.out.l b hbk b5 hb5
      obtain ⟨⟨f, L', e'⟩, ht⟩ : ∃ r, r = rdFil Li 0 := ⟨_, rfl⟩
      have hL' : L'.length ≤ 131072 := by have := rdFil_len Li 0; rw [← ht] at this; exact Nat.le_trans this HI.out.l
      rw [← ht] at htc
      have HTC := Lib.hid htc
      have HTT := Lib.hid ht
      have HLP := Lib.hid hL'
      clear hbk hb5 htc ht hst hL'
      go_wp2_with fail
      refine HERR.out.mono ?_
      rintro r w' ⟨rfl, rfl⟩
      go_wp2_with fail
      refine HTC.out.mono ?_
      rintro r w4 ⟨u1, u2, rfl, hs1, hs2, hr4, hk4⟩
      obtain ⟨A1, c1, rfl, p1, p2, p3, p4⟩ := hs1
      have hs1 : SO w4 (.slice A1 f.also.length c1) f.also := ⟨A1, c1, rfl, p1, p2, p3, p4⟩
      obtain ⟨A2, c2, rfl, p5, p6, p7, p8⟩ := hs2
      have hs2 : SO w4 (.slice A2 f.lines.length c2) f.lines := ⟨A2, c2, rfl, p5, p6, p7, p8⟩
      obtain ⟨n1, hn1⟩ : ∃ n1, n1 = f.also.length := ⟨_, rfl⟩
      obtain ⟨n2, hn2⟩ : ∃ n2, n2 = f.lines.length := ⟨_, rfl⟩
      obtain ⟨nm, hnm⟩ : ∃ nm, nm = f.name := ⟨_, rfl⟩
      rw [← hn1] at hs1 ⊢
      rw [← hn2] at hs2 ⊢
      dsimp only at hnm ⊢
      rw [← hnm]
      have hlen5 : acc.length + (m' + 1) = M := HI.out.n
      have hoq : OutF w4 w.heap.size v acc := HI.out.o.keep hk4 (fun j cs hj _ => rdr_ne HI.out.r hj (by decide)) (fun j cs fz hj e9 => by
        obtain ⟨_, _, _, hb9, -⟩ := HI.out.r
        subst e9
        exact absurd (blk_ty hb9 hj) (by decide))
      have gq : Grow w4 (w4.alloc (.cells #[.string (str nm), .slice A1 n1 c1, .slice A2 n2 c2] TF)) := Grow.alloc _ _
      obtain ⟨rows, a1, a2, a3⟩ := hoq.grow gq
      have hsz4 : w.heap.size ≤ w4.heap.size := Nat.le_trans HI.out.k.size hk4.size
      obtain ⟨la, hla⟩ : ∃ la, la = acc.length := ⟨_, rfl⟩
      rw [← hla] at hlen5 a2
      have HLA := Lib.hid hla
      have HA1 := Lib.hid a1
      have HA2 := Lib.hid a2
      have HA3 := Lib.hid a3
      have HS1 := Lib.hid hs1
      have HS2 := Lib.hid hs2
      have HNM := Lib.hid hnm
      have HR4 := Lib.hid hr4
      have HK4 := Lib.hid hk4
      have HSZ := Lib.hid hsz4
      have GQ := Lib.hid gq
      clear hla a1 a2 a3 hs1 hs2 hnm hr4 hk4 hsz4 hoq gq p1 p2 p3 p4 p5 p6 p7 p8 hn1 hn2 HTC HERR
      go_wp2_with (at_builtin; refine wpList_append_row rfl _ _ _ rfl w.heap.size TF _ _ 3 64 Try.underlying22 iF iFz iFs iFb rfl (by decide) v la rows.flatten rfl HA2.out (some ⟨w4.heap.size, 0, none⟩) 1 1 [.string (str nm), .slice A1 n1 c1, .slice A2 n2 c2] rfl (Row.new w4 [.string (str nm), .slice A1 n1 c1, .slice A2 n2 c2] TF (0, 0)) (by intro u hu; simp only [List.mem_cons, List.not_mem_nil, or_false] at hu; rcases hu with rfl | rfl | rfl <;> rfl) (by have := HM.out; unfold maxLen; omega) (by have := HM.out; omega) (Nat.le_trans HSZ.out GQ.out.size) ?_; intro v1 w1 hown1 hgb1 _; obtain ⟨Av, cv, rfl, -, -, -⟩ := own_form hown1)
      have hob : ∀ k, v.ownBlock = some k → w.heap.size ≤ k ∧ k ≠ g := fun k hk => by
        refine ⟨own_base HA2.out k hk, fun e9 => ?_⟩
        obtain ⟨cs, hb⟩ := own_blkF HA2.out hk
        exact rdr_ne (HR4.out.grow GQ.out) hb (by decide) e9
      have hszq := Nat.le_trans HB.out (Nat.le_trans HSZ.out GQ.out.size)
      have hk1 : Keep B (fun j => v.ownBlock ≠ some j) (w4.alloc (.cells #[.string (str nm), .slice A1 n1 c1, .slice A2 n2 c2] TF)) w1 := Keep.by_ (Keep.refl _) hszq hgb1 fun k hk => ⟨Nat.le_trans HB.out (hob k hk).1, fun hn => hn hk⟩
      have hfi : FI TR w w1 B g M L1 e1 m' (acc ++ [f]) L' e' (.slice Av (la + 1) cv) := by
        refine ⟨(HR4.out.grow GQ.out).keep hk1 fun e9 => (hob g e9).2 rfl, ?_, by rw [List.length_append, List.length_singleton, ← HLA.out]; omega, ?_, ?_, HLP.out⟩
        · refine OutF.app (HS1.out.grow GQ.out) (HS2.out.grow GQ.out) HLA.out HA1.out HA2.out HA3.out hgb1 ?_
          unfold filRow
          rw [← HNM.out]
          exact hown1
        · rw [HI.out.d, decF_step, ← HTT.out]
          dsimp only
          rw [List.append_assoc]
          rfl
        · exact Keep.by_ ((HI.out.k.trans (HK4.out.less fun i hi => hi.1)).trans (Keep.of GQ.out (Nat.le_trans HB.out HSZ.out))) hszq hgb1 fun k hk => ⟨Nat.le_trans HB.out (hob k hk).1, fun hn => by have := (hob k hk).1; have := hn.2; omega⟩
      have HFI := Lib.hid hfi
      clear hown1 hgb1 hob hszq hk1 hfi
      go_roundw
      case rel => exact ⟨m', acc ++ [f], L', e', _, by go_num, rfl, HFI.out⟩
      case measure => simp [intOf] <;> omega
end Go.Proofs.Ytacgfpjoaikfbaa.tc
