/- The walk of the document's Bytes, and of its texts. -/
import Derived.Test.YtacgfpjoaikfbaaTcN
import Derived.Test.YtacgfpjoaikfbaaOwnS
namespace Go.Proofs.Ytacgfpjoaikfbaa.tc
open Go Go.RowKit Go.Par Go.Kit Vi Go.Proofs.Ytacgfpjoaikfbaa.bfW
open Go.Proofs.Ytacgfpjoaikfbaa.viW

/-- what is written so far, in bytes of the call's own -/
def OneS (W1 cw : World) (v : Value) (Q : List UInt8) : Prop := cw.ownsRow W1.heap.size 5 1 v Q.length (u8s Q) ∧ Grow W1 cw
theorem OneS.grow {W1 cw w' : World} {v : Value} {Q : List UInt8} (h : OneS W1 cw v Q) (hg : Grow cw w') : OneS W1 w' v Q := ⟨own_grow h.1 hg, h.2.trans hg⟩
theorem OneS.next {W1 cw w1 : World} {v v1 : Value} {Q P Q' : List UInt8} {m : Nat} (h : OneS W1 cw v Q) (ho : w1.ownsRow W1.heap.size 5 1 v1 (Q.length + m) (u8s (Q ++ P))) (hg : cw.grownBy w1 v.ownBlock) (hm : m = P.length) (hQ : Q' = Q ++ P) :
    ∃ A c, v1 = .slice A Q'.length c ∧ OneS W1 w1 (.slice A Q'.length c) Q' := by
  have e : Q.length + m = Q'.length := by rw [hQ, List.length_append, hm]
  rw [e, ← hQ] at ho
  obtain ⟨A, c, rfl, -⟩ := own_form ho
  exact ⟨A, c, rfl, ho, grow_by h.2 hg (own_base h.1)⟩
theorem own_slB {w : World} {base n : Nat} {v : Value} {l : List UInt8} (h : w.ownsRow base 5 1 v n (u8s l)) : ∃ A c, v = .slice A n c ∧ Bytes w A n l := by
  obtain ⟨A, c, rfl, -, -, h3⟩ := own_form h
  rw [Nat.mul_one] at h3
  exact ⟨A, c, rfl, h3⟩
theorem strs_g {w w' : World} {A : Option Addr} {n : Nat} {l : List (List UInt8)} (h : Row w A n (strs l)) (hg : Grow w w') {k : Nat} (hlt : k < n) :
    ∃ b off t, A = some ⟨b, off, none⟩ ∧ l[k]? = some t ∧ w'.cell? ⟨b, off + k, none⟩ = some (.string (str t)) :=
  strs_at (B := w.heap.size) (K := fun _ => False) h (Keep.of hg (Nat.le_refl _)) (fun h0 ad had => .inl (Row.ltB h h0 ad had)) hlt
set_option maxRecDepth 100000 in
set_option maxHeartbeats 2000000 in
theorem texts_any (w : World) (A : Option Addr) (n c : Nat) (l : List (List UInt8)) (hl : l.length = n) (hr : Row w A n (strs l)) (hlen : (txs l).length ≤ 100000000) :
    Calls Try.prog 15 #[.slice A n c] w fun r w' => ∃ v, r = .returned v ∧ OneS w w' v (txs l) := by
  have hn : n ≤ 100000000 := by have := txf_len l; unfold txs at hlen; rw [List.length_append] at hlen; omega
  have HN := Lib.hid (ref_bytes_own n (by omega) w)
  have HR := Lib.hid hr
  have HL := Lib.hid hl
  have HLEN := Lib.hid hlen
  obtain ⟨Z, hZ⟩ : ∃ Z, Z = txs l := ⟨_, rfl⟩
  rw [← hZ]
  have HZ := Lib.hid hZ
  clear hr hl hlen hZ
  go_enter Try.func15, Try.ntmps15
  go_wp2_with fail
  refine HN.out.mono ?_
  rintro e w1 ⟨v1, rfl, ho, hg⟩
  obtain ⟨A1, c1, rfl, -, -, -⟩ := own_form ho
  have h0 : OneS w w1 (.slice A1 (vb n).length c1) (vb n ++ txf (l.take 0)) := by
    have e : vb n ++ txf (l.take 0) = vb n := by simp [txf]
    rw [e]; exact ⟨ho, hg⟩
  have H0 := Lib.hid h0
  obtain ⟨m0, hm0⟩ : ∃ m0, m0 = (vb n).length := ⟨_, rfl⟩
  rw [← hm0] at H0 ⊢
  clear ho hg HN h0 hm0
  go_wp2_with fail
  go_loopw [3, 4] (fun v i wr => ∃ (k m c3 : Nat) (A3 : Option Addr), k ≤ n ∧ i = .int .i64 (k : Int) ∧ v = .slice A3 m c3 ∧ OneS w wr v (vb n ++ txf (l.take k))) (fun _ i _ => n - (intOf i).toNat)
  case atStart => exact ⟨0, _, _, _, by omega, rfl, rfl, H0.out⟩
  case round =>
    clear H0
    obtain ⟨k, m, c3, A3, hk, rfl, rfl, hs⟩ := hrel
    by_cases hlt : k < n
    · obtain ⟨b, off, t, rfl, hx, hc⟩ := strs_g HR.out hs.2 hlt
      have t1 : decide (k < n) = true := decide_eq_true hlt
      have t2 : decide ((k : Int) < (n : Int)) = true := decide_eq_true (by omega)
      have hle := tx_le l k t hx
      have hlq : (vb n ++ txf (l.take k)).length + (tx t).length ≤ 100000000 := by
        have h2 := HLEN.out
        unfold txs at h2
        rw [List.length_append, HL.out] at h2
        rw [List.length_append]
        omega
      have htl : t.length ≤ 100000000 := by
        have h3 : (tx t).length = (vb t.length).length + t.length := by unfold tx; rw [List.length_append]
        omega
      obtain ⟨Q, hQ⟩ : ∃ Q, Q = vb n ++ txf (l.take k) := ⟨_, rfl⟩
      rw [← hQ] at hs hlq
      have HS := Lib.hid hs
      have HT := Lib.hid (ref_text_w t htl wr)
      have HX := Lib.hid hx
      have HQ := Lib.hid hQ
      have HLQ := Lib.hid hlq
      have HLT := Lib.hid hlt
      clear hx hs hle hlq htl hQ hk
      go_wp2_with fail
      refine HT.out.mono ?_
      rintro r w5 ⟨v5, rfl, ho5, hg5⟩
      obtain ⟨P, hP⟩ : ∃ P, P = vb t.length ++ t := ⟨_, rfl⟩
      rw [← hP] at ho5
      obtain ⟨B5, d5, rfl, hb5⟩ := own_slB ho5
      have HB5 := Lib.hid hb5
      have HS5 := Lib.hid (HS.out.grow hg5)
      have HP := Lib.hid hP
      have HPL : Hid (Q.length + P.length ≤ 140737488355328) := Lib.hid (by have := HLQ.out; unfold tx at this; rw [← hP] at this; omega)
      obtain ⟨Q1, hQ1⟩ : ∃ Q1, Q1 = Q ++ P := ⟨_, rfl⟩
      have HQ1 := Lib.hid hQ1
      clear ho5 hb5 hg5 hP hQ1 HT hc
      go_wp2_with (at_builtin; refine append_bytes Try.underlying24 i8 i8z i8s i8b rfl _ _ rfl w.heap.size _ Q.length Q HS5.out.1 rfl B5 P.length d5 P HB5.out rfl HPL.out HS5.out.2.size ?_; intro v1 w7 ha hb _; obtain ⟨A7, c7, rfl, hs7⟩ := HS5.out.next ha hb rfl HQ1.out; have HS7 := Lib.hid hs7; clear ha hb hs7)
      go_roundw
      case rel =>
        refine ⟨k + 1, _, _, _, by have := HLT.out; omega, by go_num, rfl, ?_⟩
        have e : vb n ++ txf (l.take (k + 1)) = Q1 := by rw [txf_take HX.out, HQ1.out, HQ.out, HP.out, List.append_assoc]; rfl
        rw [e]; exact HS7.out
      case measure => have := HLT.out; simp [intOf] <;> omega
    · obtain rfl : k = n := by omega
      have htk : l.take k = l := List.take_of_length_le (by rw [HL.out]; exact Nat.le_refl _)
      rw [htk] at hs
      have t1 : decide (k < k) = false := decide_eq_false hlt
      have hz : Z = vb k ++ txf l := by rw [HZ.out]; unfold txs; rw [HL.out]
      rw [← hz] at hs
      have HE := Lib.hid hs
      clear hs htk hz hlt hk
      go_wp2_with fail
      go_ret
      exact ⟨_, rfl, HE.out⟩
set_option maxRecDepth 100000 in
set_option maxHeartbeats 4000000 in
theorem bytes_any (w : World) (A : Option Addr) (n c : Nat) (fs : List Fil) (he : Fils w A n fs) (hlen : (treb fs).length ≤ 100000000) :
    Calls Try.prog 8 #[.slice A n c] w fun r w' => ∃ v, r = .returned v ∧ OneS w w' v (treb fs) := by
  have hl := he.1
  have hn : n ≤ 100000000 := by have := filf_len fs; unfold treb at hlen; rw [List.length_append] at hlen; omega
  have HN := Lib.hid (ref_bytes_own n (by omega) w)
  have HE := Lib.hid he
  have HL := Lib.hid hl
  have HLEN := Lib.hid hlen
  obtain ⟨Z, hZ⟩ : ∃ Z, Z = treb fs := ⟨_, rfl⟩
  rw [← hZ]
  have HZ := Lib.hid hZ
  clear he hl hlen hZ
  go_enter Try.func8, Try.ntmps8
  go_wp2_with fail
  refine HN.out.mono ?_
  rintro e w1 ⟨v1, rfl, ho, hg⟩
  obtain ⟨A1, c1, rfl, -, -, -⟩ := own_form ho
  have h0 : OneS w w1 (.slice A1 (vb n).length c1) (vb n ++ filf (fs.take 0)) := by
    have e : vb n ++ filf (fs.take 0) = vb n := by simp [filf]
    rw [e]; exact ⟨ho, hg⟩
  have H0 := Lib.hid h0
  obtain ⟨m0, hm0⟩ : ∃ m0, m0 = (vb n).length := ⟨_, rfl⟩
  rw [← hm0] at H0 ⊢
  clear ho hg HN h0 hm0
  go_wp2_with fail
  go_loopw [3, 4] (fun v i wr => ∃ (k m c3 : Nat) (A3 : Option Addr), k ≤ n ∧ i = .int .i64 (k : Int) ∧ v = .slice A3 m c3 ∧ OneS w wr v (vb n ++ filf (fs.take k))) (fun _ i _ => n - (intOf i).toNat)
  case atStart => exact ⟨0, _, _, _, by omega, rfl, rfl, H0.out⟩
  case round =>
    clear H0
    obtain ⟨k, m, c3, A3, hk, rfl, rfl, hs⟩ := hrel
    by_cases hlt : k < n
    · obtain ⟨b, off, f, A1, c1, A2, c2, rfl, hx, d0, d1, d2, ⟨-, -, ra⟩, ⟨-, -, rb⟩⟩ := HE.out.at_ hlt
      have z0 := hs.2.cell d0
      have t1 : decide (k < n) = true := decide_eq_true hlt
      have t2 : decide ((k : Int) < (n : Int)) = true := decide_eq_true (by omega)
      have hle := fil_le fs k f hx
      obtain ⟨Q, hQ⟩ : ∃ Q, Q = vb n ++ filf (fs.take k) := ⟨_, rfl⟩
      have hlq : Q.length + (tx f.name).length + (txs f.also).length + (txs f.lines).length ≤ 100000000 := by
        have h2 := HLEN.out
        unfold treb at h2
        rw [List.length_append, HL.out] at h2
        rw [hQ, List.length_append]
        omega
      rw [← hQ] at hs
      have htl : f.name.length ≤ 100000000 := by
        have h3 : (tx f.name).length = (vb f.name.length).length + f.name.length := by unfold tx; rw [List.length_append]
        omega
      obtain ⟨nm, hnm⟩ : ∃ nm, nm = f.name := ⟨_, rfl⟩
      obtain ⟨al, hal⟩ : ∃ al, al = f.also := ⟨_, rfl⟩
      obtain ⟨li, hli⟩ : ∃ li, li = f.lines := ⟨_, rfl⟩
      obtain ⟨na, hna⟩ : ∃ na, na = al.length := ⟨_, rfl⟩
      obtain ⟨nl, hnl⟩ : ∃ nl, nl = li.length := ⟨_, rfl⟩
      rw [← hnm] at z0 hlq htl
      rw [← hal] at d1 hlq ra
      rw [← hli] at d2 hlq rb
      rw [← hna] at d1 ra
      rw [← hnl] at d2 rb
      have HS := Lib.hid hs
      have HT := Lib.hid (ref_text_w nm htl wr)
      have HX := Lib.hid hx
      have HQ := Lib.hid hQ
      have HLQ := Lib.hid hlq
      have HLT := Lib.hid hlt
      have HF := Lib.hid (And.intro hnm (And.intro hal hli))
      have HNA := Lib.hid hna
      have HNL := Lib.hid hnl
      have HRA := Lib.hid ra
      have HRB := Lib.hid rb
      have D1 := Lib.hid d1
      have D2 := Lib.hid d2
      clear hx hs hle hlq htl hQ hk hnm hal hli hna hnl ra rb d1 d2
      go_wp2_with fail
      refine HT.out.mono ?_
      rintro r w5 ⟨v5, rfl, ho5, hg5⟩
      obtain ⟨P, hP⟩ : ∃ P, P = vb nm.length ++ nm := ⟨_, rfl⟩
      rw [← hP] at ho5
      obtain ⟨B5, d5, rfl, hb5⟩ := own_slB ho5
      have HB5 := Lib.hid hb5
      have HS5 := Lib.hid (HS.out.grow hg5)
      have HP := Lib.hid hP
      have HPL : Hid (Q.length + P.length + (txs al).length + (txs li).length ≤ 100000000) := Lib.hid (by have := HLQ.out; unfold tx at this; rw [← hP] at this; omega)
      obtain ⟨Q1, hQ1⟩ : ∃ Q1, Q1 = Q ++ P := ⟨_, rfl⟩
      have hql1 : Q1.length = Q.length + P.length := by rw [hQ1, List.length_append]
      have HQL1 := Lib.hid hql1
      have HQ1 := Lib.hid hQ1
      clear ho5 hb5 hg5 hP hQ1 HT d0 z0 hql1
      go_wp2_with (at_builtin; refine append_bytes Try.underlying24 i8 i8z i8s i8b rfl _ _ rfl w.heap.size _ Q.length Q HS5.out.1 rfl B5 P.length d5 P HB5.out rfl (by have := HPL.out; omega) HS5.out.2.size ?_; intro v1 w7 ha hb _; obtain ⟨A7, c7, rfl, hs7⟩ := HS5.out.next ha hb rfl HQ1.out; have HS7 := Lib.hid hs7; have z1 := hs7.2.cell D1.out; clear ha hb hs7)
      have HTA := Lib.hid (texts_any w7 A1 na c1 al HNA.out.symm (HRA.out.grow HS7.out.2) (by have := HPL.out; omega))
      refine HTA.out.mono ?_
      rintro r w8 ⟨v8, rfl, ho8, hg8⟩
      obtain ⟨P2, hP2⟩ : ∃ P, P = txs al := ⟨_, rfl⟩
      rw [← hP2] at ho8
      obtain ⟨B8, d8, rfl, hb8⟩ := own_slB ho8
      have HB8 := Lib.hid hb8
      have HS8 := Lib.hid (HS7.out.grow hg8)
      have HP2 := Lib.hid hP2
      obtain ⟨Q2, hQ2⟩ : ∃ Q2, Q2 = Q1 ++ P2 := ⟨_, rfl⟩
      have hql2 : Q2.length = Q1.length + P2.length := by rw [hQ2, List.length_append]
      have HQL2 := Lib.hid hql2
      have HQ2 := Lib.hid hQ2
      clear ho8 hb8 hg8 hP2 hQ2 HTA z1 hql2
      go_wp2_with (at_builtin; refine append_bytes Try.underlying24 i8 i8z i8s i8b rfl _ _ rfl w.heap.size _ Q1.length Q1 HS8.out.1 rfl B8 P2.length d8 P2 HB8.out rfl (by have := HPL.out; have := HQL1.out; have := HP2.out; subst this; omega) HS8.out.2.size ?_; intro v1 w9 ha hb _; obtain ⟨A9, c9, rfl, hs9⟩ := HS8.out.next ha hb rfl HQ2.out; have HS9 := Lib.hid hs9; have z2 := hs9.2.cell D2.out; clear ha hb hs9)
      have HTL := Lib.hid (texts_any w9 A2 nl c2 li HNL.out.symm (HRB.out.grow HS9.out.2) (by have := HPL.out; omega))
      refine HTL.out.mono ?_
      rintro r w10 ⟨v10, rfl, ho10, hg10⟩
      obtain ⟨P3, hP3⟩ : ∃ P, P = txs li := ⟨_, rfl⟩
      rw [← hP3] at ho10
      obtain ⟨B10, d10, rfl, hb10⟩ := own_slB ho10
      have HB10 := Lib.hid hb10
      have HS10 := Lib.hid (HS9.out.grow hg10)
      have HP3 := Lib.hid hP3
      obtain ⟨Q3, hQ3⟩ : ∃ Q3, Q3 = Q2 ++ P3 := ⟨_, rfl⟩
      have HQ3 := Lib.hid hQ3
      clear ho10 hb10 hg10 hP3 hQ3 HTL z2
      go_wp2_with (at_builtin; refine append_bytes Try.underlying24 i8 i8z i8s i8b rfl _ _ rfl w.heap.size _ Q2.length Q2 HS10.out.1 rfl B10 P3.length d10 P3 HB10.out rfl (by have := HPL.out; have := HQL1.out; have := HQL2.out; have := HP2.out; have h9 := HP3.out; subst this; subst h9; omega) HS10.out.2.size ?_; intro v1 w11 ha hb _; obtain ⟨A11, c11, rfl, hs11⟩ := HS10.out.next ha hb rfl HQ3.out; have HS11 := Lib.hid hs11; clear ha hb hs11)
      go_roundw
      case rel =>
        refine ⟨k + 1, _, _, _, by have := HLT.out; omega, by go_num, rfl, ?_⟩
        have e : vb n ++ filf (fs.take (k + 1)) = Q3 := by
          rw [filf_take HX.out, HQ3.out, HQ2.out, HQ1.out, HQ.out, HP.out, HP2.out, HP3.out, HF.out.1, HF.out.2.1, HF.out.2.2]
          unfold filb tx
          simp only [List.append_assoc]
        rw [e]; exact HS11.out
      case measure => have := HLT.out; simp [intOf] <;> omega
    · obtain rfl : k = n := by omega
      have htk : fs.take k = fs := List.take_of_length_le (by rw [HL.out]; exact Nat.le_refl _)
      rw [htk] at hs
      have t1 : decide (k < k) = false := decide_eq_false hlt
      have hz : Z = vb k ++ filf fs := by rw [HZ.out]; unfold treb; rw [HL.out]
      rw [← hz] at hs
      have HEE := Lib.hid hs
      clear hs htk hz hlt hk
      go_wp2_with fail
      go_ret
      exact ⟨_, rfl, HEE.out⟩
end Go.Proofs.Ytacgfpjoaikfbaa.tc
