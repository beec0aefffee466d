/- The walk of EventBytes. -/
import Derived.Test.YtmekdhlcflielaaDoorEvL
import Derived.Test.YtmekdhlcflielaaDoorEvSA
import Derived.Test.YtmekdhlcflielaaDoorEvRN
import Derived.Test.YtmekdhlcflielaaDoorEvRO
namespace Go.Proofs.YtmekdhlcflielaaDoor.ev
open Go Go.RowKit Go.Par Go.Kit Vi Go.Proofs.YtmekdhlcflielaaDoor.bfW
open Go.Proofs.YtmekdhlcflielaaDoor.viW hiding i8 i8s i8z i8b info8

set_option maxRecDepth 100000 in
set_option maxHeartbeats 8000000 in
theorem bytes_walk (w : World) (A : Option Addr) (n c : Nat) (es : List Ev) (he : Evs w A n es) (hn : n ≤ maxLen) (A2 : Option Addr) (n2 c2 : Nat) (L : List UInt8) (hb : Bytes w A2 n2 L) (hc2 : n2 ≤ c2) (hm2 : c2 ≤ maxLen) (ht : Tab w) (hB0 : 0 < w.heap.size) :
    Calls Tryd.prog 3 #[.slice A n c, .slice A2 n2 c2] w fun r w' => r = .returned (.bool true) ∧ Grow w w' := by
  have HF := Lib.hid (few_any A n c 100 es w he hn)
  have HWK := Lib.hid (fun w' (hg : Grow w w') => works_any w' (ht.grow hg) (Nat.lt_of_lt_of_le hB0 hg.size))
  have hl := he.1
  have hbl := hb.len
  have HN2 := Lib.hid (And.intro hc2 hm2)
  unfold maxLen at hm2
  have hn2 : n2 ≤ 9223372036854775807 := by omega
  obtain ⟨q, hq⟩ : ∃ q, q = fewB es 100 := ⟨_, rfl⟩
  rw [← hq] at HF
  rcases q with _ | _
  · clear he hn hb hc2 hm2 ht hB0 hl hbl hq
    go_enter Tryd.func3, Tryd.ntmps3
    go_wp2_with fail
    refine HF.out.mono ?_
    rintro r w' ⟨rfl, rfl⟩
    unfold bi
    go_wp2_with fail
    refine (HWK.out w (Grow.refl _)).mono ?_
    rintro r w1 ⟨rfl, hg1⟩
    have HG1 := Lib.hid hg1
    clear hg1
    go_wp2_with fail
    go_ret
    exact ⟨rfl, HG1.out⟩
  · by_cases h4 : 4000 < n2
    · have t1 : decide (4000 < n2) = true := decide_eq_true h4
      have t1' : decide ((4000 : Int) < (n2 : Int)) = true := decide_eq_true (by omega)
      clear he hn hb hc2 hm2 ht hB0 hl hbl hq h4
      go_enter Tryd.func3, Tryd.ntmps3
      go_wp2_with fail
      refine HF.out.mono ?_
      rintro r w' ⟨rfl, rfl⟩
      unfold bi
      go_wp2_with fail
      refine (HWK.out w (Grow.refl _)).mono ?_
      rintro r w1 ⟨rfl, hg1⟩
      have HG1 := Lib.hid hg1
      clear hg1
      go_wp2_with fail
      go_ret
      exact ⟨rfl, HG1.out⟩
    · have t1 : decide (4000 < n2) = false := decide_eq_false h4
      have t1' : decide ((4000 : Int) < (n2 : Int)) = false := decide_eq_false (by omega)
      obtain ⟨hf1, hf2⟩ := few_get hq.symm
      have hbl5 : ∀ e ∈ es, e.b.length ≤ 5000 := fun e h => by have := hf2 e h; omega
      have HEN := Lib.hid (encode_any w A n c es he (by omega) hbl5 ht)
      have HRE := Lib.hid (fun w' (hg : Grow w w') => rencode_any w' A n c es (he.grow hg) (by omega) hbl5)
      have HDE := Lib.hid (fun w' (hg : Grow w w') => decode_any w' A2 n2 c2 L (hb.grow hg) HN2.out.1 HN2.out.2 (ht.grow hg) (Nat.lt_of_lt_of_le hB0 hg.size))
      have HRD := Lib.hid (fun w' (hg : Grow w w') => rdecode_any w' A2 n2 c2 L (hb.grow hg) HN2.out.1 HN2.out.2)
      obtain ⟨⟨X, ex⟩, hX⟩ : ∃ r, r = encS es := ⟨_, rfl⟩
      obtain ⟨⟨D, ed⟩, hD⟩ : ∃ r, r = decS L := ⟨_, rfl⟩
      have hDl : D.length ≤ 1024 := by
        have : (decS L).1.length ≤ 1024 := by
          unfold decS
          dsimp only
          split
          · simp
          · split
            · dsimp only
              exact Nat.le_trans (decN_le _ _ _) (rnum_le L 0 1024)
            · simp
        rw [← hD] at this
        exact this
      rw [← hX] at HEN HRE
      rw [← hD] at HDE HRD
      dsimp only at HEN HRE HDE HRD
      have HDL := Lib.hid hDl
      clear he hn hb hc2 hm2 ht hB0 hl hbl hq h4 hf1 hf2 hbl5 hX hD hDl
      go_enter Tryd.func3, Tryd.ntmps3
      go_wp2_with fail
      refine HF.out.mono ?_
      rintro r w' ⟨rfl, rfl⟩
      unfold bi
      go_wp2_with fail
      refine HEN.out.mono ?_
      rintro r w1 ⟨⟨v1, rfl, hv1⟩, hg1⟩
      obtain ⟨A5, c5, rfl, -, -, h5⟩ := hv1
      have H5 := Lib.hid h5
      have HG1 := Lib.hid hg1
      obtain ⟨l5, hl5⟩ : ∃ q, q = X.length := ⟨_, rfl⟩
      rw [← hl5] at H5 ⊢
      clear h5 hg1 HEN
      dsimp only
      go_wp2_with fail
      refine (HRE.out w1 HG1.out).mono ?_
      rintro r w2 ⟨⟨v2, rfl, hv2⟩, hg2⟩
      obtain ⟨A6, c6, rfl, -, -, h6⟩ := hv2
      rw [← hl5] at h6 ⊢
      have H6 := Lib.hid h6
      have H5' := Lib.hid (H5.out.grow hg2)
      have HG2 := Lib.hid (HG1.out.trans hg2)
      clear h6 hg2 HRE H5 hl5
      dsimp only
      go_wp2_with fail
      refine (HDE.out w2 HG2.out).mono ?_
      rintro r w3 ⟨⟨v3, rfl, hv3⟩, hg3⟩
      obtain ⟨A7, c7, rfl, -, -, h7⟩ := hv3
      obtain ⟨l7, hl7⟩ : ∃ q, q = D.length := ⟨_, rfl⟩
      rw [← hl7] at h7 ⊢
      have H7 := Lib.hid h7
      have HG3 := Lib.hid (HG2.out.trans hg3)
      have HG23 := Lib.hid hg3
      clear h7 hg3 HDE
      dsimp only
      go_wp2_with fail
      refine (HRD.out w3 HG3.out).mono ?_
      rintro r w4 ⟨⟨v4, rfl, hv4⟩, hg4⟩
      obtain ⟨A8, c8, rfl, -, -, h8⟩ := hv4
      rw [← hl7] at h8 ⊢
      have cs5 := conv_str (P := Tryd.prog) Tryd.underlying23 Tryd.underlying5 Tryd.underlying9 (H5'.out.grow (HG23.out.trans hg4)) c5
      have cs6 := conv_str (P := Tryd.prog) Tryd.underlying23 Tryd.underlying5 Tryd.underlying9 (H6.out.grow (HG23.out.trans hg4)) c6
      have te := str_eq X X
      rw [decide_eq_true rfl] at te
      have HSA := Lib.hid (sameall_any w4 A7 A8 l7 l7 c7 c8 D (H7.out.grow hg4) h8 (by have := HDL.out; unfold maxLen; omega))
      have HG4 := Lib.hid (HG3.out.trans hg4)
      clear h8 hg4 HRD H7 H5' H6 hl7
      dsimp only
      go_wp2_with fail
      refine HSA.out.mono ?_
      rintro r w5 ⟨rfl, hg5⟩
      have HG5 := Lib.hid (HG4.out.trans hg5)
      clear hg5 cs5 cs6 te
      go_wp2_with fail
      refine (HWK.out w5 HG5.out).mono ?_
      rintro r w6 ⟨rfl, hg6⟩
      have HG6 := Lib.hid (HG5.out.trans hg6)
      clear hg6
      go_wp2_with fail
      go_ret
      exact ⟨rfl, HG6.out⟩
end Go.Proofs.YtmekdhlcflielaaDoor.ev
