/- The walk of TcodeBack (under way). -/
import Derived.Test.YtacgfpjoaikfbaaTcH
namespace Go.Proofs.Ytacgfpjoaikfbaa.tc
open Go Go.RowKit Go.Par Go.Kit Vi Go.Proofs.Ytacgfpjoaikfbaa.bfW
open Go.Proofs.Ytacgfpjoaikfbaa.viW hiding i8 i8s i8z i8b info8

set_option maxRecDepth 100000 in
set_option maxHeartbeats 2000000 in
theorem back_walk (w : World) (A : Option Addr) (n c : Nat) (fs : List Fil) (he : Fils w A n fs) (hn : n ≤ maxLen) (A2 : Option Addr) (n2 c2 : Nat) (L : List UInt8) (hb : Bytes w A2 n2 L) (hc2 : n2 ≤ c2) (hm2 : c2 ≤ maxLen) :
    Calls Try.prog 4 #[.slice A n c, .slice A2 n2 c2] w fun r w' => r = .returned (.bool true) ∧ Grow w w' := by
  have HF := Lib.hid (few_any A n c fs w he hn)
  have HE := Lib.hid he
  have HB := Lib.hid hb
  have HN2 := Lib.hid (And.intro hc2 hm2)
  have hbl := hb.len
  unfold maxLen at hm2
  have hn2 : n2 ≤ 9223372036854775807 := by omega
  clear he hn hb hc2 hm2
  by_cases h4 : 2000 < n2
  · have t1 : decide (2000 < n2) = true := decide_eq_true h4
    have t1' : decide ((2000 : Int) < (n2 : Int)) = true := decide_eq_true (by omega)
    clear h4 hbl HE HB HN2
    go_enter Try.func4, Try.ntmps4
    go_wp2_with fail
    refine HF.out.mono ?_
    rintro r w' ⟨⟨q, rfl, hq⟩, rfl⟩
    have hused : True := by have := hq; trivial
    clear hused hq
    unfold bi
    cases q
    all_goals
      go_wp2_with fail
      refine (works_any w).mono ?_
      rintro r w1 ⟨rfl, hg1⟩
      have HG1 := Lib.hid hg1
      clear hg1
      go_wp2_with fail
      go_ret
      exact ⟨rfl, HG1.out⟩
  · -- SECOND
    have t1 : decide (2000 < n2) = false := decide_eq_false h4
    have t1' : decide ((2000 : Int) < (n2 : Int)) = false := decide_eq_false (by omega)
    have HDE := Lib.hid (fun (w' : World) (hg : Grow w w') => decode_any w' A2 n2 c2 L (HB.out.grow hg) HN2.out.1 HN2.out.2)
    have HBL := HB
    clear h4 hbl HB
    go_enter Try.func4, Try.ntmps4
    go_wp2_with fail
    refine HF.out.mono ?_
    rintro r w' ⟨⟨q, rfl, hq⟩, rfl⟩
    have HQ := Lib.hid hq
    clear hq
    unfold bi
    cases q
    · go_wp2_with fail
      refine (works_any w).mono ?_
      rintro r w1 ⟨rfl, hg1⟩
      have HG1 := Lib.hid hg1
      clear hg1
      go_wp2_with fail
      go_ret
      exact ⟨rfl, HG1.out⟩
    · obtain ⟨hq1, hq2⟩ := HQ.out rfl
      have hfl := HE.out.1
      have htl := treb_sm hq2 (by omega)
      have HEN := Lib.hid (encode_any w A n c fs HE.out (by omega) (by omega))
      have HOK := Lib.hid (fun f (hf : f ∈ fs) => (hq2 f hf).ok)
      have HLN := Lib.hid (And.intro hfl hq1)
      obtain ⟨⟨X, ex⟩, hX⟩ : ∃ r, r = encT fs := ⟨_, rfl⟩
      rw [← hX] at HEN
      dsimp only at HEN
      have HX := Lib.hid hX
      clear hq1 hq2 hfl htl hX HQ HF
      go_wp2_with fail
      refine HEN.out.mono ?_
      rintro r w1 ⟨⟨v1, rfl, hv1⟩, hg1⟩
      obtain ⟨A5, c5, rfl, h51, h52, h5⟩ := hv1
      have H5 := Lib.hid (And.intro h51 (And.intro h52 h5))
      have HG1 := Lib.hid hg1
      clear h51 h52 h5 hg1 HEN
      by_cases hex : ex = 0
      · subst hex
        have hxx : X = treb fs ∧ (treb fs).length ≤ 131072 := by
          have h := HX.out
          unfold encT at h
          split at h
          · injection h with _ h; cases h
          · injection h with h _; exact ⟨h, by omega⟩
        have hde := decode_any w1 A5 X.length c5 X H5.out.2.2 H5.out.1 H5.out.2.1
        have hdx : decT X = (fs, 0) := by rw [hxx.1]; exact dec_enc HOK.out hxx.2
        rw [hdx] at hde
        dsimp only at hde
        have HDE1 := Lib.hid hde
        obtain ⟨l5, hl5⟩ : ∃ q, q = X.length := ⟨_, rfl⟩
        rw [← hl5] at HDE1 ⊢
        clear hxx hde hdx hl5
        dsimp only
        rw [show ((0 : Nat) : Int) = 0 from rfl]
        go_wp2_with fail
        refine HDE1.out.mono ?_
        rintro r w2 ⟨⟨v2, rfl, hv2⟩, hg2⟩
        obtain ⟨A6, c6, rfl, -, -, h6⟩ := hv2
        rw [HLN.out.1] at h6 ⊢
        have HSA := Lib.hid (same_any w2 A A6 n c c6 fs (HE.out.grow (HG1.out.trans hg2)) h6 (by have := HLN.out; unfold maxLen; omega))
        have HG2 := Lib.hid (HG1.out.trans hg2)
        clear h6 hg2 HDE1
        dsimp only
        rw [show ((0 : Nat) : Int) = 0 from rfl]
        go_wp2_with fail
        refine HSA.out.mono ?_
        rintro r w3 ⟨rfl, hg3⟩
        have HG3 := Lib.hid (HG2.out.trans hg3)
        clear hg3 HSA
        go_wp2_with fail
        refine (HDE.out w3 HG3.out).mono ?_
        rintro r w4 ⟨⟨v4, rfl, hv4⟩, hg4⟩
        obtain ⟨A7, c7, rfl, h71, h72, h7⟩ := hv4
        obtain ⟨⟨D, ed⟩, hD⟩ : ∃ r, r = decT L := ⟨_, rfl⟩
        have hbk := fun h => enc_dec (L := L) h
        rw [← hD] at h71 h7 hbk ⊢
        dsimp only at h71 h7 hbk ⊢
        have HG4 := Lib.hid (HG3.out.trans hg4)
        by_cases hed : ed = 0
        · subst hed
          obtain ⟨k2, k3⟩ := hbk rfl
          have hdl : D.length ≤ maxLen := Nat.le_trans h71 h72
          have hen := encode_any w4 A7 D.length c7 D h7 (by have h9 := filf_len D; have h8 := congrArg List.length k3; unfold treb at h8; rw [List.length_append] at h8; omega) (by rw [← k3]; omega)
          have hes : encT D = (L, 0) := by
            unfold encT
            rw [← k3, if_neg (by omega)]
          rw [hes] at hen
          dsimp only at hen
          have HEN2 := Lib.hid hen
          obtain ⟨l7, hl7⟩ : ∃ q, q = D.length := ⟨_, rfl⟩
          rw [← hl7] at HEN2 ⊢
          clear h71 h72 h7 hbk k2 k3 hdl hen hes hl7 hg4 hD
          rw [show ((0 : Nat) : Int) = 0 from rfl]
          go_wp2_with fail
          refine HEN2.out.mono ?_
          rintro r w5 ⟨⟨v5, rfl, hv5⟩, hg5⟩
          obtain ⟨A8, c8, rfl, -, -, h8⟩ := hv5
          have HG5 := Lib.hid (HG4.out.trans hg5)
          obtain ⟨l8, hl8⟩ : ∃ q, q = L.length := ⟨_, rfl⟩
          rw [← hl8] at h8 ⊢
          have cs1 := conv_str (P := Try.prog) Try.underlying24 Try.underlying5 Try.underlying9 h8 c8
          have cs2 := conv_str (P := Try.prog) Try.underlying24 Try.underlying5 Try.underlying9 (HBL.out.grow HG5.out) c2
          have te : ((str L).toList == (str L).toList) = true := beq_self_eq_true _
          have te2 : ((str L).toList != (str L).toList) = false := by unfold bne; rw [te]; rfl
          clear h8 hg5 HEN2 hl8
          dsimp only
          rw [show ((0 : Nat) : Int) = 0 from rfl]
          go_wp2_with fail
          refine (works_any w5).mono ?_
          rintro r w9 ⟨rfl, hg9⟩
          have HG9 := Lib.hid (HG5.out.trans hg9)
          clear hg9
          go_wp2_with fail
          go_ret
          exact ⟨rfl, HG9.out⟩
        · have s3 : ((ed : Int) == 0) = false := beq_false_of_ne (by omega)
          have s4 : (ed == 0) = false := beq_false_of_ne hed
          obtain ⟨l7, hl7⟩ : ∃ q, q = D.length := ⟨_, rfl⟩
          rw [← hl7]
          clear h71 h72 h7 hbk hed hg4 hD hl7
          go_wp2_with fail
          refine (works_any w4).mono ?_
          rintro r w9 ⟨rfl, hg9⟩
          have HG9 := Lib.hid (HG4.out.trans hg9)
          clear hg9
          go_wp2_with fail
          go_ret
          exact ⟨rfl, HG9.out⟩
      · have s1 : ((ex : Int) == 0) = false := beq_false_of_ne (by omega)
        have s2 : (ex == 0) = false := beq_false_of_ne hex
        obtain ⟨l5, hl5⟩ : ∃ q, q = X.length := ⟨_, rfl⟩
        rw [← hl5]
        clear hex hl5
        dsimp only
        go_wp2_with fail
        refine (HDE.out w1 HG1.out).mono ?_
        rintro r w4 ⟨⟨v4, rfl, hv4⟩, hg4⟩
        obtain ⟨A7, c7, rfl, h71, h72, h7⟩ := hv4
        obtain ⟨⟨D, ed⟩, hD⟩ : ∃ r, r = decT L := ⟨_, rfl⟩
        have hbk := fun h => enc_dec (L := L) h
        rw [← hD] at h71 h7 hbk ⊢
        dsimp only at h71 h7 hbk ⊢
        have HG4 := Lib.hid (HG1.out.trans hg4)
        by_cases hed : ed = 0
        · subst hed
          obtain ⟨k2, k3⟩ := hbk rfl
          have hdl : D.length ≤ maxLen := Nat.le_trans h71 h72
          have hen := encode_any w4 A7 D.length c7 D h7 (by have h9 := filf_len D; have h8 := congrArg List.length k3; unfold treb at h8; rw [List.length_append] at h8; omega) (by rw [← k3]; omega)
          have hes : encT D = (L, 0) := by
            unfold encT
            rw [← k3, if_neg (by omega)]
          rw [hes] at hen
          dsimp only at hen
          have HEN2 := Lib.hid hen
          obtain ⟨l7, hl7⟩ : ∃ q, q = D.length := ⟨_, rfl⟩
          rw [← hl7] at HEN2 ⊢
          clear h71 h72 h7 hbk k2 k3 hdl hen hes hl7 hg4 hD
          rw [show ((0 : Nat) : Int) = 0 from rfl]
          go_wp2_with fail
          refine HEN2.out.mono ?_
          rintro r w5 ⟨⟨v5, rfl, hv5⟩, hg5⟩
          obtain ⟨A8, c8, rfl, -, -, h8⟩ := hv5
          have HG5 := Lib.hid (HG4.out.trans hg5)
          obtain ⟨l8, hl8⟩ : ∃ q, q = L.length := ⟨_, rfl⟩
          rw [← hl8] at h8 ⊢
          have cs1 := conv_str (P := Try.prog) Try.underlying24 Try.underlying5 Try.underlying9 h8 c8
          have cs2 := conv_str (P := Try.prog) Try.underlying24 Try.underlying5 Try.underlying9 (HBL.out.grow HG5.out) c2
          have te : ((str L).toList == (str L).toList) = true := beq_self_eq_true _
          have te2 : ((str L).toList != (str L).toList) = false := by unfold bne; rw [te]; rfl
          clear h8 hg5 HEN2 hl8
          dsimp only
          rw [show ((0 : Nat) : Int) = 0 from rfl]
          go_wp2_with fail
          refine (works_any w5).mono ?_
          rintro r w9 ⟨rfl, hg9⟩
          have HG9 := Lib.hid (HG5.out.trans hg9)
          clear hg9
          go_wp2_with fail
          go_ret
          exact ⟨rfl, HG9.out⟩
        · have s3 : ((ed : Int) == 0) = false := beq_false_of_ne (by omega)
          have s4 : (ed == 0) = false := beq_false_of_ne hed
          obtain ⟨l7, hl7⟩ : ∃ q, q = D.length := ⟨_, rfl⟩
          rw [← hl7]
          clear h71 h72 h7 hbk hed hg4 hD hl7
          go_wp2_with fail
          refine (works_any w4).mono ?_
          rintro r w9 ⟨rfl, hg9⟩
          have HG9 := Lib.hid (HG4.out.trans hg9)
          clear hg9
          go_wp2_with fail
          go_ret
          exact ⟨rfl, HG9.out⟩
end Go.Proofs.Ytacgfpjoaikfbaa.tc
