/- The walk of TcodeSays (printed by gen_tcsays.py). -/
import Derived.Test.YtacgfpjoaikfbaaTcB
import Derived.Test.YtacgfpjoaikfbaaTcY
namespace Go.Proofs.Ytacgfpjoaikfbaa.tc
open Go Go.RowKit Go.Par Go.Kit Vi Go.Proofs.Ytacgfpjoaikfbaa.bfW
open Go.Proofs.Ytacgfpjoaikfbaa.viW hiding i8 i8s i8z i8b info8

set_option maxRecDepth 100000 in
set_option maxHeartbeats 4000000 in
theorem says_walk (w : World) (A : Option Addr) (n c : Nat) (fs : List Fil) (he : Fils w A n fs) (hn : n ≤ maxLen) (A2 : Option Addr) (n2 c2 : Nat) (L : List UInt8) (hb : Bytes w A2 n2 L) (hc2 : n2 ≤ c2) (hm2 : c2 ≤ maxLen) :
    Calls Try.prog 3 #[.slice A n c, .slice A2 n2 c2] w fun r w' => r = .returned (.bool true) ∧ Grow w w' := by
  have HF := Lib.hid (few_any A n c fs w he hn)
  have HE := Lib.hid he
  have HB := Lib.hid hb
  have HN2 := Lib.hid (And.intro hc2 hm2)
  unfold maxLen at hm2
  have hn2 : n2 ≤ 9223372036854775807 := by omega
  clear he hn hb hc2 hm2
  have t0 : (decide (2000 < n2) = true ∧ decide ((2000 : Int) < (n2 : Int)) = true) ∨ (decide (2000 < n2) = false ∧ decide ((2000 : Int) < (n2 : Int)) = false) := by
    by_cases h4 : 2000 < n2
    · exact .inl ⟨decide_eq_true h4, decide_eq_true (by omega)⟩
    · exact .inr ⟨decide_eq_false h4, decide_eq_false (by omega)⟩
  rcases t0 with ⟨t1, t1'⟩ | ⟨t1, t1'⟩
  · clear HE HB HN2
    go_enter Try.func3, Try.ntmps3
    go_wp2_with fail
    refine HF.out.mono ?_
    rintro r w' ⟨⟨q, rfl, hq⟩, rfl⟩
    have hused : True := by have := hq; trivial
    clear hused hq
    unfold bi
    cases q
    all_goals
      go_wp2_with fail
      refine (works_any w).mono ?_
      rintro r w1 ⟨rfl, hg1⟩
      have HG1 := Lib.hid hg1
      clear hg1
      go_wp2_with fail
      go_ret
      exact ⟨rfl, HG1.out⟩
  · have HDE := Lib.hid (fun (w' : World) (hg : Grow w w') => decode_any w' A2 n2 c2 L (HB.out.grow hg) HN2.out.1 HN2.out.2)
    have HRE := Lib.hid (fun (w' : World) (hg : Grow w w') => rdecode_any w' A2 n2 c2 L (HB.out.grow hg) HN2.out.1 HN2.out.2)
    clear HB
    go_enter Try.func3, Try.ntmps3
    go_wp2_with fail
    refine HF.out.mono ?_
    rintro r w' ⟨⟨q, rfl, hq⟩, rfl⟩
    have HQ := Lib.hid hq
    clear hq
    unfold bi
    cases q
    · go_wp2_with fail
      refine (works_any w).mono ?_
      rintro r w1 ⟨rfl, hg1⟩
      have HG1 := Lib.hid hg1
      clear hg1
      go_wp2_with fail
      go_ret
      exact ⟨rfl, HG1.out⟩
    · obtain ⟨hq1, hq2⟩ := HQ.out rfl
      have hfl := HE.out.1
      have htl := treb_sm hq2 (by omega)
      have HBY := Lib.hid (bytes_any w A n c fs HE.out (by omega))
      have HEN := Lib.hid (fun (w' : World) (hg : Grow w w') => encode_any w' A n c fs (HE.out.grow hg) (by omega) (by omega))
      obtain ⟨Z, hZ⟩ : ∃ Z, Z = treb fs := ⟨_, rfl⟩
      rw [← hZ] at HBY htl
      have HZ := Lib.hid hZ
      clear hq1 hq2 hfl HQ HF hZ
      go_wp2_with fail
      refine HBY.out.mono ?_
      rintro r w1 ⟨v1, rfl, ho1⟩
      have HG1 := Lib.hid ho1.2
      obtain ⟨A3, c3, rfl, hb3⟩ := own_slB ho1.1
      have HB3 := Lib.hid hb3
      have HEN1 := Lib.hid (HEN.out w1 HG1.out)
      obtain ⟨z, hz⟩ : ∃ z, z = Z.length := ⟨_, rfl⟩
      rw [← hz] at HB3 htl ⊢
      have HZL := Lib.hid hz
      clear ho1 hb3 HBY HEN hz
      by_cases hbig : 131072 < z
      · have t2 : decide (131072 < z) = true := decide_eq_true hbig
        have t2' : decide ((131072 : Int) < (z : Int)) = true := decide_eq_true (by omega)
        have hen : encT fs = ([], 3) := by unfold encT; rw [← HZ.out, ← HZL.out, if_pos hbig]
        rw [hen] at HEN1
        clear hbig hen
        go_wp2_with fail
        refine HEN1.out.mono ?_
        rintro r w3 ⟨⟨v3, rfl, B3, d3, rfl, -⟩, hg3⟩
        have HG3 := Lib.hid (HG1.out.trans hg3)
        clear hg3 HEN1
        dsimp only
        go_wp2_with fail
        refine (HDE.out w3 HG3.out).mono ?_
        rintro r w4 ⟨⟨v4, rfl, hv4⟩, hg4⟩
        have HG4 := Lib.hid (HG3.out.trans hg4)
        obtain ⟨A7, c7, rfl, h71, h72, h7⟩ := hv4
        have H7 := Lib.hid h7
        have H72 := Lib.hid (Nat.le_trans h71 h72)
        obtain ⟨⟨D, ed⟩, hD⟩ : ∃ r, r = decT L := ⟨_, rfl⟩
        have HRD := Lib.hid (HRE.out w4 HG4.out)
        rw [← hD] at H7 H72 HRD ⊢
        dsimp only at H7 H72 HRD ⊢
        obtain ⟨l7, hl7⟩ : ∃ q, q = D.length := ⟨_, rfl⟩
        rw [← hl7] at H7 H72 ⊢
        have HL7 := Lib.hid hl7
        have tE : ((ed : Int) == (ed : Int)) = true := beq_self_eq_true _
        have tE2 : (ed == ed) = true := beq_self_eq_true _
        clear h71 h72 h7 hg4 hD hl7
        go_wp2_with fail
        refine HRD.out.mono ?_
        rintro r w5 ⟨⟨v5, rfl, hv5⟩, hg5⟩
        have HG5 := Lib.hid (HG4.out.trans hg5)
        obtain ⟨A8, c8, rfl, h81, h82, h8⟩ := hv5
        rw [← HL7.out] at h8 ⊢
        have HSA := Lib.hid (same_any w5 A7 A8 l7 c7 c8 D (H7.out.grow hg5) h8 H72.out)
        clear h81 h82 h8 hg5 HRD
        dsimp only
        go_wp2_with fail
        refine HSA.out.mono ?_
        rintro r w6 ⟨rfl, hg6⟩
        have HG6 := Lib.hid (HG5.out.trans hg6)
        clear hg6 HSA
        go_wp2_with fail
        refine (works_any w6).mono ?_
        rintro r w7 ⟨rfl, hg7⟩
        have HG7 := Lib.hid (HG6.out.trans hg7)
        clear hg7
        go_wp2_with fail
        go_ret
        exact ⟨rfl, HG7.out⟩
      · have t2 : decide (131072 < z) = false := decide_eq_false hbig
        have t2' : decide ((131072 : Int) < (z : Int)) = false := decide_eq_false (by omega)
        have hen : encT fs = (Z, 0) := by unfold encT; rw [← HZ.out, ← HZL.out, if_neg hbig]
        rw [hen] at HEN1
        clear hbig hen
        go_wp2_with fail
        refine HEN1.out.mono ?_
        rintro r w3 ⟨⟨v3, rfl, B3, d3, rfl, -, -, b5⟩, hg3⟩
        have HG3 := Lib.hid (HG1.out.trans hg3)
        rw [← HZL.out] at b5
        have cs1 := conv_str (P := Try.prog) Try.underlying24 Try.underlying5 Try.underlying9 b5 d3
        have cs2 := conv_str (P := Try.prog) Try.underlying24 Try.underlying5 Try.underlying9 (Row.grow HB3.out hg3) c3
        have te : ((str Z).toList == (str Z).toList) = true := beq_self_eq_true _
        have te2 : ((str Z).toList != (str Z).toList) = false := by unfold bne; rw [te]; rfl
        rw [← HZL.out]
        clear hg3 b5 HEN1
        dsimp only
        rw [show ((0 : Nat) : Int) = 0 from rfl]
        repeat (first | with_reducible (refine wp_region_cut (k := 10) ?_) | go_values | go_guarded | go_step | go_upon | go_back)
        unfold Cut
        clear cs1 cs2 te te2
        go_wp2_with fail
        refine (HDE.out w3 HG3.out).mono ?_
        rintro r w4 ⟨⟨v4, rfl, hv4⟩, hg4⟩
        have HG4 := Lib.hid (HG3.out.trans hg4)
        obtain ⟨A7, c7, rfl, h71, h72, h7⟩ := hv4
        have H7 := Lib.hid h7
        have H72 := Lib.hid (Nat.le_trans h71 h72)
        obtain ⟨⟨D, ed⟩, hD⟩ : ∃ r, r = decT L := ⟨_, rfl⟩
        have HRD := Lib.hid (HRE.out w4 HG4.out)
        rw [← hD] at H7 H72 HRD ⊢
        dsimp only at H7 H72 HRD ⊢
        obtain ⟨l7, hl7⟩ : ∃ q, q = D.length := ⟨_, rfl⟩
        rw [← hl7] at H7 H72 ⊢
        have HL7 := Lib.hid hl7
        have tE : ((ed : Int) == (ed : Int)) = true := beq_self_eq_true _
        have tE2 : (ed == ed) = true := beq_self_eq_true _
        clear h71 h72 h7 hg4 hD hl7
        go_wp2_with fail
        refine HRD.out.mono ?_
        rintro r w5 ⟨⟨v5, rfl, hv5⟩, hg5⟩
        have HG5 := Lib.hid (HG4.out.trans hg5)
        obtain ⟨A8, c8, rfl, h81, h82, h8⟩ := hv5
        rw [← HL7.out] at h8 ⊢
        have HSA := Lib.hid (same_any w5 A7 A8 l7 c7 c8 D (H7.out.grow hg5) h8 H72.out)
        clear h81 h82 h8 hg5 HRD
        dsimp only
        go_wp2_with fail
        refine HSA.out.mono ?_
        rintro r w6 ⟨rfl, hg6⟩
        have HG6 := Lib.hid (HG5.out.trans hg6)
        clear hg6 HSA
        go_wp2_with fail
        refine (works_any w6).mono ?_
        rintro r w7 ⟨rfl, hg7⟩
        have HG7 := Lib.hid (HG6.out.trans hg7)
        clear hg7
        go_wp2_with fail
        go_ret
        exact ⟨rfl, HG7.out⟩
end Go.Proofs.Ytacgfpjoaikfbaa.tc
