/- The walk of EventBack (printed by gen_evback.py). -/
import Derived.Test.YtmekdhlcflielaaDoorEvL
import Derived.Test.YtmekdhlcflielaaDoorEvSA
import Derived.Test.YtmekdhlcflielaaDoorEvQ
namespace Go.Proofs.YtmekdhlcflielaaDoor.ev
open Go Go.RowKit Go.Par Go.Kit Vi Go.Proofs.YtmekdhlcflielaaDoor.bfW
open Go.Proofs.YtmekdhlcflielaaDoor.viW hiding i8 i8s i8z i8b info8

theorem evb_ge (e : Ev) (hg : goodB e = true) : e.b.length ≤ (evb e).length := by
  obtain ⟨-, -, -, -, -, -, -, -, -, -, h11, -⟩ := good_facts hg
  unfold evb
  simp only [List.length_append]
  cases hq : hb e.k 5
  · rw [h11 hq]; simp
  · simp only [if_true, List.length_append]; omega
theorem evbs_ge : ∀ (es : List Ev), es.all goodB = true → ∀ e ∈ es, e.b.length ≤ (evbs es).length
  | [], _, e, he => by cases he
  | x :: es, h, e, he => by
    rw [List.all_cons, Bool.and_eq_true] at h
    rw [evbs_cons, List.length_append]
    rcases List.mem_cons.1 he with he | he
    · subst he; have := evb_ge e h.1; omega
    · have := evbs_ge es h.2 e he; omega
theorem decS_ok (L : List UInt8) : ∀ e ∈ (decS L).1, e.ok := by
  unfold decS
  dsimp only
  split
  · intro e he; cases he
  · split
    · exact decN_ok _ _ _
    · intro e he; cases he
set_option maxRecDepth 100000 in
set_option maxHeartbeats 16000000 in
theorem back_walk (w : World) (A : Option Addr) (n c : Nat) (es : List Ev) (he : Evs w A n es) (hn : n ≤ maxLen) (A2 : Option Addr) (n2 c2 : Nat) (L : List UInt8) (hb : Bytes w A2 n2 L) (hc2 : n2 ≤ c2) (hm2 : c2 ≤ maxLen) (ht : Tab w) (hB0 : 0 < w.heap.size) :
    Calls Tryd.prog 4 #[.slice A n c, .slice A2 n2 c2] w fun r w' => r = .returned (.bool true) ∧ Grow w w' := by
  have HF := Lib.hid (few_any A n c 100 es w he hn)
  have HWK := Lib.hid (fun w' (hg : Grow w w') => works_any w' (ht.grow hg) (Nat.lt_of_lt_of_le hB0 hg.size))
  have hl := he.1
  have hbl := hb.len
  have HN2 := Lib.hid (And.intro hc2 hm2)
  unfold maxLen at hm2
  have hn2 : n2 ≤ 9223372036854775807 := by omega
  obtain ⟨q, hq⟩ : ∃ q, q = fewB es 100 := ⟨_, rfl⟩
  rw [← hq] at HF
  rcases q with _ | _
  · clear he hn hb hc2 hm2 ht hB0 hl hbl hq
    go_enter Tryd.func4, Tryd.ntmps4
    go_wp2_with fail
    refine HF.out.mono ?_
    rintro r w' ⟨rfl, rfl⟩
    unfold bi
    go_wp2_with fail
    refine (HWK.out w (Grow.refl _)).mono ?_
    rintro r w1 ⟨rfl, hg1⟩
    have HG1 := Lib.hid hg1
    clear hg1
    go_wp2_with fail
    go_ret
    exact ⟨rfl, HG1.out⟩
  · by_cases h4 : 4000 < n2
    · have t1 : decide (4000 < n2) = true := decide_eq_true h4
      have t1' : decide ((4000 : Int) < (n2 : Int)) = true := decide_eq_true (by omega)
      clear he hn hb hc2 hm2 ht hB0 hl hbl hq h4
      go_enter Tryd.func4, Tryd.ntmps4
      go_wp2_with fail
      refine HF.out.mono ?_
      rintro r w' ⟨rfl, rfl⟩
      unfold bi
      go_wp2_with fail
      refine (HWK.out w (Grow.refl _)).mono ?_
      rintro r w1 ⟨rfl, hg1⟩
      have HG1 := Lib.hid hg1
      clear hg1
      go_wp2_with fail
      go_ret
      exact ⟨rfl, HG1.out⟩
    · have t1 : decide (4000 < n2) = false := decide_eq_false h4
      have t1' : decide ((4000 : Int) < (n2 : Int)) = false := decide_eq_false (by omega)
      obtain ⟨hf1, hf2⟩ := few_get hq.symm
      have hbl5 : ∀ e ∈ es, e.b.length ≤ 5000 := fun e h => by have := hf2 e h; omega
      have HEN := Lib.hid (encode_any w A n c es he (by omega) hbl5 ht)
      have HDE := Lib.hid (fun w' (hg : Grow w w') => decode_any w' A2 n2 c2 L (hb.grow hg) HN2.out.1 HN2.out.2 (ht.grow hg) (Nat.lt_of_lt_of_le hB0 hg.size))
      have HDX := Lib.hid (fun w' (hg : Grow w w') A' n' c' L' (h1 : Bytes w' A' n' L') (h2 : n' ≤ c') (h3 : c' ≤ maxLen) => decode_any w' A' n' c' L' h1 h2 h3 (ht.grow hg) (Nat.lt_of_lt_of_le hB0 hg.size))
      have HT := Lib.hid ht
      have HEV := Lib.hid he
      have HBL := Lib.hid hb
      have HLL : Hid (L.length ≤ 4000) := Lib.hid (by omega)
      have HEL : Hid (es.length = n ∧ n ≤ 100) := Lib.hid ⟨hl, by omega⟩
      have heok : ∀ e ∈ es, e.ok := fun e hm => by
        obtain ⟨j, hj, rfl⟩ := List.getElem_of_mem hm
        obtain ⟨_, _, e', _, _, _, _, h1, _, _, _, _, h2⟩ := he.at_ (Grow.refl w) (k := j) (by omega)
        rw [List.getElem?_eq_getElem hj] at h1
        injection h1 with h1
        rw [h1]; exact h2
      have HEO := Lib.hid heok
      obtain ⟨⟨X, ex⟩, hX⟩ : ∃ r, r = encS es := ⟨_, rfl⟩
      rw [← hX] at HEN
      dsimp only at HEN
      have HX := Lib.hid hX
      clear he hn hb hc2 hm2 ht hB0 hl hbl hq h4 hf1 hf2 hbl5 hX heok
      go_enter Tryd.func4, Tryd.ntmps4
      go_wp2_with fail
      refine HF.out.mono ?_
      rintro r w' ⟨rfl, rfl⟩
      unfold bi
      go_wp2_with fail
      refine HEN.out.mono ?_
      rintro r w1 ⟨⟨v1, rfl, hv1⟩, hg1⟩
      obtain ⟨A5, c5, rfl, h51, h52, h5⟩ := hv1
      have H5 := Lib.hid (And.intro h51 (And.intro h52 h5))
      have HG1 := Lib.hid hg1
      clear h51 h52 h5 hg1 HEN
      by_cases hex : ex = 0
      · subst hex
        have hxx : X = vb es.length ++ evbs es ∧ es.all goodB = true ∧ es.length ≤ 1024 := by
          have h := HX.out
          unfold encS at h
          split at h
          · rename_i hg
            split at h
            · injection h with _ h; cases h
            · injection h with h _; exact ⟨h, hg, by omega⟩
          · injection h with _ h; cases h
        have hde := HDX.out w1 HG1.out A5 X.length c5 X H5.out.2.2 H5.out.1 H5.out.2.1
        have hdx : decS X = (es, 0) := by rw [hxx.1]; exact dec_enc hxx.2.1 HEO.out hxx.2.2
        rw [hdx] at hde
        dsimp only at hde
        have HDE1 := Lib.hid hde
        obtain ⟨l5, hl5⟩ : ∃ q, q = X.length := ⟨_, rfl⟩
        rw [← hl5] at HDE1 ⊢
        clear hxx hde hdx hl5
        dsimp only
        go_wp2_with fail
        refine HDE1.out.mono ?_
        rintro r w2 ⟨⟨v2, rfl, hv2⟩, hg2⟩
        obtain ⟨A6, c6, rfl, -, -, h6⟩ := hv2
        have HSA := Lib.hid (sameall_any w2 A6 A es.length n c6 c es h6 (HEV.out.grow (HG1.out.trans hg2)) (by have := HEL.out; unfold maxLen; omega))
        have HG2 := Lib.hid (HG1.out.trans hg2)
        obtain ⟨l6, hl6⟩ : ∃ q, q = es.length := ⟨_, rfl⟩
        rw [← hl6] at HSA ⊢
        clear h6 hg2 HDE1 hl6
        dsimp only
        go_wp2_with fail
        refine HSA.out.mono ?_
        rintro r w3 ⟨rfl, hg3⟩
        have HG3 := Lib.hid (HG2.out.trans hg3)
        clear hg3 HSA
        go_wp2_with fail
        refine (HDE.out w3 HG3.out).mono ?_
        rintro r w4 ⟨⟨v4, rfl, hv4⟩, hg4⟩
        obtain ⟨A7, c7, rfl, -, -, h7⟩ := hv4
        obtain ⟨⟨D, ed⟩, hD⟩ : ∃ r, r = decS L := ⟨_, rfl⟩
        have hok := decS_ok L
        have hbk := fun h => enc_dec (L := L) h
        rw [← hD] at h7 hok hbk ⊢
        dsimp only at h7 hok hbk ⊢
        have HG4 := Lib.hid (HG3.out.trans hg4)
        by_cases hed : ed = 0
        · subst hed
          obtain ⟨k1, k2, k3⟩ := hbk rfl
          have hlen : ∀ e ∈ D, e.b.length ≤ 5000 := fun e he => by
            have h1 := evbs_ge D k1 e he
            have h2 := HLL.out
            rw [k3, List.length_append] at h2
            omega
          have hen := encode_any w4 A7 D.length c7 D h7 (by omega) hlen (HT.out.grow HG4.out)
          have hes : encS D = (L, 0) := by
            unfold encS
            rw [if_pos k1, if_neg (by omega), ← k3]
          rw [hes] at hen
          dsimp only at hen
          have HEN2 := Lib.hid hen
          have H7 := Lib.hid h7
          have HK1 := Lib.hid k1
          have HOK := Lib.hid hok
          obtain ⟨l7, hl7⟩ : ∃ q, q = D.length := ⟨_, rfl⟩
          rw [← hl7] at HEN2 H7 k2 ⊢
          clear h7 hok hbk k1 k3 hlen hen hes hl7 hg4 hD
          rw [show ((0 : Nat) : Int) = 0 from rfl]
          go_wp2_with fail
          refine HEN2.out.mono ?_
          rintro r w5 ⟨⟨v5, rfl, hv5⟩, hg5⟩
          obtain ⟨A8, c8, rfl, -, -, h8⟩ := hv5
          have HG5 := Lib.hid (HG4.out.trans hg5)
          have H75 := Lib.hid (H7.out.grow hg5)
          obtain ⟨l8, hl8⟩ : ∃ q, q = L.length := ⟨_, rfl⟩
          rw [← hl8] at h8 ⊢
          have cs1 := conv_str (P := Tryd.prog) Tryd.underlying23 Tryd.underlying5 Tryd.underlying9 h8 c8
          have cs2 := conv_str (P := Tryd.prog) Tryd.underlying23 Tryd.underlying5 Tryd.underlying9 (HBL.out.grow HG5.out) c2
          have te : ((str L).toList == (str L).toList) = true := beq_self_eq_true _
          have te2 : ((str L).toList != (str L).toList) = false := by unfold bne; rw [te]; rfl
          clear h8 hg5 HEN2 H7 hl8
          dsimp only
          rw [show ((0 : Nat) : Int) = 0 from rfl]
          go_wp2_with fail
          clear cs1 cs2 te te2
          go_loopw [13] (fun i' wr => ∃ k : Nat, k ≤ l7 ∧ i' = .int .i64 (k : Int) ∧ Grow w wr ∧ Evs wr A7 l7 D) (fun i' _ => l7 - (intOf i').toNat)
          case atStart => exact ⟨0, by omega, rfl, HG5.out, H75.out⟩
          case round =>
            clear HG5 H75
            obtain ⟨k, hk, rfl, hgr, hev⟩ := hrel
            by_cases hlt : k < l7
            · obtain ⟨b, off, e, A', n', c', rfl, hx, hc, b1, b2, b3, b4⟩ := hev.at_ (Grow.refl _) hlt
              have t5 : decide (k < l7) = true := decide_eq_true hlt
              have t6 : decide ((k : Int) < (l7 : Int)) = true := decide_eq_true (by omega)
              have hgo := good_any wr e b4 A' n' c' b3.len.symm (HT.out.grow hgr)
              rw [List.all_eq_true.1 HK1.out e (List.mem_of_getElem? hx)] at hgo
              have HGO := Lib.hid hgo
              have HC := Lib.hid hc
              have HGR := Lib.hid hgr
              have HEV2 := Lib.hid hev
              have HLT := Lib.hid hlt
              clear hx hc b1 b2 b3 b4 hgo hgr hev hk
              go_wp2_with (refine load_cells rfl _ _ rfl b (off + k * 8) rfl [.int .u8 (e.k : Int), .int .u8 (e.node : Int), .int .u8 (e.peer : Int), .int .i64 e.K, .int .i64 e.at_, .int .u32 (e.mask : Int), .int .u64 (e.draw : Int), .slice A' n' c'] _ HC.out undE rfl (by rw [sizeE]; rfl) ?_)
              refine HGO.out.mono ?_
              rintro r w6 ⟨rfl, hg6⟩
              have HG6 := Lib.hid (HGR.out.trans hg6)
              have HE6 := Lib.hid (HEV2.out.grow hg6)
              clear hg6
              go_wp2_with fail
              go_roundw
              case rel => exact ⟨k + 1, by have := HLT.out; omega, by go_num, HG6.out, HE6.out⟩
              case measure => have := HLT.out; simp [intOf] <;> omega
            · obtain rfl : k = l7 := by omega
              have t5 : decide (k < k) = false := decide_eq_false hlt
              have HGR := Lib.hid hgr
              clear hlt hk hgr hev
              go_wp2_with fail
              refine (HWK.out wr HGR.out).mono ?_
              rintro r w9 ⟨rfl, hg9⟩
              have HG9 := Lib.hid (HGR.out.trans hg9)
              clear hg9
              go_wp2_with fail
              go_ret
              exact ⟨rfl, HG9.out⟩
        · have s3 : ((ed : Int) == 0) = false := beq_false_of_ne (by omega)
          have s4 : (ed == 0) = false := beq_false_of_ne hed
          obtain ⟨l7, hl7⟩ : ∃ q, q = D.length := ⟨_, rfl⟩
          rw [← hl7]
          clear h7 hok hbk hed hg4 hD hl7
          go_wp2_with fail
          refine (HWK.out w4 HG4.out).mono ?_
          rintro r w9 ⟨rfl, hg9⟩
          have HG9 := Lib.hid (HG4.out.trans hg9)
          clear hg9
          go_wp2_with fail
          go_ret
          exact ⟨rfl, HG9.out⟩
      · have s1 : ((ex : Int) == 0) = false := beq_false_of_ne (by omega)
        have s2 : (ex == 0) = false := beq_false_of_ne hex
        obtain ⟨l5, hl5⟩ : ∃ q, q = X.length := ⟨_, rfl⟩
        rw [← hl5]
        clear hex hl5
        dsimp only
        go_wp2_with fail
        refine (HDE.out w1 HG1.out).mono ?_
        rintro r w4 ⟨⟨v4, rfl, hv4⟩, hg4⟩
        obtain ⟨A7, c7, rfl, -, -, h7⟩ := hv4
        obtain ⟨⟨D, ed⟩, hD⟩ : ∃ r, r = decS L := ⟨_, rfl⟩
        have hok := decS_ok L
        have hbk := fun h => enc_dec (L := L) h
        rw [← hD] at h7 hok hbk ⊢
        dsimp only at h7 hok hbk ⊢
        have HG4 := Lib.hid (HG1.out.trans hg4)
        by_cases hed : ed = 0
        · subst hed
          obtain ⟨k1, k2, k3⟩ := hbk rfl
          have hlen : ∀ e ∈ D, e.b.length ≤ 5000 := fun e he => by
            have h1 := evbs_ge D k1 e he
            have h2 := HLL.out
            rw [k3, List.length_append] at h2
            omega
          have hen := encode_any w4 A7 D.length c7 D h7 (by omega) hlen (HT.out.grow HG4.out)
          have hes : encS D = (L, 0) := by
            unfold encS
            rw [if_pos k1, if_neg (by omega), ← k3]
          rw [hes] at hen
          dsimp only at hen
          have HEN2 := Lib.hid hen
          have H7 := Lib.hid h7
          have HK1 := Lib.hid k1
          have HOK := Lib.hid hok
          obtain ⟨l7, hl7⟩ : ∃ q, q = D.length := ⟨_, rfl⟩
          rw [← hl7] at HEN2 H7 k2 ⊢
          clear h7 hok hbk k1 k3 hlen hen hes hl7 hg4 hD
          rw [show ((0 : Nat) : Int) = 0 from rfl]
          go_wp2_with fail
          refine HEN2.out.mono ?_
          rintro r w5 ⟨⟨v5, rfl, hv5⟩, hg5⟩
          obtain ⟨A8, c8, rfl, -, -, h8⟩ := hv5
          have HG5 := Lib.hid (HG4.out.trans hg5)
          have H75 := Lib.hid (H7.out.grow hg5)
          obtain ⟨l8, hl8⟩ : ∃ q, q = L.length := ⟨_, rfl⟩
          rw [← hl8] at h8 ⊢
          have cs1 := conv_str (P := Tryd.prog) Tryd.underlying23 Tryd.underlying5 Tryd.underlying9 h8 c8
          have cs2 := conv_str (P := Tryd.prog) Tryd.underlying23 Tryd.underlying5 Tryd.underlying9 (HBL.out.grow HG5.out) c2
          have te : ((str L).toList == (str L).toList) = true := beq_self_eq_true _
          have te2 : ((str L).toList != (str L).toList) = false := by unfold bne; rw [te]; rfl
          clear h8 hg5 HEN2 H7 hl8
          dsimp only
          rw [show ((0 : Nat) : Int) = 0 from rfl]
          go_wp2_with fail
          clear cs1 cs2 te te2
          go_loopw [13] (fun i' wr => ∃ k : Nat, k ≤ l7 ∧ i' = .int .i64 (k : Int) ∧ Grow w wr ∧ Evs wr A7 l7 D) (fun i' _ => l7 - (intOf i').toNat)
          case atStart => exact ⟨0, by omega, rfl, HG5.out, H75.out⟩
          case round =>
            clear HG5 H75
            obtain ⟨k, hk, rfl, hgr, hev⟩ := hrel
            by_cases hlt : k < l7
            · obtain ⟨b, off, e, A', n', c', rfl, hx, hc, b1, b2, b3, b4⟩ := hev.at_ (Grow.refl _) hlt
              have t5 : decide (k < l7) = true := decide_eq_true hlt
              have t6 : decide ((k : Int) < (l7 : Int)) = true := decide_eq_true (by omega)
              have hgo := good_any wr e b4 A' n' c' b3.len.symm (HT.out.grow hgr)
              rw [List.all_eq_true.1 HK1.out e (List.mem_of_getElem? hx)] at hgo
              have HGO := Lib.hid hgo
              have HC := Lib.hid hc
              have HGR := Lib.hid hgr
              have HEV2 := Lib.hid hev
              have HLT := Lib.hid hlt
              clear hx hc b1 b2 b3 b4 hgo hgr hev hk
              go_wp2_with (refine load_cells rfl _ _ rfl b (off + k * 8) rfl [.int .u8 (e.k : Int), .int .u8 (e.node : Int), .int .u8 (e.peer : Int), .int .i64 e.K, .int .i64 e.at_, .int .u32 (e.mask : Int), .int .u64 (e.draw : Int), .slice A' n' c'] _ HC.out undE rfl (by rw [sizeE]; rfl) ?_)
              refine HGO.out.mono ?_
              rintro r w6 ⟨rfl, hg6⟩
              have HG6 := Lib.hid (HGR.out.trans hg6)
              have HE6 := Lib.hid (HEV2.out.grow hg6)
              clear hg6
              go_wp2_with fail
              go_roundw
              case rel => exact ⟨k + 1, by have := HLT.out; omega, by go_num, HG6.out, HE6.out⟩
              case measure => have := HLT.out; simp [intOf] <;> omega
            · obtain rfl : k = l7 := by omega
              have t5 : decide (k < k) = false := decide_eq_false hlt
              have HGR := Lib.hid hgr
              clear hlt hk hgr hev
              go_wp2_with fail
              refine (HWK.out wr HGR.out).mono ?_
              rintro r w9 ⟨rfl, hg9⟩
              have HG9 := Lib.hid (HGR.out.trans hg9)
              clear hg9
              go_wp2_with fail
              go_ret
              exact ⟨rfl, HG9.out⟩
        · have s3 : ((ed : Int) == 0) = false := beq_false_of_ne (by omega)
          have s4 : (ed == 0) = false := beq_false_of_ne hed
          obtain ⟨l7, hl7⟩ : ∃ q, q = D.length := ⟨_, rfl⟩
          rw [← hl7]
          clear h7 hok hbk hed hg4 hD hl7
          go_wp2_with fail
          refine (HWK.out w4 HG4.out).mono ?_
          rintro r w9 ⟨rfl, hg9⟩
          have HG9 := Lib.hid (HG4.out.trans hg9)
          clear hg9
          go_wp2_with fail
          go_ret
          exact ⟨rfl, HG9.out⟩
end Go.Proofs.YtmekdhlcflielaaDoor.ev
