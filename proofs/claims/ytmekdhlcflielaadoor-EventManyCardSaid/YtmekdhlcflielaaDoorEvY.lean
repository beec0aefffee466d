/- The walk of EventMany. -/
import Derived.Test.YtmekdhlcflielaaDoorEvL
import Derived.Test.YtmekdhlcflielaaDoorEvQ
namespace Go.Proofs.YtmekdhlcflielaaDoor.ev
open Go Go.RowKit Go.Par Go.Kit Vi Go.Proofs.YtmekdhlcflielaaDoor.bfW
open Go.Proofs.YtmekdhlcflielaaDoor.viW hiding i8 i8s i8z i8b info8

def heal : Ev := ⟨12, 0, 0, 0, 0, 0, 0, []⟩
theorem heal_ok : heal.ok := ⟨by decide, by decide, by decide, by decide, by decide, by decide, by decide, by decide, by decide⟩
theorem heal_good : goodB heal = true := by decide +kernel
def heals (n : Nat) : List Ev := List.replicate n heal
theorem heals_good (n : Nat) : (heals n).all goodB = true := List.all_eq_true.2 fun e he => by rw [List.eq_of_mem_replicate he]; exact heal_good
theorem heals_snoc (n : Nat) : heals n ++ [heal] = heals (n + 1) := by unfold heals; rw [List.replicate_succ']
theorem heals_enc {n : Nat} : encS (heals n) = if 1024 < n then ([], 3) else (vb n ++ evbs (heals n), 0) := by
  unfold encS
  rw [if_pos (heals_good n), show (heals n).length = n from List.length_replicate]
theorem heals_dec {n : Nat} (h : n ≤ 1024) : decS (vb n ++ evbs (heals n)) = (heals n, 0) := by
  have hl : (heals n).length = n := List.length_replicate
  have := dec_enc (heals_good n) (fun e he => by rw [List.eq_of_mem_replicate he]; exact heal_ok) (by rw [hl]; exact h)
  rw [hl] at this
  exact this
set_option maxRecDepth 100000 in
set_option maxHeartbeats 8000000 in
theorem many_walk (w : World) (x : Nat) (hx : x ≤ 255) (ht : Tab w) (hB0 : 0 < w.heap.size) :
    Calls Tryd.prog 5 #[.int .u8 (x : Int)] w fun r w' => r = .returned (.bool true) ∧ Grow w w' := by
  have HT := Lib.hid ht
  have HWK := Lib.hid (fun w' (hg : Grow w w') => works_any w' (ht.grow hg) (Nat.lt_of_lt_of_le hB0 hg.size))
  have HB0 := Lib.hid hB0
  clear ht hB0
  go_enter Tryd.func5, Tryd.ntmps5
  go_wp2_with fail
  go_loopw [3, 4] (fun o' i' wr => ∃ (k : Nat) (v : Value), k ≤ 924 + x ∧ i' = .int .i64 (k : Int) ∧ v = o' ∧ OutI wr w.heap.size v (heals k) ∧ Grow w wr) (fun _ i' _ => 924 + x - (intOf i').toNat)
  case atStart => exact ⟨0, _, by omega, rfl, rfl, OutI.nil _ _, Grow.refl _⟩
  case round =>
    obtain ⟨k, v, hk, rfl, rfl, ho, hgr⟩ := hrel
    by_cases hlt : k < 924 + x
    · have t1 : decide (k < 924 + x) = true := decide_eq_true hlt
      have t2 : decide ((k : Int) < 924 + (x : Int)) = true := decide_eq_true (by omega)
      have hg1 := Grow.alloc wr (.cells #[.int .u8 12, .int .u8 0, .int .u8 0, .int .i64 0, .int .i64 0, .int .u32 0, .int .u64 0, .slice none 0 0] TE)
      have ho1 := ho.grow hg1
      obtain ⟨rows, a1, a2, a3, a4⟩ := ho1
      have hl : (heals k).length = k := List.length_replicate
      have hbo : BO (wr.alloc (.cells #[.int .u8 12, .int .u8 0, .int .u8 0, .int .i64 0, .int .i64 0, .int .u32 0, .int .u64 0, .slice none 0 0] TE)) (.slice none 0 0) heal.b := BO.nil _
      have HO1 := Lib.hid (ho.grow hg1)
      have HA1 := Lib.hid a1
      have HA2 : Hid ((wr.alloc (.cells #[.int .u8 12, .int .u8 0, .int .u8 0, .int .i64 0, .int .i64 0, .int .u32 0, .int .u64 0, .slice none 0 0] TE)).ownsRow w.heap.size TE 8 v k rows.flatten) := Lib.hid (by rw [hl] at a2; exact a2)
      have HA3 := Lib.hid a3
      have HBO := Lib.hid hbo
      have HG1 := Lib.hid (hgr.trans hg1)
      have HLT := Lib.hid hlt
      have HL := Lib.hid hl
      clear ho hgr hg1 a1 a2 a3 a4 hl hbo hlt hk
      have hkk : k ≤ 2000 := by have := HLT.out; omega
      go_wp2_with (at_builtin; refine wpList_append_row rfl _ _ _ rfl w.heap.size TE _ _ 8 64 Tryd.underlying22 iE iEz iEs iEb rfl (by decide) v k rows.flatten rfl HA2.out (some ⟨wr.heap.size, 0, none⟩) 1 1 [.int .u8 12, .int .u8 0, .int .u8 0, .int .i64 0, .int .i64 0, .int .u32 0, .int .u64 0, .slice none 0 0] rfl (Row.new wr [.int .u8 12, .int .u8 0, .int .u8 0, .int .i64 0, .int .i64 0, .int .u32 0, .int .u64 0, .slice none 0 0] TE (0, 0)) (by intro u hu; simp only [List.mem_cons, List.not_mem_nil, or_false] at hu; rcases hu with rfl | rfl | rfl | rfl | rfl | rfl | rfl | rfl <;> rfl) (by unfold maxLen; omega) (by omega) HG1.out.size ?_; intro v1 w1 hown1 hgb1 _)
      have hn := HO1.out.app HBO.out heal_ok hgb1 (n := k) HL.out.symm rows HA1.out rfl HA3.out hown1
      rw [heals_snoc] at hn
      have HN := Lib.hid (And.intro hn (grow_by HG1.out hgb1 (own_base HA2.out)))
      clear hn hown1 hgb1
      go_roundw
      case rel => exact ⟨k + 1, _, by have := HLT.out; omega, by go_num, rfl, HN.out.1, HN.out.2⟩
      case measure => have := HLT.out; simp [intOf] <;> omega
    · have hk' : k = 924 + x := by omega
      have t1 : decide (k < 924 + x) = false := decide_eq_false hlt
      have t2 : decide ((k : Int) < 924 + (x : Int)) = false := decide_eq_false (by omega)
      obtain ⟨A, c, rfl, d1, d2, d3⟩ := ho.evV
      have hl : (heals k).length = k := List.length_replicate
      rw [hl] at d1 d3 ⊢
      have hen := encode_any wr A k c (heals k) d3 (by omega) (fun e he => by rw [List.eq_of_mem_replicate he]; decide) (HT.out.grow hgr)
      rw [heals_enc] at hen
      have HGR := Lib.hid hgr
      have hk2 : k ≤ 1179 := by omega
      clear ho hlt hk hk' d1 d2 d3 hgr hl
      by_cases h1 : 1024 < k
      · have t3 : decide (1024 < k) = true := decide_eq_true h1
        have t3' : decide ((1024 : Int) < (k : Int)) = true := decide_eq_true (by omega)
        rw [if_pos h1] at hen
        have HEN := Lib.hid hen
        clear hen h1
        go_wp2_with fail
        refine HEN.out.mono ?_
        rintro r w1 ⟨⟨v1, rfl, hv1⟩, hg1⟩
        obtain ⟨A5, c5, rfl, -, -, -⟩ := hv1
        have HG1 := Lib.hid (HGR.out.trans hg1)
        clear hg1
        dsimp only
        rw [show ((3 : Nat) : Int) = 3 from rfl, show ([] : List UInt8).length = 0 from rfl]
        go_wp2_with fail
        refine (HWK.out w1 HG1.out).mono ?_
        rintro r w2 ⟨rfl, hg2⟩
        have HG2 := Lib.hid (HG1.out.trans hg2)
        clear hg2
        go_wp2_with fail
        go_ret
        exact ⟨rfl, HG2.out⟩
      · have t3 : decide (1024 < k) = false := decide_eq_false h1
        have t3' : decide ((1024 : Int) < (k : Int)) = false := decide_eq_false (by omega)
        rw [if_neg h1] at hen
        have hd := heals_dec (n := k) (by omega)
        obtain ⟨X, hX⟩ : ∃ X, X = vb k ++ evbs (heals k) := ⟨_, rfl⟩
        rw [← hX] at hen hd
        have HEN := Lib.hid hen
        have HD := Lib.hid hd
        clear hen h1 hd hX
        go_wp2_with fail
        refine HEN.out.mono ?_
        rintro r w1 ⟨⟨v1, rfl, hv1⟩, hg1⟩
        try dsimp only at hv1
        obtain ⟨A5, c5, rfl, b1, b2, b3⟩ := hv1
        have hde := decode_any w1 A5 X.length c5 X b3 b1 b2 (HT.out.grow (HGR.out.trans hg1)) (Nat.lt_of_lt_of_le HB0.out (HGR.out.trans hg1).size)
        rw [HD.out] at hde
        try dsimp only at hde
        have HDE := Lib.hid hde
        have HG1 := Lib.hid (HGR.out.trans hg1)
        obtain ⟨l5, hl5⟩ : ∃ q, q = X.length := ⟨_, rfl⟩
        rw [← hl5] at HDE ⊢
        clear hg1 b1 b2 b3 hde hl5 HEN
        dsimp only
        rw [show ((0 : Nat) : Int) = 0 from rfl]
        go_wp2_with fail
        refine HDE.out.mono ?_
        rintro r w2 ⟨⟨v2, rfl, hv2⟩, hg2⟩
        obtain ⟨A6, c6, rfl, -, -, -⟩ := hv2
        rw [show (heals k).length = k from List.length_replicate]
        have HG2 := Lib.hid (HG1.out.trans hg2)
        clear hg2 HDE
        dsimp only
        rw [show ((0 : Nat) : Int) = 0 from rfl]
        go_wp2_with fail
        refine (HWK.out w2 HG2.out).mono ?_
        rintro r w3 ⟨rfl, hg3⟩
        have HG3 := Lib.hid (HG2.out.trans hg3)
        clear hg3
        go_wp2_with fail
        go_ret
        exact ⟨rfl, HG3.out⟩
end Go.Proofs.YtmekdhlcflielaaDoor.ev
