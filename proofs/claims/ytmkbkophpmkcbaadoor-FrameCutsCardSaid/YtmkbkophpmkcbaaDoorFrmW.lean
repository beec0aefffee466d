/- The walks of frames: Frame. -/
import Derived.Test.YtmkbkophpmkcbaaDoorFrm
import Derived.Test.YtmkbkophpmkcbaaDoorViR2
import Derived.Test.YtmkbkophpmkcbaaDoorSealL
import Derived.Test.YtmkbkophpmkcbaaDoorOwnP
namespace Go.Proofs.YtmkbkophpmkcbaaDoor.frW
open Go Go.RowKit Go.Par Go.Kit Vi Go.Proofs.YtmkbkophpmkcbaaDoor.cl Go.Proofs.YtmkbkophpmkcbaaDoor.slW Go.Proofs.YtmkbkophpmkcbaaDoor.frm
open Go.Proofs.YtmkbkophpmkcbaaDoor.viW hiding i8 i8s i8z i8b info8
open Go.Proofs.YtmkbkophpmkcbaaDoor.crcW

theorem frame_long (A : Option Addr) (n c : Nat) (w : World) (hn : 65536 < n) :
    Calls Tryd.prog 28 #[.slice A n c] w fun e w' => e = .returned (.tuple #[.slice none 0 0, .int .i64 3]) ∧ w = w' := by
  go_enter Tryd.func28, Tryd.ntmps28
  go_wp2_with fail
  go_ret2
  exact ⟨rfl, rfl⟩

set_option maxHeartbeats 400000 in
theorem frame_any (A : Option Addr) (n c : Nat) (l : List UInt8) (w : World) (hb : Bytes w A n l) (hn : n ≤ 65536) (ht : Tab w) :
    Calls Tryd.prog 28 #[.slice A n c] w fun e w' => ∃ v, e = .returned (.tuple #[v, .int .i64 0]) ∧ w'.ownsRow w.heap.size 5 1 v (frame8 l).length (u8s (frame8 l)) ∧ Grow w w' := by
  have hlen := hb.len
  have hvl := vb_len_le n
  have hbo := bytes_own n (by omega) w
  obtain ⟨M, hM⟩ : ∃ M, M = vb n := ⟨_, rfl⟩
  obtain ⟨O, hO⟩ : ∃ O, O = M ++ l := ⟨_, rfl⟩
  obtain ⟨S, hS⟩ : ∃ S, sum [O] = S := ⟨_, rfl⟩
  have hfr : frame8 l = O ++ four8 S := by unfold frame8; rw [hlen, ← hM, ← hO, hS]
  have hOl : O.length = M.length + n := by rw [hO, List.length_append, hlen]
  rw [hfr, List.length_append, four8_len]
  rw [← hM] at hbo hvl
  have HSU := Lib.hid (sum_as hS)
  have HO := Lib.hid hO
  have HOL := Lib.hid hOl
  have HBO := Lib.hid hbo
  have HBY := Lib.hid hb
  have hsl := S.isLt
  clear hlen hM hO hS hfr hOl hbo hb
  go_enter Tryd.func28, Tryd.ntmps28
  go_wp2_with fail
  refine HBO.out.mono ?_
  rintro e w1 ⟨v1, rfl, ho1, hg1⟩
  have hsz1 : w.heap.size ≤ w1.heap.size := hg1.size
  have hb1 := HBY.out.grow hg1
  have hlim : M.length + n ≤ 140737488355328 := by omega
  have HG1 := Lib.hid hg1
  clear hg1 HBO HBY
  go_wp2_with (at_builtin; refine append_bytes Tryd.underlying25 i8 i8z i8s i8b rfl _ _ rfl w.heap.size v1 M.length M ho1 rfl A n c l hb1 rfl hlim hsz1 ?_; intro v2 w2 hown2 hgb2 hh2; have hg2 := grow_by HG1.out hgb2 (own_base ho1); rw [← HO.out] at hown2; obtain ⟨A2, c2, rfl, e1, e2, e3⟩ := own_form hown2; rw [Nat.mul_one] at e3; have HO2 := Lib.hid hown2; have HG2 := Lib.hid hg2; have HB2 := Lib.hid e3; have HC2 := Lib.hid e2; clear hown2 hgb2 hh2 hg2 e3 e2 ho1 hb1)
  refine (HSU.out _ _ _ _ (Parts.one _ _ rfl (Sl.mk HB2.out e1 HC2.out)) (by decide) ((ht.grow HG2.out).grow (Grow.alloc _ _))).mono ?_
  rintro e w3 ⟨rfl, rfl⟩
  obtain ⟨W3, hW3⟩ : ∃ W3, W3 = w2.alloc (.cells #[.slice A2 (M.length + n) c2] 25) := ⟨_, rfl⟩
  have hg3 : Grow w W3 := by rw [hW3]; exact HG2.out.trans (Grow.alloc _ _)
  have ho3 : W3.ownsRow w.heap.size 5 1 (.slice A2 (M.length + n) c2) (M.length + n) (u8s O) := by rw [hW3]; exact own_grow HO2.out (Grow.alloc _ _)
  rw [← hW3]
  have HF := Lib.hid (four8_new S W3 5 rfl)
  have HGA := Lib.hid (Grow.alloc W3 (.cells #[.int .u8 ((S.toNat : Int) / 16777216), .int .u8 ((S.toNat : Int) / 65536 % 256), .int .u8 ((S.toNat : Int) / 256 % 256), .int .u8 ((S.toNat : Int) % 256)] 5))
  have HO3 := Lib.hid (own_grow ho3 HGA.out)
  have HG3 := Lib.hid (hg3.trans HGA.out)
  have hsz : w.heap.size ≤ (W3.alloc (.cells #[.int .u8 ((S.toNat : Int) / 16777216), .int .u8 ((S.toNat : Int) / 65536 % 256), .int .u8 ((S.toNat : Int) / 256 % 256), .int .u8 ((S.toNat : Int) % 256)] 5)).heap.size := HG3.out.size
  have hl4 : M.length + n + 4 ≤ 140737488355328 := by omega
  clear hW3 hg3 ho3
  go_wp2_with (at_builtin; refine append_bytes Tryd.underlying25 i8 i8z i8s i8b rfl _ _ rfl w.heap.size _ (M.length + n) O HO3.out rfl _ 4 4 (four8 S) HF.out rfl hl4 hsz ?_; intro v4 w4 hown4 hgb4 hh4; obtain ⟨A4, c4, rfl, -, -, -⟩ := own_form hown4)
  go_ret2
  exact ⟨_, rfl, by rw [HOL.out]; exact hown4, grow_by HG3.out hgb4 (own_base HO3.out)⟩

set_option maxHeartbeats 400000 in
theorem ref_frame_any (A : Option Addr) (n c : Nat) (l : List UInt8) (w : World) (hb : Bytes w A n l) (hn : n ≤ 65536) :
    Calls Tryd.prog 29 #[.slice A n c] w fun e w' => ∃ v, e = .returned v ∧ w'.ownsRow w.heap.size 5 1 v (frame8 l).length (u8s (frame8 l)) ∧ Grow w w' := by
  have hlen := hb.len
  have hvl := vb_len_le n
  have hbo := ref_bytes_own n (by omega) w
  obtain ⟨M, hM⟩ : ∃ M, M = vb n := ⟨_, rfl⟩
  obtain ⟨O, hO⟩ : ∃ O, O = M ++ l := ⟨_, rfl⟩
  obtain ⟨S, hS⟩ : ∃ S, sum [O] = S := ⟨_, rfl⟩
  have hfr : frame8 l = O ++ four8 S := by unfold frame8; rw [hlen, ← hM, ← hO, hS]
  have hOl : O.length = M.length + n := by rw [hO, List.length_append, hlen]
  have hmo := ref_more_as (s := 0#32) (l := O) (S := S) (by rw [← hS, sum_one])
  rw [show ((0#32).toNat : Int) = 0 from rfl] at hmo
  rw [hfr, List.length_append, four8_len]
  rw [← hM] at hbo hvl
  have HMO := Lib.hid hmo
  have HO := Lib.hid hO
  have HOL := Lib.hid hOl
  have HBO := Lib.hid hbo
  have HBY := Lib.hid hb
  clear hlen hM hO hS hfr hOl hbo hb hmo
  go_enter Tryd.func29, Tryd.ntmps29
  go_wp2_with fail
  refine HBO.out.mono ?_
  rintro e w1 ⟨v1, rfl, ho1, hg1⟩
  have hsz1 : w.heap.size ≤ w1.heap.size := hg1.size
  have hb1 := HBY.out.grow hg1
  have hlim : M.length + n ≤ 140737488355328 := by omega
  have HG1 := Lib.hid hg1
  clear hg1 HBO HBY
  go_wp2_with (at_builtin; refine append_bytes Tryd.underlying25 i8 i8z i8s i8b rfl _ _ rfl w.heap.size v1 M.length M ho1 rfl A n c l hb1 rfl hlim hsz1 ?_; intro v2 w2 hown2 hgb2 hh2; have hg2 := grow_by HG1.out hgb2 (own_base ho1); rw [← HO.out] at hown2; obtain ⟨A2, c2, rfl, e1, e2, e3⟩ := own_form hown2; rw [Nat.mul_one] at e3; have HO2 := Lib.hid hown2; have HG2 := Lib.hid hg2; have HB2 := Lib.hid e3; have HC2 := Lib.hid e2; clear hown2 hgb2 hh2 hg2 e3 e2 ho1 hb1)
  refine (HMO.out A2 (M.length + n) c2 w2 HB2.out (by unfold maxLen; omega)).mono ?_
  rintro e w3 ⟨rfl, rfl⟩
  go_wp2_with fail
  refine (four_any S w2).mono ?_
  rintro e w3 ⟨g3, rfl, hf3, hg3⟩
  have HO3 := Lib.hid (own_grow HO2.out hg3)
  have HF := Lib.hid hf3
  have HG3 := Lib.hid (HG2.out.trans hg3)
  have hsz : w.heap.size ≤ w3.heap.size := HG3.out.size
  have hl4 : M.length + n + 4 ≤ 140737488355328 := by omega
  clear hf3 hg3 HO2
  go_wp2_with (at_builtin; refine append_bytes Tryd.underlying25 i8 i8z i8s i8b rfl _ _ rfl w.heap.size _ (M.length + n) O HO3.out rfl _ 4 4 (four8 S) HF.out rfl hl4 hsz ?_; intro v4 w4 hown4 hgb4 hh4; obtain ⟨A4, c4, rfl, -, -, -⟩ := own_form hown4)
  go_ret
  exact ⟨_, rfl, by rw [HOL.out]; exact hown4, grow_by HG3.out hgb4 (own_base HO3.out)⟩
end Go.Proofs.YtmkbkophpmkcbaaDoor.frW
