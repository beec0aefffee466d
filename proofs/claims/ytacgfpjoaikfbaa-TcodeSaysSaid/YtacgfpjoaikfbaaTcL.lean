/- The walk of works: a tree written and read. -/
import Derived.Test.YtacgfpjoaikfbaaTcO
import Derived.Test.YtacgfpjoaikfbaaTcS
namespace Go.Proofs.Ytacgfpjoaikfbaa.tc
open Go Go.RowKit Go.Par Go.Kit Vi Go.Proofs.Ytacgfpjoaikfbaa.bfW
open Go.Proofs.Ytacgfpjoaikfbaa.viW hiding i8 i8s i8z i8b info8

def ex : Fil := ⟨[97], [], [[120]]⟩
theorem ex_enc : encT [ex] = ([1, 1, 97, 0, 1, 1, 120], 0) := by decide
theorem ex_tre : treb [ex] = [1, 1, 97, 0, 1, 1, 120] := by decide
theorem ex_ok : ex.ok := ⟨by decide, (fun t h => by cases h), (fun t h => by rw [show t = [120] from List.mem_singleton.1 h]; decide), by decide, by decide⟩
theorem ex_dec : decT [1, 1, 97, 0, 1, 1, 120] = ([ex], 0) := by
  rw [← ex_tre]
  exact dec_enc (fun f h => by rw [List.mem_singleton.1 h]; exact ex_ok) (by decide)
theorem str_tl (l : List UInt8) : ((str l).toList == l) = true := by rw [show (str l).toList = l from ByteArray.toList_mk _]; exact beq_self_eq_true _
theorem fils_one (w : World) (u v : Value) (f : Fil) (hu : SlS w u f.also) (hv : SlS w v f.lines) (cs : Array Value) (hcs : cs = (filRow u v f).toArray) : Fils (w.alloc (.cells cs TF)) (some ⟨w.heap.size, 0, none⟩) 1 [f] := by
  subst hcs
  refine ⟨rfl, [filRow u v f], ?_, rfl, fun j r x hr hx => ?_⟩
  · have := Row.new w (filRow u v f) TF (0, 0)
    simpa [filRow] using this
  · have hj : j = 0 := by have := (List.getElem?_eq_some_iff.1 hx).1; simp at this; omega
    subst hj
    simp only [List.getElem?_cons_zero, Option.some.injEq] at hr hx
    subst hr; subst hx
    exact ⟨u, v, rfl, hu.grow (Grow.alloc _ _), hv.grow (Grow.alloc _ _)⟩
set_option maxRecDepth 100000 in
set_option maxHeartbeats 400000 in
theorem works_any (w : World) : Calls Try.prog 7 #[] w fun e w' => e = .returned (.bool true) ∧ Grow w w' := by
  obtain ⟨W0, hW0⟩ : ∃ W, W = w.alloc (.cells #[.string ⟨#[120]⟩] TS) := ⟨_, rfl⟩
  have hg0 : Grow w W0 := by rw [hW0]; exact Grow.alloc _ _
  obtain ⟨W1, hW1⟩ : ∃ W, W = W0.alloc (.cells #[.string ⟨#[97]⟩, .slice none 0 0, .slice (some ⟨w.heap.size, 0, none⟩) 1 1] TF) := ⟨_, rfl⟩
  have hg1 : Grow W0 W1 := by rw [hW1]; exact Grow.alloc _ _
  have hfs : Fils W1 (some ⟨W0.heap.size, 0, none⟩) 1 [ex] := by
    rw [hW1]
    refine fils_one W0 (.slice none 0 0) (.slice (some ⟨w.heap.size, 0, none⟩) 1 1) ex (SlS.nil _) ⟨_, 1, rfl, Nat.le_refl _, by decide, ?_⟩ _ rfl
    rw [hW0]
    exact Row.new w [.string (str [120])] TS (0, 0)
  have hs0 : W0.heap.size = w.heap.size + 1 := by rw [hW0]; simp
  rw [hs0] at hfs
  have hen := encode_any W1 (some ⟨w.heap.size + 1, 0, none⟩) 1 1 [ex] hfs (by omega) (by rw [ex_tre]; show 7 ≤ 100000000000000; omega)
  rw [ex_enc] at hen
  have HEN := Lib.hid hen
  have HFS := Lib.hid hfs
  have HW0 := Lib.hid hW0
  have HW1 := Lib.hid hW1
  have HG1 := Lib.hid (hg0.trans hg1)
  clear hfs hen hW0 hW1 hg0 hg1 hs0
  go_enter Try.func7, Try.ntmps7
  try dsimp only
  repeat (first | with_reducible (refine wp_region_cut (k := 2) ?_) | go_values | go_guarded | go_step | go_upon | go_back)
  rw [← HW0.out, ← HW1.out]
  unfold Cut
  go_wp2_with fail
  refine HEN.out.mono ?_
  rintro r w2 ⟨⟨v2, rfl, hb2⟩, hg2⟩
  obtain ⟨A2, c2, rfl, a1, a2, a3⟩ := hb2
  have HG2 := Lib.hid (HG1.out.trans hg2)
  have hde := decode_any w2 A2 7 c2 [1, 1, 97, 0, 1, 1, 120] a3 a1 a2
  rw [ex_dec] at hde
  have HDE := Lib.hid hde
  have HBY := Lib.hid a3
  have HFS2 := Lib.hid (HFS.out.grow hg2)
  clear a1 a2 a3 hg2 hde HEN
  dsimp only
  go_wp2_with fail
  refine HDE.out.mono ?_
  rintro r w3 ⟨⟨v3, rfl, hev⟩, hg3⟩
  obtain ⟨A3, c3, rfl, d1, d2, d3⟩ := hev
  have HSM := Lib.hid (same_any w3 _ A3 1 1 c3 [ex] (HFS2.out.grow hg3) d3 (by decide))
  have HG3 := Lib.hid (HG2.out.trans hg3)
  have cs := conv_str (P := Try.prog) Try.underlying24 Try.underlying5 Try.underlying9 (show Bytes w3 A2 7 [1, 1, 97, 0, 1, 1, 120] from HBY.out.grow hg3) c2
  have t1 := str_tl [1, 1, 97, 0, 1, 1, 120]
  clear hg3 d1 d2 d3 HDE HBY HFS2
  dsimp only
  go_wp2_with fail
  refine HSM.out.mono ?_
  rintro r w4 ⟨rfl, hg4⟩
  have HG4 := Lib.hid (HG3.out.trans hg4)
  clear hg4
  go_wp2_with fail
  go_ret
  exact ⟨rfl, HG4.out⟩
end Go.Proofs.Ytacgfpjoaikfbaa.tc
