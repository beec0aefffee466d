/- The statements on nets: the chapter's example; NetFull. -/
import Derived.Test.YtmekdhlcflielaaNt7
import Derived.Lib.SlBytesConst
namespace Go.Proofs.Ytmekdhlcflielaa.ntL
open Go Go.RowKit Go.Par Go.Kit Go.Proofs.Ytmekdhlcflielaa.mpA Go.Proofs.Ytmekdhlcflielaa.cl Go.Proofs.Ytmekdhlcflielaa.nt

theorem whole12 : wholeB 2 (fun _ _ => false) 1 2 = true := by decide
theorem whole21 : wholeB 2 (fun _ _ => false) 2 1 = true := by decide
/-- of a net that was just made -/
theorem new2 (w : World) : Calls Try.prog 7 #[.int .i64 2] w fun e w' => ∃ g bm, e = .returned (.pointer (some ⟨g, 0, none⟩)) ∧ NetI w' w.heap.size g bm 2 0 (.slice none 0 0) [] (fun _ _ => false) ∧ Grow w w' := new_any 2 w
set_option maxRecDepth 100000 in
set_option maxHeartbeats 4000000 in
theorem works_any (w : World) : Calls Try.prog 13 #[] w fun e w' => e = .returned (.bool true) ∧ Grow w w' := by
  have kc := fun (w : World) (C : Array Value) (n c : Nat) => Lib.run_convert_bytes_const (P := Try.prog) w 26 5 C n c Try.underlying26 Try.underlying5
  go_enter Try.func13, Try.ntmps13
  go_wp2_with fail
  refine (new2 w).mono ?_
  rintro e w1 ⟨g, bm, rfl, hn, hg1⟩
  have HN1 := Lib.hid hn
  have HG1 := Lib.hid hg1
  clear hn hg1
  go_wp2_with fail
  obtain ⟨W2, hW2⟩ : ∃ W, W = w1.alloc (.cells #[.int .u8 120] 5 (1, 2)) := ⟨_, rfl⟩
  rw [← hW2]
  have hg2 : Grow w1 W2 := by rw [hW2]; exact Grow.alloc _ _
  have hs2 : Sl W2 (.slice (some ⟨w1.heap.size, 0, none⟩) 1 1) [120] := by rw [hW2]; exact Sl.mk (Bytes.new w1 [120] 5 (1, 2) rfl rfl rfl) (by decide) (by decide)
  have HS := Lib.hid (send_any W2 w.heap.size g bm 2 0 _ [] _ (HN1.out.grow hg2) 1 2 (by decide) (by decide) _ [120] hs2 (by decide) (by decide) (by decide))
  have HG2 := Lib.hid (HG1.out.trans hg2)
  clear hW2 hg2 hs2 HN1
  refine HS.out.mono ?_
  rintro e w3 ⟨rfl, ⟨u1, -, lv1, hn3, -⟩, hk3⟩
  have HN3 := Lib.hid hn3
  have HG3 := Lib.hid (hk3.grow HG2.out rfl)
  clear hn3 hk3 HS HG2 HG1
  go_wp2_with fail
  obtain ⟨W4, hW4⟩ : ∃ W, W = w3.alloc (.cells #[.int .u8 121] 5 (1, 2)) := ⟨_, rfl⟩
  rw [← hW4]
  have hg4 : Grow w3 W4 := by rw [hW4]; exact Grow.alloc _ _
  have hs4 : Sl W4 (.slice (some ⟨w3.heap.size, 0, none⟩) 1 1) [121] := by rw [hW4]; exact Sl.mk (Bytes.new w3 [121] 5 (1, 2) rfl rfl rfl) (by decide) (by decide)
  have HS := Lib.hid (send_any W4 w.heap.size g bm 2 0 _ _ _ (HN3.out.grow hg4) 2 1 (by decide) (by decide) _ [121] hs4 (by decide) (by decide) (by simp))
  have HG4 := Lib.hid (HG3.out.trans hg4)
  clear hW4 hg4 hs4 HN3
  refine HS.out.mono ?_
  rintro e w5 ⟨rfl, ⟨u2, -, lv2, hn5, -⟩, hk5⟩
  have HG5 := Lib.hid (hk5.grow HG4.out rfl)
  have HT := Lib.hid (take_any w5 w.heap.size g bm 2 0 lv2 _ _ hn5 0 ⟨1, 2, u1, [120], false⟩ rfl)
  clear hn5 hk5 HS HG4 HG3
  go_wp2_with fail
  refine HT.out.mono ?_
  rintro e w6 ⟨hres, ⟨lv3, hn6, -⟩, hk6⟩
  rcases hres with ⟨h9, -⟩ | ⟨-, v1, rfl, hbv1⟩
  · rw [whole12] at h9; cases h9
  have HN6 := Lib.hid hn6
  have HB1 := Lib.hid hbv1
  have HG6 := Lib.hid (hk6.grow HG5.out rfl)
  obtain ⟨A1, c1, rfl, -⟩ := hbv1
  clear hn6 hk6 HT HG5
  go_wp2_with fail
  obtain ⟨b4, hb4⟩ : ∃ b, b = w6.heap.size := ⟨_, rfl⟩
  obtain ⟨W7, hW7⟩ : ∃ W, W = w6.alloc (.cells #[.int .u8 1, .int .u8 2, .slice A1 1 c1, .bool false] TK) := ⟨_, rfl⟩
  rw [← hW7, ← hb4]
  have hg7 : Grow w6 W7 := by rw [hW7]; exact Grow.alloc _ _
  have hbx4 : Blk W7 b4 TK [.int .u8 1, .int .u8 2, .slice A1 1 c1, .bool false] := by rw [hW7]; exact Blk.new _ _ _ _ rfl hb4
  have hk4 : Kn g bm lv3 b4 := HN6.out.lt (by rw [hb4]; exact Nat.le_refl _)
  have hn7 := HN6.out.grow hg7
  have HT := Lib.hid (take_any W7 w.heap.size g bm 2 0 lv3 _ _ hn7 0 ⟨2, 1, u2, [121], false⟩ rfl)
  have HB7 := Lib.hid (HB1.out.grow hg7)
  have HG7 := Lib.hid (HG6.out.trans hg7)
  have HBX4 := Lib.hid hbx4
  have HK4 := Lib.hid hk4
  have HN7 := Lib.hid hn7
  clear hW7 hb4 hg7 hbx4 hk4 hn7 HB1 HG6
  refine HT.out.mono ?_
  rintro e w8 ⟨hres, ⟨lv4, hn8, -⟩, hk8⟩
  rcases hres with ⟨h9, -⟩ | ⟨-, v2, rfl, hbv2⟩
  · rw [whole21] at h9; cases h9
  have HN8 := Lib.hid hn8
  have HB2 := Lib.hid hbv2
  have HB8 : Hid (BV w8 (.slice A1 1 c1) [120]) := Lib.hid (HB7.out.keep hk8 fun j cs hb => HN7.out.off hb (by decide) (by decide))
  have HBX8 := Lib.hid (hk8.blk HBX4.out HK4.out)
  have HG8 := Lib.hid (hk8.grow HG7.out rfl)
  obtain ⟨A2, c2, rfl, -⟩ := hbv2
  clear hn8 hk8 HT HG7 HBX4 HK4 HB7
  dsimp only
  repeat (first | with_reducible (refine wp_region_cut (k := 5) ?_) | go_values | go_guarded | go_step | go_upon | go_back)
  obtain ⟨W9, hW9⟩ : ∃ W, W = w8.alloc (.cells #[.int .u8 2, .int .u8 1, .slice A2 1 c2, .bool false] TK) := ⟨_, rfl⟩
  rw [← hW9]
  obtain ⟨b6, hb6⟩ : ∃ b, b = w8.heap.size := ⟨_, rfl⟩
  rw [← hb6]
  have hg9 : Grow w8 W9 := by rw [hW9]; exact Grow.alloc _ _
  have z4 := (HBX8.out.grow hg9).cell (i := 2) rfl
  have z6 : W9.cell? ⟨b6, 2, none⟩ = some (.slice A2 1 c2) := by
    have : Blk W9 b6 TK [.int .u8 2, .int .u8 1, .slice A2 1 c2, .bool false] := by rw [hW9]; exact Blk.new _ _ _ _ rfl hb6
    exact this.cell (i := 2) rfl
  have HLN := Lib.hid (show Calls Try.prog 9 #[.pointer (some ⟨g, 0, none⟩)] W9 fun e w' => e = .returned (.int .i64 0) ∧ W9 = w' from len_any _ w.heap.size g bm 2 0 lv4 _ _ (HN8.out.grow hg9))
  obtain ⟨A1', c1', e1, -, -, hy1⟩ := HB8.out.bytes
  injection e1 with e1 e1x e2
  subst e1; subst e2
  clear e1x
  obtain ⟨A2', c2', e3, -, -, hy2⟩ := HB2.out.bytes
  injection e3 with e3 e3x e4
  subst e3; subst e4
  clear e3x
  have k1 := conv_str (P := Try.prog) Try.underlying26 Try.underlying5 Try.underlying9 (show Bytes W9 A1 1 [120] from hy1.grow hg9) c1
  have k2 := conv_str (P := Try.prog) Try.underlying26 Try.underlying5 Try.underlying9 (show Bytes W9 A2 1 [121] from hy2.grow hg9) c2
  have t1 : ((str [120]).toList == [120]) = true := by rw [show (str [120]).toList = [120] from ByteArray.toList_mk _]; rfl
  have t2 : ((str [121]).toList == [121]) = true := by rw [show (str [121]).toList = [121] from ByteArray.toList_mk _]; rfl
  have HG9 := Lib.hid hg9
  clear hy1 hy2 kc hW9 hb6 hg9
  unfold Cut
  go_wp2_with fail
  refine HLN.out.mono ?_
  rintro e w' ⟨rfl, rfl⟩
  go_wp2_with fail
  go_ret
  exact ⟨rfl, HG8.out.trans HG9.out⟩
end Go.Proofs.Ytmekdhlcflielaa.ntL
