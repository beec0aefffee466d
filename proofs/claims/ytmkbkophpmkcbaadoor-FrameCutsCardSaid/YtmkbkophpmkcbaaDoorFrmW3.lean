/- The walks of frames: All. -/
import Derived.Test.YtmkbkophpmkcbaaDoorFrmW2
namespace Go.Proofs.YtmkbkophpmkcbaaDoor.frW
open Go Go.RowKit Go.Par Go.Kit Vi Go.Proofs.YtmkbkophpmkcbaaDoor.cl Go.Proofs.YtmkbkophpmkcbaaDoor.slW Go.Proofs.YtmkbkophpmkcbaaDoor.frm
open Go.Proofs.YtmkbkophpmkcbaaDoor.viW hiding i8 i8s i8z i8b info8
open Go.Proofs.YtmkbkophpmkcbaaDoor.crcW

theorem infoP : (Tryd.prog.info? 25).isSome = true := by kernel_rfl
theorem iP : Tryd.prog.info? 25 = some ((Tryd.prog.info? 25).get infoP) := by simp
theorem iPs : ((Tryd.prog.info? 25).get infoP).size = 1 := by kernel_rfl
theorem iPz : ((Tryd.prog.info? 25).get infoP).zero = some (.slice none 0 0) := by kernel_rfl
theorem iPb : ((Tryd.prog.info? 25).get infoP).bytes = 24 := by kernel_rfl

set_option maxRecDepth 100000 in
set_option maxHeartbeats 1000000 in
theorem all_any (A : Option Addr) (n c : Nat) (l : List UInt8) (w : World) (hb : Bytes w A n l) (hc : n ≤ c) (hm : c ≤ maxLen) (hn : n ≤ 1000000) (ht : Tab w) :
    Calls Tryd.prog 32 #[.slice A n c] w fun e w' => ∃ v, e = .returned (.tuple #[v, .int .i64 ((all_ l).2.1 : Int), .int .i64 ((all_ l).2.2 : Int)]) ∧ OwnParts w' w.heap.size 25 v (all_ l).1 ∧ Grow w w' := by
  unfold maxLen at hm
  have hlen := hb.len
  obtain ⟨X, hX⟩ : ∃ X, X = all_ l := ⟨_, rfl⟩
  rw [← hX]
  have H0 : Hid (X = ([] ++ (all_ (l.drop 0)).1, 0 + (all_ (l.drop 0)).2.1, (all_ (l.drop 0)).2.2)) := Lib.hid (by rw [hX]; simp)
  have HL := Lib.hid hlen
  clear hX hlen
  go_enter Tryd.func32, Tryd.ntmps32
  go_wp2_with fail
  go_loopw [5, 6] (fun v0 i wr => ∃ (k : Nat) (v : Value) (ls : List (List UInt8)), k ≤ n ∧ i = .int .i64 (k : Int) ∧ v = v0 ∧ OwnParts wr w.heap.size 25 v ls ∧ ls.length ≤ k ∧ Hid (X = (ls ++ (all_ (l.drop k)).1, k + (all_ (l.drop k)).2.1, (all_ (l.drop k)).2.2)) ∧ Grow w wr) (fun _ i _ => n - (intOf i).toNat)
  case atStart => exact ⟨0, _, [], by omega, rfl, rfl, OwnParts.nil _ _ _, by simp, H0, Grow.refl _⟩
  case round =>
    obtain ⟨k, v, ls, hk, rfl, rfl, ho, hll, HX, hg⟩ := hrel
    clear H0
    by_cases hlt : k < n
    · have hdl : (l.drop k).length = n - k := by rw [List.length_drop, HL.out]
      have hne : l.drop k ≠ [] := by
        intro h
        rw [h] at hdl
        simp at hdl; omega
      have hs1 := slice_lo (P := Tryd.prog) Tryd.underlying25 i8 i8s A n c k (by omega)
      have hnx := next_any (cutAt A c k) (n - k) (c - k) (l.drop k) wr ((hb.grow hg).cut (by omega) hc) (by omega) (by unfold maxLen; omega) (by omega) (ht.grow hg)
      obtain ⟨⟨x, m, e⟩, hnx8⟩ : ∃ y, next8 (l.drop k) = y := ⟨_, rfl⟩
      rw [hnx8] at hnx
      have HN := Lib.hid hnx
      obtain ⟨D, hD⟩ : ∃ D, D = cutAt A c k := ⟨_, rfl⟩
      rw [← hD] at hs1 HN
      have HO := Lib.hid ho
      have HG := Lib.hid hg
      have hob := ho.block
      have HOB := Lib.hid hob
      by_cases he : e = 0
      · subst he
        have hgd := next8_good hnx8
        have HA := Lib.hid (all_good hne hnx8)
        have HXN : Hid (X = ((ls ++ [x]) ++ (all_ (l.drop (k + m))).1, (k + m) + (all_ (l.drop (k + m))).2.1, (all_ (l.drop (k + m))).2.2)) := Lib.hid (by
          rw [HX.out, HA.out, List.drop_drop]
          simp [Nat.add_assoc])
        have hm4 : 4 ≤ m ∧ m ≤ n - k := by omega
        clear hdl hne hnx hnx8 hD ho hg hob HX HA hgd
        go_wp2_with fail
        refine HN.out.mono ?_
        rintro e w1 ⟨u, rfl, hu, hg1⟩
        obtain ⟨vs, q1, q2, q3⟩ := HO.out.grow hg1
        have hu' := hu.to (Q := fun k => v.ownBlock ≠ some k) (fun k hk h => by have := HOB.out k h; omega)
        obtain ⟨A4, n4, c4, rfl, -, -, -, -⟩ := hu
        have HU := Lib.hid hu'
        have HQ1 := Lib.hid q1
        have HQ2 := Lib.hid q2
        have HQ3 := Lib.hid q3
        have HG1 := Lib.hid (HG.out.trans hg1)
        have hsz : w.heap.size ≤ w1.heap.size := HG1.out.size
        have hvl : vs.length ≤ 1000000 := by omega
        clear q1 q2 q3 hu' hg1 HN
        go_wp2_with (at_builtin; refine append_fresh 24 Tryd.underlying22 iP iPz iPs iPb rfl rfl _ _ rfl w.heap.size v vs.length vs HQ1.out rfl rfl rfl ?_ ?_ ?_ ?_; (unfold maxLen; omega); omega; exact hsz; intro v2 w2 hown2 hgb2 hh2)
        have hp := OwnParts.snoc HQ2.out HQ3.out HU.out hown2 hgb2 hh2
        have hg2 := grow_by (HG1.out.trans (Grow.alloc w1 _)) hgb2 (own_base HQ1.out)
        obtain ⟨A5, c5, rfl, -, -, -⟩ := own_form hown2
        have HP := Lib.hid hp
        have HG2 := Lib.hid hg2
        clear hp hg2 hown2 hgb2 hh2
        go_wp2_with fail
        go_roundw
        case rel => exact ⟨k + m, _, ls ++ [x], by omega, by go_num, rfl, HP.out, by simp; omega, HXN, HG2.out⟩
        case measure => simp [intOf] <;> omega
      · have hbd := next8_bad hnx8 he
        have HA := Lib.hid (all_bad hne (by rw [hnx8]; exact he))
        have HXN : Hid (X = (ls, k, e)) := Lib.hid (by rw [HX.out, HA.out, hnx8]; simp)
        have t2 : ((e : Int) != 0) = true := bne_iff_ne.2 (by omega)
        clear hdl hne hnx hnx8 hD ho hg hob HX HA hbd he
        go_wp2_with fail
        refine HN.out.mono ?_
        rintro e w1 ⟨u, rfl, hu, hg1⟩
        obtain ⟨A4, n4, c4, rfl, -, -, -, -⟩ := hu
        have HP := Lib.hid (HO.out.grow hg1)
        have HG1 := Lib.hid (HG.out.trans hg1)
        obtain ⟨A5, c5, rfl, -, -, -⟩ := HP.out.form
        clear hg1 HN
        go_wp2_with fail
        go_ret3
        rw [HXN.out]
        exact ⟨_, rfl, HP.out, HG1.out⟩
    · obtain rfl : k = n := by omega
      have hd0 : l.drop k = [] := List.drop_eq_nil_of_le (by have := HL.out; omega)
      have HXN : Hid (X = (ls, k, 0)) := Lib.hid (by rw [HX.out, hd0, all_nil]; simp)
      have HP := Lib.hid ho
      have HG := Lib.hid hg
      obtain ⟨A5, c5, rfl, -, -, -⟩ := HP.out.form
      clear hd0 HX ho hg
      go_wp2_with fail
      go_ret3
      rw [HXN.out]
      exact ⟨_, rfl, HP.out, HG.out⟩

set_option maxRecDepth 100000 in
set_option maxHeartbeats 1000000 in
theorem ref_all_any (A : Option Addr) (n c : Nat) (l : List UInt8) (w : World) (hb : Bytes w A n l) (hc : n ≤ c) (hm : c ≤ maxLen) (hn : n ≤ 1000000) :
    Calls Tryd.prog 33 #[.slice A n c] w fun e w' => ∃ v, e = .returned (.tuple #[v, .int .i64 ((all_ l).2.1 : Int), .int .i64 ((all_ l).2.2 : Int)]) ∧ OwnParts w' w.heap.size 25 v (all_ l).1 ∧ Grow w w' := by
  unfold maxLen at hm
  have hlen := hb.len
  obtain ⟨X, hX⟩ : ∃ X, X = all_ l := ⟨_, rfl⟩
  rw [← hX]
  have H0 : Hid (X = ([] ++ (all_ (l.drop 0)).1, 0 + (all_ (l.drop 0)).2.1, (all_ (l.drop 0)).2.2)) := Lib.hid (by rw [hX]; simp)
  have HL := Lib.hid hlen
  clear hX hlen
  go_enter Tryd.func33, Tryd.ntmps33
  go_wp2_with fail
  go_loopw [5, 6] (fun v0 i wr => ∃ (k : Nat) (v : Value) (ls : List (List UInt8)), k ≤ n ∧ i = .int .i64 (k : Int) ∧ v = v0 ∧ OwnParts wr w.heap.size 25 v ls ∧ ls.length ≤ k ∧ Hid (X = (ls ++ (all_ (l.drop k)).1, k + (all_ (l.drop k)).2.1, (all_ (l.drop k)).2.2)) ∧ Grow w wr) (fun _ i _ => n - (intOf i).toNat)
  case atStart => exact ⟨0, _, [], by omega, rfl, rfl, OwnParts.nil _ _ _, by simp, H0, Grow.refl _⟩
  case round =>
    obtain ⟨k, v, ls, hk, rfl, rfl, ho, hll, HX, hg⟩ := hrel
    clear H0
    by_cases hlt : k < n
    · have hdl : (l.drop k).length = n - k := by rw [List.length_drop, HL.out]
      have hne : l.drop k ≠ [] := by
        intro h
        rw [h] at hdl
        simp at hdl; omega
      have hs1 := slice_lo (P := Tryd.prog) Tryd.underlying25 i8 i8s A n c k (by omega)
      have hnx := ref_next_any (cutAt A c k) (n - k) (c - k) (l.drop k) wr ((hb.grow hg).cut (by omega) hc) (by omega) (by unfold maxLen; omega) (by omega) w.heap.size (fun h0 => cut_blk (fun ad had => Row.blk_lt hb (by omega) ad had))
      obtain ⟨⟨x, m, e⟩, hnx8⟩ : ∃ y, next8 (l.drop k) = y := ⟨_, rfl⟩
      rw [hnx8] at hnx
      have HN := Lib.hid hnx
      obtain ⟨D, hD⟩ : ∃ D, D = cutAt A c k := ⟨_, rfl⟩
      rw [← hD] at hs1 HN
      have HO := Lib.hid ho
      have HG := Lib.hid hg
      have hob := ho.block
      have HOB := Lib.hid hob
      by_cases he : e = 0
      · subst he
        have hgd := next8_good hnx8
        have HA := Lib.hid (all_good hne hnx8)
        have HXN : Hid (X = ((ls ++ [x]) ++ (all_ (l.drop (k + m))).1, (k + m) + (all_ (l.drop (k + m))).2.1, (all_ (l.drop (k + m))).2.2)) := Lib.hid (by
          rw [HX.out, HA.out, List.drop_drop]
          simp [Nat.add_assoc])
        have hm4 : 4 ≤ m ∧ m ≤ n - k := by omega
        clear hdl hne hnx hnx8 hD ho hg hob HX HA hgd
        go_wp2_with fail
        refine HN.out.mono ?_
        rintro e w1 ⟨u, rfl, hu, hg1⟩
        obtain ⟨vs, q1, q2, q3⟩ := HO.out.grow hg1
        have hu' := hu.to (Q := fun k => v.ownBlock ≠ some k) (fun k hk h => by have := HOB.out k h; omega)
        obtain ⟨A4, n4, c4, rfl, -, -, -, -⟩ := hu
        have HU := Lib.hid hu'
        have HQ1 := Lib.hid q1
        have HQ2 := Lib.hid q2
        have HQ3 := Lib.hid q3
        have HG1 := Lib.hid (HG.out.trans hg1)
        have hsz : w.heap.size ≤ w1.heap.size := HG1.out.size
        have hvl : vs.length ≤ 1000000 := by omega
        clear q1 q2 q3 hu' hg1 HN
        go_wp2_with (at_builtin; refine append_fresh 24 Tryd.underlying22 iP iPz iPs iPb rfl rfl _ _ rfl w.heap.size v vs.length vs HQ1.out rfl rfl rfl ?_ ?_ ?_ ?_; (unfold maxLen; omega); omega; exact hsz; intro v2 w2 hown2 hgb2 hh2)
        have hp := OwnParts.snoc HQ2.out HQ3.out HU.out hown2 hgb2 hh2
        have hg2 := grow_by (HG1.out.trans (Grow.alloc w1 _)) hgb2 (own_base HQ1.out)
        obtain ⟨A5, c5, rfl, -, -, -⟩ := own_form hown2
        have HP := Lib.hid hp
        have HG2 := Lib.hid hg2
        clear hp hg2 hown2 hgb2 hh2
        go_wp2_with fail
        go_roundw
        case rel => exact ⟨k + m, _, ls ++ [x], by omega, by go_num, rfl, HP.out, by simp; omega, HXN, HG2.out⟩
        case measure => simp [intOf] <;> omega
      · have hbd := next8_bad hnx8 he
        have HA := Lib.hid (all_bad hne (by rw [hnx8]; exact he))
        have HXN : Hid (X = (ls, k, e)) := Lib.hid (by rw [HX.out, HA.out, hnx8]; simp)
        have t2 : ((e : Int) != 0) = true := bne_iff_ne.2 (by omega)
        clear hdl hne hnx hnx8 hD ho hg hob HX HA hbd he
        go_wp2_with fail
        refine HN.out.mono ?_
        rintro e w1 ⟨u, rfl, hu, hg1⟩
        obtain ⟨A4, n4, c4, rfl, -, -, -, -⟩ := hu
        have HP := Lib.hid (HO.out.grow hg1)
        have HG1 := Lib.hid (HG.out.trans hg1)
        obtain ⟨A5, c5, rfl, -, -, -⟩ := HP.out.form
        clear hg1 HN
        go_wp2_with fail
        go_ret3
        rw [HXN.out]
        exact ⟨_, rfl, HP.out, HG1.out⟩
    · obtain rfl : k = n := by omega
      have hd0 : l.drop k = [] := List.drop_eq_nil_of_le (by have := HL.out; omega)
      have HXN : Hid (X = (ls, k, 0)) := Lib.hid (by rw [HX.out, hd0, all_nil]; simp)
      have HP := Lib.hid ho
      have HG := Lib.hid hg
      obtain ⟨A5, c5, rfl, -, -, -⟩ := HP.out.form
      clear hd0 HX ho hg
      go_wp2_with fail
      go_ret3
      rw [HXN.out]
      exact ⟨_, rfl, HP.out, HG.out⟩

end Go.Proofs.YtmkbkophpmkcbaaDoor.frW
