/- The walk of NetFull. -/
import Derived.Test.YtmekdhlcflielaaNtL
namespace Go.Proofs.Ytmekdhlcflielaa.ntL
open Go Go.RowKit Go.Par Go.Kit Go.Proofs.Ytmekdhlcflielaa.mpA Go.Proofs.Ytmekdhlcflielaa.cl Go.Proofs.Ytmekdhlcflielaa.nt

/-- packets of one byte each -/
def Ones (x : UInt8) (k : Nat) (ps : List PkR) : Prop := ps.length = k ∧ ∀ p ∈ ps, p.b = [x]
theorem Ones.snoc {x : UInt8} {k : Nat} {ps : List PkR} (h : Ones x k ps) {p : PkR} (hp : p.b = [x]) : Ones x (k + 1) (ps ++ [p]) :=
  ⟨by rw [List.length_append, h.1]; rfl, fun q hq => by
    rcases List.mem_append.1 hq with hq | hq
    · exact h.2 q hq
    · obtain rfl := List.mem_singleton.1 hq
      exact hp⟩
set_option maxRecDepth 100000 in
set_option maxHeartbeats 8000000 in
theorem full_walk (x : UInt8) (y : Int) (hy0 : 0 ≤ y) (hy1 : y ≤ 255) (w : World) :
    Calls Try.prog 3 #[.int .u8 (x.toNat : Int), .int .u8 y] w fun e w' => e = .returned (.bool true) ∧ Grow w w' := by
  obtain ⟨r, hr, hr9⟩ : ∃ r : Nat, y % 10 = (r : Int) ∧ r ≤ 9 := ⟨(y % 10).toNat, by omega, by omega⟩
  have HR := Lib.hid hr
  clear hr
  go_enter Try.func3, Try.ntmps3
  go_wp2_with fail
  refine (new2 w).mono ?_
  rintro e w1 ⟨g, bm, rfl, hn, hg1⟩
  have HN1 := Lib.hid hn
  have HG1 := Lib.hid hg1
  clear hn hg1
  go_wp2_with fail
  go_loopw [6] (fun i' wr => ∃ (k : Nat) (lv : Value) (ps : List PkR), k ≤ 4086 + r ∧ i' = .int .i64 (k : Int) ∧ NetI wr w.heap.size g bm 2 0 lv ps (fun _ _ => false) ∧ Ones x k ps ∧ Grow w wr) (fun i' _ => 4086 + r - (intOf i').toNat)
  case atStart => exact ⟨0, _, [], by omega, rfl, HN1.out, ⟨rfl, fun p hp => by cases hp⟩, HG1.out⟩
  case round =>
    obtain ⟨k, lv, ps, hkl, rfl, hn, ho, hg⟩ := hrel
    have hm := HR.out
    by_cases hlt : k < 4086 + r
    · have HLT := Lib.hid hlt
      have hgA : Grow wr (wr.alloc (.cells #[.int .u8 (x.toNat : Int)] 5)) := Grow.alloc _ _
      have HS := Lib.hid (send_any _ w.heap.size g bm 2 0 lv ps _ (hn.grow hgA) 1 2 (by decide) (by decide) (.slice (some ⟨wr.heap.size, 0, none⟩) 1 1) [x] (Sl.mk (Bytes.new wr [x] 5 (0, 0) rfl rfl rfl) (by decide) (by decide)) (by simp) (by decide) (by rw [ho.1]; omega))
      have HO := Lib.hid ho
      have HG := Lib.hid (hg.trans hgA)
      have t1 : decide (k < 4086 + r) = true := decide_eq_true hlt
      have t2 : decide ((k : Int) < 4086 + (r : Int)) = true := decide_eq_true (by omega)
      clear hn ho hg hgA
      go_wp2_with fail
      refine HS.out.mono ?_
      rintro e w3 ⟨rfl, ⟨u, lv', hn3, -⟩, hk3⟩
      have HN3 := Lib.hid hn3
      have HG3 := Lib.hid (hk3.grow HG.out rfl)
      clear hn3 hk3
      go_wp2_with fail
      go_roundw
      case rel => exact ⟨k + 1, lv', _, by have := HLT.out; omega, by go_num, HN3.out, HO.out.snoc rfl, HG3.out⟩
      case measure => have := HLT.out; simp [intOf] <;> omega
    · have t1 : decide (k < 4086 + r) = false := decide_eq_false hlt
      have t2 : decide ((k : Int) < 4086 + (r : Int)) = false := decide_eq_false (by omega)
      have hln := len_any wr w.heap.size g bm 2 0 lv ps _ hn
      rw [ho.1] at hln
      have HLN := Lib.hid hln
      have HN2 := Lib.hid hn
      have HO := Lib.hid ho
      have HG := Lib.hid hg
      clear hn ho hg hln
      go_wp2_with fail
      refine HLN.out.mono ?_
      rintro e w' ⟨rfl, rfl⟩
      clear t1 t2
      go_wp2_with fail
      go_loopw [7] (fun i' wr => ∃ (k : Nat) (lv : Value) (ps : List PkR), 1 ≤ k ∧ k ≤ 4096 ∧ i' = .int .i64 (k : Int) ∧ NetI wr w.heap.size g bm 2 0 lv ps (fun _ _ => false) ∧ Ones x k ps ∧ Grow w wr) (fun i' _ => 4096 - (intOf i').toNat)
      case atStart => exact ⟨k, _, _, by omega, by omega, rfl, HN2.out, HO.out, HG.out⟩
      case round =>
        clear HN2 HO HG HLN
        obtain ⟨k, lv, ps, hk1, hkl, rfl, hn, ho, hg⟩ := hrel
        by_cases hlt : k < 4096
        · have HLT := Lib.hid hlt
          obtain ⟨p, hp⟩ : ∃ p, ps[0]? = some p := ⟨_, List.getElem?_eq_getElem (show 0 < ps.length by rw [ho.1]; omega)⟩
          have HT := Lib.hid (twice_any wr w.heap.size g bm 2 0 lv ps _ hn 0 p hp)
          have HPB := Lib.hid (ho.2 p (List.mem_of_getElem? hp))
          have HO := Lib.hid ho
          have HG := Lib.hid hg
          clear hn ho hg hp
          go_wp2_with fail
          refine HT.out.mono ?_
          rintro e w3 hh
          rcases hh with ⟨h9, -⟩ | ⟨-, rfl, ⟨u, lv', hn3, -⟩, hk3⟩
          · have := HO.out.1; have := HLT.out; omega
          have HN3 := Lib.hid hn3
          have HG3 := Lib.hid (hk3.grow HG.out rfl)
          clear hn3 hk3
          go_wp2_with fail
          go_roundw
          case rel => exact ⟨k + 1, lv', _, by omega, by have := HLT.out; omega, by go_num, HN3.out, HO.out.snoc HPB.out, HG3.out⟩
          case measure => have := HLT.out; simp [intOf] <;> omega
        · obtain rfl : k = 4096 := by omega
          obtain ⟨p, hp⟩ : ∃ p, ps[4095]? = some p := ⟨_, List.getElem?_eq_getElem (show 4095 < ps.length by rw [ho.1]; omega)⟩
          have HAT := Lib.hid (at_yes wr w.heap.size g bm 2 0 lv ps _ hn 4095 p hp)
          have HPB := Lib.hid (ho.2 p (List.mem_of_getElem? hp))
          have HO := Lib.hid ho
          have HG := Lib.hid hg
          have HN := Lib.hid hn
          clear hn ho hg hp hkl hlt hk1
          go_wp2_with fail
          refine HAT.out.mono ?_
          rintro e w3 ⟨v, rfl, hown, hg3⟩
          rw [HPB.out] at hown
          obtain ⟨A1, c1, rfl, -⟩ := own_form (n := 1) hown
          have HG3 := Lib.hid hg3
          clear hown hg3
          dsimp only
          repeat (first | with_reducible (refine wp_region_cut (k := 13) ?_) | go_values | go_guarded | go_step | go_upon | go_back)
          obtain ⟨b8, hb8⟩ : ∃ b, b = w3.heap.size := ⟨_, rfl⟩
          obtain ⟨W4, hW4⟩ : ∃ W, W = w3.alloc (.cells #[.int .u8 (p.fr : Int), .int .u8 (p.to : Int), .slice A1 1 c1, .bool p.sp] TK) := ⟨_, rfl⟩
          rw [← hW4, ← hb8]
          have hg4 : Grow wr W4 := by rw [hW4]; exact HG3.out.trans (Grow.alloc _ _)
          have hbx : Blk W4 b8 TK [.int .u8 (p.fr : Int), .int .u8 (p.to : Int), .slice A1 1 c1, .bool p.sp] := by rw [hW4]; exact Blk.new _ _ _ _ rfl hb8
          have HN4 := Lib.hid (HN.out.grow hg4)
          have HBX := Lib.hid hbx
          have HG4 := Lib.hid (HG.out.trans hg4)
          have HS := Lib.hid (send_full W4 w.heap.size g bm 2 0 lv ps _ HN4.out 2 1 (by decide) (by decide) (.slice none 0 0) [] (Sl.none_ W4) (by decide) (by rw [HO.out.1]; exact Nat.le_refl _))
          clear hW4 hb8 hg4 hbx HG HG3
          unfold Cut
          go_wp2_with fail
          refine HS.out.mono ?_
          rintro e w5 ⟨rfl, hg5⟩
          have HN5 := Lib.hid (HN4.out.grow hg5)
          have HBX5 := Lib.hid (HBX.out.grow hg5)
          have HG5 := Lib.hid (HG4.out.trans hg5)
          obtain ⟨p3, hp3⟩ : ∃ p, ps[3]? = some p := ⟨_, List.getElem?_eq_getElem (show 3 < ps.length by rw [HO.out.1]; omega)⟩
          have HT := Lib.hid (twice_any w5 w.heap.size g bm 2 0 lv ps _ HN5.out 3 p3 hp3)
          clear hg5 hp3
          go_wp2_with fail
          refine HT.out.mono ?_
          rintro e w6 hh
          rcases hh with ⟨-, rfl, hg6⟩ | ⟨h9, -⟩
          · skip
            have HN6 := Lib.hid (HN5.out.grow hg6)
            have z8 := (HBX5.out.grow hg6).cell (i := 2) rfl
            have HG6 := Lib.hid (HG5.out.trans hg6)
            have HD := Lib.hid (drop_any w6 w.heap.size g bm 2 0 lv ps _ HN6.out 5 (by rw [HO.out.1]; omega))
            clear hg6
            go_wp2_with fail
            refine HD.out.mono ?_
            rintro e w7 ⟨rfl, ⟨lv7, hn7, -⟩, hk7⟩
            have hl7 : (del ps 5).length = 4095 := by rw [del_len (by rw [HO.out.1]; omega), HO.out.1]
            have HL7 := Lib.hid hl7
            have HG7 := Lib.hid (hk7.grow HG6.out rfl)
            obtain ⟨p7, hp7⟩ : ∃ p, (del ps 5)[3]? = some p := ⟨_, List.getElem?_eq_getElem (show 3 < (del ps 5).length by rw [hl7]; omega)⟩
            have HT7 := Lib.hid (twice_any w7 w.heap.size g bm 2 0 lv7 _ _ hn7 3 p7 hp7)
            clear hn7 hk7 hl7 hp7 z8
            go_wp2_with fail
            refine HT7.out.mono ?_
            rintro e w8 hh
            rcases hh with ⟨h9, -⟩ | ⟨-, rfl, -, hk8⟩
            · have := HL7.out; omega
            have HG8 := Lib.hid (hk8.grow HG7.out rfl)
            have HWK := Lib.hid (works_any w8)
            clear hk8
            go_wp2_with fail
            refine HWK.out.mono ?_
            rintro e w9 ⟨rfl, hg9⟩
            have HG9 := Lib.hid hg9
            clear hg9
            go_wp2_with fail
            go_ret
            exact ⟨rfl, HG8.out.trans HG9.out⟩
          · have := HO.out.1
            omega
theorem full_walkI (z y : Int) (hz0 : 0 ≤ z) (hz1 : z ≤ 255) (hy0 : 0 ≤ y) (hy1 : y ≤ 255) (w : World) :
    Calls Try.prog 3 #[.int .u8 z, .int .u8 y] w fun e w' => e = .returned (.bool true) ∧ Grow w w' := by
  obtain ⟨x, rfl⟩ : ∃ x : UInt8, z = (x.toNat : Int) := ⟨UInt8.ofNat z.toNat, by rw [UInt8.toNat_ofNat']; omega⟩
  exact full_walk x y hy0 hy1 w
end Go.Proofs.Ytmekdhlcflielaa.ntL
