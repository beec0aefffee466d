/- The walk of Tags.Bytes. -/
import Derived.Test.YthclgmpjmhacdaaTgP
import Derived.Test.YthclgmpjmhacdaaOpen2
namespace Go.Proofs.Ythclgmpjmhacdaa.tg
open Go Go.RowKit Go.Par Go.Kit Vi Go.Proofs.Ythclgmpjmhacdaa.bfW Go.Maps
open Go.Proofs.Ythclgmpjmhacdaa.viW hiding i8 i8s i8z i8b info8

theorem undTag : Try.prog.underlying TTag = some (.struct (Try.prog.fieldsOf TTag)) := by kernel_rfl
theorem sizeTag : (Try.prog.info? TTag).map (·.size) = some 65 := by kernel_rfl
theorem bytes_nil (w : World) : Calls Try.prog 10 #[.pointer none] w fun e w' => e = .returned (.slice none 0 0) ∧ Grow w w' := by
  go_enter Try.func10, Try.ntmps10
  go_wp2_with fail
  go_ret
  exact ⟨rfl, Grow.refl _⟩
section
variable {w w' : World} {B g bs bn n m : Nat} {L L' : List Tag}
theorem trow_len {t : Tag} (h : VecOk t.2) : (trow t).length = 65 := by unfold trow; rw [List.length_cons, (ints_ok h).1]
theorem trows_at {k : Nat} {t : Tag} (hL : ∀ t ∈ L, VecOk t.2) (h : L[k]? = some t) {j : Nat} {u : Value} (hu : (trow t)[j]? = some u) : (trows L)[k * 65 + j]? = some u := by
  have hm := hL t (List.mem_of_getElem? h)
  have hj : j < 65 := by have := (List.getElem?_eq_some_iff.1 hu).1; rw [trow_len hm] at this; exact this
  unfold trows
  rw [flatten_at (S := 65) (by decide) _ (k * 65 + j) (by intro r hr; obtain ⟨c, hc, rfl⟩ := List.mem_map.1 hr; exact trow_len (hL c hc)), show (k * 65 + j) / 65 = k by omega, show (k * 65 + j) % 65 = j by omega, List.getElem?_map, h]
  exact hu
set_option maxRecDepth 100000 in
set_option maxHeartbeats 4000000 in
theorem tbytes_any (h : TagI w B g bs bn n L) (hn : n ≤ 1000000) :
    Calls Try.prog 10 #[.pointer (some ⟨g, 0, none⟩)] w fun e w' => ∃ v, e = .returned v ∧ w'.ownsRow w.heap.size 5 1 v (encT L).length (u8s (encT L)) ∧ Grow w w' := by
  obtain ⟨b, hb⟩ : ∃ g, g = w.heap.size := ⟨_, rfl⟩
  obtain ⟨W1, hW1⟩ : ∃ W, W = w.alloc (.cells #[.slice none 0 0] TW) := ⟨_, rfl⟩
  have hw1 : Wb W1 w.heap.size (fun _ => False) b [] := by rw [hW1]; exact wr_new w w.heap.size (fun _ => False) (Nat.le_refl _) (fun _ h => h.elim) hb
  have hg1 : Grow w W1 := by rw [hW1]; exact Grow.alloc _ _
  have hT1 := h.grow hg1
  have x0 := hT1.bx.cell (i := 0) rfl
  have hlen := fun ty => hT1.mt.len h.ok.nodup ty
  obtain ⟨l, hl⟩ : ∃ l, l = L.length := ⟨_, rfl⟩
  have hl32 : l ≤ 32 := by rw [hl]; exact h.ok.len
  rw [← hl] at hlen
  have HNUM := Lib.hid (num_wn W1 w.heap.size (fun _ => False) (fun _ h => h.elim) b [] hw1 [l] 1 rfl #[.int .u64 (l : Int)] rfl (fun y hy => by rw [List.mem_singleton.1 hy]; omega) (by simp))
  have HALL : Hid (∀ w2, Grow w w2 → Calls Try.prog 25 #[.pointer (some ⟨g, 0, none⟩)] w2 fun e w' => ∃ v, e = .returned v ∧ w'.ownsRow w2.heap.size TTag 65 v l (trows L) ∧ Grow w2 w') := Lib.hid fun w2 hg => by rw [hl]; exact all_any (h.grow hg) hn
  have HT := Lib.hid h
  have HL := Lib.hid hl
  have HB := Lib.hid hb
  have HW1 := Lib.hid hW1
  have HG1 := Lib.hid hg1
  have HVS : Hid (∀ t ∈ L, VecOk t.2) := Lib.hid fun t ht => (h.ok.ok t ht).2.1
  clear h hn hl hb hW1 hw1 hg1 hT1
  go_enter Try.func10, Try.ntmps10
  try dsimp only
  repeat (first | with_reducible (refine wp_region_cut (k := 4) ?_) | go_values | go_guarded | go_step | go_upon | go_back)
  rw [← HW1.out, ← HB.out]
  unfold Cut
  go_wp2_with (refine wpList_len_want rfl _ _ rfl bs rfl hlen ?_)
  refine HNUM.out.mono ?_
  rintro r w2 ⟨rfl, hw2, hk2⟩
  have hw2' : Wb w2 w.heap.size (fun _ => False) b (vb l ++ encTs (L.take 0)) := by
    have e : ([] : List UInt8) ++ vbs [l] = vb l ++ encTs (L.take 0) := by simp [vbs, encTs]
    rw [← e]; exact hw2
  have HW2 := Lib.hid hw2'
  have HG2 := Lib.hid (hk2.grow HG1.out rfl)
  clear hw2 hw2' hk2 HNUM x0 hlen
  go_wp2_with fail
  refine (HALL.out w2 HG2.out).mono ?_
  rintro r w3 ⟨v, rfl, ho, hg3⟩
  obtain ⟨A, c, rfl, c1, c2, hrow⟩ := own_form ho
  have HROW := Lib.hid hrow
  have HG3 := Lib.hid hg3
  obtain ⟨KA, hKA⟩ : ∃ K : Nat → Prop, K = fun j => ∃ ad, A = some ad ∧ j = ad.block := ⟨_, rfl⟩
  have hoa : ∀ j, KA j → w2.heap.size ≤ j ∧ j < w3.heap.size := fun j hj => by
    rw [hKA] at hj
    obtain ⟨ad, rfl, rfl⟩ := hj
    exact ho.lt ad.block rfl
  have HKA := Lib.hid hKA
  have HKL : Hid (∀ j, KA j → j < w3.heap.size) := Lib.hid fun j hj => (hoa j hj).2
  have HW3 : Hid (Wb w3 w.heap.size KA b (vb l ++ encTs (L.take 0))) := Lib.hid ((HW2.out.more (K2 := KA) fun k hk hlt => by have := (hoa k hk).1; omega).grow hg3)
  have HKR : Hid (∀ ad, A = some ad → KA ad.block) := Lib.hid fun ad had => by rw [hKA]; exact ⟨ad, had, rfl⟩
  have HEL := Lib.hid (encTs_len (ok_names HT.out.ok))
  clear ho hg3 hrow HALL hKA hoa
  go_wp2_with fail
  go_loopw [24] (fun i' wr => ∃ k : Nat, k ≤ l ∧ i' = .int .i64 (k : Int) ∧ Wb wr w.heap.size KA b (vb l ++ encTs (L.take k)) ∧ Grow w wr ∧ Keep w.heap.size KA w3 wr) (fun i' _ => l - (intOf i').toNat)
  case atStart => exact ⟨0, by omega, rfl, HW3.out, HG2.out.trans HG3.out, Keep.refl _⟩
  case round =>
    clear HW3
    obtain ⟨k, hk, rfl, hwb, hgr, hkp⟩ := hrel
    by_cases hlt : k < l
    · have t1 : decide (k < l) = true := decide_eq_true hlt
      have t2 : decide ((k : Int) < (l : Int)) = true := decide_eq_true (by omega)
      obtain ⟨t, ht⟩ : ∃ t, L[k]? = some t := ⟨_, List.getElem?_eq_getElem (by rw [← HL.out]; exact hlt)⟩
      obtain ⟨nm, v⟩ := t
      have hmem : (nm, v) ∈ L := List.mem_of_getElem? ht
      have hok := HT.out.ok.ok (nm, v) hmem
      obtain ⟨bb, off, rfl, hcc⟩ := (HROW.out.keep hkp fun _ ad had => .inr (HKR.out ad had)).2 (by omega)
      have hn16 : nm.length ≤ 16 := (name_le hok.1).1
      have hvk : VecOk v := hok.2.1
      have hio := ints_ok hvk
      obtain ⟨row, hrw⟩ : ∃ row, row = trow (nm, v) := ⟨_, rfl⟩
      have hc : ∀ j u, row[j]? = some u → wr.cell? ⟨bb, off + k * 65 + j, none⟩ = some u := fun j u hu => by
        rw [Nat.add_assoc]
        exact hcc (k * 65 + j) u (trows_at HVS.out ht (by rw [← hrw]; exact hu))
      have hrl : row.length = 65 := by rw [hrw]; exact trow_len hvk
      have HR1 : Hid (row.all (·.oneCell') = true) := Lib.hid (by rw [hrw]; unfold trow; rw [List.all_cons, hio.2]; rfl)
      have HT' := Lib.hid ht
      have HVK := Lib.hid hvk
      have HN16 := Lib.hid hn16
      have HIO := Lib.hid hio
      have HRW := Lib.hid hrw
      have HRL := Lib.hid hrl
      have HC := Lib.hid hc
      have HGR0 := Lib.hid hgr
      have HKP0 := Lib.hid hkp
      have HWB0 := Lib.hid hwb
      have HLT := Lib.hid hlt
      clear hk ht hmem hok hvk hcc hn16 hio hrw hrl hc hgr hkp hwb hlt
      try dsimp only
      repeat (first | with_reducible (refine wp_region_cut (k := 8) ?_) | (refine load_cells rfl _ _ rfl bb (off + k * 65) rfl row _ HC.out undTag rfl (by rw [sizeTag, HRL.out]) ?_) | (refine store_blk rfl _ _ _ rfl wr.heap.size row rfl rfl TTag zrow (Blk.new _ _ _ _ rfl rfl) (by rw [sizeTag, HRL.out]) (by rw [HRL.out]; rfl) HR1.out ?_) | go_values | go_guarded | go_step | go_upon | go_back)
      unfold Cut
      refine wp_named ?_
      intro W5 hW5
      obtain ⟨b6, hb6⟩ : ∃ b, b = wr.heap.size := ⟨_, rfl⟩
      have hg5 : Grow wr W5 := by rw [hW5]; exact Grow.setRow (Grow.alloc _ _) (Nat.le_refl _) _
      have hbx : Blk W5 b6 TTag row := by rw [hW5, hb6]; exact (Blk.new _ _ _ zrow rfl rfl).setRow _
      rw [← hb6]
      clear hW5
      have HKB : Hid (∀ j, (KA j ∨ j = b6) → j < W5.heap.size) := Lib.hid fun j hj => by
        rcases hj with hj | rfl
        · exact Nat.lt_of_lt_of_le (HKL.out j hj) (Nat.le_trans HKP0.out.size hg5.size)
        · exact hbx.lt
      have HWB : Hid (Wb W5 w.heap.size (fun j => KA j ∨ j = b6) b (vb l ++ encTs (L.take k))) := Lib.hid ((HWB0.out.more (fun j hj hlt => by
        rcases hj with hj | hj
        · exact hj
        · omega)).grow hg5)
      have HGR := Lib.hid (HGR0.out.trans hg5)
      have HKP := Lib.hid (HKP0.out.trans (Keep.of hg5 HWB0.out.size))
      have HBX := Lib.hid hbx
      clear hg5 hbx hb6
      obtain ⟨Q, hQ⟩ : ∃ Q, Q = vb l ++ encTs (L.take k) := ⟨_, rfl⟩
      have hQl : Q.length ≤ 100000 := by
        have h1 := vb_len_le l
        have h2 := encTs_len (L := L.take k) fun t ht => ok_names HT.out.ok t (List.mem_of_mem_take ht)
        rw [List.length_take] at h2
        have h3 := HL.out
        rw [hQ, List.length_append]
        omega
      rw [← hQ] at HWB
      have HQ := Lib.hid hQ
      have HQL := Lib.hid hQl
      have y0 := HBX.out.cell (i := 0) (u := .string (str nm)) (by rw [HRW.out]; rfl)
      have HTX := Lib.hid (text_w W5 w.heap.size (fun j => KA j ∨ j = b6) HKB.out b Q HWB.out nm (by have := HN16.out; omega))
      clear hQ hQl
      go_wp2_with fail
      refine HTX.out.mono ?_
      rintro r w6 ⟨rfl, hw6, hk6⟩
      obtain ⟨cs, hcs⟩ : ∃ cs, cs = ints .u16 v := ⟨_, rfl⟩
      have hcl : cs.length = 64 := by rw [hcs]; exact HIO.out.1
      have hbx6 := hk6.blk HBX.out (.inr rfl)
      have HC6 : Hid (∀ j u, cs[j]? = some u → w6.cell? ⟨b6, 1 + j, none⟩ = some u) := Lib.hid fun j u hu => hbx6.cell (by rw [HRW.out, Nat.add_comm]; unfold trow; rw [List.getElem?_cons_succ, ← hcs]; exact hu)
      have HCS := Lib.hid hcs
      have HCL := Lib.hid hcl
      have HW6 := Lib.hid hw6
      have HK6 := Lib.hid hk6
      have HG6 : Hid (Grow w w6) := Lib.hid (hk6.grow HGR.out rfl)
      have HBX6 := Lib.hid hbx6
      clear hcs hcl hw6 hk6 hbx6 y0 HTX
      go_wp2_with (refine load_cells rfl _ _ rfl b6 1 rfl cs _ HC6.out undV rfl (by rw [sizeV, HCL.out]) ?_)
      go_loopw [6, 33] (fun c' i' wq => ∃ j : Nat, j ≤ 64 ∧ i' = .int .i64 (j : Int) ∧ c' = .int .i64 (cntV v j : Nat) ∧ w6 = wq) (fun _ i' _ => 64 - (intOf i').toNat)
      case atStart => exact ⟨0, by omega, rfl, rfl, rfl⟩
      case round =>
        obtain ⟨j, hj, rfl, rfl, rfl⟩ := hrel
        by_cases hlt : j < 64
        · have t1 : decide (j < 64) = true := decide_eq_true hlt
          have t1' : decide ((j : Int) < 64) = true := decide_eq_true (by omega)
          obtain ⟨x, hx⟩ := vec_at HVK.out hlt
          have hidx := run_index_arr (P := Try.prog) undV Try.underlying35 sz16 cs j (.int .u16 x) hlt (by rw [HCS.out]; exact ints_at hx)
          obtain ⟨c9, hc9⟩ : ∃ c, c = cntV v j := ⟨_, rfl⟩
          have hc64 : c9 ≤ 64 := by rw [hc9]; have := cnt_le v j; omega
          rw [← hc9]
          have HX := Lib.hid hx
          have HC9 := Lib.hid hc9
          have HLJ := Lib.hid hlt
          have hk9 : j < 64 := hlt
          clear hj hx hlt hc9
          by_cases h6 : 0 < x
          · have s1 : decide (0 < x) = true := decide_eq_true h6
            have H6 := Lib.hid h6
            clear h6
            go_wp2_with fail
            clear hidx s1
            go_roundw
            case rel => exact ⟨j + 1, by have := HLJ.out; omega, by go_num, by rw [cnt_step HX.out, if_pos H6.out, ← HC9.out]; go_num, trivial⟩
            case measure => have := HLJ.out; simp [intOf] <;> omega
          · have s1 : decide (0 < x) = false := decide_eq_false h6
            have H6 := Lib.hid h6
            clear h6
            go_wp2_with fail
            clear hidx s1
            go_roundw
            case rel => exact ⟨j + 1, by have := HLJ.out; omega, by go_num, by rw [cnt_step HX.out, if_neg H6.out, ← HC9.out]; rfl, trivial⟩
            case measure => have := HLJ.out; simp [intOf] <;> omega
        · obtain rfl : j = 64 := by omega
          have t1 : decide ((64 : Nat) < 64) = false := decide_eq_false (by omega)
          rw [show ((64 : Nat) : Int) = 64 from rfl]
          obtain ⟨c9, hc9⟩ : ∃ c, c = cntV v 64 := ⟨_, rfl⟩
          have hc64 : c9 ≤ 64 := by rw [hc9]; exact cnt_le v 64
          rw [← hc9]
          have HC9 := Lib.hid hc9
          have HNC := Lib.hid (num_wn w6 w.heap.size (fun j => KA j ∨ j = b6) (fun j hj => Nat.lt_of_lt_of_le (HKB.out j hj) HK6.out.size) b _ HW6.out [c9] 1 rfl #[.int .u64 (c9 : Int)] rfl (fun y hy => by rw [List.mem_singleton.1 hy]; omega) (by have := HQL.out; have := HN16.out; have := vb_len_le nm.length; simp only [List.length_append]; omega))
          clear hj hlt hc9
          go_wp2_with fail
          refine HNC.out.mono ?_
          rintro r w7 ⟨rfl, hw7, hk7⟩
          obtain ⟨Q1, hQ1⟩ : ∃ Q1, Q1 = Q ++ (vb nm.length ++ nm) ++ vbs [c9] := ⟨_, rfl⟩
          have hQ1l : Q1.length ≤ 200000 := by
            have h1 := vb_len_le nm.length
            have h2 := vbs_len [c9]
            have := HQL.out
            have := HN16.out
            rw [hQ1]
            simp only [List.length_append, List.length_cons, List.length_nil] at h2 ⊢
            omega
          rw [← hQ1] at hw7
          have hbx7 := hk7.blk HBX6.out (.inr rfl)
          have HC7 : Hid (∀ j u, cs[j]? = some u → w7.cell? ⟨b6, 1 + j, none⟩ = some u) := Lib.hid fun j u hu => hbx7.cell (by rw [HRW.out, Nat.add_comm]; unfold trow; rw [List.getElem?_cons_succ, ← HCS.out]; exact hu)
          have HQ1 := Lib.hid hQ1
          have HQ1L := Lib.hid hQ1l
          have HW7 : Hid (Wb w7 w.heap.size (fun j => KA j ∨ j = b6) b (Q1 ++ bodyV v 0)) := Lib.hid (by rw [show bodyV v 0 = [] from rfl, List.append_nil]; exact hw7)
          have HK7 := Lib.hid (HK6.out.trans hk7)
          clear hQ1 hQ1l hw7 hk7 hbx7 HNC
          go_wp2_with (refine load_cells rfl _ _ rfl b6 1 rfl cs _ HC7.out undV rfl (by rw [sizeV, HCL.out]) ?_)
          go_loopw [47] (fun i' wq => ∃ j : Nat, j ≤ 64 ∧ i' = .int .i64 (j : Int) ∧ Wb wq w.heap.size (fun j => KA j ∨ j = b6) b (Q1 ++ bodyV v j) ∧ Keep w.heap.size (fun j => KA j ∨ j = b6) W5 wq) (fun i' _ => 64 - (intOf i').toNat)
          case atStart => exact ⟨0, by omega, rfl, HW7.out, HK7.out⟩
          case round =>
            clear HW7 HK7 hc64
            obtain ⟨j, hj, rfl, hwq, hkq⟩ := hrel
            obtain ⟨wa, rfl⟩ : ∃ wa, wa = wr := ⟨_, rfl⟩
            have HWQ := Lib.hid hwq
            have HKQ := Lib.hid hkq
            clear hwq hkq
            by_cases hlt : j < 64
            · have t1 : decide (j < 64) = true := decide_eq_true hlt
              have t1' : decide ((j : Int) < 64) = true := decide_eq_true (by omega)
              obtain ⟨x, hx⟩ := vec_at HVK.out hlt
              have hidx := run_index_arr (P := Try.prog) undV Try.underlying35 sz16 cs j (.int .u16 x) hlt (by rw [HCS.out]; exact ints_at hx)
              have hxx := HVK.out.2 x (List.mem_of_getElem? hx)
              obtain ⟨xn, rfl⟩ := Int.eq_ofNat_of_zero_le hxx.1
              have hxn : xn ≤ 65535 := by omega
              have HX := Lib.hid hx
              have HLJ := Lib.hid hlt
              have hk9 : j < 64 := hlt
              clear hj hx hlt hxx
              by_cases h6 : 0 < xn
              · have s1 : decide ((0 : Int) < (xn : Int)) = true := decide_eq_true (by omega)
                have s1' : decide (0 < xn) = true := decide_eq_true h6
                have H6 := Lib.hid h6
                have hbl := body_len v j
                have HBT : Hid (∀ r : Int, r = (j : Int) + 1 → Calls Try.prog 39 #[.pointer (some ⟨b, 0, none⟩), .slice (some ⟨wa.heap.size, 0, none⟩) 1 1] (wa.alloc (.cells #[.int .u8 r] 5)) fun r w' => r = .returned (.tuple #[]) ∧ Wb w' w.heap.size (fun j => KA j ∨ j = b6) b (Q1 ++ bodyV v j ++ [Vi.u8 (j + 1)]) ∧ Keep w.heap.size (fun j => KA j ∨ j = b6) wa w') := Lib.hid fun r hr => by
                  rw [hr]
                  have h9 := HQ1L.out
                  exact byte_w1 wa w.heap.size (fun j => KA j ∨ j = b6) (fun i hi => Nat.lt_of_lt_of_le (HKB.out i hi) HKQ.out.size) b _ HWQ.out (j + 1) (by omega) (by rw [List.length_append]; omega)
                clear h6 hbl
                go_wp2_with fail
                refine (HBT.out _ rfl).mono ?_
                rintro r w8 ⟨rfl, hw8, hk8⟩
                have HNX := Lib.hid (num_wn w8 w.heap.size (fun j => KA j ∨ j = b6) (fun i hi => Nat.lt_of_lt_of_le (HKB.out i hi) (Nat.le_trans HKQ.out.size hk8.size)) b _ hw8 [xn] 1 rfl #[.int .u64 (xn : Int)] rfl (fun y hy => by rw [List.mem_singleton.1 hy]; omega) (by have h9 := HQ1L.out; have := body_len v j; simp only [List.length_append, List.length_cons, List.length_nil]; omega))
                have HK8 := Lib.hid (HKQ.out.trans hk8)
                clear hw8 hk8 hidx s1 s1' HBT
                go_wp2_with fail
                refine HNX.out.mono ?_
                rintro r w9 ⟨rfl, hw9, hk9'⟩
                have HW9 : Hid (Wb w9 w.heap.size (fun j => KA j ∨ j = b6) b (Q1 ++ bodyV v (j + 1))) := Lib.hid (by
                  rw [body_step HX.out, if_pos (by have := H6.out; omega)]
                  have e : Q1 ++ bodyV v j ++ [Vi.u8 (j + 1)] ++ vbs [xn] = Q1 ++ (bodyV v j ++ Vi.u8 (j + 1) :: vb ((xn : Int)).toNat) := by simp [vbs]
                  rw [← e]
                  exact hw9)
                have HK9 := Lib.hid (HK8.out.trans hk9')
                clear hw9 hk9' HNX
                go_wp2_with fail
                go_roundw
                case rel => exact ⟨j + 1, by have := HLJ.out; omega, by go_num, HW9.out, HK9.out⟩
                case measure => have := HLJ.out; simp [intOf] <;> omega
              · have s1 : decide ((0 : Int) < (xn : Int)) = false := decide_eq_false (by omega)
                have s1' : decide (0 < xn) = false := decide_eq_false h6
                have HW9 : Hid (Wb wa w.heap.size (fun j => KA j ∨ j = b6) b (Q1 ++ bodyV v (j + 1))) := Lib.hid (by
                  rw [body_step HX.out, if_neg (by omega), List.append_nil]
                  exact HWQ.out)
                clear h6
                go_wp2_with fail
                clear hidx s1 s1'
                go_roundw
                case rel => exact ⟨j + 1, by have := HLJ.out; omega, by go_num, HW9.out, HKQ.out⟩
                case measure => have := HLJ.out; simp [intOf] <;> omega
            · obtain rfl : j = 64 := by omega
              have t1 : decide ((64 : Nat) < 64) = false := decide_eq_false (by omega)
              rw [show ((64 : Nat) : Int) = 64 from rfl]
              have HWE : Hid (Wb wa w.heap.size KA b (vb l ++ encTs (L.take (k + 1)))) := Lib.hid (by
                have e : vb l ++ encTs (L.take (k + 1)) = Q1 ++ bodyV v 64 := by
                  rw [encTs_step HT'.out, HQ1.out, HQ.out, HC9.out]
                  unfold encTag encV
                  simp [vbs]
                rw [e]
                exact HWQ.out.more fun i hi _ => .inl hi)
              have HGE := Lib.hid (HKQ.out.grow HGR.out rfl)
              have HKE := Lib.hid (HKP.out.trans (HKQ.out.less fun i hi => .inl hi))
              clear hj hlt
              go_wp2_with fail
              go_roundw
              case rel => exact ⟨k + 1, by have := HLT.out; omega, by go_num, HWE.out, HGE.out, HKE.out⟩
              case measure => have := HLT.out; simp [intOf] <;> omega
    · obtain rfl : k = l := by omega
      have t1 : decide (k < k) = false := decide_eq_false (by omega)
      have e : L.take k = L := List.take_of_length_le (by rw [HL.out]; omega)
      rw [e] at hwb
      obtain ⟨Z, hZ⟩ : ∃ Z, Z = vb k ++ encTs L := ⟨_, rfl⟩
      rw [← hZ] at hwb
      have hzl : Z.length ≤ 1000000 := by
        have h1 := vb_len_le k
        have h2 := HEL.out
        have h3 := HL.out
        rw [hZ, List.length_append]
        omega
      have hbw := bytes_w wr _ _ b _ hwb (by omega)
      have HZ : Hid (Z = encT L) := Lib.hid (by rw [hZ]; unfold encT; rw [← HL.out])
      have HBW := Lib.hid hbw
      have HGR := Lib.hid hgr
      clear hwb hgr hkp hlt hk e hZ hzl hbw
      go_wp2_with fail
      refine HBW.out.mono ?_
      rintro r w9 ⟨v, rfl, ho, hg⟩
      obtain ⟨A9, c9, rfl, -⟩ := own_form ho
      have HEND : Hid (w9.ownsRow w.heap.size 5 1 (.slice A9 Z.length c9) (encT L).length (u8s (encT L)) ∧ Grow w w9) := Lib.hid (by
        rw [← HZ.out]
        exact ⟨own_lower ho HGR.out.size, HGR.out.trans hg⟩)
      clear ho hg
      go_wp2_with fail
      go_ret
      exact ⟨_, rfl, HEND.out⟩
end
end Go.Proofs.Ythclgmpjmhacdaa.tg
