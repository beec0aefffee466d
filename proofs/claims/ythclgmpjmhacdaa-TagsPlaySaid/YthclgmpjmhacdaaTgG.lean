/- The document's Bytes. -/
import Derived.Test.YthclgmpjmhacdaaTgR2
import Derived.Test.YthclgmpjmhacdaaTgL
namespace Go.Proofs.Ythclgmpjmhacdaa.tg
open Go Go.RowKit Go.Par Go.Kit Vi Go.Proofs.Ythclgmpjmhacdaa.bfW
open Go.Proofs.Ythclgmpjmhacdaa.viW

/-- what is appended to one's own leaves another's own alone -/
theorem own_apart {w w1 : World} {B B1 B2 : Nat} {e e2 : TypeId} {s s2 : Nat} {v v2 : Value} {n n2 : Nat} {xs xs2 : List Value} (h : w.ownsRow B1 e s v n xs) (h2 : w.ownsRow B2 e2 s2 v2 n2 xs2) (hb : ∀ k, v.ownBlock = some k → k < B2) (hB : B ≤ w.heap.size) (hB1 : B ≤ B1) (hg : w.grownBy w1 v.ownBlock) : w1.ownsRow B2 e2 s2 v2 n2 xs2 := by
  have hk : Keep B (fun k => B2 ≤ k) w w1 := Keep.by_ (Keep.refl w) hB hg fun k hk => ⟨Nat.le_trans hB1 (own_base h k hk), fun h9 => by have := hb k hk; omega⟩
  exact hk.own h2 fun k hk => own_base h2 k hk
set_option maxRecDepth 100000 in
set_option maxHeartbeats 4000000 in
theorem rbytes_any (w : World) (v : Value) (L : List Tag) (hr : RT w v L) (hv : ∀ t ∈ L, VecOk t.2 ∧ t.1.length ≤ 60) (hm : L.length ≤ 1000) :
    Calls Try.prog 24 #[v] w fun e w' => ∃ u, e = .returned u ∧ w'.ownsRow w.heap.size 5 1 u (encT L).length (u8s (encT L)) ∧ Grow w w' := by
  obtain ⟨A, c, rfl, -, -, hrow⟩ := hr
  have hpl : ∀ k, (vb L.length ++ encTs (L.take k)).length ≤ 2000000 := fun k => by
    have h1 := vb_len_le L.length
    have h2 := encTs_len (L := L.take k) fun t ht => (hv t (List.mem_of_mem_take ht)).2
    rw [List.length_take] at h2
    rw [List.length_append]
    omega
  have HROW := Lib.hid hrow
  obtain ⟨l, hl⟩ : ∃ l, l = L.length := ⟨_, rfl⟩
  rw [← hl] at hm hpl ⊢
  have HV := Lib.hid hv
  have HL := Lib.hid hl
  have HPL := Lib.hid hpl
  have HE : Hid (encT L = vb l ++ encTs (L.take l)) := Lib.hid (by rw [hl, List.take_length]; rfl)
  have HN := Lib.hid (ref_bytes_own l (by omega) w)
  clear hrow hv hl hpl
  go_enter Try.func24, Try.ntmps24
  go_wp2_with fail
  refine HN.out.mono ?_
  rintro e w1 ⟨v1, rfl, ho1, hg1⟩
  have HO1 : Hid (w1.ownsRow w.heap.size 5 1 v1 (vb l ++ encTs (L.take 0)).length (u8s (vb l ++ encTs (L.take 0)))) := Lib.hid (by simpa [encTs] using ho1)
  have HG1 := Lib.hid hg1
  clear ho1 hg1 HN
  go_wp2_with fail
  go_loopw [3, 4] (fun o' i' wr => ∃ k : Nat, k ≤ l ∧ i' = .int .i64 (k : Int) ∧ wr.ownsRow w.heap.size 5 1 o' (vb l ++ encTs (L.take k)).length (u8s (vb l ++ encTs (L.take k))) ∧ Hid (Grow w wr)) (fun _ i' _ => l - (intOf i').toNat)
  case atStart => exact ⟨0, by omega, rfl, HO1.out, HG1⟩
  case round =>
    clear HO1 HG1
    obtain ⟨k, hk, rfl, ho, HG⟩ := hrel
    obtain ⟨wa, rfl⟩ : ∃ wa, wa = wr := ⟨_, rfl⟩
    have HO := Lib.hid ho
    by_cases hlt : k < l
    · have t1 : decide (k < l) = true := decide_eq_true hlt
      have t1' : decide ((k : Int) < (l : Int)) = true := decide_eq_true (by omega)
      obtain ⟨t, ht⟩ : ∃ t, L[k]? = some t := ⟨_, List.getElem?_eq_getElem (by rw [← HL.out]; exact hlt)⟩
      obtain ⟨nm, x⟩ := t
      have hvt := HV.out (nm, x) (List.mem_of_getElem? ht)
      have r1 := HROW.out
      obtain ⟨b, off, rfl, hc⟩ := rt_at (r1.grow HG.out) (fun t ht => (HV.out t ht).1) ht
      have y0 : wa.cell? ⟨b, off + k * 65, none⟩ = some (.string (str nm)) := hc 0 _ rfl
      have HCELL : Hid (∀ w', Grow w w' → ∀ (j : Nat) (y : Int), x[j]? = some y → w'.cell? ⟨b, off + k * 65 + 1 + j, none⟩ = some (.int .u16 y)) := Lib.hid fun w' hg j y hy => by
        obtain ⟨b', off', hab, hc'⟩ := rt_at (HROW.out.grow hg) (fun t ht => (HV.out t ht).1) ht
        injection hab with hab
        injection hab with hab1 hab2
        subst hab1 hab2
        rw [Nat.add_assoc (off + k * 65), Nat.add_comm 1 j]
        exact hc' (j + 1) _ (trow_vec j _ (ints_at hy))
      have HST : Hid (vb l ++ encTs (L.take (k + 1)) = (vb l ++ encTs (L.take k)) ++ ((vb nm.length ++ nm) ++ encV x)) := Lib.hid (by rw [encTs_step ht, List.append_assoc]; rfl)
      obtain ⟨P, hP⟩ : ∃ P, P = vb l ++ encTs (L.take k) := ⟨_, rfl⟩
      have hPl : P.length ≤ 2000000 := by rw [hP]; exact HPL.out k
      rw [← hP] at HO HST ho
      have HTX := Lib.hid (ref_text_w nm (by have := hvt.2; dsimp only at this; omega) wa)
      have hnl : (vb nm.length ++ nm).length ≤ 1000 := by
        have h1 := vb_len_le nm.length
        have h2 := hvt.2
        dsimp only at h2
        rw [List.length_append]
        omega
      obtain ⟨X, hX⟩ : ∃ X, X = vb nm.length ++ nm := ⟨_, rfl⟩
      rw [← hX] at HTX HST hnl
      have HC := Lib.hid hc
      have HX := Lib.hid hvt.1
      have hsz := HG.out.size
      have HLT := Lib.hid hlt
      clear hk hlt ht hvt r1 hc hX hP
      go_wp2_with fail
      refine HTX.out.mono ?_
      rintro e w2 ⟨v2, rfl, ho2, hg2⟩
      have ho' := own_grow ho hg2
      obtain ⟨A2, n2, c2, rfl, hc2, hm2, hb2⟩ := own_sl ho2
      have hn2 := hb2.len
      subst hn2
      have hsz2 := Nat.le_trans hsz hg2.size
      go_wp2_with (at_builtin; refine append_bytes Try.underlying22 i8 i8z i8s i8b rfl _ _ rfl w.heap.size _ P.length P ho' rfl A2 X.length c2 X hb2 rfl (by omega) hsz2 ?_; intro v3 w3 hown3 hgb3 hh3)
      have hg3 : Grow w w3 := grow_by (HG.out.trans hg2) hgb3 (own_base ho)
      have HO3 := Lib.hid hown3
      have HG3 := Lib.hid hg3
      have HB3 : Hid (∀ kk, v3.ownBlock = some kk → kk < w3.heap.size) := Lib.hid fun kk h => (hown3.lt kk h).2
      clear ho ho' ho2 hg2 hb2 hown3 hgb3 hh3 hg3 HTX y0 hc2 hm2 hsz2 hsz
      go_loopw [5, 6, 7] (fun c' o' a' wr => ∃ j : Nat, j ≤ 64 ∧ a' = .int .i64 (j : Int) ∧ c' = .int .i64 (cntV x j : Int) ∧ wr.ownsRow w3.heap.size 5 1 o' (bodyV x j).length (u8s (bodyV x j)) ∧ Hid (Grow w3 wr)) (fun _ _ a' _ => 64 - (intOf a').toNat)
      case atStart => exact ⟨0, by omega, rfl, rfl, World.ownsRow_nil _ _ _ _, Lib.hid (Grow.refl _)⟩
      case round =>
        obtain ⟨j, hj, rfl, rfl, ho, HGJ⟩ := hrel
        obtain ⟨wb, rfl⟩ : ∃ wb, wb = wr := ⟨_, rfl⟩
        have hcj := cnt_le x j
        have hbj := body_len x j
        have HOJ := Lib.hid ho
        by_cases hlt : j < 64
        · have t2 : decide (j < 64) = true := decide_eq_true hlt
          have t2' : decide ((j : Int) < 64) = true := decide_eq_true (by omega)
          obtain ⟨y, hy⟩ := vec_at HX.out hlt
          have hy2 := HX.out.2 y (List.mem_of_getElem? hy)
          obtain ⟨yn, rfl⟩ := Int.eq_ofNat_of_zero_le hy2.1
          have z0 := HCELL.out wb (HG3.out.trans HGJ.out) j _ hy
          have hbs := body_step hy
          have hcs := cnt_step hy
          obtain ⟨D, hD⟩ : ∃ D, D = bodyV x j := ⟨_, rfl⟩
          obtain ⟨cj, hcj'⟩ : ∃ cj, cj = cntV x j := ⟨_, rfl⟩
          rw [← hD] at hbs hbj HOJ ho
          rw [← hcj'] at hcs hcj ⊢
          have HY := Lib.hid hy
          have hyl : yn ≤ 65535 := by have := hy2.2; omega
          have HLTJ := Lib.hid hlt
          clear hj hy hy2 hD hcj'
          by_cases h0 : 0 < yn
          · rw [if_pos (by omega)] at hbs hcs
            have q1 : decide (0 < yn) = true := decide_eq_true h0
            have q1' : decide ((0 : Int) < (yn : Int)) = true := decide_eq_true (by omega)
            have HBS : Hid (bodyV x (j + 1) = (D ++ [Vi.u8 (j + 1)]) ++ vb yn) := Lib.hid (by rw [hbs, List.append_assoc]; rfl)
            have HCS : Hid (cntV x (j + 1) = cj + 1) := Lib.hid hcs
            have hu8 : (Vi.u8 (j + 1)).toNat = j + 1 := Vi.u8_toNat (by omega)
            have HBN := Lib.hid (fun w9 => ref_bytes_own yn (by omega) w9)
            have hvl := vb_len_le yn
            obtain ⟨Y, hY⟩ : ∃ Y, Y = vb yn := ⟨_, rfl⟩
            rw [← hY] at HBN HBS hvl
            have hszb := HGJ.out.size
            clear hbs hcs h0 hY
            go_wp2_with (first
              | (at_builtin; refine append_fresh 1 Try.underlying22 i8 i8z i8s i8b rfl rfl _ _ rfl w3.heap.size _ _ _ ho rfl rfl rfl ?_ ?_ ?_ ?_; (unfold maxLen; omega); omega; exact hszb; intro v5 w5 hown5 hgb5 hh5; have hg5 := grow_by (HGJ.out.trans (Grow.alloc wb _)) hgb5 (own_base ho); have z5 := HCELL.out w5 (HG3.out.trans hg5) j _ HY.out))
            have hown5' : w5.ownsRow w3.heap.size 5 1 v5 (D ++ [Vi.u8 (j + 1)]).length (u8s (D ++ [Vi.u8 (j + 1)])) := by
              simpa [u8s, u8v, hu8] using hown5
            have hg5' : Grow w3 w5 := hg5
            refine (HBN.out w5).mono ?_
            rintro e w6 ⟨v6, rfl, ho6, hg6⟩
            obtain ⟨A6, n6, c6, rfl, hc6, hm6, hb6⟩ := own_sl ho6
            have hn6 := hb6.len
            subst hn6
            have hown6 := own_grow hown5' hg6
            have hsz6 := (hg5'.trans hg6).size
            have hDl : (D ++ [Vi.u8 (j + 1)]).length ≤ 2000 := by rw [List.length_append]; simp; omega
            obtain ⟨D2, hD2⟩ : ∃ D2, D2 = D ++ [Vi.u8 (j + 1)] := ⟨_, rfl⟩
            rw [← hD2] at hown6 hDl HBS
            have HG6 := Lib.hid (hg5'.trans hg6)
            clear hown5 hown5' hgb5 hh5 hg5 hg5' z0 z5 q1 q1' ho6 hg6 hu8 hD2 ho hszb
            go_wp2_with (at_builtin; refine append_bytes Try.underlying22 i8 i8z i8s i8b rfl _ _ rfl w3.heap.size _ D2.length D2 hown6 rfl A6 Y.length c6 Y hb6 rfl (by omega) hsz6 ?_; intro v7 w7 hown7 hgb7 hh7)
            have hg7 := grow_by HG6.out hgb7 (own_base hown6)
            have HO7 : Hid (w7.ownsRow w3.heap.size 5 1 v7 (bodyV x (j + 1)).length (u8s (bodyV x (j + 1)))) := Lib.hid (by rw [HBS.out, List.length_append]; exact hown7)
            have HG7 := Lib.hid hg7
            clear hown7 hgb7 hh7 hg7 hown6 hb6
            go_roundw
            case rel => exact ⟨j + 1, by omega, by go_num, by rw [HCS.out]; go_num, HO7.out, HG7⟩
            case measure => simp [intOf] <;> omega
          · obtain rfl : yn = 0 := by omega
            rw [if_neg (by decide)] at hbs hcs
            rw [List.append_nil] at hbs
            rw [Nat.add_zero] at hcs
            have HO7 : Hid (wb.ownsRow w3.heap.size 5 1 _ (bodyV x (j + 1)).length (u8s (bodyV x (j + 1)))) := Lib.hid (by rw [hbs]; exact ho)
            have HCS := Lib.hid hcs
            clear hbs hcs h0 ho
            go_wp2_with fail
            go_roundw
            case rel => exact ⟨j + 1, by omega, by go_num, by rw [HCS.out]; rfl, HO7.out, HGJ⟩
            case measure => simp [intOf] <;> omega
        · obtain rfl : j = 64 := by omega
          have t2 : decide (64 < 64) = false := by decide
          have HBN := Lib.hid (fun w9 => ref_bytes_own (cntV x 64) (by omega) w9)
          have hvl := vb_len_le (cntV x 64)
          have HSP : Hid ((P ++ X) ++ vb (cntV x 64) ++ bodyV x 64 = vb l ++ encTs (L.take (k + 1))) := Lib.hid (by rw [HST.out]; unfold encV; simp)
          obtain ⟨D, hD⟩ : ∃ D, D = bodyV x 64 := ⟨_, rfl⟩
          obtain ⟨cj, hcj'⟩ : ∃ cj, cj = cntV x 64 := ⟨_, rfl⟩
          obtain ⟨Y, hY⟩ : ∃ Y, Y = vb (cntV x 64) := ⟨_, rfl⟩
          rw [← hcj'] at hcj ⊢
          rw [← hD] at hbj HOJ ho HSP
          rw [← hY] at HBN hvl HSP
          rw [← hcj'] at HBN
          have hPX : (P ++ X).length ≤ 2001000 := by rw [List.length_append]; omega
          obtain ⟨PX, hPXe⟩ : ∃ PX, PX = P ++ X := ⟨_, rfl⟩
          have ho3 := HO3.out
          rw [← List.length_append, ← hPXe] at ho3
          rw [← hPXe] at hPX HSP
          clear hD hcj' hY hPXe hj hlt
          go_wp2_with fail
          refine (HBN.out wb).mono ?_
          rintro e w6 ⟨v6, rfl, ho6, hg6⟩
          obtain ⟨A6, n6, c6, rfl, hc6, hm6, hb6⟩ := own_sl ho6
          have hn6 := hb6.len
          subst hn6
          have ho36 := own_grow ho3 (HGJ.out.trans hg6)
          have hj6 := own_grow ho hg6
          have hsz6 := (HG3.out.trans (HGJ.out.trans hg6)).size
          have HG6 := Lib.hid (HG3.out.trans (HGJ.out.trans hg6))
          have hw6 : w3.heap.size ≤ w6.heap.size := (HGJ.out.trans hg6).size
          clear ho ho6 hg6 ho3
          go_wp2_with (first
            | (at_builtin; refine append_bytes Try.underlying22 i8 i8z i8s i8b rfl _ _ rfl w.heap.size _ PX.length PX ho36 rfl A6 Y.length c6 Y hb6 rfl (by omega) hsz6 ?_; intro v8 w8 hown8 hgb8 hh8; have hg8 := grow_by HG6.out hgb8 (own_base ho36); have hj8 := own_apart ho36 hj6 HB3.out hsz6 (Nat.le_refl _) hgb8; obtain ⟨A8, n8, c8, rfl, hc8, hm8, hb8⟩ := own_sl hj8; have hn8 := hb8.len; subst hn8; rw [← List.length_append] at hown8; have hl8 : (PX ++ Y).length ≤ 2001020 := by (rw [List.length_append]; omega))
            | (at_builtin; refine append_bytes Try.underlying22 i8 i8z i8s i8b rfl _ _ rfl w.heap.size _ (PX ++ Y).length (PX ++ Y) hown8 rfl A8 D.length c8 D hb8 rfl (by omega) hg8.size ?_; intro v9 w9 hown9 hgb9 hh9))
          have hg9 := grow_by hg8 hgb9 (own_base hown8)
          have HO9 : Hid (w9.ownsRow w.heap.size 5 1 v9 (vb l ++ encTs (L.take (k + 1))).length (u8s (vb l ++ encTs (L.take (k + 1))))) := Lib.hid (by rw [← HSP.out, List.length_append]; exact hown9)
          have HG9 := Lib.hid hg9
          clear hown9 hgb9 hh9 hg9 hown8 hgb8 hh8 hg8 hj8 hb8 hj6 ho36 hb6
          go_roundw
          case rel => exact ⟨k + 1, by have := HLT.out; omega, by go_num, HO9.out, HG9⟩
          case measure => have := HLT.out; simp [intOf] <;> omega
    · obtain rfl : k = l := by omega
      have t1 : decide (k < k) = false := decide_eq_false hlt
      have HEND : Hid (wa.ownsRow w.heap.size 5 1 _ (encT L).length (u8s (encT L))) := Lib.hid (by rw [HE.out]; exact ho)
      clear hk hlt ho HO
      go_wp2_with fail
      go_ret
      exact ⟨_, rfl, HEND.out, HG.out⟩
end Go.Proofs.Ythclgmpjmhacdaa.tg
