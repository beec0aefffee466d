/- The walks of what reads: Byte, Text, Left, Err, End, Open. -/
import Derived.Test.YthclgmpjmhacdaaRdW
namespace Go.Proofs.Ythclgmpjmhacdaa.bfW
open Go Go.RowKit Go.Par Go.Kit Vi Go.Proofs.Ythclgmpjmhacdaa.cl
open Go.Proofs.Ythclgmpjmhacdaa.viW hiding i8 i8s i8z i8b info8

theorem byte_nil (e most : Nat) : rbyte [] e most = if e ≠ 0 then (0, [], e) else (0, [], 2) := rfl
theorem byte_cons (x : UInt8) (r : List UInt8) (e most : Nat) : rbyte (x :: r) e most = if e ≠ 0 then (0, x :: r, e) else if most < x.toNat then (0, x :: r, 1) else (x.toNat, r, 0) := rfl

set_option maxHeartbeats 400000 in
theorem byte_any (w : World) (B : Nat) (K : Nat → Prop) (g : Nat) (L : List UInt8) (e : Nat) (h : Rdr TR w B K g L e) (most : Nat) :
    Calls Try.prog 58 #[.pointer (some ⟨g, 0, none⟩), .int .u8 (most : Int)] w fun r w' => r = .returned (.int .u8 ((rbyte L e most).1 : Int)) ∧ Rdr TR w' B K g (rbyte L e most).2.1 (rbyte L e most).2.2 ∧ Keep B K w w' := by
  have H := Lib.hid h
  obtain ⟨A, n, c, h1, h2, h3, h4, h5, h6, h7⟩ := h
  have hlen := h4.len
  have c0 := h1.cell (i := 0) rfl
  have c1 := h1.cell (i := 1) rfl
  have f0 := h1.free 0
  have f1 := h1.free 1
  by_cases he : e = 0
  · subst he
    have HE := Lib.hid (ends_no w g c1)
    cases L with
    | nil =>
      rw [byte_nil, if_neg (by decide)]
      obtain rfl : n = 0 := by simpa using hlen.symm
      clear h1 h4 h5 hlen
      go_enter Try.func58, Try.ntmps58
      go_wp2_with fail
      refine HE.out.mono ?_
      rintro e w' ⟨rfl, rfl⟩
      go_wp2_with fail
      refine (fail_any w g 2 f1 _ c1).mono ?_
      rintro e w' ⟨rfl, rfl⟩
      go_wp2_with fail
      go_ret
      exact ⟨rfl, H.out.set1 2⟩
    | cons x r =>
      have hn : 1 ≤ n := by simp at hlen; omega
      obtain ⟨b, off, x', rfl, hx, hcell⟩ := h4.at_ (k := 0) (by omega)
      obtain rfl : x = x' := by simpa using hx
      rw [Nat.add_zero] at hcell
      rw [byte_cons, if_neg (by decide)]
      have hxl := x.toNat_lt
      by_cases hm : most < x.toNat
      · rw [if_pos hm]
        have t1 : decide ((most : Int) < (x.toNat : Int)) = true := decide_eq_true (by omega)
        have t2 : decide (most < x.toNat) = true := decide_eq_true hm
        have t3 : ((n : Int) == 0) = false := beq_false_of_ne (by omega)
        clear h1 h4 h5 hlen hx hm
        go_enter Try.func58, Try.ntmps58
        go_wp2_with fail
        refine HE.out.mono ?_
        rintro e w' ⟨rfl, rfl⟩
        go_wp2_with fail
        refine (fail_any w g 1 f1 _ c1).mono ?_
        rintro e w' ⟨rfl, rfl⟩
        go_wp2_with fail
        go_ret
        exact ⟨rfl, H.out.set1 1⟩
      · rw [if_neg hm]
        have t1 : decide ((most : Int) < (x.toNat : Int)) = false := decide_eq_false (by omega)
        have t2 : decide (most < x.toNat) = false := decide_eq_false hm
        have t3 : ((n : Int) == 0) = false := beq_false_of_ne (by omega)
        have HS := Lib.hid (Rdr.set0 (K := K) h1 h2 h3 h4 h5 h6 h7 hn)
        have hbB : b < B := h5 (by omega) ⟨b, off, none⟩ rfl
        clear h1 h4 h5 hlen hx hm
        go_enter Try.func58, Try.ntmps58
        go_wp2_with fail
        refine HE.out.mono ?_
        rintro e w' ⟨rfl, rfl⟩
        go_wp2_with fail
        refine (take_any w g (some ⟨b, off, none⟩) n c 1 hn h2 f0 c0).mono ?_
        rintro e w1 ⟨rfl, hw1⟩
        have HS2 := HS.out
        rw [← hw1] at HS2
        have hc2 := (HS2.2.1.cell (p := ⟨b, off, none⟩) hbB).trans hcell
        have HS3 := Lib.hid HS2
        clear hw1 HS2 HS
        go_wp2_with fail
        go_ret
        exact ⟨rfl, HS3.out⟩
  · have hby : rbyte L e most = (0, L, e) := by cases L <;> simp [byte_nil, byte_cons, he]
    rw [hby]
    have HE := Lib.hid (ends_yes w g e he c1)
    clear h1 h4 h5 hlen he hby
    go_enter Try.func58, Try.ntmps58
    go_wp2_with fail
    refine HE.out.mono ?_
    rintro e w' ⟨rfl, rfl⟩
    go_wp2_with fail
    go_ret
    exact ⟨rfl, H.out, Keep.refl w⟩

set_option maxHeartbeats 400000 in
theorem ref_byte_any (w : World) (B : Nat) (K : Nat → Prop) (g : Nat) (L : List UInt8) (e : Nat) (h : Rdr TX w B K g L e) (most : Nat) :
    Calls Try.prog 34 #[.pointer (some ⟨g, 0, none⟩), .int .u8 (most : Int)] w fun r w' => r = .returned (.int .u8 ((rbyte L e most).1 : Int)) ∧ Rdr TX w' B K g (rbyte L e most).2.1 (rbyte L e most).2.2 ∧ Keep B K w w' := by
  have H := Lib.hid h
  obtain ⟨A, n, c, h1, h2, h3, h4, h5, h6, h7⟩ := h
  have hlen := h4.len
  have c0 := h1.cell (i := 0) rfl
  have c1 := h1.cell (i := 1) rfl
  have f0 := h1.free 0
  have f1 := h1.free 1
  by_cases he : e = 0
  · subst he
    cases L with
    | nil =>
      rw [byte_nil, if_neg (by decide)]
      obtain rfl : n = 0 := by simpa using hlen.symm
      clear h1 h4 h5 hlen
      go_enter Try.func34, Try.ntmps34
      go_wp2_with fail
      go_ret
      exact ⟨rfl, H.out.set1 2⟩
    | cons x r =>
      have hn : 1 ≤ n := by simp at hlen; omega
      obtain ⟨b, off, x', rfl, hx, hcell⟩ := h4.at_ (k := 0) (by omega)
      obtain rfl : x = x' := by simpa using hx
      rw [Nat.add_zero] at hcell
      rw [byte_cons, if_neg (by decide)]
      have hxl := x.toNat_lt
      by_cases hm : most < x.toNat
      · rw [if_pos hm]
        have t1 : decide ((most : Int) < (x.toNat : Int)) = true := decide_eq_true (by omega)
        have t2 : decide (most < x.toNat) = true := decide_eq_true hm
        have t3 : ((n : Int) == 0) = false := beq_false_of_ne (by omega)
        clear h1 h4 h5 hlen hx hm
        go_enter Try.func34, Try.ntmps34
        go_wp2_with fail
        go_ret
        exact ⟨rfl, H.out.set1 1⟩
      · rw [if_neg hm]
        have t1 : decide ((most : Int) < (x.toNat : Int)) = false := decide_eq_false (by omega)
        have t2 : decide (most < x.toNat) = false := decide_eq_false hm
        have t3 : ((n : Int) == 0) = false := beq_false_of_ne (by omega)
        have HS := Lib.hid (Rdr.set0 (K := K) h1 h2 h3 h4 h5 h6 h7 hn)
        have hbB : b < B := h5 (by omega) ⟨b, off, none⟩ rfl
        have hs2 := slice_lo (P := Try.prog) Try.underlying22 i8 i8s (some ⟨b, off, none⟩) n c 1 hn
        simp only [show ((1 : Nat) : Int) = 1 from rfl] at hs2
        obtain ⟨D, hD⟩ : ∃ D, D = cutAt (some ⟨b, off, none⟩) c 1 := ⟨_, rfl⟩
        rw [← hD] at hs2 HS
        clear h1 h4 h5 hlen hx hm hD
        go_enter Try.func34, Try.ntmps34
        go_wp2_with fail
        go_ret
        exact ⟨rfl, HS.out⟩
  · have hby : rbyte L e most = (0, L, e) := by cases L <;> simp [byte_nil, byte_cons, he]
    rw [hby]
    have t0 : ((e : Int) != 0) = true := bne_iff_ne.2 (by omega)
    clear h1 h4 h5 hlen he hby
    go_enter Try.func34, Try.ntmps34
    go_wp2_with fail
    go_ret
    exact ⟨rfl, H.out, Keep.refl w⟩

theorem text_fst {L : List UInt8} {e : Nat} {most : Int} {a b d : Nat} (hr : rd L = (a, b, d)) : rtext L e most = if e ≠ 0 then ([], L, e) else if d ≠ 0 then ([], L, d) else if most < 0 ∨ most < (a : Int) then ([], L, 3) else
    if L.length < b + a then ([], L, 2) else ((L.drop b).take a, L.drop (b + a), 0) := by
  unfold rtext; rw [hr]
theorem str_nil : str [] = ByteArray.mk #[] := rfl

set_option maxRecDepth 100000 in
set_option maxHeartbeats 1000000 in
theorem text_any (w : World) (B : Nat) (K : Nat → Prop) (g : Nat) (L : List UInt8) (e : Nat) (h : Rdr TR w B K g L e) (most : Int) (hm1 : most ≤ 9223372036854775807) :
    Calls Try.prog 29 #[.pointer (some ⟨g, 0, none⟩), .int .i64 most] w fun r w' => r = .returned (.string (str (rtext L e most).1)) ∧ Rdr TR w' B K g (rtext L e most).2.1 (rtext L e most).2.2 ∧ Keep B K w w' := by
  obtain ⟨a, b, d, hr⟩ : ∃ a b d, rd L = (a, b, d) := ⟨_, _, _, rfl⟩
  rw [text_fst hr]
  have H := Lib.hid h
  obtain ⟨A, n, c, h1, h2, h3, h4, h5, h6, h7⟩ := h
  unfold maxLen at h3
  have hlen := h4.len
  have c0 := h1.cell (i := 0) rfl
  have c1 := h1.cell (i := 1) rfl
  have f0 := h1.free 0
  have f1 := h1.free 1
  by_cases he : e = 0
  · subst he
    rw [if_neg (by decide)]
    have HE := Lib.hid (ends_no w g c1)
    have HRD := Lib.hid (read_as (c := c) h4 h2 (by unfold maxLen; omega) hr)
    by_cases hd : d = 0
    · subst hd
      rw [if_neg (by decide)]
      have hb := rd_le hr
      by_cases hm0 : most < 0
      · rw [if_pos (.inl hm0)]
        have t1 : decide (most < 0) = true := decide_eq_true hm0
        clear hr h1 h4 h5 hlen hb hm0
        go_enter Try.func29, Try.ntmps29
        go_wp2_with fail
        refine HE.out.mono ?_
        rintro e w' ⟨rfl, rfl⟩
        go_wp2_with fail
        refine HRD.out.mono ?_
        rintro e w' ⟨rfl, rfl⟩
        go_wp2_with fail
        refine (fail_any w g 3 f1 _ c1).mono ?_
        rintro e w' ⟨rfl, rfl⟩
        go_wp2_with fail
        go_ret
        exact ⟨rfl, H.out.set1 3⟩
      · have t1 : decide (most < 0) = false := decide_eq_false hm0
        obtain ⟨ms, rfl⟩ : ∃ ms : Nat, most = (ms : Int) := ⟨most.toNat, by omega⟩
        by_cases hm : ms < a
        · rw [if_pos (.inr (by omega))]
          have t2 : decide ((ms : Int) < (a : Int)) = true := decide_eq_true (by omega)
          have t3 : decide (ms < a) = true := decide_eq_true hm
          clear hr h1 h4 h5 hlen hb hm hm0
          go_enter Try.func29, Try.ntmps29
          go_wp2_with fail
          refine HE.out.mono ?_
          rintro e w' ⟨rfl, rfl⟩
          go_wp2_with fail
          refine HRD.out.mono ?_
          rintro e w' ⟨rfl, rfl⟩
          go_wp2_with fail
          refine (fail_any w g 3 f1 _ c1).mono ?_
          rintro e w' ⟨rfl, rfl⟩
          go_wp2_with fail
          go_ret
          exact ⟨rfl, H.out.set1 3⟩
        · rw [if_neg (by omega)]
          have t2 : decide ((ms : Int) < (a : Int)) = false := decide_eq_false (by omega)
          have t3 : decide (ms < a) = false := decide_eq_false hm
          have hbn : b ≤ n := by omega
          have hsub : (n : Int) - (b : Int) = ((n - b : Nat) : Int) := by omega
          by_cases hs : L.length < b + a
          · rw [if_pos hs]
            have t4 : decide (((n - b : Nat) : Int) < (a : Int)) = true := decide_eq_true (by omega)
            have t5 : decide (n - b < a) = true := decide_eq_true (by omega)
            clear hr h1 h4 h5 hlen hb hm hm0 hs
            go_enter Try.func29, Try.ntmps29
            go_wp2_with fail
            refine HE.out.mono ?_
            rintro e w' ⟨rfl, rfl⟩
            go_wp2_with fail
            refine HRD.out.mono ?_
            rintro e w' ⟨rfl, rfl⟩
            go_wp2_with fail
            refine (fail_any w g 2 f1 _ c1).mono ?_
            rintro e w' ⟨rfl, rfl⟩
            go_wp2_with fail
            go_ret
            exact ⟨rfl, H.out.set1 2⟩
          · rw [if_neg hs]
            have t4 : decide (((n - b : Nat) : Int) < (a : Int)) = false := decide_eq_false (by omega)
            have t5 : decide (n - b < a) = false := decide_eq_false (by omega)
            have han : a ≤ n - b := by omega
            have HS1 := Lib.hid (Rdr.set0 (K := K) h1 h2 (by unfold maxLen; omega) h4 h5 h6 h7 hbn)
            have hB1 := Lib.hid (h1.set_ 0 (.slice (cutAt A c b) (n - b) (c - b)))
            have hY1 := Lib.hid ((h4.cut hbn h2).below HS1.out.2.1 (fun h => cutAt_block (h5 (by omega))))
            obtain ⟨D, hD⟩ : ∃ D, D = cutAt A c b := ⟨_, rfl⟩
            have hDB : 0 < n - b → ∀ ad, D = some ad → ad.block < B := by rw [hD]; exact fun h => cutAt_block (h5 (by omega))
            have HDB := Lib.hid hDB
            rw [← hD] at HS1 hB1 hY1
            clear hr h1 h4 h5 hlen hb hm hm0 hs hDB
            go_enter Try.func29, Try.ntmps29
            go_wp2_with fail
            refine HE.out.mono ?_
            rintro e w' ⟨rfl, rfl⟩
            go_wp2_with fail
            refine HRD.out.mono ?_
            rintro e w' ⟨rfl, rfl⟩
            go_wp2_with fail
            refine (take_any w g A n c b hbn h2 f0 c0).mono ?_
            rintro e w1 ⟨rfl, hw1⟩
            rw [← hD] at hw1
            rw [← hw1] at HS1 hB1 hY1
            have HD := Lib.hid hD
            clear hw1 hD
            have d0 := hB1.out.cell (i := 0) rfl
            have e0 := hB1.out.free 0

            have HS2 := Lib.hid (Rdr.set0 (K := K) hB1.out (by omega) (by unfold maxLen; omega) hY1.out HDB.out h6 h7 han)
            clear c0 c1 f0 f1
            go_wp2_with fail
            refine (take_any w1 g D (n - b) (c - b) a han (by omega) e0 d0).mono ?_
            rintro e w2 ⟨rfl, hw2⟩
            rw [← hw2] at HS2
            have hcs := conv_str (P := Try.prog) Try.underlying22 Try.underlying5 Try.underlying9 ((hY1.out.below HS2.out.2.1 HDB.out).take han) (c - b)
            clear hw2 d0 e0
            go_wp2_with fail
            go_ret
            have hdd : L.drop (b + a) = (L.drop b).drop a := by rw [List.drop_drop]
            rw [hdd]
            exact ⟨rfl, HS2.out.1, HS1.out.2.trans HS2.out.2⟩
    · rw [if_pos hd]
      have t1 : ((d : Int) == 0) = false := beq_false_of_ne (by omega)
      have t2 : ((d : Int) != 0) = true := bne_iff_ne.2 (by omega)
      clear hr h1 h4 h5 hlen hd
      go_enter Try.func29, Try.ntmps29
      go_wp2_with fail
      refine HE.out.mono ?_
      rintro e w' ⟨rfl, rfl⟩
      go_wp2_with fail
      refine HRD.out.mono ?_
      rintro e w' ⟨rfl, rfl⟩
      go_wp2_with fail
      refine (fail_any w g d f1 _ c1).mono ?_
      rintro e w' ⟨rfl, rfl⟩
      go_wp2_with fail
      go_ret
      exact ⟨rfl, H.out.set1 d⟩
  · rw [if_pos he]
    have HE := Lib.hid (ends_yes w g e he c1)
    clear hr h1 h4 h5 hlen he
    go_enter Try.func29, Try.ntmps29
    go_wp2_with fail
    refine HE.out.mono ?_
    rintro e w' ⟨rfl, rfl⟩
    go_wp2_with fail
    go_ret
    exact ⟨rfl, H.out, Keep.refl w⟩

set_option maxRecDepth 100000 in
set_option maxHeartbeats 1000000 in
theorem ref_text_any (w : World) (B : Nat) (K : Nat → Prop) (g : Nat) (L : List UInt8) (e : Nat) (h : Rdr TX w B K g L e) (most : Int) (hm1 : most ≤ 9223372036854775807) :
    Calls Try.prog 33 #[.pointer (some ⟨g, 0, none⟩), .int .i64 most] w fun r w' => r = .returned (.string (str (rtext L e most).1)) ∧ Rdr TX w' B K g (rtext L e most).2.1 (rtext L e most).2.2 ∧ Keep B K w w' := by
  obtain ⟨a, b, d, hr⟩ : ∃ a b d, rd L = (a, b, d) := ⟨_, _, _, rfl⟩
  rw [text_fst hr]
  have H := Lib.hid h
  obtain ⟨A, n, c, h1, h2, h3, h4, h5, h6, h7⟩ := h
  unfold maxLen at h3
  have hlen := h4.len
  have c0 := h1.cell (i := 0) rfl
  have c1 := h1.cell (i := 1) rfl
  have f0 := h1.free 0
  have f1 := h1.free 1
  by_cases he : e = 0
  · subst he
    rw [if_neg (by decide)]
    have HRD := Lib.hid (ref_read_as (c := c) h4 (by unfold maxLen; omega) hr)
    by_cases hd : d = 0
    · subst hd
      rw [if_neg (by decide)]
      have hb := rd_le hr
      by_cases hm0 : most < 0
      · rw [if_pos (.inl hm0)]
        have t1 : decide (most < 0) = true := decide_eq_true hm0
        clear hr h1 h4 h5 hlen hb hm0
        go_enter Try.func33, Try.ntmps33
        go_wp2_with fail
        refine HRD.out.mono ?_
        rintro e w' ⟨rfl, rfl⟩
        go_wp2_with fail
        go_ret
        exact ⟨rfl, H.out.set1 3⟩
      · have t1 : decide (most < 0) = false := decide_eq_false hm0
        obtain ⟨ms, rfl⟩ : ∃ ms : Nat, most = (ms : Int) := ⟨most.toNat, by omega⟩
        by_cases hm : ms < a
        · rw [if_pos (.inr (by omega))]
          have t2 : decide ((ms : Int) < (a : Int)) = true := decide_eq_true (by omega)
          have t3 : decide (ms < a) = true := decide_eq_true hm
          clear hr h1 h4 h5 hlen hb hm hm0
          go_enter Try.func33, Try.ntmps33
          go_wp2_with fail
          refine HRD.out.mono ?_
          rintro e w' ⟨rfl, rfl⟩
          go_wp2_with fail
          go_ret
          exact ⟨rfl, H.out.set1 3⟩
        · rw [if_neg (by omega)]
          have t2 : decide ((ms : Int) < (a : Int)) = false := decide_eq_false (by omega)
          have t3 : decide (ms < a) = false := decide_eq_false hm
          have hbn : b ≤ n := by omega
          have hsub : (n : Int) - (b : Int) = ((n - b : Nat) : Int) := by omega
          by_cases hs : L.length < b + a
          · rw [if_pos hs]
            have t4 : decide (((n - b : Nat) : Int) < (a : Int)) = true := decide_eq_true (by omega)
            have t5 : decide (n - b < a) = true := decide_eq_true (by omega)
            clear hr h1 h4 h5 hlen hb hm hm0 hs
            go_enter Try.func33, Try.ntmps33
            go_wp2_with fail
            refine HRD.out.mono ?_
            rintro e w' ⟨rfl, rfl⟩
            go_wp2_with fail
            go_ret
            exact ⟨rfl, H.out.set1 2⟩
          · rw [if_neg hs]
            have t4 : decide (((n - b : Nat) : Int) < (a : Int)) = false := decide_eq_false (by omega)
            have t5 : decide (n - b < a) = false := decide_eq_false (by omega)
            have han : a ≤ n - b := by omega
            have han2 : b + a ≤ n := by omega
            have HS1 := Lib.hid (Rdr.set0 (K := K) h1 h2 (by unfold maxLen; omega) h4 h5 h6 h7 han2)
            have hs1 := slice_both (P := Try.prog) Try.underlying22 i8 i8s A n c b (b + a) (by omega) (by omega)
            have hs2 := slice_lo (P := Try.prog) Try.underlying22 i8 i8s A n c (b + a) han2
            rw [show b + a - b = a by omega] at hs1
            have hcs := conv_str (P := Try.prog) Try.underlying22 Try.underlying5 Try.underlying9 ((h4.cut hbn h2).take han) (c - b)
            obtain ⟨D, hD⟩ : ∃ D, D = cutAt A c b := ⟨_, rfl⟩
            obtain ⟨D2, hD2⟩ : ∃ D2, D2 = cutAt A c (b + a) := ⟨_, rfl⟩
            rw [← hD] at hs1 hcs
            rw [← hD2] at hs2 HS1
            simp only [Int.natCast_add] at hs1 hs2
            clear hr h1 h4 h5 hlen hb hm hm0 hs hD hD2
            go_enter Try.func33, Try.ntmps33
            go_wp2_with fail
            refine HRD.out.mono ?_
            rintro e w' ⟨rfl, rfl⟩
            go_wp2_with fail
            go_ret
            exact ⟨rfl, HS1.out⟩
    · rw [if_pos hd]
      have t1 : ((d : Int) == 0) = false := beq_false_of_ne (by omega)
      have t2 : ((d : Int) != 0) = true := bne_iff_ne.2 (by omega)
      clear hr h1 h4 h5 hlen hd
      go_enter Try.func33, Try.ntmps33
      go_wp2_with fail
      refine HRD.out.mono ?_
      rintro e w' ⟨rfl, rfl⟩
      go_wp2_with fail
      go_ret
      exact ⟨rfl, H.out.set1 d⟩
  · rw [if_pos he]
    have t0 : ((e : Int) != 0) = true := bne_iff_ne.2 (by omega)
    clear hr h1 h4 h5 hlen he
    go_enter Try.func33, Try.ntmps33
    go_wp2_with fail
    go_ret
    exact ⟨rfl, H.out, Keep.refl w⟩

set_option maxHeartbeats 400000 in
theorem ref_num_any (w : World) (B : Nat) (K : Nat → Prop) (g : Nat) (L : List UInt8) (e : Nat) (h : Rdr TX w B K g L e) (most : Nat) :
    Calls Try.prog 32 #[.pointer (some ⟨g, 0, none⟩), .int .u64 (most : Int)] w fun r w' => r = .returned (.int .u64 ((rnum L e most).1 : Int)) ∧ Rdr TX w' B K g (rnum L e most).2.1 (rnum L e most).2.2 ∧ Keep B K w w' := by
  obtain ⟨a, b, d, hr⟩ : ∃ a b d, rd L = (a, b, d) := ⟨_, _, _, rfl⟩
  rw [num_fst hr]
  have H := Lib.hid h
  obtain ⟨A, n, c, h1, h2, h3, h4, h5, h6, h7⟩ := h
  have hlen := h4.len
  have c0 := h1.cell (i := 0) rfl
  have c1 := h1.cell (i := 1) rfl
  have f0 := h1.free 0
  have f1 := h1.free 1
  by_cases he : e = 0
  · subst he
    have HRD := Lib.hid (ref_read_as (c := c) h4 (by omega) hr)
    by_cases hd : d = 0
    · subst hd
      have hb := rd_le hr
      by_cases hm : most < a
      · rw [if_neg (by decide), if_neg (by decide), if_pos hm]
        have t1 : decide ((most : Int) < (a : Int)) = true := decide_eq_true (by omega)
        have t2 : decide (most < a) = true := decide_eq_true hm
        clear hr h1 h4 h5 hlen hb hm
        go_enter Try.func32, Try.ntmps32
        go_wp2_with fail
        refine HRD.out.mono ?_
        rintro e w' ⟨rfl, rfl⟩
        go_wp2_with fail
        go_ret
        exact ⟨rfl, H.out.set1 1⟩
      · rw [if_neg (by decide), if_neg (by decide), if_neg hm]
        have t1 : decide ((most : Int) < (a : Int)) = false := decide_eq_false (by omega)
        have t2 : decide (most < a) = false := decide_eq_false hm
        have hbn : b ≤ n := by omega
        have HS := Lib.hid (Rdr.set0 (K := K) h1 h2 h3 h4 h5 h6 h7 hbn)
        have hs2 := slice_lo (P := Try.prog) Try.underlying22 i8 i8s A n c b hbn
        obtain ⟨D, hD⟩ : ∃ D, D = cutAt A c b := ⟨_, rfl⟩
        rw [← hD] at hs2 HS
        clear hr h1 h4 h5 hlen hb hm hD
        go_enter Try.func32, Try.ntmps32
        go_wp2_with fail
        refine HRD.out.mono ?_
        rintro e w' ⟨rfl, rfl⟩
        go_wp2_with fail
        go_ret
        exact ⟨rfl, HS.out⟩
    · rw [if_neg (by decide), if_pos hd]
      have t1 : ((d : Int) == 0) = false := beq_false_of_ne (by omega)
      have t2 : ((d : Int) != 0) = true := bne_iff_ne.2 (by omega)
      clear hr h1 h4 h5 hlen hd
      go_enter Try.func32, Try.ntmps32
      go_wp2_with fail
      refine HRD.out.mono ?_
      rintro e w' ⟨rfl, rfl⟩
      go_wp2_with fail
      go_ret
      exact ⟨rfl, H.out.set1 d⟩
  · rw [if_pos he]
    have t0 : ((e : Int) != 0) = true := bne_iff_ne.2 (by omega)
    clear hr h1 h4 h5 hlen he
    go_enter Try.func32, Try.ntmps32
    go_wp2_with fail
    go_ret
    exact ⟨rfl, H.out, Keep.refl w⟩

theorem left_any (w : World) (B : Nat) (K : Nat → Prop) (g : Nat) (L : List UInt8) (e : Nat) (h : Rdr TR w B K g L e) :
    Calls Try.prog 59 #[.pointer (some ⟨g, 0, none⟩)] w fun r w' => r = .returned (.int .i64 (L.length : Int)) ∧ w = w' := by
  obtain ⟨A, n, c, h1, h2, h3, h4, h5⟩ := h
  have hlen := h4.len
  have c0 := h1.cell (i := 0) rfl
  rw [hlen]
  clear h1 h4 h5 hlen
  go_enter Try.func59, Try.ntmps59
  go_wp2_with fail
  go_ret
  exact ⟨rfl, rfl⟩
theorem err_any (w : World) (B : Nat) (K : Nat → Prop) (g : Nat) (L : List UInt8) (e : Nat) (h : Rdr TR w B K g L e) :
    Calls Try.prog 28 #[.pointer (some ⟨g, 0, none⟩)] w fun r w' => r = .returned (.int .i64 (e : Int)) ∧ w = w' := by
  obtain ⟨A, n, c, h1, h2, h3, h4, h5⟩ := h
  have c1 := h1.cell (i := 1) rfl
  clear h1 h4 h5
  go_enter Try.func28, Try.ntmps28
  go_wp2_with fail
  go_ret
  exact ⟨rfl, rfl⟩
set_option maxHeartbeats 400000 in
theorem end_any (w : World) (B : Nat) (K : Nat → Prop) (g : Nat) (L : List UInt8) (e : Nat) (h : Rdr TR w B K g L e) :
    Calls Try.prog 31 #[.pointer (some ⟨g, 0, none⟩)] w fun r w' => r = .returned (.int .i64 (rend L e : Int)) ∧ w = w' := by
  have HE := Lib.hid (err_any w B K g L e h)
  have HL := Lib.hid (left_any w B K g L e h)
  obtain ⟨n, hn⟩ : ∃ n, L.length = n := ⟨_, rfl⟩
  rw [hn] at HL
  by_cases he : e = 0
  · subst he
    by_cases h0 : n = 0
    · have hr : rend L 0 = 0 := by unfold rend; rw [if_neg]; intro hh; exact hh.2 (List.eq_nil_of_length_eq_zero (by omega))
      rw [hr]
      subst h0
      clear h hn hr
      go_enter Try.func31, Try.ntmps31
      go_wp2_with fail
      refine HE.out.mono ?_
      rintro e w' ⟨rfl, rfl⟩
      go_wp2_with fail
      refine HL.out.mono ?_
      rintro e w' ⟨rfl, rfl⟩
      go_wp2_with fail
      refine HE.out.mono ?_
      rintro e w' ⟨rfl, rfl⟩
      go_wp2_with fail
      go_ret
      exact ⟨rfl, rfl⟩
    · have hr : rend L 0 = 4 := by unfold rend; rw [if_pos ⟨rfl, fun e => h0 (by rw [← hn, e]; rfl)⟩]
      rw [hr]
      have hpos : 0 < n := by omega
      have t1 : decide ((0 : Int) < (n : Int)) = true := decide_eq_true (by omega)
      clear h hn hr h0
      go_enter Try.func31, Try.ntmps31
      go_wp2_with fail
      refine HE.out.mono ?_
      rintro e w' ⟨rfl, rfl⟩
      go_wp2_with fail
      refine HL.out.mono ?_
      rintro e w' ⟨rfl, rfl⟩
      go_wp2_with fail
      go_ret
      exact ⟨rfl, rfl⟩
  · have hr : rend L e = e := by unfold rend; rw [if_neg (fun hh => he hh.1)]
    rw [hr]
    have t1 : ((e : Int) == 0) = false := beq_false_of_ne (by omega)
    clear h hn hr he
    go_enter Try.func31, Try.ntmps31
    go_wp2_with fail
    refine HE.out.mono ?_
    rintro e w' ⟨rfl, rfl⟩
    go_wp2_with fail
    refine HE.out.mono ?_
    rintro e w' ⟨rfl, rfl⟩
    go_wp2_with fail
    go_ret
    exact ⟨rfl, rfl⟩
set_option maxHeartbeats 400000 in
theorem ref_end_any (w : World) (B : Nat) (K : Nat → Prop) (g : Nat) (L : List UInt8) (e : Nat) (h : Rdr TX w B K g L e) :
    Calls Try.prog 36 #[.pointer (some ⟨g, 0, none⟩)] w fun r w' => r = .returned (.int .i64 (rend L e : Int)) ∧ w = w' := by
  obtain ⟨A, n, c, h1, h2, h3, h4, h5⟩ := h
  have hlen := h4.len
  have c0 := h1.cell (i := 0) rfl
  have c1 := h1.cell (i := 1) rfl
  by_cases he : e = 0
  · subst he
    by_cases h0 : n = 0
    · have hr : rend L 0 = 0 := by unfold rend; rw [if_neg]; intro hh; exact hh.2 (List.eq_nil_of_length_eq_zero (by omega))
      rw [hr]
      subst h0
      clear h1 h4 h5 hr hlen
      go_enter Try.func36, Try.ntmps36
      go_wp2_with fail
      go_ret
      exact ⟨rfl, rfl⟩
    · have hr : rend L 0 = 4 := by unfold rend; rw [if_pos ⟨rfl, fun e => h0 (by rw [← hlen, e]; rfl)⟩]
      rw [hr]
      have hpos : 0 < n := by omega
      have t1 : decide ((0 : Int) < (n : Int)) = true := decide_eq_true (by omega)
      clear h1 h4 h5 hr hlen h0
      go_enter Try.func36, Try.ntmps36
      go_wp2_with fail
      go_ret
      exact ⟨rfl, rfl⟩
  · have hr : rend L e = e := by unfold rend; rw [if_neg (fun hh => he hh.1)]
    rw [hr]
    have t1 : ((e : Int) == 0) = false := beq_false_of_ne (by omega)
    clear h1 h4 h5 hr he hlen
    go_enter Try.func36, Try.ntmps36
    go_wp2_with fail
    go_ret
    exact ⟨rfl, rfl⟩
theorem open_any (w : World) (B : Nat) (K : Nat → Prop) (hB : B ≤ w.heap.size) (hK : ∀ k, K k → k < w.heap.size) (A : Option Addr) (n c : Nat) (L : List UInt8) (hb : Bytes w A n L) (hc : n ≤ c) (hm : c ≤ maxLen) (hA : 0 < n → ∀ ad, A = some ad → ad.block < B) :
    Calls Try.prog 26 #[.slice A n c] w fun e w' => e = .returned (.pointer (some ⟨w.heap.size, 0, none⟩)) ∧ Rdr TR w' B K w.heap.size L 0 ∧ Grow w w' := by
  go_enter Try.func26, Try.ntmps26
  go_wp2_with fail
  go_ret
  exact ⟨rfl, ⟨A, n, c, Blk.new _ _ _ _ rfl rfl, hc, hm, hb.grow (Grow.alloc _ _), hA, hB, fun h => by have := hK _ h; omega⟩, Grow.alloc _ _⟩
end Go.Proofs.Ythclgmpjmhacdaa.bfW
