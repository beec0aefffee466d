/- The walks of what reads: the program's Reader. -/
import Derived.Test.YthclgmpjmhacdaaRd
import Derived.Test.YthclgmpjmhacdaaViR2
import Derived.Test.YthclgmpjmhacdaaClone
namespace Go.Proofs.Ythclgmpjmhacdaa.bfW
open Go Go.RowKit Go.Par Go.Kit Vi Go.Proofs.Ythclgmpjmhacdaa.cl
open Go.Proofs.Ythclgmpjmhacdaa.viW hiding i8 i8s i8z i8b info8

theorem read_as {A : Option Addr} {n c : Nat} {l : List UInt8} {w : World} (hr : Bytes w A n l) (hc : n ≤ c) (hn : n ≤ maxLen) {a b d : Nat} (h : rd l = (a, b, d)) :
    Calls Try.prog 55 #[.slice A n c] w fun e w' => e = .returned (.tuple #[.int .u64 (a : Int), .int .i64 (b : Int), .int .i64 (d : Int)]) ∧ w = w' := by
  refine (read_any A n c l w hr hc hn).mono ?_
  rintro e w' ⟨rfl, rfl⟩
  exact ⟨by rw [rdE, h], rfl⟩
theorem ref_read_as {A : Option Addr} {n c : Nat} {l : List UInt8} {w : World} (hr : Bytes w A n l) (hn : n ≤ maxLen) {a b d : Nat} (h : rd l = (a, b, d)) :
    Calls Try.prog 60 #[.slice A n c] w fun e w' => e = .returned (.tuple #[.int .u64 (a : Int), .int .i64 (b : Int), .int .i64 (d : Int)]) ∧ w = w' := by
  refine (ref_read_any A n c l w hr hn).mono ?_
  rintro e w' ⟨rfl, rfl⟩
  exact ⟨by rw [rdE, h], rfl⟩

abbrev TR : TypeId := 91
abbrev TX : TypeId := 66
theorem ends_no (w : World) (g : Nat) (c1 : w.cell? ⟨g, 1, none⟩ = some (.int .i64 0)) :
    Calls Try.prog 54 #[.pointer (some ⟨g, 0, none⟩)] w fun r w' => r = .returned (.bool false) ∧ w = w' := by
  go_enter Try.func54, Try.ntmps54
  go_wp2_with fail
  go_ret
  exact ⟨rfl, rfl⟩
theorem ends_yes (w : World) (g e : Nat) (he : e ≠ 0) (c1 : w.cell? ⟨g, 1, none⟩ = some (.int .i64 (e : Int))) :
    Calls Try.prog 54 #[.pointer (some ⟨g, 0, none⟩)] w fun r w' => r = .returned (.bool true) ∧ w = w' := by
  have t0 : ((e : Int) != 0) = true := bne_iff_ne.2 (by omega)
  clear he
  go_enter Try.func54, Try.ntmps54
  go_wp2_with fail
  go_ret
  exact ⟨rfl, rfl⟩
theorem fail_any (w : World) (g e' : Nat) (f1 : w.frozen? ⟨g, 1, none⟩ = false) (u : Value) (c1 : w.cell? ⟨g, 1, none⟩ = some u) :
    Calls Try.prog 56 #[.pointer (some ⟨g, 0, none⟩), .int .i64 (e' : Int)] w fun r w' => r = .returned (.tuple #[]) ∧ w' = w.setCell ⟨g, 1, none⟩ (.int .i64 (e' : Int)) := by
  go_enter Try.func56, Try.ntmps56
  go_wp2_with fail
  exact bodyPost_end (results_none rfl _ _ _) rfl ⟨rfl, rfl⟩
theorem take_any (w : World) (g : Nat) (A : Option Addr) (n c k : Nat) (hk : k ≤ n) (hc : n ≤ c) (f0 : w.frozen? ⟨g, 0, none⟩ = false) (c0 : w.cell? ⟨g, 0, none⟩ = some (.slice A n c)) :
    Calls Try.prog 57 #[.pointer (some ⟨g, 0, none⟩), .int .i64 (k : Int)] w fun r w' => r = .returned (.slice A k c) ∧ w' = w.setCell ⟨g, 0, none⟩ (.slice (cutAt A c k) (n - k) (c - k)) := by
  have hs1 := slice_hi (P := Try.prog) Try.underlying22 i8 A n c k (by omega)
  have hs2 := slice_lo (P := Try.prog) Try.underlying22 i8 i8s A n c k hk
  go_enter Try.func57, Try.ntmps57
  go_wp2_with fail
  go_ret
  exact ⟨rfl, rfl⟩

theorem num_fst {L : List UInt8} {e most : Nat} {a b d : Nat} (hr : rd L = (a, b, d)) : rnum L e most = if e ≠ 0 then (0, L, e) else if d ≠ 0 then (0, L, d) else if most < a then (0, L, 1) else (a, L.drop b, 0) := by
  unfold rnum; rw [hr]

set_option maxHeartbeats 400000 in
theorem num_any (w : World) (B : Nat) (K : Nat → Prop) (g : Nat) (L : List UInt8) (e : Nat) (h : Rdr TR w B K g L e) (most : Nat) :
    Calls Try.prog 27 #[.pointer (some ⟨g, 0, none⟩), .int .u64 (most : Int)] w fun r w' => r = .returned (.int .u64 ((rnum L e most).1 : Int)) ∧ Rdr TR w' B K g (rnum L e most).2.1 (rnum L e most).2.2 ∧ Keep B K w w' := by
  obtain ⟨a, b, d, hr⟩ : ∃ a b d, rd L = (a, b, d) := ⟨_, _, _, rfl⟩
  rw [num_fst hr]
  have H := Lib.hid h
  obtain ⟨A, n, c, h1, h2, h3, h4, h5, h6, h7⟩ := h
  have hlen := h4.len
  have c0 := h1.cell (i := 0) rfl
  have c1 := h1.cell (i := 1) rfl
  have f0 := h1.free 0
  have f1 := h1.free 1
  by_cases he : e = 0
  · subst he
    have HE := Lib.hid (ends_no w g c1)
    have HRD := Lib.hid (read_as (c := c) h4 h2 (by omega) hr)
    by_cases hd : d = 0
    · subst hd
      have hb := rd_le hr
      by_cases hm : most < a
      · rw [if_neg (by decide), if_neg (by decide), if_pos hm]
        have t1 : decide ((most : Int) < (a : Int)) = true := decide_eq_true (by omega)
        have t2 : decide (most < a) = true := decide_eq_true hm
        clear hr h1 h4 h5 hlen hb hm
        go_enter Try.func27, Try.ntmps27
        go_wp2_with fail
        refine HE.out.mono ?_
        rintro e w' ⟨rfl, rfl⟩
        go_wp2_with fail
        refine HRD.out.mono ?_
        rintro e w' ⟨rfl, rfl⟩
        go_wp2_with fail
        refine (fail_any w g 1 f1 _ c1).mono ?_
        rintro e w' ⟨rfl, rfl⟩
        go_wp2_with fail
        go_ret
        exact ⟨rfl, H.out.set1 1⟩
      · rw [if_neg (by decide), if_neg (by decide), if_neg hm]
        have t1 : decide ((most : Int) < (a : Int)) = false := decide_eq_false (by omega)
        have t2 : decide (most < a) = false := decide_eq_false hm
        have hbn : b ≤ n := by omega
        have HS := Lib.hid (Rdr.set0 (K := K) h1 h2 h3 h4 h5 h6 h7 hbn)
        clear hr h1 h4 h5 hlen hb hm
        go_enter Try.func27, Try.ntmps27
        go_wp2_with fail
        refine HE.out.mono ?_
        rintro e w' ⟨rfl, rfl⟩
        go_wp2_with fail
        refine HRD.out.mono ?_
        rintro e w' ⟨rfl, rfl⟩
        go_wp2_with fail
        refine (take_any w g A n c b hbn h2 f0 c0).mono ?_
        rintro e w' ⟨rfl, rfl⟩
        go_wp2_with fail
        go_ret
        exact ⟨rfl, HS.out⟩
    · rw [if_neg (by decide), if_pos hd]
      have t1 : ((d : Int) == 0) = false := beq_false_of_ne (by omega)
      have t2 : ((d : Int) != 0) = true := bne_iff_ne.2 (by omega)
      clear hr h1 h4 h5 hlen hd
      go_enter Try.func27, Try.ntmps27
      go_wp2_with fail
      refine HE.out.mono ?_
      rintro e w' ⟨rfl, rfl⟩
      go_wp2_with fail
      refine HRD.out.mono ?_
      rintro e w' ⟨rfl, rfl⟩
      go_wp2_with fail
      refine (fail_any w g d f1 _ c1).mono ?_
      rintro e w' ⟨rfl, rfl⟩
      go_wp2_with fail
      go_ret
      exact ⟨rfl, H.out.set1 d⟩
  · rw [if_pos he]
    have HE := Lib.hid (ends_yes w g e he c1)
    clear hr h1 h4 h5 hlen he
    go_enter Try.func27, Try.ntmps27
    go_wp2_with fail
    refine HE.out.mono ?_
    rintro e w' ⟨rfl, rfl⟩
    go_wp2_with fail
    go_ret
    exact ⟨rfl, H.out, Keep.refl w⟩
end Go.Proofs.Ythclgmpjmhacdaa.bfW
