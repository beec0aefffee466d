/- The walk of tcode.Decode. -/
import Derived.Test.YtacgfpjoaikfbaaTcF
import Derived.Laws.EntriesVeiled
namespace Go.Proofs.Ytacgfpjoaikfbaa.tc
open Go Go.RowKit Go.Par Go.Kit Vi Go.Proofs.Ytacgfpjoaikfbaa.bfW
open Go.Proofs.Ytacgfpjoaikfbaa.viW hiding i8 i8s i8z i8b info8

set_option maxRecDepth 100000 in
set_option maxHeartbeats 4000000 in
theorem decode_any (w : World) (A : Option Addr) (n c : Nat) (L : List UInt8) (hby : Bytes w A n L) (hc : n ≤ c) (hm : c ≤ maxLen) :
    Calls Try.prog 10 #[.slice A n c] w fun r w' => (∃ v, r = .returned (.tuple #[v, .int .i64 ((decT L).2 : Int)]) ∧ TrV w' v (decT L).1) ∧ Grow w w' := by
  have hn := hby.len
  by_cases hbig : 131072 < n
  · have hres : decT L = ([], 3) := by unfold decT; rw [if_pos (by omega)]
    rw [hres]
    have t1 : decide (131072 < n) = true := decide_eq_true hbig
    have t1' : decide ((131072 : Int) < (n : Int)) = true := decide_eq_true (by omega)
    clear hby hn hc hbig hres
    unfold maxLen at hm
    go_enter Try.func10, Try.ntmps10
    go_wp2_with fail
    go_ret2
    exact ⟨⟨_, rfl, TrV.nil _⟩, Grow.refl w⟩
  · have t1 : decide (131072 < n) = false := decide_eq_false hbig
    have t1' : decide ((131072 : Int) < (n : Int)) = false := decide_eq_false (by omega)
    obtain ⟨g, hg⟩ : ∃ g, g = w.heap.size := ⟨_, rfl⟩
    have hLL : L.length ≤ 131072 := by omega
    have HOP := Lib.hid (open_any w w.heap.size (fun _ => False) (Nat.le_refl _) (fun _ h => h.elim) A n c L hby hc hm (fun h0 => Row.ltB (show Row w A n _ from hby) h0))
    obtain ⟨⟨D, L2, e2⟩, hd⟩ : ∃ r, r = decF (rnum L 0 L.length).1 (rnum L 0 L.length).2.1 (rnum L 0 L.length).2.2 := ⟨_, rfl⟩
    have hres : decT L = if rend L2 e2 ≠ 0 then ([], rend L2 e2) else (D, 0) := by
      unfold decT
      rw [if_neg (by omega)]
      dsimp only
      rw [← hd]
    obtain ⟨rs, hrs⟩ : ∃ r, r = decT L := ⟨_, rfl⟩
    rw [← hrs]
    rw [← hrs] at hres
    have HRES := Lib.hid hres
    have HD := Lib.hid hd
    have HG := Lib.hid hg
    have HLL := Lib.hid hLL
    clear hby hn hc hm hres hd hg hrs hLL hbig
    rw [← HG.out] at HOP
    go_enter Try.func10, Try.ntmps10
    go_wp2_with fail
    refine HOP.out.mono ?_
    rintro r w1 ⟨rfl, hrd, hg1⟩
    have hrd' : Rdr TR w1 w.heap.size (fun i => i ≠ g) g L 0 := by rw [HG.out]; rw [HG.out] at hrd; exact hrd.to (fun hn => hn rfl)
    obtain ⟨b4, hb4⟩ : ∃ b, b = w1.heap.size := ⟨_, rfl⟩
    obtain ⟨W2, hW2⟩ : ∃ W, W = w1.alloc (.cells #[.pointer (some ⟨g, 0, none⟩)] 53) := ⟨_, rfl⟩
    have hg2 : Grow w1 W2 := by rw [hW2]; exact Grow.alloc _ _
    have hbx4 : Blk W2 b4 53 [.pointer (some ⟨g, 0, none⟩)] := by rw [hW2]; exact Blk.new _ _ _ _ rfl hb4
    obtain ⟨b5, hb5⟩ : ∃ b, b = W2.heap.size := ⟨_, rfl⟩
    obtain ⟨W3, hW3⟩ : ∃ W, W = W2.alloc (.cells #[.func (.func 22) #[] #[.pointer (some ⟨b4, 0, none⟩)]] 56) := ⟨_, rfl⟩
    have hg3 : Grow W2 W3 := by rw [hW3]; exact Grow.alloc _ _
    have hbx5 : Blk W3 b5 56 [.func (.func 22) #[] #[.pointer (some ⟨b4, 0, none⟩)]] := by rw [hW3]; exact Blk.new _ _ _ _ rfl hb5
    have hrd3 := (hrd'.grow hg2).grow hg3
    have hbx43 := hbx4.grow hg3
    have x4 := hbx43.cell (i := 0) rfl
    have hfa := files_any W3 w.heap.size g L 0 hrd3 HLL.out b4 hbx43 b5 hbx5
    rw [← HD.out] at hfa
    have HFA := Lib.hid hfa
    have HG3 := Lib.hid ((hg1.trans hg2).trans hg3)
    have HB4 := Lib.hid hb4
    have HB5 := Lib.hid hb5
    have HW2 := Lib.hid hW2
    have HW3 := Lib.hid hW3
    have HBX4 := Lib.hid hbx43
    have HN4 := Lib.hid (rdr_ne hrd3 hbx43 (by decide))
    clear hrd hrd' hg1 hb4 hW2 hg2 hbx4 hb5 hW3 hg3 hbx5 hrd3 hbx43 hfa HOP
    try dsimp only
    repeat (first | with_reducible (refine wp_region_cut (k := 4) ?_) | go_values | go_guarded | go_step | go_upon | go_back)
    rw [← HW2.out, ← HB4.out]
    unfold Cut
    repeat (first | with_reducible (refine wp_region_cut (k := 5) ?_) | go_values | go_guarded | go_step | go_upon | go_back)
    rw [← HW3.out, ← HB5.out]
    unfold Cut
    go_wp2_with fail
    refine HFA.out.mono ?_
    rintro r w5 ⟨v5, rfl, hof, hr5, hk5⟩
    have x45 := (hk5.blk HBX4.out HN4.out).cell (i := 0) rfl
    have HTV := Lib.hid hof.trV
    obtain ⟨A5, c5, rfl, -⟩ := hof.trV
    have HGR := Lib.hid (hk5.grow HG3.out rfl)
    have HEND := Lib.hid (end_any w5 _ _ g L2 e2 hr5)
    obtain ⟨er, her⟩ : ∃ q, q = rend L2 e2 := ⟨_, rfl⟩
    rw [← her] at HEND HRES
    obtain ⟨l5, hl5⟩ : ∃ q, q = D.length := ⟨_, rfl⟩
    rw [← hl5] at HTV ⊢
    clear hof hr5 hk5 her hl5 x4 HFA
    by_cases h1 : er = 0
    · subst h1
      have hrs9 : rs = (D, 0) := by rw [HRES.out, if_neg (by decide)]
      subst hrs9
      go_wp2_with fail
      refine HEND.out.mono ?_
      rintro r w' ⟨rfl, rfl⟩
      go_wp2_with fail
      go_ret2
      exact ⟨⟨_, rfl, HTV.out⟩, HGR.out⟩
    · have t9 : (er == 0) = false := beq_false_of_ne h1
      have t9' : ((er : Int) == 0) = false := beq_false_of_ne (by omega)
      have t8 : (er != 0) = true := bne_iff_ne.2 h1
      have t8' : ((er : Int) != 0) = true := bne_iff_ne.2 (by omega)
      have hrs9 : rs = ([], er) := by rw [HRES.out, if_pos h1]
      subst hrs9
      clear h1
      go_wp2_with fail
      refine HEND.out.mono ?_
      rintro r w' ⟨rfl, rfl⟩
      go_wp2_with fail
      go_ret2
      exact ⟨⟨_, rfl, TrV.nil _⟩, HGR.out⟩
end Go.Proofs.Ytacgfpjoaikfbaa.tc
