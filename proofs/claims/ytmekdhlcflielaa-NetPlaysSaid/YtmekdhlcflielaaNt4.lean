/- The walks of nets: Send, Drop, Twice. -/
import Derived.Test.YtmekdhlcflielaaNt3
namespace Go.Proofs.Ytmekdhlcflielaa.nt
open Go Go.RowKit Go.Par Go.Kit Go.Proofs.Ytmekdhlcflielaa.mpA Go.Proofs.Ytmekdhlcflielaa.cl

theorem BV.sl {w : World} {v : Value} {l : List UInt8} (h : BV w v l) : Sl w v l := by
  obtain ⟨A, c, e, h1, h2, h3⟩ := h.bytes
  exact ⟨A, _, c, e, h1, h2, h3⟩
section
variable (w : World) (B g bm n cnt : Nat) (lv : Value) (ps : List PkR) (C : Nat → Nat → Bool)
theorem send_no (h : NetI w B g bm n cnt lv ps C) (fr to : Nat) (hfr : fr ≤ 255) (hto : to ≤ 255) (v : Value) (hp : pairB n fr to = false) :
    Calls Try.prog 8 #[.pointer (some ⟨g, 0, none⟩), .int .u8 (fr : Int), .int .u8 (to : Int), v] w fun e w' => e = .returned (.int .i64 1) ∧ Grow w w' := by
  have hq := pair_any w B g bm n cnt lv ps C h fr to hfr hto
  rw [hp] at hq
  have HQ := Lib.hid hq
  clear h hq hp
  go_enter Try.func8, Try.ntmps8
  go_wp2_with fail
  refine HQ.out.mono ?_
  rintro e w' ⟨rfl, rfl⟩
  go_wp2_with fail
  go_ret
  exact ⟨rfl, Grow.refl _⟩
theorem send_nil (fr to : Nat) (v : Value) : Calls Try.prog 8 #[.pointer none, .int .u8 (fr : Int), .int .u8 (to : Int), v] w fun e w' => e = .returned (.int .i64 1) ∧ Grow w w' := by
  have HQ := Lib.hid (pair_nil w fr to)
  go_enter Try.func8, Try.ntmps8
  go_wp2_with fail
  refine HQ.out.mono ?_
  rintro e w' ⟨rfl, rfl⟩
  go_wp2_with fail
  go_ret
  exact ⟨rfl, Grow.refl _⟩
theorem send_full (h : NetI w B g bm n cnt lv ps C) (fr to : Nat) (hfr : fr ≤ 255) (hto : to ≤ 255) (v : Value) (b : List UInt8) (hb : Sl w v b) (hp : pairB n fr to = true) (hl : 4096 ≤ ps.length) :
    Calls Try.prog 8 #[.pointer (some ⟨g, 0, none⟩), .int .u8 (fr : Int), .int .u8 (to : Int), v] w fun e w' => e = .returned (.int .i64 11) ∧ Grow w w' := by
  have hq := pair_any w B g bm n cnt lv ps C h fr to hfr hto
  rw [hp] at hq
  have HQ := Lib.hid hq
  have HA := Lib.hid (add_full w B g bm n cnt lv ps C h hl fr to v false)
  obtain ⟨A, m, c, rfl, -⟩ := hb
  clear h hq hp
  go_enter Try.func8, Try.ntmps8
  go_wp2_with fail
  refine HQ.out.mono ?_
  rintro e w' ⟨rfl, rfl⟩
  go_wp2_with fail
  refine HA.out.mono ?_
  rintro e w' ⟨rfl, hg⟩
  go_wp2_with fail
  go_ret
  exact ⟨rfl, hg⟩
theorem send_any (h : NetI w B g bm n cnt lv ps C) (fr to : Nat) (hfr : fr ≤ 255) (hto : to ≤ 255) (v : Value) (b : List UInt8) (hb : Sl w v b) (hbl : b.length ≤ 1000) (hp : pairB n fr to = true) (hl : ps.length < 4096) :
    Calls Try.prog 8 #[.pointer (some ⟨g, 0, none⟩), .int .u8 (fr : Int), .int .u8 (to : Int), v] w fun e w' => e = .returned (.int .i64 0) ∧ (∃ u, (∀ j, u.ownBlock = some j → w.heap.size ≤ j) ∧ After w B g bm n cnt lv (ps ++ [⟨fr, to, u, b, false⟩]) C w') ∧ Keep B (Kn g bm lv) w w' := by
  have hq := pair_any w B g bm n cnt lv ps C h fr to hfr hto
  rw [hp] at hq
  have HQ := Lib.hid hq
  have HA := Lib.hid (add_any w B g bm n cnt lv ps C h hl fr to v b false hfr hto hb hbl)
  obtain ⟨A, m, c, rfl, -⟩ := hb
  clear h hq hp
  go_enter Try.func8, Try.ntmps8
  go_wp2_with fail
  refine HQ.out.mono ?_
  rintro e w' ⟨rfl, rfl⟩
  go_wp2_with fail
  refine HA.out.mono ?_
  rintro e w' ⟨rfl, hg⟩
  have HG := Lib.hid hg
  clear hg
  go_wp2_with fail
  go_ret
  exact ⟨rfl, HG.out⟩
theorem drop_no (h : NetI w B g bm n cnt lv ps C) (k : Int) (hk : ¬ (0 ≤ k ∧ k < (ps.length : Int))) :
    Calls Try.prog 12 #[.pointer (some ⟨g, 0, none⟩), .int .i64 k] w fun e w' => e = .returned (.int .i64 6) ∧ w = w' := by
  have hq := find_any w B g bm n cnt lv ps C h k
  rw [show findN ps.length k = 6 by unfold findN; rw [if_neg hk]] at hq
  have HQ := Lib.hid hq
  clear h hq hk
  go_enter Try.func12, Try.ntmps12
  go_wp2_with fail
  refine HQ.out.mono ?_
  rintro e w' ⟨rfl, rfl⟩
  go_wp2_with fail
  go_ret
  exact ⟨rfl, rfl⟩
theorem drop_nil (k : Int) : Calls Try.prog 12 #[.pointer none, .int .i64 k] w fun e w' => e = .returned (.int .i64 1) ∧ w = w' := by
  have HQ := Lib.hid (find_nil w k)
  go_enter Try.func12, Try.ntmps12
  go_wp2_with fail
  refine HQ.out.mono ?_
  rintro e w' ⟨rfl, rfl⟩
  go_wp2_with fail
  go_ret
  exact ⟨rfl, rfl⟩
set_option maxHeartbeats 1000000 in
theorem drop_any (h : NetI w B g bm n cnt lv ps C) (k : Nat) (hk : k < ps.length) :
    Calls Try.prog 12 #[.pointer (some ⟨g, 0, none⟩), .int .i64 (k : Int)] w fun e w' => e = .returned (.int .i64 0) ∧ (∃ lv', NetI w' B g bm n cnt lv' (del ps k) C ∧ lv'.ownBlock = lv.ownBlock) ∧ Keep B (Kn g bm lv) w w' := by
  have hq := find_any w B g bm n cnt lv ps C h (k : Int)
  rw [show findN ps.length (k : Int) = 0 by unfold findN; rw [if_pos (by omega)]] at hq
  have HQ := Lib.hid hq
  have HN := Lib.hid h
  have HD := Lib.hid (del_any w B lv ps k h.own hk h.one)
  have x1 := h.bx.cell (i := 1) rfl
  obtain ⟨A, c, e1, -⟩ := own_form h.own
  obtain ⟨l, hl⟩ : ∃ l, l = ps.length := ⟨_, rfl⟩
  rw [← hl] at e1
  subst e1
  have hl4 : l ≤ 4096 := by rw [hl]; exact h.len
  have hkl : k < l := by rw [hl]; exact hk
  have HK := Lib.hid hk
  have HL := Lib.hid hl
  clear h hq hk hl
  go_enter Try.func12, Try.ntmps12
  go_wp2_with fail
  refine HQ.out.mono ?_
  rintro e w' ⟨rfl, rfl⟩
  go_wp2_with fail
  refine HD.out.mono ?_
  rintro e w5 ⟨v', rfl, ho, hob, hkp⟩
  have hlen := del_len HK.out
  have hnet := HN.out.store hkp ho (fun p hp => .inl (by
    unfold del at hp
    rcases List.mem_append.1 hp with hp | hp
    · exact List.mem_of_mem_take hp
    · exact List.mem_of_mem_drop hp)) (by rw [hlen]; have := HL.out; omega)
  have hoff : (Value.slice A l c).ownBlock ≠ some g := fun e => by
    obtain ⟨cs', hb'⟩ := own_blkK HN.out.own e
    exact absurd (Blk.ty_eq HN.out.bx hb') (by decide)
  have hbx5 := hkp.blk HN.out.bx hoff
  have f5 := hbx5.free 1
  have c5 := hbx5.cell (i := 1) rfl
  have hks := HN.out.keepS hkp v'
  obtain ⟨A9, c9, e9, -⟩ := own_form ho
  have HEND : Hid ((∃ lv', NetI (w5.setCell ⟨g, 1, none⟩ v') B g bm n cnt lv' (del ps k) C ∧ lv'.ownBlock = (Value.slice A l c).ownBlock) ∧ Keep B (Kn g bm (.slice A l c)) w (w5.setCell ⟨g, 1, none⟩ v')) := Lib.hid ⟨⟨v', hnet, hob⟩, hks⟩
  subst e9
  clear ho hob hkp hlen hnet hoff hbx5 hks
  go_wp2_with fail
  go_ret
  exact ⟨rfl, HEND.out⟩
theorem twice_no (h : NetI w B g bm n cnt lv ps C) (k : Int) (hk : ¬ (0 ≤ k ∧ k < (ps.length : Int))) :
    Calls Try.prog 10 #[.pointer (some ⟨g, 0, none⟩), .int .i64 k] w fun e w' => e = .returned (.int .i64 6) ∧ w = w' := by
  have hq := find_any w B g bm n cnt lv ps C h k
  rw [show findN ps.length k = 6 by unfold findN; rw [if_neg hk]] at hq
  have HQ := Lib.hid hq
  clear h hq hk
  go_enter Try.func10, Try.ntmps10
  go_wp2_with fail
  refine HQ.out.mono ?_
  rintro e w' ⟨rfl, rfl⟩
  go_wp2_with fail
  go_ret
  exact ⟨rfl, rfl⟩
theorem twice_nil (k : Int) : Calls Try.prog 10 #[.pointer none, .int .i64 k] w fun e w' => e = .returned (.int .i64 1) ∧ w = w' := by
  have HQ := Lib.hid (find_nil w k)
  go_enter Try.func10, Try.ntmps10
  go_wp2_with fail
  refine HQ.out.mono ?_
  rintro e w' ⟨rfl, rfl⟩
  go_wp2_with fail
  go_ret
  exact ⟨rfl, rfl⟩
set_option maxHeartbeats 1000000 in
theorem twice_any (h : NetI w B g bm n cnt lv ps C) (k : Nat) (p : PkR) (hp : ps[k]? = some p) :
    Calls Try.prog 10 #[.pointer (some ⟨g, 0, none⟩), .int .i64 (k : Int)] w fun e w' =>
      (4096 ≤ ps.length ∧ e = .returned (.int .i64 11) ∧ Grow w w') ∨ (ps.length < 4096 ∧ e = .returned (.int .i64 0) ∧ (∃ u, (∀ j, u.ownBlock = some j → w.heap.size ≤ j) ∧ After w B g bm n cnt lv (ps ++ [⟨p.fr, p.to, u, p.b, p.sp⟩]) C w') ∧ Keep B (Kn g bm lv) w w') := by
  have hk := (List.getElem?_eq_some_iff.1 hp).1
  have hq := find_any w B g bm n cnt lv ps C h (k : Int)
  rw [show findN ps.length (k : Int) = 0 by unfold findN; rw [if_pos (by omega)]] at hq
  have HQ := Lib.hid hq
  have hok := h.ok p (List.mem_of_getElem? hp)
  obtain ⟨A2, c2, e2, -⟩ := hok.b.bytes
  obtain ⟨l2, hl2⟩ : ∃ l, l = p.b.length := ⟨_, rfl⟩
  rw [← hl2] at e2
  have HADD : Hid (Calls Try.prog 28 #[.pointer (some ⟨g, 0, none⟩), .agg #[.int .u8 (p.fr : Int), .int .u8 (p.to : Int), .slice A2 l2 c2, .bool p.sp]] w fun e w' =>
      (4096 ≤ ps.length ∧ e = .returned (.int .i64 11) ∧ Grow w w') ∨ (ps.length < 4096 ∧ e = .returned (.int .i64 0) ∧ (∃ u, (∀ j, u.ownBlock = some j → w.heap.size ≤ j) ∧ After w B g bm n cnt lv (ps ++ [⟨p.fr, p.to, u, p.b, p.sp⟩]) C w') ∧ Keep B (Kn g bm lv) w w')) := Lib.hid (by
    rcases Nat.lt_or_ge ps.length 4096 with hlt | hge
    · refine (add_any w B g bm n cnt lv ps C h hlt p.fr p.to (.slice A2 l2 c2) p.b p.sp hok.fr hok.to (by rw [← e2]; exact hok.b.sl) hok.len).mono ?_
      rintro e w' ⟨h1, h2, h3⟩
      exact .inr ⟨hlt, h1, h2, h3⟩
    · refine (add_full w B g bm n cnt lv ps C h hge p.fr p.to (.slice A2 l2 c2) p.sp).mono ?_
      rintro e w' ⟨h1, h2⟩
      exact .inl ⟨hge, h1, h2⟩)
  have x1 := h.bx.cell (i := 1) rfl
  obtain ⟨A, c, e1, b, rfl, hcell⟩ := h.at_ hp
  have hkr : krow p = [.int .u8 (p.fr : Int), .int .u8 (p.to : Int), .slice A2 l2 c2, .bool p.sp] := by unfold krow; rw [e2]
  rw [hkr] at hcell
  obtain ⟨l, hl⟩ : ∃ l, l = ps.length := ⟨_, rfl⟩
  rw [← hl] at e1
  rw [e1] at x1
  have hl4 : l ≤ 4096 := by rw [hl]; exact h.len
  have hkl : k < l := by rw [hl]; exact hk
  have HC := Lib.hid hcell
  clear h hq hk hl hok hl2 e2 e1 hkr hcell hp
  go_enter Try.func10, Try.ntmps10
  go_wp2_with fail
  refine HQ.out.mono ?_
  rintro e w' ⟨rfl, rfl⟩
  go_wp2_with (refine load_cells rfl _ _ rfl b (k * 4) rfl [.int .u8 (p.fr : Int), .int .u8 (p.to : Int), .slice A2 l2 c2, .bool p.sp] _ HC.out undK rfl (by rw [sizeK]; rfl) ?_)
  refine HADD.out.mono ?_
  rintro e w' hh
  rcases hh with ⟨h1, rfl, h2⟩ | ⟨h1, rfl, h2⟩
  · have HH := Lib.hid (And.intro h1 h2)
    clear h1 h2
    go_wp2_with fail
    go_ret
    exact .inl ⟨HH.out.1, rfl, HH.out.2⟩
  · have HH := Lib.hid (And.intro h1 h2)
    clear h1 h2
    go_wp2_with fail
    go_ret
    exact .inr ⟨HH.out.1, rfl, HH.out.2⟩
end
end Go.Proofs.Ytmekdhlcflielaa.nt
