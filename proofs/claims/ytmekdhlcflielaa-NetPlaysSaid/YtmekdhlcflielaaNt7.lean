/- The walks of nets: bytes.Equal, Spoil. -/
import Derived.Test.YtmekdhlcflielaaNt6
import Derived.Test.YtmekdhlcflielaaNspW
import Derived.Test.YtmekdhlcflielaaStr
namespace Go.Proofs.Ytmekdhlcflielaa.nt
open Go Go.RowKit Go.Par Go.Kit Go.Proofs.Ytmekdhlcflielaa.mpA Go.Proofs.Ytmekdhlcflielaa.cl

theorem equal_any (w : World) (A1 A2 : Option Addr) (n1 n2 c1 c2 : Nat) (l1 l2 : List UInt8) (h1 : Bytes w A1 n1 l1) (h2 : Bytes w A2 n2 l2) :
    Calls Try.prog 43 #[.slice A1 n1 c1, .slice A2 n2 c2] w fun e w' => e = .returned (.bool (decide (l1 = l2))) ∧ w = w' := by
  have hs1 := conv_str (P := Try.prog) Try.underlying26 Try.underlying5 Try.underlying9 h1 c1
  have hs2 := conv_str (P := Try.prog) Try.underlying26 Try.underlying5 Try.underlying9 h2 c2
  clear h1 h2
  go_enter Try.func43, Try.ntmps43
  go_wp2_with fail
  go_ret
  refine ⟨?_, rfl⟩
  show Ending.returned (.bool ((str l1).toList == (str l2).toList)) = _
  have el : ∀ l, (str l).toList = l := fun l => ByteArray.toList_mk l
  rw [el, el]
  by_cases h : l1 = l2
  · rw [decide_eq_true h, h, beq_self_eq_true]
  · rw [decide_eq_false h, beq_false_of_ne h]
theorem krows_set {ps : List PkR} {p : PkR} : ∀ (k : Nat), ps[k]? = some p → ∀ (v : Value) (b : List UInt8) (sp : Bool), krows (ps.set k ⟨p.fr, p.to, v, b, sp⟩) = ((krows ps).set (k * 4 + 3) (.bool sp)).set (k * 4 + 2) v := by
  induction ps with
  | nil => intro k hk; simp at hk
  | cons q ps ih =>
    intro k hk v b sp
    cases k with
    | zero =>
      rw [List.getElem?_cons_zero] at hk
      injection hk with hk
      subst hk
      simp [krows, krow]
    | succ k =>
      rw [List.getElem?_cons_succ] at hk
      have := ih k hk v b sp
      rw [show (k + 1) * 4 + 3 = (k * 4 + 3) + 1 + 1 + 1 + 1 by omega, show (k + 1) * 4 + 2 = (k * 4 + 2) + 1 + 1 + 1 + 1 by omega]
      simp only [krows, List.set_cons_succ, List.map_cons, List.flatten_cons, krow, List.cons_append, List.nil_append] at this ⊢
      rw [this]
section
variable (w : World) (B g bm n cnt : Nat) (lv : Value) (ps : List PkR) (C : Nat → Nat → Bool)
theorem spoil_no (h : NetI w B g bm n cnt lv ps C) (k a : Int) (m : BitVec 32) (hk : ¬ (0 ≤ k ∧ k < (ps.length : Int))) :
    Calls Try.prog 25 #[.pointer (some ⟨g, 0, none⟩), .int .i64 k, .int .i64 a, .int .u32 (m.toNat : Int)] w fun e w' => e = .returned (.int .i64 6) ∧ w = w' := by
  have hq := find_any w B g bm n cnt lv ps C h k
  rw [show findN ps.length k = 6 by unfold findN; rw [if_neg hk]] at hq
  have HQ := Lib.hid hq
  obtain ⟨z, hz⟩ : ∃ z, z = (m.toNat : Int) := ⟨_, rfl⟩
  rw [← hz]
  clear h hq hk hz
  go_enter Try.func25, Try.ntmps25
  go_wp2_with fail
  refine HQ.out.mono ?_
  rintro e w' ⟨rfl, rfl⟩
  go_wp2_with fail
  go_ret
  exact ⟨rfl, rfl⟩
theorem spoil_nil (k a z : Int) : Calls Try.prog 25 #[.pointer none, .int .i64 k, .int .i64 a, .int .u32 z] w fun e w' => e = .returned (.int .i64 1) ∧ w = w' := by
  have HQ := Lib.hid (find_nil w k)
  go_enter Try.func25, Try.ntmps25
  go_wp2_with fail
  refine HQ.out.mono ?_
  rintro e w' ⟨rfl, rfl⟩
  go_wp2_with fail
  go_ret
  exact ⟨rfl, rfl⟩
theorem spoil_state (h : NetI w B g bm n cnt lv ps C) (k : Nat) (p : PkR) (hp : ps[k]? = some p) (hsp : p.sp = true) (a z : Int) :
    Calls Try.prog 25 #[.pointer (some ⟨g, 0, none⟩), .int .i64 (k : Int), .int .i64 a, .int .u32 z] w fun e w' => e = .returned (.int .i64 12) ∧ w = w' := by
  have hk := (List.getElem?_eq_some_iff.1 hp).1
  have hq := find_any w B g bm n cnt lv ps C h (k : Int)
  rw [show findN ps.length (k : Int) = 0 by unfold findN; rw [if_pos (by omega)]] at hq
  have HQ := Lib.hid hq
  have x1 := h.bx.cell (i := 1) rfl
  obtain ⟨A, c, e1, b, rfl, hcell⟩ := h.at_ hp
  have x3 := hcell 3 (.bool p.sp) rfl
  rw [hsp] at x3
  obtain ⟨l, hl⟩ : ∃ l, l = ps.length := ⟨_, rfl⟩
  rw [← hl] at e1
  rw [e1] at x1
  have hl4 : l ≤ 4096 := by rw [hl]; exact h.len
  have hkl : k < l := by rw [hl]; exact hk
  clear h hq hk hl e1 hcell hp
  go_enter Try.func25, Try.ntmps25
  go_wp2_with fail
  refine HQ.out.mono ?_
  rintro e w' ⟨rfl, rfl⟩
  go_wp2_with fail
  go_ret
  exact ⟨rfl, rfl⟩
/-- a packet turned in its place -/
theorem NetI.turn {w B g bm n cnt lv ps C} (h : NetI w B g bm n cnt lv ps C) {k : Nat} {p : PkR} (hp : ps[k]? = some p) {b cap : Nat} (hlv : lv = .slice (some ⟨b, 0, none⟩) ps.length cap) (v : Value) (l : List UInt8) (sp : Bool) (hv : BV w v l) (hl : l.length ≤ 1000) :
    NetI ((w.setCell ⟨b, k * 4 + 3, none⟩ (.bool sp)).setCell ⟨b, k * 4 + 2, none⟩ v) B g bm n cnt lv (ps.set k ⟨p.fr, p.to, v, l, sp⟩) C ∧ Keep B (Kn g bm lv) w ((w.setCell ⟨b, k * 4 + 3, none⟩ (.bool sp)).setCell ⟨b, k * 4 + 2, none⟩ v) := by
  have hk := (List.getElem?_eq_some_iff.1 hp).1
  obtain ⟨g', cap', cur, e, hB, hblk, hnc, hcm, hcl, hct⟩ := own_open h.own (by omega)
  rw [hlv] at e
  injection e with e _ e2
  injection e with e
  injection e with e _ _
  subst e; subst e2
  have hK : Keep B (fun j => j ≠ b) w ((w.setCell ⟨b, k * 4 + 3, none⟩ (.bool sp)).setCell ⟨b, k * 4 + 2, none⟩ v) :=
    Keep.setCell (K := fun j => j ≠ b) (Keep.setCell (K := fun j => j ≠ b) (Keep.refl w) (p := ⟨b, k * 4 + 3, none⟩) hB (fun hn => hn rfl) _) (p := ⟨b, k * 4 + 2, none⟩) hB (fun hn => hn rfl) _
  have nb : ∀ {j : Nat} {t : TypeId} {cs : List Value}, Blk w j t cs → t ≠ TK → j ≠ b := fun hb ht e => ht (Blk.ty_eq hb (e ▸ hblk))
  have hblk2 := (hblk.set_ (k * 4 + 3) (.bool sp)).set_ (k * 4 + 2) v
  have hv' := hv.keep hK fun j cs hb => nb hb (by decide)
  refine ⟨⟨hK.blk h.bx (nb h.bx (by decide)), ?_, h.mp.keep hK fun e => h.mp.not_blk hblk e.symm, fun q hq => ?_, h.gB, h.bB, h.n64, by rw [List.length_set]; exact h.len⟩, ⟨hK.1, fun j hj hl => hK.2 j (fun e => hj.2.2 (by rw [hlv, e]; rfl)) hl⟩⟩
  · rw [List.length_set, hlv]
    refine own_shut hB hblk2 hnc hcm (by rw [List.length_set, List.length_set]; exact hcl) ?_
    rw [krows_set k hp, List.take_set, List.take_set, hct]
  · rcases List.mem_or_eq_of_mem_set hq with hq | rfl
    · exact (h.ok q hq).keep hK fun j cs hb => nb hb (by decide)
    · have := h.ok p (List.mem_of_getElem? hp)
      exact ⟨hv', this.fr, this.to, hl⟩
set_option maxRecDepth 100000 in
set_option maxHeartbeats 4000000 in
theorem spoil_any (h : NetI w B g bm n cnt lv ps C) (k : Nat) (p : PkR) (hp : ps[k]? = some p) (hsp : p.sp = false) (a : Int) (m : BitVec 32) :
    Calls Try.prog 25 #[.pointer (some ⟨g, 0, none⟩), .int .i64 (k : Int), .int .i64 a, .int .u32 (m.toNat : Int)] w fun e w' => e = .returned (.int .i64 0) ∧
      (∃ u, NetI w' B g bm n cnt lv (ps.set k ⟨p.fr, p.to, u, slW.spo p.b a m 32, !decide (slW.spo p.b a m 32 = p.b)⟩) C) ∧ Keep B (Kn g bm lv) w w' := by
  have hk := (List.getElem?_eq_some_iff.1 hp).1
  have hq := find_any w B g bm n cnt lv ps C h (k : Int)
  rw [show findN ps.length (k : Int) = 0 by unfold findN; rw [if_pos (by omega)]] at hq
  have HQ := Lib.hid hq
  have x1 := h.bx.cell (i := 1) rfl
  obtain ⟨A, c, e1, b, rfl, hcell⟩ := h.at_ hp
  have x3 := hcell 3 (.bool p.sp) rfl
  have x2 := hcell 2 p.v rfl
  rw [hsp] at x3
  have hok := h.ok p (List.mem_of_getElem? hp)
  obtain ⟨A2, c2, e2, hlc2, hcm2, hby⟩ := hok.b.bytes
  obtain ⟨l2, hl2⟩ : ∃ l, l = p.b.length := ⟨_, rfl⟩
  rw [← hl2] at e2 hlc2 hby
  rw [e2] at x2
  obtain ⟨L, hL⟩ : ∃ L, L = slW.spo p.b a m 32 := ⟨_, rfl⟩
  have hSP := slW.spoil_any A2 l2 c2 p.b a m w hby (by rw [hl2]; have := hok.len; omega)
  rw [← hL] at hSP ⊢
  have HSP := Lib.hid hSP
  have HLL : Hid (L.length = l2) := Lib.hid (by rw [hL, slW.spo_len, hl2])
  have HLE : Hid (l2 ≤ 1000) := Lib.hid (by rw [hl2]; exact hok.len)
  obtain ⟨l, hl⟩ : ∃ l, l = ps.length := ⟨_, rfl⟩
  have HLV : Hid (lv = .slice (some ⟨b, 0, none⟩) ps.length c) := Lib.hid e1
  rw [← hl] at e1
  rw [e1] at x1
  have hl4 : l ≤ 4096 := by rw [hl]; exact h.len
  have hkl : k < l := by rw [hl]; exact hk
  have HN := Lib.hid h
  have HP := Lib.hid hp
  have HBY := Lib.hid hby
  have HCELL := Lib.hid hcell
  have HE2 := Lib.hid e2
  obtain ⟨z, hz⟩ : ∃ z, z = (m.toNat : Int) := ⟨_, rfl⟩
  rw [← hz] at HSP ⊢
  obtain ⟨q, hqe⟩ : ∃ q, q = decide (L = p.b) := ⟨_, rfl⟩
  rw [← hqe]
  have HQE := Lib.hid hqe
  clear h hq hk hl e1 hcell hp hby hok hL hSP hl2 e2 hz hqe hcm2 hlc2
  go_enter Try.func25, Try.ntmps25
  go_wp2_with fail
  refine HQ.out.mono ?_
  rintro e w' ⟨rfl, rfl⟩
  go_wp2_with fail
  refine HSP.out.mono ?_
  rintro e w5 ⟨u, rfl, ho, hg5⟩
  have hn5 := HN.out.grow hg5
  have hbv : BV w5 u L := BV.own (by rw [HLL.out]; exact ho)
  obtain ⟨A7, c7, e7, -, -, hrow⟩ := own_form ho
  subst e7
  rw [Nat.mul_one] at hrow
  have HEQ := Lib.hid (equal_any w5 A7 A2 l2 l2 c7 c2 L p.b hrow (HBY.out.grow hg5))
  rw [← HQE.out] at HEQ
  obtain ⟨b', cap', cur, e8, -, hblk, -, -, hcl, hct⟩ := own_open hn5.own (by have := (List.getElem?_eq_some_iff.1 HP.out).1; omega)
  rw [HLV.out] at e8
  injection e8 with e8 _ e9
  injection e8 with e8
  injection e8 with e8 _ _
  subst e8; subst e9
  have y2 := hg5.cell (HCELL.out 2 p.v rfl)
  rw [HE2.out] at y2
  have y3 := hg5.cell (HCELL.out 3 (.bool p.sp) rfl)
  have f3 := hblk.free (k * 4 + 3)
  have hblk6 := hblk.set_ (k * 4 + 3) (.bool (!q))
  have f2 := hblk6.free (k * 4 + 2)
  have hlen : k * 4 + 2 < (cur.set (k * 4 + 3) (.bool (!q))).length := by
    rw [List.length_set, hcl]
    have h1 := (List.getElem?_eq_some_iff.1 HP.out).1
    have h2 := own_form hn5.own
    obtain ⟨A0, c0, e0, h3, -⟩ := h2
    rw [HLV.out] at e0
    injection e0 with _ _ e0
    omega
  obtain ⟨uy, hy⟩ : ∃ u, (cur.set (k * 4 + 3) (.bool (!q)))[k * 4 + 2]? = some u := ⟨_, List.getElem?_eq_getElem hlen⟩
  have y2' := hblk6.cell hy
  obtain ⟨hnet, hkp⟩ := hn5.turn HP.out HLV.out (.slice A7 l2 c7) L (!q) hbv (by rw [HLL.out]; exact HLE.out)
  have HEND : Hid ((∃ u, NetI ((w5.setCell ⟨b, k * 4 + 3, none⟩ (.bool (!q))).setCell ⟨b, k * 4 + 2, none⟩ (.slice A7 l2 c7)) B g bm n cnt lv (ps.set k ⟨p.fr, p.to, u, L, !q⟩) C) ∧ Keep B (Kn g bm lv) w ((w5.setCell ⟨b, k * 4 + 3, none⟩ (.bool (!q))).setCell ⟨b, k * 4 + 2, none⟩ (.slice A7 l2 c7))) := Lib.hid
    ⟨⟨_, hnet⟩, (Keep.of hg5 HN.out.base).trans hkp⟩
  clear hn5 hbv ho hrow hblk hcl hct hblk6 hnet hkp hg5 hlen hy
  go_wp2_with fail
  refine HEQ.out.mono ?_
  rintro e w6 ⟨rfl, rfl⟩
  go_wp2_with fail
  go_ret
  exact ⟨rfl, HEND.out⟩
end
end Go.Proofs.Ytmekdhlcflielaa.nt
