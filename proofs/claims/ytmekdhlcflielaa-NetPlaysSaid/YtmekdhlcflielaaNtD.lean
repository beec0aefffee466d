/- The walk of slices.Delete, of packets: one of a row of the call's own. -/
import Derived.Test.YtmekdhlcflielaaOwnS
import Derived.Test.YtmekdhlcflielaaRows
import Derived.Test.YtmekdhlcflielaaRecG
import Derived.Test.YtmekdhlcflielaaPiv
import Derived.Test.YtmekdhlcflielaaCut
import Derived.Lib.Hide
namespace Go.Proofs.Ytmekdhlcflielaa.nt
open Go Go.RowKit Go.Par Go.Kit

abbrev TK : TypeId := 30
theorem infoK : (Try.prog.info? TK).isSome = true := by kernel_rfl
theorem iK : Try.prog.info? TK = some ((Try.prog.info? TK).get infoK) := by simp
theorem iKs : ((Try.prog.info? TK).get infoK).size = 4 := by kernel_rfl
theorem iKz : ((Try.prog.info? TK).get infoK).zero = some (.agg #[.int .u8 0, .int .u8 0, .slice none 0 0, .bool false]) := by kernel_rfl
theorem iKb : ((Try.prog.info? TK).get infoK).bytes = 40 := by kernel_rfl
theorem undK : Try.prog.underlying TK = some (.struct (Try.prog.fieldsOf TK)) := by kernel_rfl
theorem sizeK : (Try.prog.info? TK).map (·.size) = some 4 := by kernel_rfl
def zk : List Value := [.int .u8 0, .int .u8 0, .slice none 0 0, .bool false]
theorem zeroK (w : World) : (zeroValue TK).run Try.prog w = .ok (.agg #[.int .u8 0, .int .u8 0, .slice none 0 0, .bool false]) w := by kernel_rfl
theorem zk_cells : (Builtin.zeroCells (Value.agg #[.int .u8 0, .int .u8 0, .slice none 0 0, .bool false]).cells 1).toList = zk := by kernel_rfl
/-- a packet: from where, to where, its bytes (as a slice, and what they are), is it spoilt? -/
structure PkR where
  fr : Nat
  to : Nat
  v : Value
  b : List UInt8
  sp : Bool
def krow (p : PkR) : List Value := [.int .u8 (p.fr : Int), .int .u8 (p.to : Int), p.v, .bool p.sp]
def krows (ps : List PkR) : List Value := (ps.map krow).flatten
theorem krows_len (ps : List PkR) : (krows ps).length = ps.length * 4 := by
  induction ps with
  | nil => rfl
  | cons p ps ih => simp only [krows, List.map_cons, List.flatten_cons, List.length_append] at ih ⊢; rw [ih]; simp [krow]; omega
theorem krows_app (a b : List PkR) : krows (a ++ b) = krows a ++ krows b := by simp [krows]
theorem krows_take (ps : List PkR) : ∀ m, (krows ps).take (m * 4) = krows (ps.take m) := by
  induction ps with
  | nil => intro m; simp [krows]
  | cons p ps ih =>
    intro m
    cases m with
    | zero => simp [krows]
    | succ m =>
      have := ih m
      rw [show (m + 1) * 4 = m * 4 + 1 + 1 + 1 + 1 by omega]
      simp only [krows, List.map_cons, List.flatten_cons, List.take_succ_cons, krow, List.cons_append, List.nil_append] at this ⊢
      rw [this]
theorem krows_drop (ps : List PkR) : ∀ m, (krows ps).drop (m * 4) = krows (ps.drop m) := by
  induction ps with
  | nil => intro m; simp [krows]
  | cons p ps ih =>
    intro m
    cases m with
    | zero => simp [krows]
    | succ m =>
      have := ih m
      rw [show (m + 1) * 4 = m * 4 + 1 + 1 + 1 + 1 by omega]
      simp only [krows, List.map_cons, List.flatten_cons, List.drop_succ_cons, krow, List.cons_append, List.nil_append] at this ⊢
      exact this
def OneV (ps : List PkR) : Prop := ∀ p ∈ ps, p.v.oneCell' = true
theorem krows_one {ps : List PkR} (h : OneV ps) : ∀ u ∈ krows ps, u.oneCell' = true := by
  intro u hu
  obtain ⟨r, hr, hu⟩ := List.mem_flatten.1 hu
  obtain ⟨p, hp, rfl⟩ := List.mem_map.1 hr
  simp only [krow, List.mem_cons, List.not_mem_nil, or_false] at hu
  rcases hu with rfl | rfl | rfl | rfl
  · rfl
  · rfl
  · exact h p hp
  · rfl
/-- the list with one taken out -/
def del {α : Type} (ps : List α) (k : Nat) : List α := ps.take k ++ ps.drop (k + 1)
theorem del_len {α : Type} {ps : List α} {k : Nat} (hk : k < ps.length) : (del ps k).length = ps.length - 1 := by
  unfold del
  rw [List.length_append, List.length_take, List.length_drop]
  omega
/-- the block behind the append, and behind the clearing -/
theorem mid_take {cur : List Value} {ps : List PkR} {n k : Nat} (hn : n = ps.length) (hk : k < n) (hc : cur.take (n * 4) = krows ps) (hl : n * 4 ≤ cur.length) :
    (over (over cur (k * 4) (krows (ps.drop (k + 1)))) ((n - 1) * 4) zk).take ((n - 1) * 4) = krows (del ps k) := by
  have h1 : (krows (ps.drop (k + 1))).length = (n - (k + 1)) * 4 := by rw [krows_len, List.length_drop, ← hn]
  rw [over_eq _ _ _ (by rw [over_len]; simp [zk]; omega), List.append_assoc, List.take_append_of_le_length (by rw [List.length_take, over_len]; omega), List.take_take, Nat.min_self]
  rw [over_eq _ _ _ (by rw [h1]; omega), List.take_append_of_le_length (by rw [List.length_append, h1, List.length_take]; omega)]
  rw [List.take_of_length_le (by rw [List.length_append, h1, List.length_take]; omega)]
  unfold del
  rw [krows_app, ← krows_take, ← hc, List.take_take, Nat.min_eq_left (by omega)]
theorem slice_bothS {P : Program} {t e : TypeId} {i : TypeInfo} {S : Nat} (ht : P.underlying t = some (.slice e)) (hi : P.info? e = some i) (hs : i.size = S) (A : Option Addr) (n c k m : Nat) (hk : k ≤ m) (hm : m ≤ c) (w : World) :
    (Instr.slice t (.slice A n c) (some (.int .i64 (k : Int))) (some (.int .i64 (m : Int))) none).run P w = .ok (.slice (Kit.cutS A c k S) (m - k) (c - k)) w := by
  simp [Instr.slice, run_underlying ht, Instr.sliceBounds, run_sliceBound, sizeOf, typeInfo, hi, hs, hk, hm, Kit.cutS]
theorem cut_last (g n cap : Nat) (h : n ≤ cap) (h0 : 0 < n) : Kit.cutS (some ⟨g, 0, none⟩) cap (n - 1) 4 = some ⟨g, (n - 1) * 4, none⟩ := by
  unfold Kit.cutS
  rw [if_neg (by omega)]
  by_cases e : n - 1 = 0
  · rw [e]; rfl
  · simp [Addr.add]
    omega
set_option maxRecDepth 100000 in
set_option maxHeartbeats 4000000 in
theorem del_any (w : World) (B : Nat) (v : Value) (ps : List PkR) (k : Nat) (hown : w.ownsRow B TK 4 v ps.length (krows ps)) (hk : k < ps.length) (h1 : OneV ps) :
    Calls Try.prog 31 #[v, .int .i64 (k : Int), .int .i64 ((k : Int) + 1)] w fun e w' => ∃ v', e = .returned v' ∧ w'.ownsRow B TK 4 v' (del ps k).length (krows (del ps k)) ∧ v'.ownBlock = v.ownBlock ∧ Keep B (fun j => v.ownBlock ≠ some j) w w' := by
  obtain ⟨g, cap, cur, rfl, hB, hblk, hnc, hcm, hcl, hct⟩ := own_open hown (by omega)
  obtain ⟨n, hn⟩ : ∃ n, n = ps.length := ⟨_, rfl⟩
  rw [← hn] at hown hk hnc hct ⊢
  unfold maxLen at hcm
  have HN := Lib.hid hn
  have HBLK := Lib.hid hblk
  have HCUR := Lib.hid (And.intro hcl hct)
  have HONE := Lib.hid h1
  have HB := Lib.hid hB
  obtain ⟨news, hnews⟩ : ∃ x, x = krows (ps.drop (k + 1)) := ⟨_, rfl⟩
  have HNEWS := Lib.hid hnews
  have hnl : news.length = (n - (k + 1)) * 4 := by rw [hnews, krows_len, List.length_drop, ← hn]
  have HNL := Lib.hid hnl
  obtain ⟨c1, hc1⟩ : ∃ c, c = over cur (k * 4) news := ⟨_, rfl⟩
  have hs1 := slice_hi (P := Try.prog) Try.underlying63 iK (some ⟨g, 0, none⟩) n cap k (by omega)
  obtain ⟨ad, had, hadc⟩ : ∃ ad, Kit.cutS (some ⟨g, 0, none⟩) cap (k + 1) 4 = some ad ∧ ∀ j u, news[j]? = some u → w.cell? (ad.add j) = some u := by
    obtain ⟨A0, c0, e0, -, -, hrow⟩ := own_form hown
    injection e0 with e0 _ _
    subst e0
    have hr2 := Row.cutS (c := cap) hrow (k := k + 1) (by omega) hnc
    rcases Nat.eq_zero_or_pos ((n - (k + 1)) * 4) with h0 | h0
    · have hn0 : news = [] := List.eq_nil_of_length_eq_zero (by rw [hnl, h0])
      unfold Kit.cutS
      by_cases e : cap = k + 1
      · rw [if_pos e]
        exact ⟨_, rfl, fun j u hu => by rw [hn0] at hu; simp at hu⟩
      · rw [if_neg e]
        exact ⟨_, rfl, fun j u hu => by rw [hn0] at hu; simp at hu⟩
    · obtain ⟨ad, e, hc⟩ := Row.add_ hr2 h0
      refine ⟨ad, e, fun j u hu => hc j u ?_⟩
      rw [krows_drop, ← hnews]
      exact hu
  have hs2 : ∀ W, (Instr.slice 63 (.slice (some ⟨g, 0, none⟩) n cap) (some (.int .i64 ((k : Int) + 1))) none none).run Try.prog W = .ok (.slice (some ad) (n - (k + 1)) (cap - (k + 1))) W := fun W => by
    rw [← had]
    exact slice_loS (P := Try.prog) Try.underlying63 iK iKs (some ⟨g, 0, none⟩) n cap (k + 1) (by omega) W
  have HADC := Lib.hid hadc
  have HC1 := Lib.hid hc1
  clear hown hblk hcl hct h1 hB hn hnews hnl had hadc hc1
  go_enter Try.func31, Try.ntmps31
  go_wp2_with fail
  apply (fun (v0 v1 v2 v3 v4 v5 v6 : Value) mono draw obl tail => wp_region_piv (I := two (Grow w) (fun w1 => Blk w1 g TK c1 ∧ Keep B (fun j => j ≠ g) w w1)) (G := Grow) (Rp := (fun _ _ _ => True)) (Φ := phi2 [veq2 v0, veq2 v1, veq2 v2, veq2 v3, veq2 v4, veq2 v5, veq2 v6, (veq2 (Value.slice (some ⟨g, 0, none⟩) (n - 1) cap))]) (m := 8) (ps := [6]) (qs := [(0, 0, false), (0, 0, false), (0, 0, false), (0, 0, false), (0, 0, false), (0, 0, false), (0, 0, true), (1, 1, false)]) (dls := [[], [], [(20, 0), (21, 1)], [], [], [(23, 3), (24, 4)], [(22, 2), (25, 5)], [(26, 6)]]) (ds := [20, 21, 22, 23, 24, 25, 26, 0]) (by kernel_rfl) (by kernel_rfl) (by kernel_rfl) (by decide) rfl rfl draw (mono2_phi mono) (piv2_phi mono) obl tail)
  case obl =>
    refine obls2_cons (fun b hb1 hb2 f w' hI hH Q hQ => ?_) ?_
    · skip
      obtain rfl : b = 0 := by omega
      clear hb1 hb2
      clear hH
      refine wpList_view ?_; show wpList _ _ _ [_] ⟨#[_, _, _, _, _, _, _, _, _, _, _, _, _, _, _, _, _, _, _, _, _, _, _, _, _, _, _, _, _, _, _, _, _], _⟩ _
      repeat (first | go_guarded | go_step)
      exact hQ _ _ hI (Grow.refl _) rfl rfl
    refine obls2_cons (fun b hb1 hb2 f w' hI hH Q hQ => ?_) ?_
    · skip
      obtain rfl : b = 0 := by omega
      clear hb1 hb2
      clear hH
      refine wpList_view ?_; show wpList _ _ _ [_] ⟨#[_, _, _, _, _, _, _, _, _, _, _, _, _, _, _, _, _, _, _, _, _, _, _, _, _, _, _, _, _, _, _, _, _], _⟩ _
      repeat (first | go_guarded | go_step)
      exact hQ _ _ hI (Grow.refl _) rfl rfl
    refine obls2_cons (fun b hb1 hb2 f w' hI hH Q hQ => ?_) ?_
    · skip
      obtain rfl : b = 0 := by omega
      clear hb1 hb2
      have h0 := hH.get 0 (20, 0) rfl
      have h1 := hH.get 1 (21, 1) rfl
      clear hH
      refine wpList_view ?_; show wpList _ _ _ [_] ⟨#[_, _, _, _, _, _, _, _, _, _, _, _, _, _, _, _, _, _, _, _, f 0, f 1, _, _, _, _, _, _, _, _, _, _, _], _⟩ _
      rw [show f 0 = _ from h0]
      rw [show f 1 = _ from h1]
      clear h0 h1
      repeat (first | go_guarded | go_step)
      exact hQ _ _ hI (Grow.refl _) rfl rfl
    refine obls2_cons (fun b hb1 hb2 f w' hI hH Q hQ => ?_) ?_
    · skip
      obtain rfl : b = 0 := by omega
      clear hb1 hb2
      clear hH
      refine wpList_view ?_; show wpList _ _ _ [_] ⟨#[_, _, _, _, _, _, _, _, _, _, _, _, _, _, _, _, _, _, _, _, _, _, _, _, _, _, _, _, _, _, _, _, _], _⟩ _
      repeat (first | go_guarded | go_step)
      exact hQ _ _ hI (Grow.refl _) rfl rfl
    refine obls2_cons (fun b hb1 hb2 f w' hI hH Q hQ => ?_) ?_
    · skip
      obtain rfl : b = 0 := by omega
      clear hb1 hb2
      clear hH
      refine wpList_view ?_; show wpList _ _ _ [_] ⟨#[_, _, _, _, _, _, _, _, _, _, _, _, _, _, _, _, _, _, _, _, _, _, _, _, _, _, _, _, _, _, _, _, _], _⟩ _
      repeat (first | go_guarded | go_step)
      exact hQ _ _ hI (Grow.refl _) rfl rfl
    refine obls2_cons (fun b hb1 hb2 f w' hI hH Q hQ => ?_) ?_
    · skip
      obtain rfl : b = 0 := by omega
      clear hb1 hb2
      have h3 := hH.get 0 (23, 3) rfl
      have h4 := hH.get 1 (24, 4) rfl
      clear hH
      refine wpList_view ?_; show wpList _ _ _ [_] ⟨#[_, _, _, _, _, _, _, _, _, _, _, _, _, _, _, _, _, _, _, _, _, _, _, f 3, f 4, _, _, _, _, _, _, _, _], _⟩ _
      rw [show f 3 = _ from h3]
      rw [show f 4 = _ from h4]
      clear h3 h4
      repeat (first | go_guarded | go_step)
      exact hQ _ _ hI (Grow.refl _) rfl rfl
    refine oblsP_cons (fun f w' hI hH Q hQ => ?_) ?_
    · skip
      have h2 := hH.get 0 (22, 2) rfl
      have h5 := hH.get 1 (25, 5) rfl
      clear hH
      refine wpList_view ?_; show wpList _ _ _ [_] ⟨#[_, _, _, _, _, _, _, _, _, _, _, _, _, _, _, _, _, _, _, _, _, _, f 2, _, _, f 5, _, _, _, _, _, _, _], _⟩ _
      rw [show f 2 = _ from h2]
      rw [show f 5 = _ from h5]
      clear h2 h5
      have hg := hI.get0
      have hb6 := HBLK.out.grow hg
      have hlc := HCUR.out.1
      refine wpList_append_room rfl _ _ _ rfl TK _ 4 Try.underlying63 iK iKs g 0 k cap rfl ad (n - (k + 1)) (cap - (k + 1)) news rfl HNL.out (fun j u hu => hg.cell (HADC.out j u hu)) (by rw [HNEWS.out]; exact krows_one fun p hp => HONE.out p (List.mem_of_mem_drop hp)) (by omega) (fun j hj => ?_) ?_
      · rw [HNL.out] at hj
        refine ⟨?_, hb6.free _⟩
        have hlt : 0 + k * 4 + j < cur.length := by rw [hlc]; omega
        rw [hb6.cell (List.getElem?_eq_getElem hlt)]; rfl
      · rw [Nat.zero_add, show k + (n - (k + 1)) = n - 1 by omega]
        exact hQ _ _ (two.one ⟨by rw [HC1.out]; exact Blk.setCells news _ hb6, setCells_keep HB.out (fun h => h rfl) news _ _ (Keep.of hg (by have := HBLK.out.lt; have := HB.out; omega))⟩) trivial rfl rfl
    refine obls2_cons (fun b hb1 hb2 f w' hI hH Q hQ => ?_) ?_
    · skip
      obtain rfl : b = 1 := by omega
      clear hb1 hb2
      have h6 := hH.get 0 (26, 6) rfl
      clear hH
      refine wpList_view ?_; show wpList _ _ _ [_] ⟨#[_, _, _, _, _, _, _, _, _, _, _, _, _, _, _, _, _, _, _, _, _, _, _, _, _, _, f 6, _, _, _, _, _, _], _⟩ _
      rw [show f 6 = _ from h6]
      clear h6
      repeat (first | go_guarded | go_step)
      exact hQ _ _ hI (Grow.refl _) rfl rfl
    exact obls2_nil
  case draw =>
    exact two.zero (Grow.drew _)
  case mono => exact ⟨Mono2.veq _, Mono2.veq _, Mono2.veq _, Mono2.veq _, Mono2.veq _, Mono2.veq _, Mono2.veq _, Mono2.veq _, trivial⟩
  case tail =>
    intro f w' hI hH
    have q7 : (veq2 (Value.slice (some ⟨g, 0, none⟩) (n - 1) cap)) (f 7) 1 w' := hH.get 7 (0, 7) rfl
    clear hH
    refine wpList_merge (idx := [some 7, none, none, none, none, none, none, none, none, none, none, none, none, none, none, none, none, none, none, none, some 0, some 1, some 2, some 3, some 4, some 5, some 6, none, none, none, none, none, none]) (by kernel_rfl) ?_; show wpList _ _ _ [] ⟨#[f 7, _, _, _, _, _, _, _, _, _, _, _, _, _, _, _, _, _, _, _, f 0, f 1, f 2, f 3, f 4, f 5, f 6, _, _, _, _, _, _], _⟩ _
    generalize f 7 = x7 at *
    obtain rfl : x7 = .slice (some ⟨g, 0, none⟩) (n - 1) cap := q7
    obtain ⟨hb7, hk7⟩ := hI.get1
    have HB7 := Lib.hid hb7
    have HK7 := Lib.hid hk7
    have HL1 : Hid (c1.length = cap * 4) := Lib.hid (by rw [HC1.out, over_len]; exact HCUR.out.1)
    have hs3 : ∀ W, (Instr.slice 63 (.slice (some ⟨g, 0, none⟩) (n - 1) cap) (some (.int .i64 ((n - 1 : Nat) : Int))) (some (.int .i64 (n : Int))) none).run Try.prog W = .ok (.slice (some ⟨g, (n - 1) * 4, none⟩) 1 (cap - (n - 1))) W := fun W => by
      have := slice_bothS (P := Try.prog) Try.underlying63 iK iKs (some ⟨g, 0, none⟩) (n - 1) cap (n - 1) n (by omega) (by omega) W
      rw [cut_last g n cap hnc (by omega), show n - (n - 1) = 1 by omega] at this
      exact this
    clear hI hb7 hk7 hs1 hs2
    go_wp2_with (refine wpList_clear rfl _ _ rfl TK _ Try.underlying63 zeroK g ((n - 1) * 4) 1 _ rfl (by decide) zk zk_cells (by intro u hu; simp only [zk, List.mem_cons, List.not_mem_nil, or_false] at hu; rcases hu with rfl | rfl | rfl | rfl <;> rfl) (fun j hj => ⟨by have hlt : (n - 1) * 4 + j < c1.length := (by have := HL1.out; simp [zk] at hj; omega); rw [HB7.out.cell (List.getElem?_eq_getElem hlt)]; rfl, HB7.out.free _⟩) ?_)
    go_ret
    refine ⟨_, rfl, ?_, rfl, ?_⟩
    · rw [del_len (by rw [← HN.out]; exact hk), ← HN.out]
      refine own_shut HB.out (Blk.setCells zk _ HB7.out) (by omega) (by unfold maxLen; omega) (by rw [over_len]; exact HL1.out) ?_
      rw [HC1.out, HNEWS.out]
      exact mid_take HN.out hk HCUR.out.2 (by rw [HCUR.out.1]; omega)
    · have := setCells_keep (K := fun j => j ≠ g) HB.out (fun h => h rfl) zk _ ((n - 1) * 4) HK7.out
      exact ⟨this.1, fun j hj hl => this.2 j (fun e => hj (by rw [e]; rfl)) hl⟩
end Go.Proofs.Ytmekdhlcflielaa.nt
