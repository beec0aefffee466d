/- The walks of sets: word, Or, And. -/
import Derived.Test.YtbcifodifadoiaaMkW2
namespace Go.Proofs.Ytbcifodifadoiaa.mkW
open Go Go.RowKit Go.Par Go.Kit Go.Proofs.Ytbcifodifadoiaa.Mk

/-- a set's blocks, with these words -/
def MSr (w : World) (g : Nat) (h : Option Nat) (n : Nat) (ws : List (BitVec 64)) : Prop :=
  ∃ (A : Option Addr) (c : Nat), Blk w g TS [.int .i64 (n : Int), .slice A ws.length c] ∧ w.ownsRow 0 73 1 (.slice A ws.length c) ws.length (ws.map b64) ∧ (Value.slice A ws.length c).ownBlock = h ∧ (∀ k, h = some k → k ≠ g)
theorem MS.raw {w : World} {g : Nat} {h : Option Nat} {n : Nat} {S : Nat → Bool} (m : MS w g h n S) : ∃ ws, MSr w g h n ws ∧ GoodW n ws S := by
  obtain ⟨A, c, ws, h1, h2, h3, h4, h5⟩ := m
  exact ⟨ws, ⟨A, c, h1, h2, h3, h4⟩, h5⟩
theorem MSr.ms {w : World} {g : Nat} {h : Option Nat} {n : Nat} {ws : List (BitVec 64)} {S : Nat → Bool} (m : MSr w g h n ws) (hg : GoodW n ws S) : MS w g h n S := by
  obtain ⟨A, c, h1, h2, h3, h4⟩ := m
  exact ⟨A, c, ws, h1, h2, h3, h4, hg⟩
theorem MSr.grow {w w' : World} {g : Nat} {h : Option Nat} {n : Nat} {ws : List (BitVec 64)} (m : MSr w g h n ws) (hg : Grow w w') : MSr w' g h n ws := by
  obtain ⟨A, c, h1, h2, h3⟩ := m
  exact ⟨A, c, h1.grow hg, own_grow h2 hg, h3⟩
theorem MSr.keep {w w' : World} {B : Nat} {K : Nat → Prop} {g : Nat} {h : Option Nat} {n : Nat} {ws : List (BitVec 64)} (m : MSr w g h n ws) (hk : Keep B K w w') (hg : g < B ∨ K g) (hh : ∀ k, h = some k → k < B ∨ K k) : MSr w' g h n ws := by
  obtain ⟨A, c, h1, h2, h3, h4⟩ := m
  have hl2 := h2.lt
  have hb : ∀ k, (k < B ∨ K k) → k < w.heap.size → w'.heap[k]? = w.heap[k]? := fun k h0 hl => by
    rcases h0 with h0 | h0
    · exact hk.1.block k h0
    · exact hk.2 k h0 hl
  refine ⟨A, c, (hb g hg h1.lt).trans h1, ?_, h3, h4⟩
  obtain ⟨q1, q2⟩ := h2
  refine ⟨q1, ?_⟩
  rcases q2 with q2 | ⟨g', cap, cur, hv, q3, q4, q5⟩
  · exact .inl q2
  · have hgk : (Value.slice A ws.length c).ownBlock = some g' := by rw [hv]; rfl
    exact .inr ⟨g', cap, cur, hv, q3, (hb g' (hh g' (h3.symm.trans hgk)) (hl2 g' hgk).2).trans q4, q5⟩

theorem wordOf_none {ts : List (BitVec 64)} {k n : Nat} (h : ts.length ≤ k) : wordOf ts k n = 0#64 := by unfold wordOf; rw [List.getElem?_eq_none h]
theorem wordOf_some {ts : List (BitVec 64)} {k n : Nat} {x : BitVec 64} (h : ts[k]? = some x) : wordOf ts k n = Bt.low x ((n : Int) - 64 * k) := by unfold wordOf; rw [h]
set_option maxHeartbeats 400000 in
theorem word_any (w : World) (g : Nat) (h : Option Nat) (m : Nat) (ts : List (BitVec 64)) (q : MSr w g h m ts) (k n : Nat) (hk : k ≤ 100000) (hn : n ≤ 65536) :
    Calls Try.prog 38 #[.pointer (some ⟨g, 0, none⟩), .int .i64 (k : Int), .int .i64 (n : Int)] w fun e w' => e = .returned (.int .u64 ((wordOf ts k n).toNat : Int)) ∧ w = w' := by
  obtain ⟨A, c, h1, h2, h3, h4⟩ := q
  have c1 := h1.cell (i := 1) rfl
  by_cases hl : k < ts.length
  · have hx : ts[k]? = some ts[k] := List.getElem?_eq_getElem hl
    rw [wordOf_some hx]
    obtain ⟨gw, rfl, -, hcell, -, hcap⟩ := own64_at h2 hx
    generalize ts[k] = x at hx hcell
    have HL := Lib.hid (btW.low_any x ((n : Int) - 64 * k) w)
    have hmul : (k : Int) * 64 = 64 * (k : Int) := by omega
    have t1 : decide ((ts.length : Int) ≤ (k : Int)) = false := decide_eq_false (by omega)
    have t2 : decide (ts.length ≤ k) = false := decide_eq_false (by omega)
    have hsh : (k : Int) * 2 ^ 6 = 64 * (k : Int) := by omega
    clear h1 h2 h3 h4 hx
    go_enter Try.func38, Try.ntmps38
    go_wp2_with fail
    refine HL.out.mono ?_
    rintro e w' ⟨rfl, rfl⟩
    go_wp2_with fail
    go_ret
    exact ⟨rfl, rfl⟩
  · rw [wordOf_none (by omega)]
    have t1 : decide ((ts.length : Int) ≤ (k : Int)) = true := decide_eq_true (by omega)
    have t2 : decide (ts.length ≤ k) = true := decide_eq_true (by omega)
    clear h1 h2 h3 h4
    go_enter Try.func38, Try.ntmps38
    go_wp2_with fail
    go_ret
    exact ⟨rfl, rfl⟩
theorem word_nil (w : World) (k n : Nat) :
    Calls Try.prog 38 #[.pointer none, .int .i64 (k : Int), .int .i64 (n : Int)] w fun e w' => e = .returned (.int .u64 ((wordOf [] k n).toNat : Int)) ∧ w = w' := by
  rw [wordOf_none (Nat.zero_le _)]
  go_enter Try.func38, Try.ntmps38
  go_wp2_with fail
  go_ret
  exact ⟨rfl, rfl⟩
theorem bne_nat64 (x y : BitVec 64) : ((y.toNat : Int) != (x.toNat : Int)) = (x != y) ∧ (y.toNat != x.toNat) = (x != y) := by
  have h : (x != y) = decide (x ≠ y) := by
    by_cases e : x = y
    · subst e; simp
    · simp [e]
  constructor
  · rw [h, Bool.eq_iff_iff, bne_iff_ne, decide_eq_true_iff]
    constructor
    · intro h1 e; exact h1 (by rw [e])
    · intro h1 e; exact h1 (BitVec.eq_of_toNat_eq (by omega))
  · rw [h, Bool.eq_iff_iff, bne_iff_ne, decide_eq_true_iff]
    constructor
    · intro h1 e; exact h1 (by rw [e])
    · intro h1 e; exact h1 (BitVec.eq_of_toNat_eq e.symm)


set_option maxRecDepth 100000 in
set_option maxHeartbeats 1000000 in
theorem or_gen (w : World) (B : Nat) (K : Nat → Prop) (g : Nat) (h : Option Nat) (n : Nat) (S : Nat → Bool) (ws : List (BitVec 64)) (m : MSr w g h n ws) (hgd : GoodW n ws S) (hf : Free B K g h) (hBw : B ≤ w.heap.size) (tv : Value) (m2 : Nat) (ts : List (BitVec 64)) (T : Nat → Bool) (hgt : GoodW m2 ts T)
    (HT : ∀ (wr : World) (k : Nat), k < (n + 63) / 64 → MSr wr g h n (orTo ws ts n k) → Keep B K w wr → Calls Try.prog 38 #[tv, .int .i64 (k : Int), .int .i64 (n : Int)] wr fun e w' => e = .returned (.int .u64 ((wordOf ts k n).toNat : Int)) ∧ wr = w') :
    Calls Try.prog 26 #[.pointer (some ⟨g, 0, none⟩), tv] w fun e w' => e = .returned (.bool (diff n S (uni S T n))) ∧ MS w' g h n (uni S T n) ∧ Keep B K w w' := by
  have HR := Lib.hid (room_any w g h n S (m.ms hgd))
  have hgo := hgd.or_ hgt
  obtain ⟨N, hN⟩ : ∃ N, N = (n + 63) / 64 := ⟨_, rfl⟩
  rw [← hN] at hgo HT
  obtain ⟨us, hus⟩ : ∃ us, us = orTo ws ts n N := ⟨_, rfl⟩
  rw [← hus] at hgo
  have hall := anyTo_all hgd hgo
  rw [← hN] at hall
  rw [← hall]
  have hwl : ws.length = N := by rw [hgd.2.1, hN]
  have hn65 := hgd.1
  have hdiv : ((n : Int) + 63) / 64 = (N : Int) := by omega
  have hNb : N ≤ 1025 := by omega
  have HSTEP : Hid (∀ k x, k < N → ws[k]? = some x → anyTo ws us (k + 1) = (anyTo ws us k || x != (x ||| wordOf ts k n))) := Lib.hid (fun k x hk hx => anyTo_succ hx (by
    have h1 := (List.getElem?_eq_some_iff.1 hx).1
    rw [hus]; unfold orTo; rw [List.getElem?_mapIdx, hx, Option.map_some, if_pos hk]))
  have H0 : Hid (MSr w g h n (orTo ws ts n 0)) := Lib.hid (by rw [orTo_zero]; exact m)
  have HGO := Lib.hid hgo
  have HUS := Lib.hid hus
  have HWL := Lib.hid hwl
  have HTT := Lib.hid HT
  have HFR := Lib.hid hf
  clear hN hus hall hwl hgo hgd hgt m HT hf
  go_enter Try.func26, Try.ntmps26
  go_wp2_with fail
  refine HR.out.mono ?_
  rintro e w' ⟨rfl, rfl⟩
  go_wp2_with fail
  go_loopw [5, 12] (fun mo i wr => ∃ k : Nat, k ≤ N ∧ i = .int .i64 (k : Int) ∧ mo = .bool (anyTo ws us k) ∧ MSr wr g h n (orTo ws ts n k) ∧ Keep B K w wr) (fun _ i _ => N - (intOf i).toNat)
  case atStart => exact ⟨0, by omega, rfl, rfl, H0.out, Keep.refl w⟩
  case round =>
    obtain ⟨k, hk, rfl, rfl, hm, hke⟩ := hrel
    clear H0
    by_cases hlt : k < N
    · obtain ⟨x, hx⟩ : ∃ x, ws[k]? = some x := ⟨_, List.getElem?_eq_getElem (by have := HWL.out; omega)⟩
      have hst := HSTEP.out k x hlt hx
      have hto := orTo_at (ts := ts) (n := n) hx
      have HW := Lib.hid (HTT.out wr k hlt hm hke)
      have HMM := Lib.hid hm
      obtain ⟨A, c, h1, h2, h3, h4⟩ := hm
      obtain ⟨gw, rfl, hob, hcell, hfr, hcap⟩ := own64_at h2 hto.1
      have hL : (orTo ws ts n k).length = N := by rw [orTo_len, HWL.out]
      obtain ⟨wd, hwd⟩ : ∃ wd, wd = wordOf ts k n := ⟨_, rfl⟩
      have HTK : Hid (∀ w2 : World, Grow wr w2 → Calls Try.prog 38 #[tv, .int .i64 (k : Int), .int .i64 (n : Int)] w2 fun e w' => e = .returned (.int .u64 (wd.toNat : Int)) ∧ w2 = w') := Lib.hid (fun w2 hg2 => by
        rw [hwd]; exact HTT.out w2 k hlt (HMM.out.grow hg2) (hke.trans (Keep.of hg2 (by have := hke.size; omega))))
      rw [← hwd] at hst hto
      obtain ⟨y, hy⟩ : ∃ y, y = x ||| wd := ⟨_, rfl⟩
      have hop : bits .or .u64 (x.toNat : Int) (wd.toNat : Int) = (y.toNat : Int) := by rw [hy]; exact or64 rfl rfl
      rw [← hy] at hst hto
      obtain ⟨d, hd⟩ : ∃ d : Bool, d = (x != y) := ⟨_, rfl⟩
      have hbn := bne_nat64 x y
      rw [← hd] at hst hbn
      obtain ⟨t1, t2⟩ := hbn
      have c0 := h1.cell (i := 0) rfl
      have c1 := h1.cell (i := 1) rfl
      have HTO := Lib.hid hto.2
      have HST := Lib.hid hst
      have HL := Lib.hid hL
      have C0 := Lib.hid c0
      have C1 := Lib.hid c1
      have CX := Lib.hid hcell
      have H1 := Lib.hid h1
      have H2 := Lib.hid h2
      have H3 := Lib.hid h3
      have H4 := Lib.hid h4
      have HKE := Lib.hid hke
      have T1 := Lib.hid t1
      have T2 := Lib.hid t2
      have hylt := y.isLt
      have hfree : B ≤ gw ∧ ¬ K gw := HFR.out.h gw (h3.symm.trans hob)
      have hne : gw ≠ g := h4 gw (h3.symm.trans hob)
      have hkl : k < (orTo ws ts n k).length := by omega
      generalize hOW : orTo ws ts n k = ow at *
      clear hx hst hto hwd hy hd h1 h2 h3 h4 hob c0 c1 hcell hke t1 t2 HMM HW hfr hOW
      go_wp2_with fail
      apply (fun (v0 v1 v2 v3 v4 v5 v6 v7 v8 v9 v10 v11 v12 v13 v14 v15 : Value) mono obl tail => wp_region_par (R := Grow) (Φ := phi [veq v0, veq v1, veq v2, veq v3, veq v4, veq v5, veq v6, veq v7, veq v8, veq v9, veq v10, veq v11, veq v12, veq v13, veq v14, veq v15]) (m := 16) (dls := [[], [(15, 0)], [(16, 1)], [(17, 2)], [], [(18, 3), (19, 4)], [(20, 5)], [], [], [], [(24, 9)], [(25, 10)], [(26, 11)], [(22, 7), (23, 8), (27, 12)], [(21, 6), (28, 13)], [(29, 14)]]) (ds := [15, 16, 17, 18, 19, 20, 21, 22, 23, 24, 25, 26, 27, 28, 29, 7]) (by kernel_rfl) (by kernel_rfl) (by decide) rfl (Grow.drew _) (fun _ _ _ => Grow.trans) (mono_phi mono) obl tail)
      case obl =>
        refine obls_cons (fun f w' hR hH Q hQ => ?_) ?_
        · skip
          clear hH
          refine wpList_view ?_; show wpList _ _ _ [_] ⟨#[_, _, _, _, _, _, _, _, _, _, _, _, _, _, _, _, _, _, _, _, _, _, _, _, _, _, _, _, _, _, _, _, _, _, _, _, _, _, _, _, _, _, _, _, _, _, _, _, _, _, _], _⟩ _
          repeat (first | go_guarded | go_step)
          exact hQ _ _ (Grow.refl _) rfl rfl
        refine obls_cons (fun f w' hR hH Q hQ => ?_) ?_
        · skip
          have h0 := hH.get 0 (15, 0) rfl
          clear hH
          refine wpList_view ?_; show wpList _ _ _ [_] ⟨#[_, _, _, _, _, _, _, _, _, _, _, _, _, _, _, f 0, _, _, _, _, _, _, _, _, _, _, _, _, _, _, _, _, _, _, _, _, _, _, _, _, _, _, _, _, _, _, _, _, _, _, _], _⟩ _
          rw [show f 0 = _ from h0]
          clear h0
          repeat (first | go_guarded | go_step)
          exact hQ _ _ (Grow.refl _) rfl rfl
        refine obls_cons (fun f w' hR hH Q hQ => ?_) ?_
        · skip
          have h1 := hH.get 0 (16, 1) rfl
          clear hH
          refine wpList_view ?_; show wpList _ _ _ [_] ⟨#[_, _, _, _, _, _, _, _, _, _, _, _, _, _, _, _, f 1, _, _, _, _, _, _, _, _, _, _, _, _, _, _, _, _, _, _, _, _, _, _, _, _, _, _, _, _, _, _, _, _, _, _], _⟩ _
          rw [show f 1 = _ from h1]
          clear h1
          repeat (first | go_guarded | go_step)
          exact hQ _ _ (Grow.refl _) rfl rfl
        refine obls_cons (fun f w' hR hH Q hQ => ?_) ?_
        · skip
          have h2 := hH.get 0 (17, 2) rfl
          clear hH
          refine wpList_view ?_; show wpList _ _ _ [_] ⟨#[_, _, _, _, _, _, _, _, _, _, _, _, _, _, _, _, _, f 2, _, _, _, _, _, _, _, _, _, _, _, _, _, _, _, _, _, _, _, _, _, _, _, _, _, _, _, _, _, _, _, _, _], _⟩ _
          rw [show f 2 = _ from h2]
          clear h2
          have c1 := hR.cell C1.out
          repeat (first | go_guarded | go_step)
          exact hQ _ _ (Grow.refl _) rfl rfl
        refine obls_cons (fun f w' hR hH Q hQ => ?_) ?_
        · skip
          clear hH
          refine wpList_view ?_; show wpList _ _ _ [_] ⟨#[_, _, _, _, _, _, _, _, _, _, _, _, _, _, _, _, _, _, _, _, _, _, _, _, _, _, _, _, _, _, _, _, _, _, _, _, _, _, _, _, _, _, _, _, _, _, _, _, _, _, _], _⟩ _
          repeat (first | go_guarded | go_step)
          exact hQ _ _ (Grow.refl _) rfl rfl
        refine obls_cons (fun f w' hR hH Q hQ => ?_) ?_
        · skip
          have h3 := hH.get 0 (18, 3) rfl
          have h4 := hH.get 1 (19, 4) rfl
          clear hH
          refine wpList_view ?_; show wpList _ _ _ [_] ⟨#[_, _, _, _, _, _, _, _, _, _, _, _, _, _, _, _, _, _, f 3, f 4, _, _, _, _, _, _, _, _, _, _, _, _, _, _, _, _, _, _, _, _, _, _, _, _, _, _, _, _, _, _, _], _⟩ _
          rw [show f 3 = _ from h3]
          rw [show f 4 = _ from h4]
          clear h3 h4
          repeat (first | go_guarded | go_step)
          exact hQ _ _ (Grow.refl _) rfl rfl
        refine obls_cons (fun f w' hR hH Q hQ => ?_) ?_
        · skip
          have h5 := hH.get 0 (20, 5) rfl
          clear hH
          refine wpList_view ?_; show wpList _ _ _ [_] ⟨#[_, _, _, _, _, _, _, _, _, _, _, _, _, _, _, _, _, _, _, _, f 5, _, _, _, _, _, _, _, _, _, _, _, _, _, _, _, _, _, _, _, _, _, _, _, _, _, _, _, _, _, _], _⟩ _
          rw [show f 5 = _ from h5]
          clear h5
          have cx := hR.cell CX.out
          repeat (first | go_guarded | go_step)
          exact hQ _ _ (Grow.refl _) rfl rfl
        refine obls_cons (fun f w' hR hH Q hQ => ?_) ?_
        · skip
          clear hH
          refine wpList_view ?_; show wpList _ _ _ [_] ⟨#[_, _, _, _, _, _, _, _, _, _, _, _, _, _, _, _, _, _, _, _, _, _, _, _, _, _, _, _, _, _, _, _, _, _, _, _, _, _, _, _, _, _, _, _, _, _, _, _, _, _, _], _⟩ _
          repeat (first | go_guarded | go_step)
          exact hQ _ _ (Grow.refl _) rfl rfl
        refine obls_cons (fun f w' hR hH Q hQ => ?_) ?_
        · skip
          clear hH
          refine wpList_view ?_; show wpList _ _ _ [_] ⟨#[_, _, _, _, _, _, _, _, _, _, _, _, _, _, _, _, _, _, _, _, _, _, _, _, _, _, _, _, _, _, _, _, _, _, _, _, _, _, _, _, _, _, _, _, _, _, _, _, _, _, _], _⟩ _
          repeat (first | go_guarded | go_step)
          exact hQ _ _ (Grow.refl _) rfl rfl
        refine obls_cons (fun f w' hR hH Q hQ => ?_) ?_
        · skip
          clear hH
          refine wpList_view ?_; show wpList _ _ _ [_] ⟨#[_, _, _, _, _, _, _, _, _, _, _, _, _, _, _, _, _, _, _, _, _, _, _, _, _, _, _, _, _, _, _, _, _, _, _, _, _, _, _, _, _, _, _, _, _, _, _, _, _, _, _], _⟩ _
          repeat (first | go_guarded | go_step)
          exact hQ _ _ (Grow.refl _) rfl rfl
        refine obls_cons (fun f w' hR hH Q hQ => ?_) ?_
        · skip
          have h9 := hH.get 0 (24, 9) rfl
          clear hH
          refine wpList_view ?_; show wpList _ _ _ [_] ⟨#[_, _, _, _, _, _, _, _, _, _, _, _, _, _, _, _, _, _, _, _, _, _, _, _, f 9, _, _, _, _, _, _, _, _, _, _, _, _, _, _, _, _, _, _, _, _, _, _, _, _, _, _], _⟩ _
          rw [show f 9 = _ from h9]
          clear h9
          repeat (first | go_guarded | go_step)
          exact hQ _ _ (Grow.refl _) rfl rfl
        refine obls_cons (fun f w' hR hH Q hQ => ?_) ?_
        · skip
          have h10 := hH.get 0 (25, 10) rfl
          clear hH
          refine wpList_view ?_; show wpList _ _ _ [_] ⟨#[_, _, _, _, _, _, _, _, _, _, _, _, _, _, _, _, _, _, _, _, _, _, _, _, _, f 10, _, _, _, _, _, _, _, _, _, _, _, _, _, _, _, _, _, _, _, _, _, _, _, _, _], _⟩ _
          rw [show f 10 = _ from h10]
          clear h10
          repeat (first | go_guarded | go_step)
          exact hQ _ _ (Grow.refl _) rfl rfl
        refine obls_cons (fun f w' hR hH Q hQ => ?_) ?_
        · skip
          have h11 := hH.get 0 (26, 11) rfl
          clear hH
          refine wpList_view ?_; show wpList _ _ _ [_] ⟨#[_, _, _, _, _, _, _, _, _, _, _, _, _, _, _, _, _, _, _, _, _, _, _, _, _, _, f 11, _, _, _, _, _, _, _, _, _, _, _, _, _, _, _, _, _, _, _, _, _, _, _, _], _⟩ _
          rw [show f 11 = _ from h11]
          clear h11
          have c0 := hR.cell C0.out
          repeat (first | go_guarded | go_step)
          exact hQ _ _ (Grow.refl _) rfl rfl
        refine obls_cons (fun f w' hR hH Q hQ => ?_) ?_
        · skip
          have h7 := hH.get 0 (22, 7) rfl
          have h8 := hH.get 1 (23, 8) rfl
          have h12 := hH.get 2 (27, 12) rfl
          clear hH
          refine wpList_merge (idx := [none, none, none, none, none, none, none, none, none, none, none, none, none, none, none, none, none, none, none, none, none, none, some 7, some 8, none, none, none, some 12, none, none, none, none, none, none, none, none, none, none, none, none, none, none, none, none, none, none, none, none, none, none, none]) (by kernel_rfl) ?_; show wpList _ _ _ [_] ⟨#[_, _, _, _, _, _, _, _, _, _, _, _, _, _, _, _, _, _, _, _, _, _, f 7, f 8, _, _, _, f 12, _, _, _, _, _, _, _, _, _, _, _, _, _, _, _, _, _, _, _, _, _, _, _], _⟩ _
          rw [show f 7 = _ from h7]
          rw [show f 8 = _ from h8]
          rw [show f 12 = _ from h12]
          clear h7 h8 h12
          go_wp2_with (go_at_call 38; refine (HTK.out _ hR).mono ?_; rintro e w1 ⟨rfl, rfl⟩)
          exact hQ _ _ (Grow.refl _) rfl rfl
        refine obls_cons (fun f w' hR hH Q hQ => ?_) ?_
        · skip
          have h6 := hH.get 0 (21, 6) rfl
          have h13 := hH.get 1 (28, 13) rfl
          clear hH
          refine wpList_view ?_; show wpList _ _ _ [_] ⟨#[_, _, _, _, _, _, _, _, _, _, _, _, _, _, _, _, _, _, _, _, _, f 6, _, _, _, _, _, _, f 13, _, _, _, _, _, _, _, _, _, _, _, _, _, _, _, _, _, _, _, _, _, _], _⟩ _
          rw [show f 6 = _ from h6]
          rw [show f 13 = _ from h13]
          clear h6 h13
          have hop2 := hop
          repeat (first | go_guarded | go_step)
          exact hQ _ _ (Grow.refl _) rfl rfl
        refine obls_cons (fun f w' hR hH Q hQ => ?_) ?_
        · skip
          have h14 := hH.get 0 (29, 14) rfl
          clear hH
          refine wpList_view ?_; show wpList _ _ _ [_] ⟨#[_, _, _, _, _, _, _, _, _, _, _, _, _, _, _, _, _, _, _, _, _, _, _, _, _, _, _, _, _, f 14, _, _, _, _, _, _, _, _, _, _, _, _, _, _, _, _, _, _, _, _, _], _⟩ _
          rw [show f 14 = _ from h14]
          clear h14
          repeat (first | go_guarded | go_step)
          exact hQ _ _ (Grow.refl _) rfl rfl
        exact obls_nil
      case mono => exact ⟨Mono.veq _, Mono.veq _, Mono.veq _, Mono.veq _, Mono.veq _, Mono.veq _, Mono.veq _, Mono.veq _, Mono.veq _, Mono.veq _, Mono.veq _, Mono.veq _, Mono.veq _, Mono.veq _, Mono.veq _, Mono.veq _, trivial⟩
      case tail =>
        intro f w' hR hH
        have q14 := hH.get 14 (29, 14) rfl
        have q15 := hH.get 15 (7, 15) rfl
        clear hH
        refine wpList_merge (idx := [none, none, none, none, none, none, none, some 15, none, none, none, none, none, none, none, some 0, some 1, some 2, some 3, some 4, some 5, some 6, some 7, some 8, some 9, some 10, some 11, some 12, some 13, some 14, none, none, none, none, none, none, none, none, none, none, none, none, none, none, none, none, none, none, none, none, none]) (by kernel_rfl) ?_; show wpList _ _ _ [] ⟨#[_, _, _, _, _, _, _, f 15, _, _, _, _, _, _, _, f 0, f 1, f 2, f 3, f 4, f 5, f 6, f 7, f 8, f 9, f 10, f 11, f 12, f 13, f 14, _, _, _, _, _, _, _, _, _, _, _, _, _, _, _, _, _, _, _, _, _], _⟩ _
        rw [show f 14 = _ from q14]
        rw [show f 15 = _ from q15]
        clear q14 q15
        have hG := hR
        have c0 := hR.cell C0.out
        have c1 := hR.cell C1.out
        have cx := hR.cell CX.out
        have h2' := own_grow H2.out hR
        have hfz := h2'.frozenAt k
        have HGR := Lib.hid hG
        have HO2 := Lib.hid h2'
        have hsz := HKE.out.size
        have HK2 : Hid (Keep B K w w') := Lib.hid (HKE.out.trans (Keep.of hG (by omega)))
        clear hR hG h2' hop
        have HEND : Hid (MSr (w'.setCell ⟨gw, k, none⟩ (.int .u64 (y.toNat : Int))) g h n (orTo ws ts n (k + 1)) ∧ Keep B K w (w'.setCell ⟨gw, k, none⟩ (.int .u64 (y.toNat : Int)))) := Lib.hid (by
          rw [HTO.out]
          refine ⟨⟨some ⟨gw, 0, none⟩, c, ?_, ?_, by rw [List.length_set]; exact H3.out, H4.out⟩, Keep.setCell HK2.out hfree.1 hfree.2 _⟩
          · rw [List.length_set]; exact (H1.out.grow HGR.out).far hne.symm _
          · rw [List.length_set, List.map_set]; exact (HO2.out.stored k _).1)
        have t1 := T1.out
        have t2 := T2.out
        cases hb : anyTo ws us k
        all_goals
          have HB := Lib.hid hb
          clear hb
          go_wp2_with fail
          go_roundw
          case rel => exact ⟨k + 1, by omega, by go_num, by rw [HST.out, HB.out]; first | rfl | (cases d <;> rfl), HEND.out.1, HEND.out.2⟩
          case measure => simp [intOf] <;> omega
    · obtain rfl : k = N := by omega
      have hend : MS wr g h n (uni S T n) := by
        rw [← HUS.out] at hm
        exact hm.ms HGO.out
      have HE := Lib.hid hend
      have HKE := Lib.hid hke
      clear hm hend hke
      go_wp2_with fail
      go_ret
      exact ⟨rfl, HE.out, HKE.out⟩


end Go.Proofs.Ytbcifodifadoiaa.mkW
