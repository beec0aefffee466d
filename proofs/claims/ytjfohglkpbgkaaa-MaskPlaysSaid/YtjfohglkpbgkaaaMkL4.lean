/- The walk of MaskPlays. -/
import Derived.Test.YtjfohglkpbgkaaaMkS
import Derived.Test.YtjfohglkpbgkaaaPiv
import Derived.Test.YtjfohglkpbgkaaaCut
namespace Go.Proofs.Ytjfohglkpbgkaaa.mkL
open Go Go.RowKit Go.Par Go.Kit Go.Proofs.Ytjfohglkpbgkaaa.Mk Go.Proofs.Ytjfohglkpbgkaaa.mkW Go.Proofs.Ytjfohglkpbgkaaa.mkR

def nope : Nat → Bool := fun _ => false
theorem nope_elems (n : Nat) : elems n nope = [] := by unfold elems nope; simp
/-- what is kept ahead of a pivot, and behind it -/
def I2 (p q : World → Prop) : Nat → World → Prop := fun ph w => (ph = 0 → p w) ∧ (ph = 1 → q w)
theorem I2.zero {p q : World → Prop} {w : World} (h : p w) : I2 p q 0 w := ⟨fun _ => h, fun e => absurd e (by decide)⟩
theorem I2.one {p q : World → Prop} {w : World} (h : q w) : I2 p q 1 w := ⟨fun e => absurd e (by decide), fun _ => h⟩
theorem I2.get0 {p q : World → Prop} {w : World} (h : I2 p q 0 w) : p w := h.1 rfl
theorem I2.get1 {p q : World → Prop} {w : World} (h : I2 p q 1 w) : q w := h.2 rfl
/-- behind a call of either set: both answer alike, and have the same -/
def PlaysJ (w0 : World) (A : Option Addr) (k : Nat) (xs : List Op) (hs ht g9 n m : Nat) (f : Nat → Value) (w' : World) : Prop :=
  ∃ (S T : Nat → Bool) (vs vt : Value) (r : Bool), f 12 = .bool r ∧ f 13 = .bool r ∧ Hid (PI w0 A k xs (hs + 1) hs (ht + 1) ht g9 (g9 + 1) n m S T (elems n S) (elems m T) vs vt w')
def IsInts (L : List Nat) : Value → World → Prop := fun u w => IntsV w u L
theorem IsInts.mono {L : List Nat} : Mono Grow (IsInts L) := fun _ _ _ h hg => IntsV.grow h hg
theorem elems_pad {n : Nat} {S : Nat → Bool} (hl : ∀ j, S j = true → j < n) : ∀ d, elems (n + d) S = elems n S
  | 0 => rfl
  | d + 1 => by
    have h : S (n + d) = false := by
      cases h : S (n + d) with
      | false => rfl
      | true => exact absurd (hl _ h) (by omega)
    rw [← Nat.add_assoc, elems_succ, h, elems_pad hl d]; simp
theorem both_in {n m : Nat} {S T : Nat → Bool} (hl : ∀ j, S j = true → j < n) (ht : ∀ j, T j = true → j < m) : (allIn n S T && allIn m T S) = decide (elems n S = elems m T) := by
  rw [Bool.eq_iff_iff, Bool.and_eq_true, decide_eq_true_iff]
  constructor
  · rintro ⟨h1, h2⟩
    have e1 := allIn_get hl h1
    have e2 := allIn_get ht h2
    have e : S = T := by
      funext j
      rw [Bool.eq_iff_iff]
      exact ⟨e1 j, e2 j⟩
    subst e
    rcases Nat.le_total n m with h | h
    · obtain ⟨d, rfl⟩ := Nat.exists_eq_add_of_le h
      exact (elems_pad hl d).symm
    · obtain ⟨d, rfl⟩ := Nat.exists_eq_add_of_le h
      exact elems_pad ht d
  · intro e
    refine ⟨allIn_of fun j hj => ?_, allIn_of fun j hj => ?_⟩
    · have := mem_elems.2 ⟨hl j hj, hj⟩
      rw [e] at this
      exact (mem_elems.1 this).2
    · have := mem_elems.2 ⟨ht j hj, hj⟩
      rw [← e] at this
      exact (mem_elems.1 this).2
set_option maxRecDepth 100000 in
set_option maxHeartbeats 8000000 in
theorem plays_walk (N0 M0 : Int) (hn0 : -9223372036854775808 ≤ N0) (hn1 : N0 ≤ 9223372036854775807) (hm0 : -9223372036854775808 ≤ M0) (hm1 : M0 ≤ 9223372036854775807) (A : Option Addr) (k c : Nat) (xs : List Op) (w : World) (hc : k ≤ c) (hr : Recs 2 opRow w A k xs) (hok : ∀ x ∈ xs, OpOk x) :
    Calls Try.prog 4 #[.int .i64 N0, .int .i64 M0, .slice A k c] w fun e w' => e = .returned (.bool true) ∧ Grow w w' := by
  have HR := Lib.hid hr
  have HOK := Lib.hid hok
  have HN := Lib.hid (And.intro hn0 hn1)
  have HM := Lib.hid (And.intro hm0 hm1)
  clear hr hok hn0 hn1 hm0 hm1
  by_cases h60 : 60 < k
  · have t1 : decide (60 < k) = true := decide_eq_true h60
    have t2 : decide ((60 : Int) < (k : Int)) = true := decide_eq_true (by omega)
    clear h60
    go_enter Try.func4, Try.ntmps4
    go_wp2_with fail
    refine (works_any _).mono ?_
    rintro e w1 ⟨rfl, hg1⟩
    go_wp2_with fail
    go_ret
    exact ⟨rfl, hg1⟩
  · have t1 : decide (60 < k) = false := decide_eq_false h60
    have t2 : decide ((60 : Int) < (k : Int)) = false := decide_eq_false (by omega)
    have H1 := Lib.hid (new_any N0 w HN.out.1 HN.out.2)
    go_enter Try.func4, Try.ntmps4
    go_wp2_with fail
    refine H1.out.mono ?_
    rintro e w1 ⟨rfl, m1, hg1⟩
    have H2 := Lib.hid (new_any M0 w1 HM.out.1 HM.out.2)
    go_wp2_with fail
    refine H2.out.mono ?_
    rintro e w2 ⟨rfl, m2, hg2⟩
    have H3 := Lib.hid (ref_new N0 w2 HN.out.1 HN.out.2)
    go_wp2_with fail
    refine H3.out.mono ?_
    rintro e w3 ⟨rfl, hg3⟩
    have H4 := Lib.hid (ref_new M0 w3 HM.out.1 HM.out.2)
    go_wp2_with fail
    refine H4.out.mono ?_
    rintro e w4 ⟨rfl, hg4⟩
    go_wp2_with fail
    -- LOOP
    obtain ⟨n, hn⟩ : ∃ n, n = clampN N0 := ⟨_, rfl⟩
    obtain ⟨m, hm⟩ : ∃ m, m = clampN M0 := ⟨_, rfl⟩
    obtain ⟨hs, hhs⟩ : ∃ hs, hs = w.heap.size := ⟨_, rfl⟩
    obtain ⟨ht, hht⟩ : ∃ ht, ht = w1.heap.size := ⟨_, rfl⟩
    obtain ⟨g9, h9⟩ : ∃ g9, g9 = w4.heap.size := ⟨_, rfl⟩
    rw [← hn, ← hhs] at m1
    rw [← hm, ← hht] at m2
    rw [← hn, ← hm, ← hhs, ← hht, ← h9]
    obtain ⟨W, hW⟩ : ∃ W, W = (w4.alloc (.cells #[.int .i64 (n : Int), .slice none 0 0] TX)).alloc (.cells #[.int .i64 (m : Int), .slice none 0 0] TX) := ⟨_, rfl⟩
    rw [← hW]
    have hgW : Grow w4 W := by rw [hW]; exact (Grow.alloc _ _).trans (Grow.alloc _ _)
    have g24 : Grow w2 W := hg3.trans (hg4.trans hgW)
    have gW : Grow w W := hg1.trans (hg2.trans g24)
    have lt1 := m1.lt.1
    have sz2 := hg2.size
    have sz3 := hg3.size
    have sz4 := hg4.size
    have lt2 := m2.lt.1
    have HD : Hid (hs + 1 ≠ ht + 1 ∧ hs ≠ ht) := Lib.hid (by omega)
    have HD2 : Hid (hs + 2 ≤ ht) := Lib.hid (by omega)
    have HG9 : Hid (w.heap.size ≤ g9 ∧ w.heap.size ≤ g9 + 1 ∧ w.heap.size ≤ hs ∧ w.heap.size ≤ hs + 1 ∧ w.heap.size ≤ ht ∧ w.heap.size ≤ ht + 1) := Lib.hid (by omega)
    have HPI : Hid (PI w A k xs (hs + 1) hs (ht + 1) ht g9 (g9 + 1) n m nope nope [] [] (.slice none 0 0) (.slice none 0 0) W) := Lib.hid
      ⟨gW, HR.out.grow gW, m1.grow (hg2.trans g24), m2.grow g24, by rw [hW]; exact (Blk.new _ _ _ _ rfl h9).grow (Grow.alloc _ _), IntsV.nil _, by rw [hW]; exact Blk.new _ _ _ _ rfl (by simp [h9]), IntsV.nil _⟩
    have HN6 : Hid (n ≤ 65536 ∧ m ≤ 65536) := Lib.hid ⟨m1.good.1, m2.good.1⟩
    clear m1 m2 hg1 hg2 hg3 hg4 hgW g24 gW hW lt1 lt2 sz2 sz3 sz4 h9 hht hhs hn hm H1 H2 H3 H4
    go_loopw [11] (fun i' wr => ∃ (j : Nat) (S T : Nat → Bool) (vs vt : Value), j ≤ k ∧ i' = .int .i64 (j : Int) ∧ PI w A k xs (hs + 1) hs (ht + 1) ht g9 (g9 + 1) n m S T (elems n S) (elems m T) vs vt wr) (fun i' _ => k - (intOf i').toNat)
    case atStart => exact ⟨0, nope, nope, _, _, by omega, rfl, by rw [nope_elems, nope_elems]; exact HPI.out⟩
    case round =>
      obtain ⟨j, S, T, vs, vt, hj, rfl, pi⟩ := hrel
      have gS := pi.ms.good.2
      have gT := pi.mt.good.2
      have HLS : Hid ((elems n S).length ≤ 65536 ∧ (elems m T).length ≤ 65536) := Lib.hid ⟨Nat.le_trans (elemsTo_len S n) HN6.out.1, Nat.le_trans (elemsTo_len T m) HN6.out.2⟩
      by_cases hlt : j < k
      · obtain ⟨b, off, x, rfl, hx, hcell⟩ := HR.out.at_ (by decide) hlt
        obtain ⟨kd, xi⟩ := x
        have HQ0 := Lib.hid (hcell 0 (.int .u8 (kd : Int)) rfl)
        have HQ1 := Lib.hid (hcell 1 (.int .i64 xi) rfl)
        have hxo := HOK.out _ (List.mem_of_getElem? hx)
        have hx1 : xi ≤ 9223372036854775807 := hxo.2.2
        have HX1 := Lib.hid hx1
        have HPS := Lib.hid pi
        have HGS := Lib.hid gS
        have HGT := Lib.hid gT
        have hFS : Hid (Free w.heap.size (fun j => j ≠ hs + 1 ∧ j ≠ hs) (hs + 1) (some hs)) := Lib.hid (free_of HG9.out.2.2.2.1 (fun h => h.1 rfl) (fun k hk => by injection hk with hk; subst hk; exact ⟨HG9.out.2.2.1, fun h => h.2 rfl⟩))
        have hFT : Hid (Free w.heap.size (fun j => j ≠ ht + 1 ∧ j ≠ ht) (ht + 1) (some ht)) := Lib.hid (free_of HG9.out.2.2.2.2.2 (fun h => h.1 rfl) (fun k hk => by injection hk with hk; subst hk; exact ⟨HG9.out.2.2.2.2.1, fun h => h.2 rfl⟩))
        have z0 := pi.g.cell HQ0.out
        rw [Nat.add_zero] at z0
        have z1 := pi.g.cell HQ1.out
        clear hcell hx hxo hx1 pi gS gT
        repeat (first | with_reducible (refine wp_block_cut (k := 2) ?_) | go_values | go_guarded | go_step | go_upon | go_back)
        refine wp_cut [none, none, none, none, none, none, none, none, none, none, none, none, some 12, some 13, none, none, none, none, none, none, none, none, none, none, none, none, none, none, none, none, none, none, none, none, none, none, none, some 37, some 38, some 39, some 40, some 41, some 42, some 43, some 44, some 45, some 46, some 47, some 48, some 49, some 50, some 51, some 52, some 53, some 54, some 55, some 56, some 57, some 58, some 59, some 60, some 61, some 62, some 63, some 64, some 65, some 66, some 67, some 68, some 69, some 70, some 71, some 72, some 73, some 74, some 75, some 76, some 77, some 78, some 79, some 80, some 81, some 82, some 83, some 84, some 85, some 86, some 87, some 88, some 89, some 90, some 91, some 92, some 93, some 94, some 95, some 96, some 97, some 98, some 99, some 100, some 101, some 102, some 103, some 104, some 105, some 106, some 107, some 108, some 109, some 110, some 111, some 112, some 113, none, none, none, none, none, none, none, none, none, none, none, none, none, none, none, none, none, none, none, none, none, none, none, none, none, none, none, none, none, none, none, none, none, none, none, none, none, none, none, none, none, none, none, none, none, none, none, none, none, none, none, none, none, none, none, none, none, none, none, none, none, none, none, none, none, none, none, none, none, none, none, none, none, none, none, none, none, none, none, none, none, none, none, none, none, none, none, none, none, none] (PlaysJ w (some ⟨b, off, none⟩) k xs hs ht g9 n m) ?cutA ?cutB
        case cutB =>
          intro f w' A hA hJ
          replace hA : A = ⟨#[_, _, _, _, _, _, _, _, _, _, _, _, f 12, f 13, _, _, _, _, _, _, _, _, _, _, _, _, _, _, _, _, _, _, _, _, _, _, _, f 37, f 38, f 39, f 40, f 41, f 42, f 43, f 44, f 45, f 46, f 47, f 48, f 49, f 50, f 51, f 52, f 53, f 54, f 55, f 56, f 57, f 58, f 59, f 60, f 61, f 62, f 63, f 64, f 65, f 66, f 67, f 68, f 69, f 70, f 71, f 72, f 73, f 74, f 75, f 76, f 77, f 78, f 79, f 80, f 81, f 82, f 83, f 84, f 85, f 86, f 87, f 88, f 89, f 90, f 91, f 92, f 93, f 94, f 95, f 96, f 97, f 98, f 99, f 100, f 101, f 102, f 103, f 104, f 105, f 106, f 107, f 108, f 109, f 110, f 111, f 112, f 113, _, _, _, _, _, _, _, _, _, _, _, _, _, _, _, _, _, _, _, _, _, _, _, _, _, _, _, _, _, _, _, _, _, _, _, _, _, _, _, _, _, _, _, _, _, _, _, _, _, _, _, _, _, _, _, _, _, _, _, _, _, _, _, _, _, _, _, _, _, _, _, _, _, _, _, _, _, _, _, _, _, _, _, _, _, _, _, _, _, _], _⟩ := hA
          subst hA
          obtain ⟨S', T', v9', vt', r, e12, e13, HP6⟩ := hJ
          rw [e12, e13]
          obtain ⟨w6, hw6⟩ : ∃ w6, w6 = w' := ⟨_, rfl⟩
          rw [← hw6] at HP6 ⊢
          have hrr : (r != r) = false := bne_self_eq_false r
          clear hw6 e12 e13 z0 z1
          obtain ⟨qh, hqh⟩ : ∃ q, q = memI S' xi := ⟨_, rfl⟩
          obtain ⟨qn, hqn⟩ : ∃ q, q = nextN n S' xi := ⟨_, rfl⟩
          obtain ⟨A9, c9, hv9, -⟩ := HP6.out.i9
          obtain ⟨ct, hct⟩ : ∃ q, q = (elems n S').length := ⟨_, rfl⟩
          have HGS6 := Lib.hid (HP6.out.ms.good.2)
          have HC1 : Hid (∀ w', Grow w6 w' → Calls Try.prog 28 #[.pointer (some ⟨hs + 1, 0, none⟩), .int .i64 xi] w' fun e w2 => e = .returned (.bool qh) ∧ w' = w2) := Lib.hid fun w' hg => by rw [hqh]; exact has_any w' _ _ n _ (HP6.out.ms.grow hg) xi
          have HC2 : Hid (∀ w', Grow w6 w' → Calls Try.prog 29 #[.agg #[.int .i64 (n : Int), .slice A9 ct c9], .int .i64 xi] w' fun e w2 => e = .returned (.bool qh) ∧ Grow w' w2) := Lib.hid fun w' hg => by rw [hqh, ← hasB_elems HGS6.out xi, hct, ← hv9]; exact ref_has w' n _ _ (HP6.out.i9.grow hg) xi
          have HC3 : Hid (∀ w', Grow w6 w' → Calls Try.prog 30 #[.pointer (some ⟨hs + 1, 0, none⟩), .int .i64 xi] w' fun e w2 => e = .returned (.int .i64 qn) ∧ w' = w2) := Lib.hid fun w' hg => by rw [hqn]; exact next_any w' _ _ n _ (HP6.out.ms.grow hg) xi HX1.out
          have HC4 : Hid (∀ w', Grow w6 w' → Calls Try.prog 31 #[.agg #[.int .i64 (n : Int), .slice A9 ct c9], .int .i64 xi] w' fun e w2 => e = .returned (.int .i64 qn) ∧ Grow w' w2) := Lib.hid fun w' hg => by rw [hqn, ← nextL_elems, hct, ← hv9]; exact ref_next w' n _ _ (HP6.out.i9.grow hg) xi
          have HC5 : Hid (∀ w', Grow w6 w' → Calls Try.prog 32 #[.pointer (some ⟨hs + 1, 0, none⟩)] w' fun e w2 => e = .returned (.int .i64 (ct : Int)) ∧ w' = w2) := Lib.hid fun w' hg => by rw [hct]; exact count_any w' _ _ n _ (HP6.out.ms.grow hg)
          have hb9 := HP6.out.b9
          rw [hv9, ← hct] at hb9
          have HB9 := Lib.hid hb9
          have hqq : (qh != qh) = false := bne_self_eq_false qh
          have hq2 : (qn != qn) = false := bne_self_eq_false qn
          have hq3 : ((ct : Int) != (ct : Int)) = false := bne_self_eq_false _
          clear hqh hqn hv9 hct hb9
          go_wp2_with fail
          apply (fun (v0 v1 v2 v3 v4 v5 v6 v7 v8 v9 v10 v11 v12 v13 v14 v15 v16 v17 v18 v19 v20 v21 v22 v23 v24 v25 v26 v27 v28 v29 v30 v31 v32 v33 v34 v35 v36 v37 v38 v39 v40 v41 v42 v43 v44 : Value) mono obl tail => wp_region_par (R := Grow) (Φ := phi [veq v0, veq v1, veq v2, veq v3, veq v4, veq v5, veq v6, veq v7, veq v8, veq v9, veq v10, veq v11, veq v12, veq v13, veq v14, veq v15, veq v16, veq v17, veq v18, veq v19, veq v20, veq v21, veq v22, veq v23, veq v24, veq v25, veq v26, veq v27, veq v28, veq v29, veq v30, veq v31, veq v32, veq v33, veq v34, veq v35, veq v36, veq v37, veq v38, veq v39, veq v40, veq v41, veq v42, veq v43, veq v44]) (m := 45) (dls := [[], [], [(114, 0), (115, 1)], [(116, 2)], [(117, 3)], [(117, 3)], [(117, 3)], [(119, 5), (120, 6), (117, 3)], [(121, 7), (117, 3)], [(122, 8), (117, 3)], [(118, 4), (123, 9), (117, 3)], [(117, 3)], [(117, 3)], [(117, 3)], [(126, 12), (127, 13), (117, 3)], [(128, 14), (117, 3)], [(129, 15), (117, 3)], [(125, 11), (130, 16), (117, 3)], [(124, 10), (131, 17), (117, 3)], [(117, 3), (132, 18)], [(133, 19)], [(134, 20)], [(134, 20)], [(134, 20)], [(136, 22), (137, 23), (134, 20)], [(138, 24), (134, 20)], [(139, 25), (134, 20)], [(135, 21), (140, 26), (134, 20)], [(134, 20)], [(134, 20)], [(134, 20)], [(143, 29), (144, 30), (134, 20)], [(145, 31), (134, 20)], [(146, 32), (134, 20)], [(142, 28), (147, 33), (134, 20)], [(141, 27), (148, 34), (134, 20)], [(134, 20), (149, 35)], [(150, 36)], [(151, 37)], [(152, 38), (151, 37)], [(151, 37)], [(154, 40), (151, 37)], [(155, 41), (151, 37)], [(153, 39), (156, 42), (151, 37)], [(151, 37), (157, 43)]]) (ds := [114, 115, 116, 117, 118, 119, 120, 121, 122, 123, 124, 125, 126, 127, 128, 129, 130, 131, 132, 133, 134, 135, 136, 137, 138, 139, 140, 141, 142, 143, 144, 145, 146, 147, 148, 149, 150, 151, 152, 153, 154, 155, 156, 157, 158]) (by kernel_rfl) (by kernel_rfl) (by decide) rfl (Grow.drew _) (fun _ _ _ => Grow.trans) (mono_phi mono) obl tail)
          case obl =>
            refine obls_cons (fun f w' hR hH Q hQ => ?_) ?_
            · skip
              clear hH
              refine wpList_view ?_; show wpList _ _ _ [_] ⟨#[_, _, _, _, _, _, _, _, _, _, _, _, _, _, _, _, _, _, _, _, _, _, _, _, _, _, _, _, _, _, _, _, _, _, _, _, _, _, _, _, _, _, _, _, _, _, _, _, _, _, _, _, _, _, _, _, _, _, _, _, _, _, _, _, _, _, _, _, _, _, _, _, _, _, _, _, _, _, _, _, _, _, _, _, _, _, _, _, _, _, _, _, _, _, _, _, _, _, _, _, _, _, _, _, _, _, _, _, _, _, _, _, _, _, _, _, _, _, _, _, _, _, _, _, _, _, _, _, _, _, _, _, _, _, _, _, _, _, _, _, _, _, _, _, _, _, _, _, _, _, _, _, _, _, _, _, _, _, _, _, _, _, _, _, _, _, _, _, _, _, _, _, _, _, _, _, _, _, _, _, _, _, _, _, _, _, _, _, _, _, _, _, _, _, _, _, _, _, _, _, _, _, _, _], _⟩ _
              repeat (first | go_guarded | go_step)
              exact hQ _ _ (Grow.refl _) rfl rfl
            refine obls_cons (fun f w' hR hH Q hQ => ?_) ?_
            · skip
              clear hH
              refine wpList_view ?_; show wpList _ _ _ [_] ⟨#[_, _, _, _, _, _, _, _, _, _, _, _, _, _, _, _, _, _, _, _, _, _, _, _, _, _, _, _, _, _, _, _, _, _, _, _, _, _, _, _, _, _, _, _, _, _, _, _, _, _, _, _, _, _, _, _, _, _, _, _, _, _, _, _, _, _, _, _, _, _, _, _, _, _, _, _, _, _, _, _, _, _, _, _, _, _, _, _, _, _, _, _, _, _, _, _, _, _, _, _, _, _, _, _, _, _, _, _, _, _, _, _, _, _, _, _, _, _, _, _, _, _, _, _, _, _, _, _, _, _, _, _, _, _, _, _, _, _, _, _, _, _, _, _, _, _, _, _, _, _, _, _, _, _, _, _, _, _, _, _, _, _, _, _, _, _, _, _, _, _, _, _, _, _, _, _, _, _, _, _, _, _, _, _, _, _, _, _, _, _, _, _, _, _, _, _, _, _, _, _, _, _, _, _], _⟩ _
              repeat (first | go_guarded | go_step)
              exact hQ _ _ (Grow.refl _) rfl rfl
            refine obls_cons (fun f w' hR hH Q hQ => ?_) ?_
            · skip
              have h0 := hH.get 0 (114, 0) rfl
              have h1 := hH.get 1 (115, 1) rfl
              clear hH
              refine wpList_view ?_; show wpList _ _ _ [_] ⟨#[_, _, _, _, _, _, _, _, _, _, _, _, _, _, _, _, _, _, _, _, _, _, _, _, _, _, _, _, _, _, _, _, _, _, _, _, _, _, _, _, _, _, _, _, _, _, _, _, _, _, _, _, _, _, _, _, _, _, _, _, _, _, _, _, _, _, _, _, _, _, _, _, _, _, _, _, _, _, _, _, _, _, _, _, _, _, _, _, _, _, _, _, _, _, _, _, _, _, _, _, _, _, _, _, _, _, _, _, _, _, _, _, _, _, f 0, f 1, _, _, _, _, _, _, _, _, _, _, _, _, _, _, _, _, _, _, _, _, _, _, _, _, _, _, _, _, _, _, _, _, _, _, _, _, _, _, _, _, _, _, _, _, _, _, _, _, _, _, _, _, _, _, _, _, _, _, _, _, _, _, _, _, _, _, _, _, _, _, _, _, _, _, _, _, _, _, _, _, _, _, _, _, _, _, _, _], _⟩ _
              rw [show f 0 = _ from h0]
              rw [show f 1 = _ from h1]
              clear h0 h1
              repeat (first | go_guarded | go_step)
              exact hQ _ _ (Grow.refl _) rfl rfl
            refine obls_cons (fun f w' hR hH Q hQ => ?_) ?_
            · skip
              have h2 := hH.get 0 (116, 2) rfl
              clear hH
              refine wpList_view ?_; show wpList _ _ _ [_] ⟨#[_, _, _, _, _, _, _, _, _, _, _, _, _, _, _, _, _, _, _, _, _, _, _, _, _, _, _, _, _, _, _, _, _, _, _, _, _, _, _, _, _, _, _, _, _, _, _, _, _, _, _, _, _, _, _, _, _, _, _, _, _, _, _, _, _, _, _, _, _, _, _, _, _, _, _, _, _, _, _, _, _, _, _, _, _, _, _, _, _, _, _, _, _, _, _, _, _, _, _, _, _, _, _, _, _, _, _, _, _, _, _, _, _, _, _, _, f 2, _, _, _, _, _, _, _, _, _, _, _, _, _, _, _, _, _, _, _, _, _, _, _, _, _, _, _, _, _, _, _, _, _, _, _, _, _, _, _, _, _, _, _, _, _, _, _, _, _, _, _, _, _, _, _, _, _, _, _, _, _, _, _, _, _, _, _, _, _, _, _, _, _, _, _, _, _, _, _, _, _, _, _, _, _, _, _], _⟩ _
              rw [show f 2 = _ from h2]
              clear h2
              repeat (first | go_guarded | go_step)
              exact hQ _ _ (Grow.refl _) rfl rfl
            refine obls_cons (fun f w' hR hH Q hQ => ?_) ?_
            · skip
              have h3 := hH.get 0 (117, 3) rfl
              clear hH
              refine wpList_view ?_; show wpList _ _ _ [_] ⟨#[_, _, _, _, _, _, _, _, _, _, _, _, _, _, _, _, _, _, _, _, _, _, _, _, _, _, _, _, _, _, _, _, _, _, _, _, _, _, _, _, _, _, _, _, _, _, _, _, _, _, _, _, _, _, _, _, _, _, _, _, _, _, _, _, _, _, _, _, _, _, _, _, _, _, _, _, _, _, _, _, _, _, _, _, _, _, _, _, _, _, _, _, _, _, _, _, _, _, _, _, _, _, _, _, _, _, _, _, _, _, _, _, _, _, _, _, _, f 3, _, _, _, _, _, _, _, _, _, _, _, _, _, _, _, _, _, _, _, _, _, _, _, _, _, _, _, _, _, _, _, _, _, _, _, _, _, _, _, _, _, _, _, _, _, _, _, _, _, _, _, _, _, _, _, _, _, _, _, _, _, _, _, _, _, _, _, _, _, _, _, _, _, _, _, _, _, _, _, _, _, _, _, _, _, _], _⟩ _
              rw [show f 3 = _ from h3]
              clear h3
              repeat (first | go_guarded | go_step)
              exact hQ _ _ (Grow.refl _) rfl rfl
            refine obls_cons (fun f w' hR hH Q hQ => ?_) ?_
            · skip
              have h3 := hH.get 0 (117, 3) rfl
              clear hH
              refine wpList_view ?_; show wpList _ _ _ [_] ⟨#[_, _, _, _, _, _, _, _, _, _, _, _, _, _, _, _, _, _, _, _, _, _, _, _, _, _, _, _, _, _, _, _, _, _, _, _, _, _, _, _, _, _, _, _, _, _, _, _, _, _, _, _, _, _, _, _, _, _, _, _, _, _, _, _, _, _, _, _, _, _, _, _, _, _, _, _, _, _, _, _, _, _, _, _, _, _, _, _, _, _, _, _, _, _, _, _, _, _, _, _, _, _, _, _, _, _, _, _, _, _, _, _, _, _, _, _, _, f 3, _, _, _, _, _, _, _, _, _, _, _, _, _, _, _, _, _, _, _, _, _, _, _, _, _, _, _, _, _, _, _, _, _, _, _, _, _, _, _, _, _, _, _, _, _, _, _, _, _, _, _, _, _, _, _, _, _, _, _, _, _, _, _, _, _, _, _, _, _, _, _, _, _, _, _, _, _, _, _, _, _, _, _, _, _, _], _⟩ _
              rw [show f 3 = _ from h3]
              clear h3
              repeat (first | go_guarded | go_step)
              exact hQ _ _ (Grow.refl _) rfl rfl
            refine obls_cons (fun f w' hR hH Q hQ => ?_) ?_
            · skip
              have h3 := hH.get 0 (117, 3) rfl
              clear hH
              refine wpList_view ?_; show wpList _ _ _ [_] ⟨#[_, _, _, _, _, _, _, _, _, _, _, _, _, _, _, _, _, _, _, _, _, _, _, _, _, _, _, _, _, _, _, _, _, _, _, _, _, _, _, _, _, _, _, _, _, _, _, _, _, _, _, _, _, _, _, _, _, _, _, _, _, _, _, _, _, _, _, _, _, _, _, _, _, _, _, _, _, _, _, _, _, _, _, _, _, _, _, _, _, _, _, _, _, _, _, _, _, _, _, _, _, _, _, _, _, _, _, _, _, _, _, _, _, _, _, _, _, f 3, _, _, _, _, _, _, _, _, _, _, _, _, _, _, _, _, _, _, _, _, _, _, _, _, _, _, _, _, _, _, _, _, _, _, _, _, _, _, _, _, _, _, _, _, _, _, _, _, _, _, _, _, _, _, _, _, _, _, _, _, _, _, _, _, _, _, _, _, _, _, _, _, _, _, _, _, _, _, _, _, _, _, _, _, _, _], _⟩ _
              rw [show f 3 = _ from h3]
              clear h3
              repeat (first | go_guarded | go_step)
              exact hQ _ _ (Grow.refl _) rfl rfl
            refine obls_cons (fun f w' hR hH Q hQ => ?_) ?_
            · skip
              have h5 := hH.get 0 (119, 5) rfl
              have h6 := hH.get 1 (120, 6) rfl
              have h3 := hH.get 2 (117, 3) rfl
              clear hH
              refine wpList_merge (idx := [none, none, none, none, none, none, none, none, none, none, none, none, none, none, none, none, none, none, none, none, none, none, none, none, none, none, none, none, none, none, none, none, none, none, none, none, none, none, none, none, none, none, none, none, none, none, none, none, none, none, none, none, none, none, none, none, none, none, none, none, none, none, none, none, none, none, none, none, none, none, none, none, none, none, none, none, none, none, none, none, none, none, none, none, none, none, none, none, none, none, none, none, none, none, none, none, none, none, none, none, none, none, none, none, none, none, none, none, none, none, none, none, none, none, none, none, none, some 3, none, some 5, some 6, none, none, none, none, none, none, none, none, none, none, none, none, none, none, none, none, none, none, none, none, none, none, none, none, none, none, none, none, none, none, none, none, none, none, none, none, none, none, none, none, none, none, none, none, none, none, none, none, none, none, none, none, none, none, none, none, none, none, none, none, none, none, none, none, none, none, none, none, none, none, none, none, none, none, none, none, none, none, none, none, none, none, none]) (by kernel_rfl) ?_; show wpList _ _ _ [_] ⟨#[_, _, _, _, _, _, _, _, _, _, _, _, _, _, _, _, _, _, _, _, _, _, _, _, _, _, _, _, _, _, _, _, _, _, _, _, _, _, _, _, _, _, _, _, _, _, _, _, _, _, _, _, _, _, _, _, _, _, _, _, _, _, _, _, _, _, _, _, _, _, _, _, _, _, _, _, _, _, _, _, _, _, _, _, _, _, _, _, _, _, _, _, _, _, _, _, _, _, _, _, _, _, _, _, _, _, _, _, _, _, _, _, _, _, _, _, _, f 3, _, f 5, f 6, _, _, _, _, _, _, _, _, _, _, _, _, _, _, _, _, _, _, _, _, _, _, _, _, _, _, _, _, _, _, _, _, _, _, _, _, _, _, _, _, _, _, _, _, _, _, _, _, _, _, _, _, _, _, _, _, _, _, _, _, _, _, _, _, _, _, _, _, _, _, _, _, _, _, _, _, _, _, _, _, _, _, _], _⟩ _
              rw [show f 5 = _ from h5]
              rw [show f 6 = _ from h6]
              rw [show f 3 = _ from h3]
              clear h5 h6 h3
              repeat (first | go_guarded | go_step)
              exact hQ _ _ (Grow.refl _) rfl rfl
            refine obls_cons (fun f w' hR hH Q hQ => ?_) ?_
            · skip
              have h7 := hH.get 0 (121, 7) rfl
              have h3 := hH.get 1 (117, 3) rfl
              clear hH
              refine wpList_view ?_; show wpList _ _ _ [_] ⟨#[_, _, _, _, _, _, _, _, _, _, _, _, _, _, _, _, _, _, _, _, _, _, _, _, _, _, _, _, _, _, _, _, _, _, _, _, _, _, _, _, _, _, _, _, _, _, _, _, _, _, _, _, _, _, _, _, _, _, _, _, _, _, _, _, _, _, _, _, _, _, _, _, _, _, _, _, _, _, _, _, _, _, _, _, _, _, _, _, _, _, _, _, _, _, _, _, _, _, _, _, _, _, _, _, _, _, _, _, _, _, _, _, _, _, _, _, _, f 3, _, _, _, f 7, _, _, _, _, _, _, _, _, _, _, _, _, _, _, _, _, _, _, _, _, _, _, _, _, _, _, _, _, _, _, _, _, _, _, _, _, _, _, _, _, _, _, _, _, _, _, _, _, _, _, _, _, _, _, _, _, _, _, _, _, _, _, _, _, _, _, _, _, _, _, _, _, _, _, _, _, _, _, _, _, _, _], _⟩ _
              rw [show f 7 = _ from h7]
              rw [show f 3 = _ from h3]
              clear h7 h3
              repeat (first | go_guarded | go_step)
              exact hQ _ _ (Grow.refl _) rfl rfl
            refine obls_cons (fun f w' hR hH Q hQ => ?_) ?_
            · skip
              have h8 := hH.get 0 (122, 8) rfl
              have h3 := hH.get 1 (117, 3) rfl
              clear hH
              refine wpList_view ?_; show wpList _ _ _ [_] ⟨#[_, _, _, _, _, _, _, _, _, _, _, _, _, _, _, _, _, _, _, _, _, _, _, _, _, _, _, _, _, _, _, _, _, _, _, _, _, _, _, _, _, _, _, _, _, _, _, _, _, _, _, _, _, _, _, _, _, _, _, _, _, _, _, _, _, _, _, _, _, _, _, _, _, _, _, _, _, _, _, _, _, _, _, _, _, _, _, _, _, _, _, _, _, _, _, _, _, _, _, _, _, _, _, _, _, _, _, _, _, _, _, _, _, _, _, _, _, f 3, _, _, _, _, f 8, _, _, _, _, _, _, _, _, _, _, _, _, _, _, _, _, _, _, _, _, _, _, _, _, _, _, _, _, _, _, _, _, _, _, _, _, _, _, _, _, _, _, _, _, _, _, _, _, _, _, _, _, _, _, _, _, _, _, _, _, _, _, _, _, _, _, _, _, _, _, _, _, _, _, _, _, _, _, _, _, _], _⟩ _
              rw [show f 8 = _ from h8]
              rw [show f 3 = _ from h3]
              clear h8 h3
              have y1 := ((HP6.out.grow hR).g).cell HQ1.out
              repeat (first | go_guarded | go_step)
              exact hQ _ _ (Grow.refl _) rfl rfl
            refine obls_cons (fun f w' hR hH Q hQ => ?_) ?_
            · skip
              have h4 := hH.get 0 (118, 4) rfl
              have h9 := hH.get 1 (123, 9) rfl
              have h3 := hH.get 2 (117, 3) rfl
              clear hH
              refine wpList_merge (idx := [none, none, none, none, none, none, none, none, none, none, none, none, none, none, none, none, none, none, none, none, none, none, none, none, none, none, none, none, none, none, none, none, none, none, none, none, none, none, none, none, none, none, none, none, none, none, none, none, none, none, none, none, none, none, none, none, none, none, none, none, none, none, none, none, none, none, none, none, none, none, none, none, none, none, none, none, none, none, none, none, none, none, none, none, none, none, none, none, none, none, none, none, none, none, none, none, none, none, none, none, none, none, none, none, none, none, none, none, none, none, none, none, none, none, none, none, none, some 3, some 4, none, none, none, none, some 9, none, none, none, none, none, none, none, none, none, none, none, none, none, none, none, none, none, none, none, none, none, none, none, none, none, none, none, none, none, none, none, none, none, none, none, none, none, none, none, none, none, none, none, none, none, none, none, none, none, none, none, none, none, none, none, none, none, none, none, none, none, none, none, none, none, none, none, none, none, none, none, none, none, none, none, none, none, none, none, none]) (by kernel_rfl) ?_; show wpList _ _ _ [_] ⟨#[_, _, _, _, _, _, _, _, _, _, _, _, _, _, _, _, _, _, _, _, _, _, _, _, _, _, _, _, _, _, _, _, _, _, _, _, _, _, _, _, _, _, _, _, _, _, _, _, _, _, _, _, _, _, _, _, _, _, _, _, _, _, _, _, _, _, _, _, _, _, _, _, _, _, _, _, _, _, _, _, _, _, _, _, _, _, _, _, _, _, _, _, _, _, _, _, _, _, _, _, _, _, _, _, _, _, _, _, _, _, _, _, _, _, _, _, _, f 3, f 4, _, _, _, _, f 9, _, _, _, _, _, _, _, _, _, _, _, _, _, _, _, _, _, _, _, _, _, _, _, _, _, _, _, _, _, _, _, _, _, _, _, _, _, _, _, _, _, _, _, _, _, _, _, _, _, _, _, _, _, _, _, _, _, _, _, _, _, _, _, _, _, _, _, _, _, _, _, _, _, _, _, _, _, _, _, _], _⟩ _
              rw [show f 4 = _ from h4]
              rw [show f 9 = _ from h9]
              rw [show f 3 = _ from h3]
              clear h4 h9 h3
              go_wp2_with (go_at_call 28; refine (HC1.out w' hR).mono ?_; rintro e w1 ⟨rfl, rfl⟩)
              exact hQ _ _ (Grow.refl _) rfl rfl
            refine obls_cons (fun f w' hR hH Q hQ => ?_) ?_
            · skip
              have h3 := hH.get 0 (117, 3) rfl
              clear hH
              refine wpList_view ?_; show wpList _ _ _ [_] ⟨#[_, _, _, _, _, _, _, _, _, _, _, _, _, _, _, _, _, _, _, _, _, _, _, _, _, _, _, _, _, _, _, _, _, _, _, _, _, _, _, _, _, _, _, _, _, _, _, _, _, _, _, _, _, _, _, _, _, _, _, _, _, _, _, _, _, _, _, _, _, _, _, _, _, _, _, _, _, _, _, _, _, _, _, _, _, _, _, _, _, _, _, _, _, _, _, _, _, _, _, _, _, _, _, _, _, _, _, _, _, _, _, _, _, _, _, _, _, f 3, _, _, _, _, _, _, _, _, _, _, _, _, _, _, _, _, _, _, _, _, _, _, _, _, _, _, _, _, _, _, _, _, _, _, _, _, _, _, _, _, _, _, _, _, _, _, _, _, _, _, _, _, _, _, _, _, _, _, _, _, _, _, _, _, _, _, _, _, _, _, _, _, _, _, _, _, _, _, _, _, _, _, _, _, _, _], _⟩ _
              rw [show f 3 = _ from h3]
              clear h3
              have hb := HB9.out.grow hR
              go_wp2_with (refine load_blk rfl _ _ rfl g9 rfl _ _ _ hb undX rfl (by rw [sizeX]; rfl) ?_)
              exact hQ _ _ (Grow.refl _) rfl rfl
            refine obls_cons (fun f w' hR hH Q hQ => ?_) ?_
            · skip
              have h3 := hH.get 0 (117, 3) rfl
              clear hH
              refine wpList_view ?_; show wpList _ _ _ [_] ⟨#[_, _, _, _, _, _, _, _, _, _, _, _, _, _, _, _, _, _, _, _, _, _, _, _, _, _, _, _, _, _, _, _, _, _, _, _, _, _, _, _, _, _, _, _, _, _, _, _, _, _, _, _, _, _, _, _, _, _, _, _, _, _, _, _, _, _, _, _, _, _, _, _, _, _, _, _, _, _, _, _, _, _, _, _, _, _, _, _, _, _, _, _, _, _, _, _, _, _, _, _, _, _, _, _, _, _, _, _, _, _, _, _, _, _, _, _, _, f 3, _, _, _, _, _, _, _, _, _, _, _, _, _, _, _, _, _, _, _, _, _, _, _, _, _, _, _, _, _, _, _, _, _, _, _, _, _, _, _, _, _, _, _, _, _, _, _, _, _, _, _, _, _, _, _, _, _, _, _, _, _, _, _, _, _, _, _, _, _, _, _, _, _, _, _, _, _, _, _, _, _, _, _, _, _, _], _⟩ _
              rw [show f 3 = _ from h3]
              clear h3
              repeat (first | go_guarded | go_step)
              exact hQ _ _ (Grow.refl _) rfl rfl
            refine obls_cons (fun f w' hR hH Q hQ => ?_) ?_
            · skip
              have h3 := hH.get 0 (117, 3) rfl
              clear hH
              refine wpList_view ?_; show wpList _ _ _ [_] ⟨#[_, _, _, _, _, _, _, _, _, _, _, _, _, _, _, _, _, _, _, _, _, _, _, _, _, _, _, _, _, _, _, _, _, _, _, _, _, _, _, _, _, _, _, _, _, _, _, _, _, _, _, _, _, _, _, _, _, _, _, _, _, _, _, _, _, _, _, _, _, _, _, _, _, _, _, _, _, _, _, _, _, _, _, _, _, _, _, _, _, _, _, _, _, _, _, _, _, _, _, _, _, _, _, _, _, _, _, _, _, _, _, _, _, _, _, _, _, f 3, _, _, _, _, _, _, _, _, _, _, _, _, _, _, _, _, _, _, _, _, _, _, _, _, _, _, _, _, _, _, _, _, _, _, _, _, _, _, _, _, _, _, _, _, _, _, _, _, _, _, _, _, _, _, _, _, _, _, _, _, _, _, _, _, _, _, _, _, _, _, _, _, _, _, _, _, _, _, _, _, _, _, _, _, _, _], _⟩ _
              rw [show f 3 = _ from h3]
              clear h3
              repeat (first | go_guarded | go_step)
              exact hQ _ _ (Grow.refl _) rfl rfl
            refine obls_cons (fun f w' hR hH Q hQ => ?_) ?_
            · skip
              have h12 := hH.get 0 (126, 12) rfl
              have h13 := hH.get 1 (127, 13) rfl
              have h3 := hH.get 2 (117, 3) rfl
              clear hH
              refine wpList_merge (idx := [none, none, none, none, none, none, none, none, none, none, none, none, none, none, none, none, none, none, none, none, none, none, none, none, none, none, none, none, none, none, none, none, none, none, none, none, none, none, none, none, none, none, none, none, none, none, none, none, none, none, none, none, none, none, none, none, none, none, none, none, none, none, none, none, none, none, none, none, none, none, none, none, none, none, none, none, none, none, none, none, none, none, none, none, none, none, none, none, none, none, none, none, none, none, none, none, none, none, none, none, none, none, none, none, none, none, none, none, none, none, none, none, none, none, none, none, none, some 3, none, none, none, none, none, none, none, none, some 12, some 13, none, none, none, none, none, none, none, none, none, none, none, none, none, none, none, none, none, none, none, none, none, none, none, none, none, none, none, none, none, none, none, none, none, none, none, none, none, none, none, none, none, none, none, none, none, none, none, none, none, none, none, none, none, none, none, none, none, none, none, none, none, none, none, none, none, none, none, none, none, none, none, none, none, none, none, none]) (by kernel_rfl) ?_; show wpList _ _ _ [_] ⟨#[_, _, _, _, _, _, _, _, _, _, _, _, _, _, _, _, _, _, _, _, _, _, _, _, _, _, _, _, _, _, _, _, _, _, _, _, _, _, _, _, _, _, _, _, _, _, _, _, _, _, _, _, _, _, _, _, _, _, _, _, _, _, _, _, _, _, _, _, _, _, _, _, _, _, _, _, _, _, _, _, _, _, _, _, _, _, _, _, _, _, _, _, _, _, _, _, _, _, _, _, _, _, _, _, _, _, _, _, _, _, _, _, _, _, _, _, _, f 3, _, _, _, _, _, _, _, _, f 12, f 13, _, _, _, _, _, _, _, _, _, _, _, _, _, _, _, _, _, _, _, _, _, _, _, _, _, _, _, _, _, _, _, _, _, _, _, _, _, _, _, _, _, _, _, _, _, _, _, _, _, _, _, _, _, _, _, _, _, _, _, _, _, _, _, _, _, _, _, _, _, _, _, _, _, _, _, _], _⟩ _
              rw [show f 12 = _ from h12]
              rw [show f 13 = _ from h13]
              rw [show f 3 = _ from h3]
              clear h12 h13 h3
              repeat (first | go_guarded | go_step)
              exact hQ _ _ (Grow.refl _) rfl rfl
            refine obls_cons (fun f w' hR hH Q hQ => ?_) ?_
            · skip
              have h14 := hH.get 0 (128, 14) rfl
              have h3 := hH.get 1 (117, 3) rfl
              clear hH
              refine wpList_view ?_; show wpList _ _ _ [_] ⟨#[_, _, _, _, _, _, _, _, _, _, _, _, _, _, _, _, _, _, _, _, _, _, _, _, _, _, _, _, _, _, _, _, _, _, _, _, _, _, _, _, _, _, _, _, _, _, _, _, _, _, _, _, _, _, _, _, _, _, _, _, _, _, _, _, _, _, _, _, _, _, _, _, _, _, _, _, _, _, _, _, _, _, _, _, _, _, _, _, _, _, _, _, _, _, _, _, _, _, _, _, _, _, _, _, _, _, _, _, _, _, _, _, _, _, _, _, _, f 3, _, _, _, _, _, _, _, _, _, _, f 14, _, _, _, _, _, _, _, _, _, _, _, _, _, _, _, _, _, _, _, _, _, _, _, _, _, _, _, _, _, _, _, _, _, _, _, _, _, _, _, _, _, _, _, _, _, _, _, _, _, _, _, _, _, _, _, _, _, _, _, _, _, _, _, _, _, _, _, _, _, _, _, _, _, _, _], _⟩ _
              rw [show f 14 = _ from h14]
              rw [show f 3 = _ from h3]
              clear h14 h3
              repeat (first | go_guarded | go_step)
              exact hQ _ _ (Grow.refl _) rfl rfl
            refine obls_cons (fun f w' hR hH Q hQ => ?_) ?_
            · skip
              have h15 := hH.get 0 (129, 15) rfl
              have h3 := hH.get 1 (117, 3) rfl
              clear hH
              refine wpList_view ?_; show wpList _ _ _ [_] ⟨#[_, _, _, _, _, _, _, _, _, _, _, _, _, _, _, _, _, _, _, _, _, _, _, _, _, _, _, _, _, _, _, _, _, _, _, _, _, _, _, _, _, _, _, _, _, _, _, _, _, _, _, _, _, _, _, _, _, _, _, _, _, _, _, _, _, _, _, _, _, _, _, _, _, _, _, _, _, _, _, _, _, _, _, _, _, _, _, _, _, _, _, _, _, _, _, _, _, _, _, _, _, _, _, _, _, _, _, _, _, _, _, _, _, _, _, _, _, f 3, _, _, _, _, _, _, _, _, _, _, _, f 15, _, _, _, _, _, _, _, _, _, _, _, _, _, _, _, _, _, _, _, _, _, _, _, _, _, _, _, _, _, _, _, _, _, _, _, _, _, _, _, _, _, _, _, _, _, _, _, _, _, _, _, _, _, _, _, _, _, _, _, _, _, _, _, _, _, _, _, _, _, _, _, _, _, _], _⟩ _
              rw [show f 15 = _ from h15]
              rw [show f 3 = _ from h3]
              clear h15 h3
              have y1 := ((HP6.out.grow hR).g).cell HQ1.out
              repeat (first | go_guarded | go_step)
              exact hQ _ _ (Grow.refl _) rfl rfl
            refine obls_cons (fun f w' hR hH Q hQ => ?_) ?_
            · skip
              have h11 := hH.get 0 (125, 11) rfl
              have h16 := hH.get 1 (130, 16) rfl
              have h3 := hH.get 2 (117, 3) rfl
              clear hH
              refine wpList_merge (idx := [none, none, none, none, none, none, none, none, none, none, none, none, none, none, none, none, none, none, none, none, none, none, none, none, none, none, none, none, none, none, none, none, none, none, none, none, none, none, none, none, none, none, none, none, none, none, none, none, none, none, none, none, none, none, none, none, none, none, none, none, none, none, none, none, none, none, none, none, none, none, none, none, none, none, none, none, none, none, none, none, none, none, none, none, none, none, none, none, none, none, none, none, none, none, none, none, none, none, none, none, none, none, none, none, none, none, none, none, none, none, none, none, none, none, none, none, none, some 3, none, none, none, none, none, none, none, some 11, none, none, none, none, some 16, none, none, none, none, none, none, none, none, none, none, none, none, none, none, none, none, none, none, none, none, none, none, none, none, none, none, none, none, none, none, none, none, none, none, none, none, none, none, none, none, none, none, none, none, none, none, none, none, none, none, none, none, none, none, none, none, none, none, none, none, none, none, none, none, none, none, none, none, none, none, none, none, none]) (by kernel_rfl) ?_; show wpList _ _ _ [_] ⟨#[_, _, _, _, _, _, _, _, _, _, _, _, _, _, _, _, _, _, _, _, _, _, _, _, _, _, _, _, _, _, _, _, _, _, _, _, _, _, _, _, _, _, _, _, _, _, _, _, _, _, _, _, _, _, _, _, _, _, _, _, _, _, _, _, _, _, _, _, _, _, _, _, _, _, _, _, _, _, _, _, _, _, _, _, _, _, _, _, _, _, _, _, _, _, _, _, _, _, _, _, _, _, _, _, _, _, _, _, _, _, _, _, _, _, _, _, _, f 3, _, _, _, _, _, _, _, f 11, _, _, _, _, f 16, _, _, _, _, _, _, _, _, _, _, _, _, _, _, _, _, _, _, _, _, _, _, _, _, _, _, _, _, _, _, _, _, _, _, _, _, _, _, _, _, _, _, _, _, _, _, _, _, _, _, _, _, _, _, _, _, _, _, _, _, _, _, _, _, _, _, _, _, _, _, _, _, _], _⟩ _
              rw [show f 11 = _ from h11]
              rw [show f 16 = _ from h16]
              rw [show f 3 = _ from h3]
              clear h11 h16 h3
              go_wp2_with (go_at_call 29; refine (HC2.out w' hR).mono ?_; rintro e w1 ⟨rfl, hg1⟩)
              exact hQ _ _ hg1 rfl rfl
            refine obls_cons (fun f w' hR hH Q hQ => ?_) ?_
            · skip
              have h10 := hH.get 0 (124, 10) rfl
              have h17 := hH.get 1 (131, 17) rfl
              have h3 := hH.get 2 (117, 3) rfl
              clear hH
              refine wpList_merge (idx := [none, none, none, none, none, none, none, none, none, none, none, none, none, none, none, none, none, none, none, none, none, none, none, none, none, none, none, none, none, none, none, none, none, none, none, none, none, none, none, none, none, none, none, none, none, none, none, none, none, none, none, none, none, none, none, none, none, none, none, none, none, none, none, none, none, none, none, none, none, none, none, none, none, none, none, none, none, none, none, none, none, none, none, none, none, none, none, none, none, none, none, none, none, none, none, none, none, none, none, none, none, none, none, none, none, none, none, none, none, none, none, none, none, none, none, none, none, some 3, none, none, none, none, none, none, some 10, none, none, none, none, none, none, some 17, none, none, none, none, none, none, none, none, none, none, none, none, none, none, none, none, none, none, none, none, none, none, none, none, none, none, none, none, none, none, none, none, none, none, none, none, none, none, none, none, none, none, none, none, none, none, none, none, none, none, none, none, none, none, none, none, none, none, none, none, none, none, none, none, none, none, none, none, none, none, none, none]) (by kernel_rfl) ?_; show wpList _ _ _ [_] ⟨#[_, _, _, _, _, _, _, _, _, _, _, _, _, _, _, _, _, _, _, _, _, _, _, _, _, _, _, _, _, _, _, _, _, _, _, _, _, _, _, _, _, _, _, _, _, _, _, _, _, _, _, _, _, _, _, _, _, _, _, _, _, _, _, _, _, _, _, _, _, _, _, _, _, _, _, _, _, _, _, _, _, _, _, _, _, _, _, _, _, _, _, _, _, _, _, _, _, _, _, _, _, _, _, _, _, _, _, _, _, _, _, _, _, _, _, _, _, f 3, _, _, _, _, _, _, f 10, _, _, _, _, _, _, f 17, _, _, _, _, _, _, _, _, _, _, _, _, _, _, _, _, _, _, _, _, _, _, _, _, _, _, _, _, _, _, _, _, _, _, _, _, _, _, _, _, _, _, _, _, _, _, _, _, _, _, _, _, _, _, _, _, _, _, _, _, _, _, _, _, _, _, _, _, _, _, _, _], _⟩ _
              rw [show f 10 = _ from h10]
              rw [show f 17 = _ from h17]
              rw [show f 3 = _ from h3]
              clear h10 h17 h3
              repeat (first | go_guarded | go_step)
              exact hQ _ _ (Grow.refl _) rfl rfl
            refine obls_cons (fun f w' hR hH Q hQ => ?_) ?_
            · skip
              have h3 := hH.get 0 (117, 3) rfl
              have h18 := hH.get 1 (132, 18) rfl
              clear hH
              refine wpList_view ?_; show wpList _ _ _ [_] ⟨#[_, _, _, _, _, _, _, _, _, _, _, _, _, _, _, _, _, _, _, _, _, _, _, _, _, _, _, _, _, _, _, _, _, _, _, _, _, _, _, _, _, _, _, _, _, _, _, _, _, _, _, _, _, _, _, _, _, _, _, _, _, _, _, _, _, _, _, _, _, _, _, _, _, _, _, _, _, _, _, _, _, _, _, _, _, _, _, _, _, _, _, _, _, _, _, _, _, _, _, _, _, _, _, _, _, _, _, _, _, _, _, _, _, _, _, _, _, f 3, _, _, _, _, _, _, _, _, _, _, _, _, _, _, f 18, _, _, _, _, _, _, _, _, _, _, _, _, _, _, _, _, _, _, _, _, _, _, _, _, _, _, _, _, _, _, _, _, _, _, _, _, _, _, _, _, _, _, _, _, _, _, _, _, _, _, _, _, _, _, _, _, _, _, _, _, _, _, _, _, _, _, _, _, _, _, _], _⟩ _
              rw [show f 3 = _ from h3]
              rw [show f 18 = _ from h18]
              clear h3 h18
              repeat (first | go_guarded | go_step)
              exact hQ _ _ (Grow.refl _) rfl rfl
            refine obls_cons (fun f w' hR hH Q hQ => ?_) ?_
            · skip
              have h19 := hH.get 0 (133, 19) rfl
              clear hH
              refine wpList_view ?_; show wpList _ _ _ [_] ⟨#[_, _, _, _, _, _, _, _, _, _, _, _, _, _, _, _, _, _, _, _, _, _, _, _, _, _, _, _, _, _, _, _, _, _, _, _, _, _, _, _, _, _, _, _, _, _, _, _, _, _, _, _, _, _, _, _, _, _, _, _, _, _, _, _, _, _, _, _, _, _, _, _, _, _, _, _, _, _, _, _, _, _, _, _, _, _, _, _, _, _, _, _, _, _, _, _, _, _, _, _, _, _, _, _, _, _, _, _, _, _, _, _, _, _, _, _, _, _, _, _, _, _, _, _, _, _, _, _, _, _, _, _, _, f 19, _, _, _, _, _, _, _, _, _, _, _, _, _, _, _, _, _, _, _, _, _, _, _, _, _, _, _, _, _, _, _, _, _, _, _, _, _, _, _, _, _, _, _, _, _, _, _, _, _, _, _, _, _, _, _, _, _, _, _, _, _, _, _, _, _, _, _, _, _, _], _⟩ _
              rw [show f 19 = _ from h19]
              clear h19
              repeat (first | go_guarded | go_step)
              exact hQ _ _ (Grow.refl _) rfl rfl
            refine obls_cons (fun f w' hR hH Q hQ => ?_) ?_
            · skip
              have h20 := hH.get 0 (134, 20) rfl
              clear hH
              refine wpList_view ?_; show wpList _ _ _ [_] ⟨#[_, _, _, _, _, _, _, _, _, _, _, _, _, _, _, _, _, _, _, _, _, _, _, _, _, _, _, _, _, _, _, _, _, _, _, _, _, _, _, _, _, _, _, _, _, _, _, _, _, _, _, _, _, _, _, _, _, _, _, _, _, _, _, _, _, _, _, _, _, _, _, _, _, _, _, _, _, _, _, _, _, _, _, _, _, _, _, _, _, _, _, _, _, _, _, _, _, _, _, _, _, _, _, _, _, _, _, _, _, _, _, _, _, _, _, _, _, _, _, _, _, _, _, _, _, _, _, _, _, _, _, _, _, _, f 20, _, _, _, _, _, _, _, _, _, _, _, _, _, _, _, _, _, _, _, _, _, _, _, _, _, _, _, _, _, _, _, _, _, _, _, _, _, _, _, _, _, _, _, _, _, _, _, _, _, _, _, _, _, _, _, _, _, _, _, _, _, _, _, _, _, _, _, _, _], _⟩ _
              rw [show f 20 = _ from h20]
              clear h20
              repeat (first | go_guarded | go_step)
              exact hQ _ _ (Grow.refl _) rfl rfl
            refine obls_cons (fun f w' hR hH Q hQ => ?_) ?_
            · skip
              have h20 := hH.get 0 (134, 20) rfl
              clear hH
              refine wpList_view ?_; show wpList _ _ _ [_] ⟨#[_, _, _, _, _, _, _, _, _, _, _, _, _, _, _, _, _, _, _, _, _, _, _, _, _, _, _, _, _, _, _, _, _, _, _, _, _, _, _, _, _, _, _, _, _, _, _, _, _, _, _, _, _, _, _, _, _, _, _, _, _, _, _, _, _, _, _, _, _, _, _, _, _, _, _, _, _, _, _, _, _, _, _, _, _, _, _, _, _, _, _, _, _, _, _, _, _, _, _, _, _, _, _, _, _, _, _, _, _, _, _, _, _, _, _, _, _, _, _, _, _, _, _, _, _, _, _, _, _, _, _, _, _, _, f 20, _, _, _, _, _, _, _, _, _, _, _, _, _, _, _, _, _, _, _, _, _, _, _, _, _, _, _, _, _, _, _, _, _, _, _, _, _, _, _, _, _, _, _, _, _, _, _, _, _, _, _, _, _, _, _, _, _, _, _, _, _, _, _, _, _, _, _, _, _], _⟩ _
              rw [show f 20 = _ from h20]
              clear h20
              repeat (first | go_guarded | go_step)
              exact hQ _ _ (Grow.refl _) rfl rfl
            refine obls_cons (fun f w' hR hH Q hQ => ?_) ?_
            · skip
              have h20 := hH.get 0 (134, 20) rfl
              clear hH
              refine wpList_view ?_; show wpList _ _ _ [_] ⟨#[_, _, _, _, _, _, _, _, _, _, _, _, _, _, _, _, _, _, _, _, _, _, _, _, _, _, _, _, _, _, _, _, _, _, _, _, _, _, _, _, _, _, _, _, _, _, _, _, _, _, _, _, _, _, _, _, _, _, _, _, _, _, _, _, _, _, _, _, _, _, _, _, _, _, _, _, _, _, _, _, _, _, _, _, _, _, _, _, _, _, _, _, _, _, _, _, _, _, _, _, _, _, _, _, _, _, _, _, _, _, _, _, _, _, _, _, _, _, _, _, _, _, _, _, _, _, _, _, _, _, _, _, _, _, f 20, _, _, _, _, _, _, _, _, _, _, _, _, _, _, _, _, _, _, _, _, _, _, _, _, _, _, _, _, _, _, _, _, _, _, _, _, _, _, _, _, _, _, _, _, _, _, _, _, _, _, _, _, _, _, _, _, _, _, _, _, _, _, _, _, _, _, _, _, _], _⟩ _
              rw [show f 20 = _ from h20]
              clear h20
              repeat (first | go_guarded | go_step)
              exact hQ _ _ (Grow.refl _) rfl rfl
            refine obls_cons (fun f w' hR hH Q hQ => ?_) ?_
            · skip
              have h22 := hH.get 0 (136, 22) rfl
              have h23 := hH.get 1 (137, 23) rfl
              have h20 := hH.get 2 (134, 20) rfl
              clear hH
              refine wpList_merge (idx := [none, none, none, none, none, none, none, none, none, none, none, none, none, none, none, none, none, none, none, none, none, none, none, none, none, none, none, none, none, none, none, none, none, none, none, none, none, none, none, none, none, none, none, none, none, none, none, none, none, none, none, none, none, none, none, none, none, none, none, none, none, none, none, none, none, none, none, none, none, none, none, none, none, none, none, none, none, none, none, none, none, none, none, none, none, none, none, none, none, none, none, none, none, none, none, none, none, none, none, none, none, none, none, none, none, none, none, none, none, none, none, none, none, none, none, none, none, none, none, none, none, none, none, none, none, none, none, none, none, none, none, none, none, none, some 20, none, some 22, some 23, none, none, none, none, none, none, none, none, none, none, none, none, none, none, none, none, none, none, none, none, none, none, none, none, none, none, none, none, none, none, none, none, none, none, none, none, none, none, none, none, none, none, none, none, none, none, none, none, none, none, none, none, none, none, none, none, none, none, none, none, none, none, none, none, none, none]) (by kernel_rfl) ?_; show wpList _ _ _ [_] ⟨#[_, _, _, _, _, _, _, _, _, _, _, _, _, _, _, _, _, _, _, _, _, _, _, _, _, _, _, _, _, _, _, _, _, _, _, _, _, _, _, _, _, _, _, _, _, _, _, _, _, _, _, _, _, _, _, _, _, _, _, _, _, _, _, _, _, _, _, _, _, _, _, _, _, _, _, _, _, _, _, _, _, _, _, _, _, _, _, _, _, _, _, _, _, _, _, _, _, _, _, _, _, _, _, _, _, _, _, _, _, _, _, _, _, _, _, _, _, _, _, _, _, _, _, _, _, _, _, _, _, _, _, _, _, _, f 20, _, f 22, f 23, _, _, _, _, _, _, _, _, _, _, _, _, _, _, _, _, _, _, _, _, _, _, _, _, _, _, _, _, _, _, _, _, _, _, _, _, _, _, _, _, _, _, _, _, _, _, _, _, _, _, _, _, _, _, _, _, _, _, _, _, _, _, _, _, _, _], _⟩ _
              rw [show f 22 = _ from h22]
              rw [show f 23 = _ from h23]
              rw [show f 20 = _ from h20]
              clear h22 h23 h20
              repeat (first | go_guarded | go_step)
              exact hQ _ _ (Grow.refl _) rfl rfl
            refine obls_cons (fun f w' hR hH Q hQ => ?_) ?_
            · skip
              have h24 := hH.get 0 (138, 24) rfl
              have h20 := hH.get 1 (134, 20) rfl
              clear hH
              refine wpList_view ?_; show wpList _ _ _ [_] ⟨#[_, _, _, _, _, _, _, _, _, _, _, _, _, _, _, _, _, _, _, _, _, _, _, _, _, _, _, _, _, _, _, _, _, _, _, _, _, _, _, _, _, _, _, _, _, _, _, _, _, _, _, _, _, _, _, _, _, _, _, _, _, _, _, _, _, _, _, _, _, _, _, _, _, _, _, _, _, _, _, _, _, _, _, _, _, _, _, _, _, _, _, _, _, _, _, _, _, _, _, _, _, _, _, _, _, _, _, _, _, _, _, _, _, _, _, _, _, _, _, _, _, _, _, _, _, _, _, _, _, _, _, _, _, _, f 20, _, _, _, f 24, _, _, _, _, _, _, _, _, _, _, _, _, _, _, _, _, _, _, _, _, _, _, _, _, _, _, _, _, _, _, _, _, _, _, _, _, _, _, _, _, _, _, _, _, _, _, _, _, _, _, _, _, _, _, _, _, _, _, _, _, _, _, _, _, _], _⟩ _
              rw [show f 24 = _ from h24]
              rw [show f 20 = _ from h20]
              clear h24 h20
              repeat (first | go_guarded | go_step)
              exact hQ _ _ (Grow.refl _) rfl rfl
            refine obls_cons (fun f w' hR hH Q hQ => ?_) ?_
            · skip
              have h25 := hH.get 0 (139, 25) rfl
              have h20 := hH.get 1 (134, 20) rfl
              clear hH
              refine wpList_view ?_; show wpList _ _ _ [_] ⟨#[_, _, _, _, _, _, _, _, _, _, _, _, _, _, _, _, _, _, _, _, _, _, _, _, _, _, _, _, _, _, _, _, _, _, _, _, _, _, _, _, _, _, _, _, _, _, _, _, _, _, _, _, _, _, _, _, _, _, _, _, _, _, _, _, _, _, _, _, _, _, _, _, _, _, _, _, _, _, _, _, _, _, _, _, _, _, _, _, _, _, _, _, _, _, _, _, _, _, _, _, _, _, _, _, _, _, _, _, _, _, _, _, _, _, _, _, _, _, _, _, _, _, _, _, _, _, _, _, _, _, _, _, _, _, f 20, _, _, _, _, f 25, _, _, _, _, _, _, _, _, _, _, _, _, _, _, _, _, _, _, _, _, _, _, _, _, _, _, _, _, _, _, _, _, _, _, _, _, _, _, _, _, _, _, _, _, _, _, _, _, _, _, _, _, _, _, _, _, _, _, _, _, _, _, _, _], _⟩ _
              rw [show f 25 = _ from h25]
              rw [show f 20 = _ from h20]
              clear h25 h20
              have y1 := ((HP6.out.grow hR).g).cell HQ1.out
              repeat (first | go_guarded | go_step)
              exact hQ _ _ (Grow.refl _) rfl rfl
            refine obls_cons (fun f w' hR hH Q hQ => ?_) ?_
            · skip
              have h21 := hH.get 0 (135, 21) rfl
              have h26 := hH.get 1 (140, 26) rfl
              have h20 := hH.get 2 (134, 20) rfl
              clear hH
              refine wpList_merge (idx := [none, none, none, none, none, none, none, none, none, none, none, none, none, none, none, none, none, none, none, none, none, none, none, none, none, none, none, none, none, none, none, none, none, none, none, none, none, none, none, none, none, none, none, none, none, none, none, none, none, none, none, none, none, none, none, none, none, none, none, none, none, none, none, none, none, none, none, none, none, none, none, none, none, none, none, none, none, none, none, none, none, none, none, none, none, none, none, none, none, none, none, none, none, none, none, none, none, none, none, none, none, none, none, none, none, none, none, none, none, none, none, none, none, none, none, none, none, none, none, none, none, none, none, none, none, none, none, none, none, none, none, none, none, none, some 20, some 21, none, none, none, none, some 26, none, none, none, none, none, none, none, none, none, none, none, none, none, none, none, none, none, none, none, none, none, none, none, none, none, none, none, none, none, none, none, none, none, none, none, none, none, none, none, none, none, none, none, none, none, none, none, none, none, none, none, none, none, none, none, none, none, none, none, none, none, none, none]) (by kernel_rfl) ?_; show wpList _ _ _ [_] ⟨#[_, _, _, _, _, _, _, _, _, _, _, _, _, _, _, _, _, _, _, _, _, _, _, _, _, _, _, _, _, _, _, _, _, _, _, _, _, _, _, _, _, _, _, _, _, _, _, _, _, _, _, _, _, _, _, _, _, _, _, _, _, _, _, _, _, _, _, _, _, _, _, _, _, _, _, _, _, _, _, _, _, _, _, _, _, _, _, _, _, _, _, _, _, _, _, _, _, _, _, _, _, _, _, _, _, _, _, _, _, _, _, _, _, _, _, _, _, _, _, _, _, _, _, _, _, _, _, _, _, _, _, _, _, _, f 20, f 21, _, _, _, _, f 26, _, _, _, _, _, _, _, _, _, _, _, _, _, _, _, _, _, _, _, _, _, _, _, _, _, _, _, _, _, _, _, _, _, _, _, _, _, _, _, _, _, _, _, _, _, _, _, _, _, _, _, _, _, _, _, _, _, _, _, _, _, _, _], _⟩ _
              rw [show f 21 = _ from h21]
              rw [show f 26 = _ from h26]
              rw [show f 20 = _ from h20]
              clear h21 h26 h20
              go_wp2_with (go_at_call 30; refine (HC3.out w' hR).mono ?_; rintro e w1 ⟨rfl, rfl⟩)
              exact hQ _ _ (Grow.refl _) rfl rfl
            refine obls_cons (fun f w' hR hH Q hQ => ?_) ?_
            · skip
              have h20 := hH.get 0 (134, 20) rfl
              clear hH
              refine wpList_view ?_; show wpList _ _ _ [_] ⟨#[_, _, _, _, _, _, _, _, _, _, _, _, _, _, _, _, _, _, _, _, _, _, _, _, _, _, _, _, _, _, _, _, _, _, _, _, _, _, _, _, _, _, _, _, _, _, _, _, _, _, _, _, _, _, _, _, _, _, _, _, _, _, _, _, _, _, _, _, _, _, _, _, _, _, _, _, _, _, _, _, _, _, _, _, _, _, _, _, _, _, _, _, _, _, _, _, _, _, _, _, _, _, _, _, _, _, _, _, _, _, _, _, _, _, _, _, _, _, _, _, _, _, _, _, _, _, _, _, _, _, _, _, _, _, f 20, _, _, _, _, _, _, _, _, _, _, _, _, _, _, _, _, _, _, _, _, _, _, _, _, _, _, _, _, _, _, _, _, _, _, _, _, _, _, _, _, _, _, _, _, _, _, _, _, _, _, _, _, _, _, _, _, _, _, _, _, _, _, _, _, _, _, _, _, _], _⟩ _
              rw [show f 20 = _ from h20]
              clear h20
              have hb := HB9.out.grow hR
              go_wp2_with (refine load_blk rfl _ _ rfl g9 rfl _ _ _ hb undX rfl (by rw [sizeX]; rfl) ?_)
              exact hQ _ _ (Grow.refl _) rfl rfl
            refine obls_cons (fun f w' hR hH Q hQ => ?_) ?_
            · skip
              have h20 := hH.get 0 (134, 20) rfl
              clear hH
              refine wpList_view ?_; show wpList _ _ _ [_] ⟨#[_, _, _, _, _, _, _, _, _, _, _, _, _, _, _, _, _, _, _, _, _, _, _, _, _, _, _, _, _, _, _, _, _, _, _, _, _, _, _, _, _, _, _, _, _, _, _, _, _, _, _, _, _, _, _, _, _, _, _, _, _, _, _, _, _, _, _, _, _, _, _, _, _, _, _, _, _, _, _, _, _, _, _, _, _, _, _, _, _, _, _, _, _, _, _, _, _, _, _, _, _, _, _, _, _, _, _, _, _, _, _, _, _, _, _, _, _, _, _, _, _, _, _, _, _, _, _, _, _, _, _, _, _, _, f 20, _, _, _, _, _, _, _, _, _, _, _, _, _, _, _, _, _, _, _, _, _, _, _, _, _, _, _, _, _, _, _, _, _, _, _, _, _, _, _, _, _, _, _, _, _, _, _, _, _, _, _, _, _, _, _, _, _, _, _, _, _, _, _, _, _, _, _, _, _], _⟩ _
              rw [show f 20 = _ from h20]
              clear h20
              repeat (first | go_guarded | go_step)
              exact hQ _ _ (Grow.refl _) rfl rfl
            refine obls_cons (fun f w' hR hH Q hQ => ?_) ?_
            · skip
              have h20 := hH.get 0 (134, 20) rfl
              clear hH
              refine wpList_view ?_; show wpList _ _ _ [_] ⟨#[_, _, _, _, _, _, _, _, _, _, _, _, _, _, _, _, _, _, _, _, _, _, _, _, _, _, _, _, _, _, _, _, _, _, _, _, _, _, _, _, _, _, _, _, _, _, _, _, _, _, _, _, _, _, _, _, _, _, _, _, _, _, _, _, _, _, _, _, _, _, _, _, _, _, _, _, _, _, _, _, _, _, _, _, _, _, _, _, _, _, _, _, _, _, _, _, _, _, _, _, _, _, _, _, _, _, _, _, _, _, _, _, _, _, _, _, _, _, _, _, _, _, _, _, _, _, _, _, _, _, _, _, _, _, f 20, _, _, _, _, _, _, _, _, _, _, _, _, _, _, _, _, _, _, _, _, _, _, _, _, _, _, _, _, _, _, _, _, _, _, _, _, _, _, _, _, _, _, _, _, _, _, _, _, _, _, _, _, _, _, _, _, _, _, _, _, _, _, _, _, _, _, _, _, _], _⟩ _
              rw [show f 20 = _ from h20]
              clear h20
              repeat (first | go_guarded | go_step)
              exact hQ _ _ (Grow.refl _) rfl rfl
            refine obls_cons (fun f w' hR hH Q hQ => ?_) ?_
            · skip
              have h29 := hH.get 0 (143, 29) rfl
              have h30 := hH.get 1 (144, 30) rfl
              have h20 := hH.get 2 (134, 20) rfl
              clear hH
              refine wpList_merge (idx := [none, none, none, none, none, none, none, none, none, none, none, none, none, none, none, none, none, none, none, none, none, none, none, none, none, none, none, none, none, none, none, none, none, none, none, none, none, none, none, none, none, none, none, none, none, none, none, none, none, none, none, none, none, none, none, none, none, none, none, none, none, none, none, none, none, none, none, none, none, none, none, none, none, none, none, none, none, none, none, none, none, none, none, none, none, none, none, none, none, none, none, none, none, none, none, none, none, none, none, none, none, none, none, none, none, none, none, none, none, none, none, none, none, none, none, none, none, none, none, none, none, none, none, none, none, none, none, none, none, none, none, none, none, none, some 20, none, none, none, none, none, none, none, none, some 29, some 30, none, none, none, none, none, none, none, none, none, none, none, none, none, none, none, none, none, none, none, none, none, none, none, none, none, none, none, none, none, none, none, none, none, none, none, none, none, none, none, none, none, none, none, none, none, none, none, none, none, none, none, none, none, none, none, none, none, none, none]) (by kernel_rfl) ?_; show wpList _ _ _ [_] ⟨#[_, _, _, _, _, _, _, _, _, _, _, _, _, _, _, _, _, _, _, _, _, _, _, _, _, _, _, _, _, _, _, _, _, _, _, _, _, _, _, _, _, _, _, _, _, _, _, _, _, _, _, _, _, _, _, _, _, _, _, _, _, _, _, _, _, _, _, _, _, _, _, _, _, _, _, _, _, _, _, _, _, _, _, _, _, _, _, _, _, _, _, _, _, _, _, _, _, _, _, _, _, _, _, _, _, _, _, _, _, _, _, _, _, _, _, _, _, _, _, _, _, _, _, _, _, _, _, _, _, _, _, _, _, _, f 20, _, _, _, _, _, _, _, _, f 29, f 30, _, _, _, _, _, _, _, _, _, _, _, _, _, _, _, _, _, _, _, _, _, _, _, _, _, _, _, _, _, _, _, _, _, _, _, _, _, _, _, _, _, _, _, _, _, _, _, _, _, _, _, _, _, _, _, _, _, _, _], _⟩ _
              rw [show f 29 = _ from h29]
              rw [show f 30 = _ from h30]
              rw [show f 20 = _ from h20]
              clear h29 h30 h20
              repeat (first | go_guarded | go_step)
              exact hQ _ _ (Grow.refl _) rfl rfl
            refine obls_cons (fun f w' hR hH Q hQ => ?_) ?_
            · skip
              have h31 := hH.get 0 (145, 31) rfl
              have h20 := hH.get 1 (134, 20) rfl
              clear hH
              refine wpList_view ?_; show wpList _ _ _ [_] ⟨#[_, _, _, _, _, _, _, _, _, _, _, _, _, _, _, _, _, _, _, _, _, _, _, _, _, _, _, _, _, _, _, _, _, _, _, _, _, _, _, _, _, _, _, _, _, _, _, _, _, _, _, _, _, _, _, _, _, _, _, _, _, _, _, _, _, _, _, _, _, _, _, _, _, _, _, _, _, _, _, _, _, _, _, _, _, _, _, _, _, _, _, _, _, _, _, _, _, _, _, _, _, _, _, _, _, _, _, _, _, _, _, _, _, _, _, _, _, _, _, _, _, _, _, _, _, _, _, _, _, _, _, _, _, _, f 20, _, _, _, _, _, _, _, _, _, _, f 31, _, _, _, _, _, _, _, _, _, _, _, _, _, _, _, _, _, _, _, _, _, _, _, _, _, _, _, _, _, _, _, _, _, _, _, _, _, _, _, _, _, _, _, _, _, _, _, _, _, _, _, _, _, _, _, _, _, _], _⟩ _
              rw [show f 31 = _ from h31]
              rw [show f 20 = _ from h20]
              clear h31 h20
              repeat (first | go_guarded | go_step)
              exact hQ _ _ (Grow.refl _) rfl rfl
            refine obls_cons (fun f w' hR hH Q hQ => ?_) ?_
            · skip
              have h32 := hH.get 0 (146, 32) rfl
              have h20 := hH.get 1 (134, 20) rfl
              clear hH
              refine wpList_view ?_; show wpList _ _ _ [_] ⟨#[_, _, _, _, _, _, _, _, _, _, _, _, _, _, _, _, _, _, _, _, _, _, _, _, _, _, _, _, _, _, _, _, _, _, _, _, _, _, _, _, _, _, _, _, _, _, _, _, _, _, _, _, _, _, _, _, _, _, _, _, _, _, _, _, _, _, _, _, _, _, _, _, _, _, _, _, _, _, _, _, _, _, _, _, _, _, _, _, _, _, _, _, _, _, _, _, _, _, _, _, _, _, _, _, _, _, _, _, _, _, _, _, _, _, _, _, _, _, _, _, _, _, _, _, _, _, _, _, _, _, _, _, _, _, f 20, _, _, _, _, _, _, _, _, _, _, _, f 32, _, _, _, _, _, _, _, _, _, _, _, _, _, _, _, _, _, _, _, _, _, _, _, _, _, _, _, _, _, _, _, _, _, _, _, _, _, _, _, _, _, _, _, _, _, _, _, _, _, _, _, _, _, _, _, _, _], _⟩ _
              rw [show f 32 = _ from h32]
              rw [show f 20 = _ from h20]
              clear h32 h20
              have y1 := ((HP6.out.grow hR).g).cell HQ1.out
              repeat (first | go_guarded | go_step)
              exact hQ _ _ (Grow.refl _) rfl rfl
            refine obls_cons (fun f w' hR hH Q hQ => ?_) ?_
            · skip
              have h28 := hH.get 0 (142, 28) rfl
              have h33 := hH.get 1 (147, 33) rfl
              have h20 := hH.get 2 (134, 20) rfl
              clear hH
              refine wpList_merge (idx := [none, none, none, none, none, none, none, none, none, none, none, none, none, none, none, none, none, none, none, none, none, none, none, none, none, none, none, none, none, none, none, none, none, none, none, none, none, none, none, none, none, none, none, none, none, none, none, none, none, none, none, none, none, none, none, none, none, none, none, none, none, none, none, none, none, none, none, none, none, none, none, none, none, none, none, none, none, none, none, none, none, none, none, none, none, none, none, none, none, none, none, none, none, none, none, none, none, none, none, none, none, none, none, none, none, none, none, none, none, none, none, none, none, none, none, none, none, none, none, none, none, none, none, none, none, none, none, none, none, none, none, none, none, none, some 20, none, none, none, none, none, none, none, some 28, none, none, none, none, some 33, none, none, none, none, none, none, none, none, none, none, none, none, none, none, none, none, none, none, none, none, none, none, none, none, none, none, none, none, none, none, none, none, none, none, none, none, none, none, none, none, none, none, none, none, none, none, none, none, none, none, none, none, none, none, none, none]) (by kernel_rfl) ?_; show wpList _ _ _ [_] ⟨#[_, _, _, _, _, _, _, _, _, _, _, _, _, _, _, _, _, _, _, _, _, _, _, _, _, _, _, _, _, _, _, _, _, _, _, _, _, _, _, _, _, _, _, _, _, _, _, _, _, _, _, _, _, _, _, _, _, _, _, _, _, _, _, _, _, _, _, _, _, _, _, _, _, _, _, _, _, _, _, _, _, _, _, _, _, _, _, _, _, _, _, _, _, _, _, _, _, _, _, _, _, _, _, _, _, _, _, _, _, _, _, _, _, _, _, _, _, _, _, _, _, _, _, _, _, _, _, _, _, _, _, _, _, _, f 20, _, _, _, _, _, _, _, f 28, _, _, _, _, f 33, _, _, _, _, _, _, _, _, _, _, _, _, _, _, _, _, _, _, _, _, _, _, _, _, _, _, _, _, _, _, _, _, _, _, _, _, _, _, _, _, _, _, _, _, _, _, _, _, _, _, _, _, _, _, _, _], _⟩ _
              rw [show f 28 = _ from h28]
              rw [show f 33 = _ from h33]
              rw [show f 20 = _ from h20]
              clear h28 h33 h20
              go_wp2_with (go_at_call 31; refine (HC4.out w' hR).mono ?_; rintro e w1 ⟨rfl, hg1⟩)
              exact hQ _ _ hg1 rfl rfl
            refine obls_cons (fun f w' hR hH Q hQ => ?_) ?_
            · skip
              have h27 := hH.get 0 (141, 27) rfl
              have h34 := hH.get 1 (148, 34) rfl
              have h20 := hH.get 2 (134, 20) rfl
              clear hH
              refine wpList_merge (idx := [none, none, none, none, none, none, none, none, none, none, none, none, none, none, none, none, none, none, none, none, none, none, none, none, none, none, none, none, none, none, none, none, none, none, none, none, none, none, none, none, none, none, none, none, none, none, none, none, none, none, none, none, none, none, none, none, none, none, none, none, none, none, none, none, none, none, none, none, none, none, none, none, none, none, none, none, none, none, none, none, none, none, none, none, none, none, none, none, none, none, none, none, none, none, none, none, none, none, none, none, none, none, none, none, none, none, none, none, none, none, none, none, none, none, none, none, none, none, none, none, none, none, none, none, none, none, none, none, none, none, none, none, none, none, some 20, none, none, none, none, none, none, some 27, none, none, none, none, none, none, some 34, none, none, none, none, none, none, none, none, none, none, none, none, none, none, none, none, none, none, none, none, none, none, none, none, none, none, none, none, none, none, none, none, none, none, none, none, none, none, none, none, none, none, none, none, none, none, none, none, none, none, none, none, none, none, none]) (by kernel_rfl) ?_; show wpList _ _ _ [_] ⟨#[_, _, _, _, _, _, _, _, _, _, _, _, _, _, _, _, _, _, _, _, _, _, _, _, _, _, _, _, _, _, _, _, _, _, _, _, _, _, _, _, _, _, _, _, _, _, _, _, _, _, _, _, _, _, _, _, _, _, _, _, _, _, _, _, _, _, _, _, _, _, _, _, _, _, _, _, _, _, _, _, _, _, _, _, _, _, _, _, _, _, _, _, _, _, _, _, _, _, _, _, _, _, _, _, _, _, _, _, _, _, _, _, _, _, _, _, _, _, _, _, _, _, _, _, _, _, _, _, _, _, _, _, _, _, f 20, _, _, _, _, _, _, f 27, _, _, _, _, _, _, f 34, _, _, _, _, _, _, _, _, _, _, _, _, _, _, _, _, _, _, _, _, _, _, _, _, _, _, _, _, _, _, _, _, _, _, _, _, _, _, _, _, _, _, _, _, _, _, _, _, _, _, _, _, _, _, _], _⟩ _
              rw [show f 27 = _ from h27]
              rw [show f 34 = _ from h34]
              rw [show f 20 = _ from h20]
              clear h27 h34 h20
              repeat (first | go_guarded | go_step)
              exact hQ _ _ (Grow.refl _) rfl rfl
            refine obls_cons (fun f w' hR hH Q hQ => ?_) ?_
            · skip
              have h20 := hH.get 0 (134, 20) rfl
              have h35 := hH.get 1 (149, 35) rfl
              clear hH
              refine wpList_view ?_; show wpList _ _ _ [_] ⟨#[_, _, _, _, _, _, _, _, _, _, _, _, _, _, _, _, _, _, _, _, _, _, _, _, _, _, _, _, _, _, _, _, _, _, _, _, _, _, _, _, _, _, _, _, _, _, _, _, _, _, _, _, _, _, _, _, _, _, _, _, _, _, _, _, _, _, _, _, _, _, _, _, _, _, _, _, _, _, _, _, _, _, _, _, _, _, _, _, _, _, _, _, _, _, _, _, _, _, _, _, _, _, _, _, _, _, _, _, _, _, _, _, _, _, _, _, _, _, _, _, _, _, _, _, _, _, _, _, _, _, _, _, _, _, f 20, _, _, _, _, _, _, _, _, _, _, _, _, _, _, f 35, _, _, _, _, _, _, _, _, _, _, _, _, _, _, _, _, _, _, _, _, _, _, _, _, _, _, _, _, _, _, _, _, _, _, _, _, _, _, _, _, _, _, _, _, _, _, _, _, _, _, _, _, _, _], _⟩ _
              rw [show f 20 = _ from h20]
              rw [show f 35 = _ from h35]
              clear h20 h35
              repeat (first | go_guarded | go_step)
              exact hQ _ _ (Grow.refl _) rfl rfl
            refine obls_cons (fun f w' hR hH Q hQ => ?_) ?_
            · skip
              have h36 := hH.get 0 (150, 36) rfl
              clear hH
              refine wpList_view ?_; show wpList _ _ _ [_] ⟨#[_, _, _, _, _, _, _, _, _, _, _, _, _, _, _, _, _, _, _, _, _, _, _, _, _, _, _, _, _, _, _, _, _, _, _, _, _, _, _, _, _, _, _, _, _, _, _, _, _, _, _, _, _, _, _, _, _, _, _, _, _, _, _, _, _, _, _, _, _, _, _, _, _, _, _, _, _, _, _, _, _, _, _, _, _, _, _, _, _, _, _, _, _, _, _, _, _, _, _, _, _, _, _, _, _, _, _, _, _, _, _, _, _, _, _, _, _, _, _, _, _, _, _, _, _, _, _, _, _, _, _, _, _, _, _, _, _, _, _, _, _, _, _, _, _, _, _, _, _, _, f 36, _, _, _, _, _, _, _, _, _, _, _, _, _, _, _, _, _, _, _, _, _, _, _, _, _, _, _, _, _, _, _, _, _, _, _, _, _, _, _, _, _, _, _, _, _, _, _, _, _, _, _, _, _], _⟩ _
              rw [show f 36 = _ from h36]
              clear h36
              repeat (first | go_guarded | go_step)
              exact hQ _ _ (Grow.refl _) rfl rfl
            refine obls_cons (fun f w' hR hH Q hQ => ?_) ?_
            · skip
              have h37 := hH.get 0 (151, 37) rfl
              clear hH
              refine wpList_view ?_; show wpList _ _ _ [_] ⟨#[_, _, _, _, _, _, _, _, _, _, _, _, _, _, _, _, _, _, _, _, _, _, _, _, _, _, _, _, _, _, _, _, _, _, _, _, _, _, _, _, _, _, _, _, _, _, _, _, _, _, _, _, _, _, _, _, _, _, _, _, _, _, _, _, _, _, _, _, _, _, _, _, _, _, _, _, _, _, _, _, _, _, _, _, _, _, _, _, _, _, _, _, _, _, _, _, _, _, _, _, _, _, _, _, _, _, _, _, _, _, _, _, _, _, _, _, _, _, _, _, _, _, _, _, _, _, _, _, _, _, _, _, _, _, _, _, _, _, _, _, _, _, _, _, _, _, _, _, _, _, _, f 37, _, _, _, _, _, _, _, _, _, _, _, _, _, _, _, _, _, _, _, _, _, _, _, _, _, _, _, _, _, _, _, _, _, _, _, _, _, _, _, _, _, _, _, _, _, _, _, _, _, _, _, _], _⟩ _
              rw [show f 37 = _ from h37]
              clear h37
              repeat (first | go_guarded | go_step)
              exact hQ _ _ (Grow.refl _) rfl rfl
            refine obls_cons (fun f w' hR hH Q hQ => ?_) ?_
            · skip
              have h38 := hH.get 0 (152, 38) rfl
              have h37 := hH.get 1 (151, 37) rfl
              clear hH
              refine wpList_view ?_; show wpList _ _ _ [_] ⟨#[_, _, _, _, _, _, _, _, _, _, _, _, _, _, _, _, _, _, _, _, _, _, _, _, _, _, _, _, _, _, _, _, _, _, _, _, _, _, _, _, _, _, _, _, _, _, _, _, _, _, _, _, _, _, _, _, _, _, _, _, _, _, _, _, _, _, _, _, _, _, _, _, _, _, _, _, _, _, _, _, _, _, _, _, _, _, _, _, _, _, _, _, _, _, _, _, _, _, _, _, _, _, _, _, _, _, _, _, _, _, _, _, _, _, _, _, _, _, _, _, _, _, _, _, _, _, _, _, _, _, _, _, _, _, _, _, _, _, _, _, _, _, _, _, _, _, _, _, _, _, _, f 37, f 38, _, _, _, _, _, _, _, _, _, _, _, _, _, _, _, _, _, _, _, _, _, _, _, _, _, _, _, _, _, _, _, _, _, _, _, _, _, _, _, _, _, _, _, _, _, _, _, _, _, _, _], _⟩ _
              rw [show f 38 = _ from h38]
              rw [show f 37 = _ from h37]
              clear h38 h37
              go_wp2_with (go_at_call 32; refine (HC5.out w' hR).mono ?_; rintro e w1 ⟨rfl, rfl⟩)
              exact hQ _ _ (Grow.refl _) rfl rfl
            refine obls_cons (fun f w' hR hH Q hQ => ?_) ?_
            · skip
              have h37 := hH.get 0 (151, 37) rfl
              clear hH
              refine wpList_view ?_; show wpList _ _ _ [_] ⟨#[_, _, _, _, _, _, _, _, _, _, _, _, _, _, _, _, _, _, _, _, _, _, _, _, _, _, _, _, _, _, _, _, _, _, _, _, _, _, _, _, _, _, _, _, _, _, _, _, _, _, _, _, _, _, _, _, _, _, _, _, _, _, _, _, _, _, _, _, _, _, _, _, _, _, _, _, _, _, _, _, _, _, _, _, _, _, _, _, _, _, _, _, _, _, _, _, _, _, _, _, _, _, _, _, _, _, _, _, _, _, _, _, _, _, _, _, _, _, _, _, _, _, _, _, _, _, _, _, _, _, _, _, _, _, _, _, _, _, _, _, _, _, _, _, _, _, _, _, _, _, _, f 37, _, _, _, _, _, _, _, _, _, _, _, _, _, _, _, _, _, _, _, _, _, _, _, _, _, _, _, _, _, _, _, _, _, _, _, _, _, _, _, _, _, _, _, _, _, _, _, _, _, _, _, _], _⟩ _
              rw [show f 37 = _ from h37]
              clear h37
              repeat (first | go_guarded | go_step)
              exact hQ _ _ (Grow.refl _) rfl rfl
            refine obls_cons (fun f w' hR hH Q hQ => ?_) ?_
            · skip
              have h40 := hH.get 0 (154, 40) rfl
              have h37 := hH.get 1 (151, 37) rfl
              clear hH
              refine wpList_view ?_; show wpList _ _ _ [_] ⟨#[_, _, _, _, _, _, _, _, _, _, _, _, _, _, _, _, _, _, _, _, _, _, _, _, _, _, _, _, _, _, _, _, _, _, _, _, _, _, _, _, _, _, _, _, _, _, _, _, _, _, _, _, _, _, _, _, _, _, _, _, _, _, _, _, _, _, _, _, _, _, _, _, _, _, _, _, _, _, _, _, _, _, _, _, _, _, _, _, _, _, _, _, _, _, _, _, _, _, _, _, _, _, _, _, _, _, _, _, _, _, _, _, _, _, _, _, _, _, _, _, _, _, _, _, _, _, _, _, _, _, _, _, _, _, _, _, _, _, _, _, _, _, _, _, _, _, _, _, _, _, _, f 37, _, _, f 40, _, _, _, _, _, _, _, _, _, _, _, _, _, _, _, _, _, _, _, _, _, _, _, _, _, _, _, _, _, _, _, _, _, _, _, _, _, _, _, _, _, _, _, _, _, _, _, _, _], _⟩ _
              rw [show f 40 = _ from h40]
              rw [show f 37 = _ from h37]
              clear h40 h37
              have y2 := (HB9.out.grow hR).cell (i := 1) rfl
              repeat (first | go_guarded | go_step)
              exact hQ _ _ (Grow.refl _) rfl rfl
            refine obls_cons (fun f w' hR hH Q hQ => ?_) ?_
            · skip
              have h41 := hH.get 0 (155, 41) rfl
              have h37 := hH.get 1 (151, 37) rfl
              clear hH
              refine wpList_view ?_; show wpList _ _ _ [_] ⟨#[_, _, _, _, _, _, _, _, _, _, _, _, _, _, _, _, _, _, _, _, _, _, _, _, _, _, _, _, _, _, _, _, _, _, _, _, _, _, _, _, _, _, _, _, _, _, _, _, _, _, _, _, _, _, _, _, _, _, _, _, _, _, _, _, _, _, _, _, _, _, _, _, _, _, _, _, _, _, _, _, _, _, _, _, _, _, _, _, _, _, _, _, _, _, _, _, _, _, _, _, _, _, _, _, _, _, _, _, _, _, _, _, _, _, _, _, _, _, _, _, _, _, _, _, _, _, _, _, _, _, _, _, _, _, _, _, _, _, _, _, _, _, _, _, _, _, _, _, _, _, _, f 37, _, _, _, f 41, _, _, _, _, _, _, _, _, _, _, _, _, _, _, _, _, _, _, _, _, _, _, _, _, _, _, _, _, _, _, _, _, _, _, _, _, _, _, _, _, _, _, _, _, _, _, _, _], _⟩ _
              rw [show f 41 = _ from h41]
              rw [show f 37 = _ from h37]
              clear h41 h37
              repeat (first | go_guarded | go_step)
              exact hQ _ _ (Grow.refl _) rfl rfl
            refine obls_cons (fun f w' hR hH Q hQ => ?_) ?_
            · skip
              have h39 := hH.get 0 (153, 39) rfl
              have h42 := hH.get 1 (156, 42) rfl
              have h37 := hH.get 2 (151, 37) rfl
              clear hH
              refine wpList_merge (idx := [none, none, none, none, none, none, none, none, none, none, none, none, none, none, none, none, none, none, none, none, none, none, none, none, none, none, none, none, none, none, none, none, none, none, none, none, none, none, none, none, none, none, none, none, none, none, none, none, none, none, none, none, none, none, none, none, none, none, none, none, none, none, none, none, none, none, none, none, none, none, none, none, none, none, none, none, none, none, none, none, none, none, none, none, none, none, none, none, none, none, none, none, none, none, none, none, none, none, none, none, none, none, none, none, none, none, none, none, none, none, none, none, none, none, none, none, none, none, none, none, none, none, none, none, none, none, none, none, none, none, none, none, none, none, none, none, none, none, none, none, none, none, none, none, none, none, none, none, none, none, none, some 37, none, some 39, none, none, some 42, none, none, none, none, none, none, none, none, none, none, none, none, none, none, none, none, none, none, none, none, none, none, none, none, none, none, none, none, none, none, none, none, none, none, none, none, none, none, none, none, none, none, none, none, none, none, none]) (by kernel_rfl) ?_; show wpList _ _ _ [_] ⟨#[_, _, _, _, _, _, _, _, _, _, _, _, _, _, _, _, _, _, _, _, _, _, _, _, _, _, _, _, _, _, _, _, _, _, _, _, _, _, _, _, _, _, _, _, _, _, _, _, _, _, _, _, _, _, _, _, _, _, _, _, _, _, _, _, _, _, _, _, _, _, _, _, _, _, _, _, _, _, _, _, _, _, _, _, _, _, _, _, _, _, _, _, _, _, _, _, _, _, _, _, _, _, _, _, _, _, _, _, _, _, _, _, _, _, _, _, _, _, _, _, _, _, _, _, _, _, _, _, _, _, _, _, _, _, _, _, _, _, _, _, _, _, _, _, _, _, _, _, _, _, _, f 37, _, f 39, _, _, f 42, _, _, _, _, _, _, _, _, _, _, _, _, _, _, _, _, _, _, _, _, _, _, _, _, _, _, _, _, _, _, _, _, _, _, _, _, _, _, _, _, _, _, _, _, _, _, _], _⟩ _
              rw [show f 39 = _ from h39]
              rw [show f 42 = _ from h42]
              rw [show f 37 = _ from h37]
              clear h39 h42 h37
              repeat (first | go_guarded | go_step)
              exact hQ _ _ (Grow.refl _) rfl rfl
            refine obls_cons (fun f w' hR hH Q hQ => ?_) ?_
            · skip
              have h37 := hH.get 0 (151, 37) rfl
              have h43 := hH.get 1 (157, 43) rfl
              clear hH
              refine wpList_view ?_; show wpList _ _ _ [_] ⟨#[_, _, _, _, _, _, _, _, _, _, _, _, _, _, _, _, _, _, _, _, _, _, _, _, _, _, _, _, _, _, _, _, _, _, _, _, _, _, _, _, _, _, _, _, _, _, _, _, _, _, _, _, _, _, _, _, _, _, _, _, _, _, _, _, _, _, _, _, _, _, _, _, _, _, _, _, _, _, _, _, _, _, _, _, _, _, _, _, _, _, _, _, _, _, _, _, _, _, _, _, _, _, _, _, _, _, _, _, _, _, _, _, _, _, _, _, _, _, _, _, _, _, _, _, _, _, _, _, _, _, _, _, _, _, _, _, _, _, _, _, _, _, _, _, _, _, _, _, _, _, _, f 37, _, _, _, _, _, f 43, _, _, _, _, _, _, _, _, _, _, _, _, _, _, _, _, _, _, _, _, _, _, _, _, _, _, _, _, _, _, _, _, _, _, _, _, _, _, _, _, _, _, _, _, _, _], _⟩ _
              rw [show f 37 = _ from h37]
              rw [show f 43 = _ from h43]
              clear h37 h43
              repeat (first | go_guarded | go_step)
              exact hQ _ _ (Grow.refl _) rfl rfl
            exact obls_nil
          case mono => exact ⟨Mono.veq _, Mono.veq _, Mono.veq _, Mono.veq _, Mono.veq _, Mono.veq _, Mono.veq _, Mono.veq _, Mono.veq _, Mono.veq _, Mono.veq _, Mono.veq _, Mono.veq _, Mono.veq _, Mono.veq _, Mono.veq _, Mono.veq _, Mono.veq _, Mono.veq _, Mono.veq _, Mono.veq _, Mono.veq _, Mono.veq _, Mono.veq _, Mono.veq _, Mono.veq _, Mono.veq _, Mono.veq _, Mono.veq _, Mono.veq _, Mono.veq _, Mono.veq _, Mono.veq _, Mono.veq _, Mono.veq _, Mono.veq _, Mono.veq _, Mono.veq _, Mono.veq _, Mono.veq _, Mono.veq _, Mono.veq _, Mono.veq _, Mono.veq _, Mono.veq _, trivial⟩
          case tail =>
            intro f w' hR hH
            have q44 := hH.get 44 (158, 44) rfl
            clear hH
            refine wpList_merge (idx := [none, none, none, none, none, none, none, none, none, none, none, none, none, none, none, none, none, none, none, none, none, none, none, none, none, none, none, none, none, none, none, none, none, none, none, none, none, none, none, none, none, none, none, none, none, none, none, none, none, none, none, none, none, none, none, none, none, none, none, none, none, none, none, none, none, none, none, none, none, none, none, none, none, none, none, none, none, none, none, none, none, none, none, none, none, none, none, none, none, none, none, none, none, none, none, none, none, none, none, none, none, none, none, none, none, none, none, none, none, none, none, none, none, none, some 0, some 1, some 2, some 3, some 4, some 5, some 6, some 7, some 8, some 9, some 10, some 11, some 12, some 13, some 14, some 15, some 16, some 17, some 18, some 19, some 20, some 21, some 22, some 23, some 24, some 25, some 26, some 27, some 28, some 29, some 30, some 31, some 32, some 33, some 34, some 35, some 36, some 37, some 38, some 39, some 40, some 41, some 42, some 43, some 44, none, none, none, none, none, none, none, none, none, none, none, none, none, none, none, none, none, none, none, none, none, none, none, none, none, none, none, none, none, none, none, none, none, none, none, none, none, none, none, none, none, none, none, none, none]) (by kernel_rfl) ?_; show wpList _ _ _ [] ⟨#[_, _, _, _, _, _, _, _, _, _, _, _, _, _, _, _, _, _, _, _, _, _, _, _, _, _, _, _, _, _, _, _, _, _, _, _, _, _, _, _, _, _, _, _, _, _, _, _, _, _, _, _, _, _, _, _, _, _, _, _, _, _, _, _, _, _, _, _, _, _, _, _, _, _, _, _, _, _, _, _, _, _, _, _, _, _, _, _, _, _, _, _, _, _, _, _, _, _, _, _, _, _, _, _, _, _, _, _, _, _, _, _, _, _, f 0, f 1, f 2, f 3, f 4, f 5, f 6, f 7, f 8, f 9, f 10, f 11, f 12, f 13, f 14, f 15, f 16, f 17, f 18, f 19, f 20, f 21, f 22, f 23, f 24, f 25, f 26, f 27, f 28, f 29, f 30, f 31, f 32, f 33, f 34, f 35, f 36, f 37, f 38, f 39, f 40, f 41, f 42, f 43, f 44, _, _, _, _, _, _, _, _, _, _, _, _, _, _, _, _, _, _, _, _, _, _, _, _, _, _, _, _, _, _, _, _, _, _, _, _, _, _, _, _, _, _, _, _, _], _⟩ _
            rw [show f 44 = _ from q44]
            clear q44
            have HRG := Lib.hid hR
            clear hR
            go_wp2_with fail
            go_roundw
            case rel => exact ⟨j + 1, S', T', _, _, by omega, by go_num, HP6.out.grow HRG.out⟩
            case measure => simp [intOf] <;> omega
        case cutA =>
          by_cases hk : kd = 0
          · skip
            have t0a : ((kd : Int) == 0) = true := by subst hk; rfl
            have t0b : (kd == 0) = true := by subst hk; rfl
            have t1a : ((kd : Int) == 1) = false := by subst hk; rfl
            have t1b : (kd == 1) = false := by subst hk; rfl
            have t2a : ((kd : Int) == 2) = false := by subst hk; rfl
            have t2b : (kd == 2) = false := by subst hk; rfl
            have t3a : ((kd : Int) == 3) = false := by subst hk; rfl
            have t3b : (kd == 3) = false := by subst hk; rfl
            clear hk
            obtain ⟨r, hr⟩ : ∃ r, r = (fitB n xi && !memI S xi) := ⟨_, rfl⟩
            obtain ⟨S', hS'⟩ : ∃ S', S' = putS n S xi := ⟨_, rfl⟩
            obtain ⟨Ln, hLn⟩ : ∃ Ln, Ln = elems n S' := ⟨_, rfl⟩
            have hrr : (r != r) = false := bne_self_eq_false r
            have H5 := Lib.hid (put_any wr w.heap.size _ (hs + 1) (some hs) n S HPS.out.ms hFS.out xi)
            have HR5 := Lib.hid hr
            have HS5 := Lib.hid hS'
            have HL5 := Lib.hid hLn
            rw [← hr, ← hS'] at H5
            clear hr hS' hLn
            go_wp2_with fail
            refine H5.out.mono ?_
            rintro e w5 ⟨rfl, m5, k5⟩
            have HP5 := Lib.hid (PI.set HR.out HPS.out HD.out k5 m5)
            clear m5 k5 z0 z1
            have HH : Hid (∀ w', IntsV w' vs (elems n S) → Calls Try.prog 23 #[.agg #[.int .i64 (n : Int), vs], .int .i64 xi] w' fun e w2 => ∃ v', e = .returned (.tuple #[.agg #[.int .i64 (n : Int), v'], .bool r]) ∧ IntsV w2 v' Ln ∧ Grow w' w2) := Lib.hid fun w' hi => by rw [HR5.out, HL5.out, HS5.out, ← putL_elems HGS.out xi, ← badP_elems HGS.out xi]; exact ref_put w' n vs _ hi xi (by have := HLS.out; omega) HN6.out.1
            go_wp2_with fail
            apply (fun (v0 v1 v2 v3 v4 v5 v9 v11 : Value) mono draw obl tail => wp_region_piv (I := I2 (PI w (some ⟨b, off, none⟩) k xs (hs + 1) hs (ht + 1) ht g9 (g9 + 1) n m S' T (elems n S) (elems m T) vs vt) (fun w' => ∃ v9, PI w (some ⟨b, off, none⟩) k xs (hs + 1) hs (ht + 1) ht g9 (g9 + 1) n m S' T Ln (elems m T) v9 vt w')) (G := Grow) (Rp := (fun _ _ _ => True)) (Φ := phi2 [veq2 v0, veq2 v1, veq2 v2, veq2 v3, veq2 v4, veq2 v5, (IsPut (n : Int) r Ln), (IsPut (n : Int) r Ln), (from2 0 (IsSet (n : Int) Ln)), veq2 v9, (veq2 undef), veq2 v11]) (m := 12) (ps := [10]) (qs := [(0, 0, false), (0, 0, false), (0, 0, false), (0, 0, false), (0, 0, false), (0, 0, false), (0, 0, false), (0, 0, false), (0, 0, false), (0, 1, false), (0, 0, true), (1, 1, false)]) (dls := [[], [], [], [(65, 1), (66, 2)], [(67, 3)], [(68, 4)], [(64, 0), (69, 5)], [(70, 6)], [(63, 7)], [(63, 7)], [(71, 8)], [(72, 9)]]) (ds := [64, 65, 66, 67, 68, 69, 70, 63, 71, 72, 215, 13]) (by kernel_rfl) (by kernel_rfl) (by kernel_rfl) (by decide) rfl rfl draw (mono2_phi mono) (piv2_phi mono) obl tail)
            case obl =>
              refine obls2_cons (fun b hb1 hb2 f w' hI hH Q hQ => ?_) ?_
              · skip
                obtain rfl : b = 0 := by omega
                clear hb1 hb2
                clear hH
                refine wpList_view ?_; show wpList _ _ _ [_] ⟨#[_, _, _, _, _, _, _, _, _, _, _, _, _, _, _, _, _, _, _, _, _, _, _, _, _, _, _, _, _, _, _, _, _, _, _, _, _, _, _, _, _, _, _, _, _, _, _, _, _, _, _, _, _, _, _, _, _, _, _, _, _, _, _, _, _, _, _, _, _, _, _, _, _, _, _, _, _, _, _, _, _, _, _, _, _, _, _, _, _, _, _, _, _, _, _, _, _, _, _, _, _, _, _, _, _, _, _, _, _, _, _, _, _, _, _, _, _, _, _, _, _, _, _, _, _, _, _, _, _, _, _, _, _, _, _, _, _, _, _, _, _, _, _, _, _, _, _, _, _, _, _, _, _, _, _, _, _, _, _, _, _, _, _, _, _, _, _, _, _, _, _, _, _, _, _, _, _, _, _, _, _, _, _, _, _, _, _, _, _, _, _, _, _, _, _, _, _, _, _, _, _, _, _, _], _⟩ _
                have HIg := Lib.hid hI
                have hb9 := hI.get0.b9
                clear hI
                go_wp2_with (refine load_blk rfl _ _ rfl g9 rfl _ _ _ hb9 undX rfl (by rw [sizeX]; rfl) ?_)
                exact hQ _ _ HIg.out (Grow.refl _) rfl rfl
              refine obls2_cons (fun b hb1 hb2 f w' hI hH Q hQ => ?_) ?_
              · skip
                obtain rfl : b = 0 := by omega
                clear hb1 hb2
                clear hH
                refine wpList_view ?_; show wpList _ _ _ [_] ⟨#[_, _, _, _, _, _, _, _, _, _, _, _, _, _, _, _, _, _, _, _, _, _, _, _, _, _, _, _, _, _, _, _, _, _, _, _, _, _, _, _, _, _, _, _, _, _, _, _, _, _, _, _, _, _, _, _, _, _, _, _, _, _, _, _, _, _, _, _, _, _, _, _, _, _, _, _, _, _, _, _, _, _, _, _, _, _, _, _, _, _, _, _, _, _, _, _, _, _, _, _, _, _, _, _, _, _, _, _, _, _, _, _, _, _, _, _, _, _, _, _, _, _, _, _, _, _, _, _, _, _, _, _, _, _, _, _, _, _, _, _, _, _, _, _, _, _, _, _, _, _, _, _, _, _, _, _, _, _, _, _, _, _, _, _, _, _, _, _, _, _, _, _, _, _, _, _, _, _, _, _, _, _, _, _, _, _, _, _, _, _, _, _, _, _, _, _, _, _, _, _, _, _, _, _], _⟩ _
                repeat (first | go_guarded | go_step)
                exact hQ _ _ hI (Grow.refl _) rfl rfl
              refine obls2_cons (fun b hb1 hb2 f w' hI hH Q hQ => ?_) ?_
              · skip
                obtain rfl : b = 0 := by omega
                clear hb1 hb2
                clear hH
                refine wpList_view ?_; show wpList _ _ _ [_] ⟨#[_, _, _, _, _, _, _, _, _, _, _, _, _, _, _, _, _, _, _, _, _, _, _, _, _, _, _, _, _, _, _, _, _, _, _, _, _, _, _, _, _, _, _, _, _, _, _, _, _, _, _, _, _, _, _, _, _, _, _, _, _, _, _, _, _, _, _, _, _, _, _, _, _, _, _, _, _, _, _, _, _, _, _, _, _, _, _, _, _, _, _, _, _, _, _, _, _, _, _, _, _, _, _, _, _, _, _, _, _, _, _, _, _, _, _, _, _, _, _, _, _, _, _, _, _, _, _, _, _, _, _, _, _, _, _, _, _, _, _, _, _, _, _, _, _, _, _, _, _, _, _, _, _, _, _, _, _, _, _, _, _, _, _, _, _, _, _, _, _, _, _, _, _, _, _, _, _, _, _, _, _, _, _, _, _, _, _, _, _, _, _, _, _, _, _, _, _, _, _, _, _, _, _, _], _⟩ _
                repeat (first | go_guarded | go_step)
                exact hQ _ _ hI (Grow.refl _) rfl rfl
              refine obls2_cons (fun b hb1 hb2 f w' hI hH Q hQ => ?_) ?_
              · skip
                obtain rfl : b = 0 := by omega
                clear hb1 hb2
                have h1 := hH.get 0 (65, 1) rfl
                have h2 := hH.get 1 (66, 2) rfl
                clear hH
                refine wpList_view ?_; show wpList _ _ _ [_] ⟨#[_, _, _, _, _, _, _, _, _, _, _, _, _, _, _, _, _, _, _, _, _, _, _, _, _, _, _, _, _, _, _, _, _, _, _, _, _, _, _, _, _, _, _, _, _, _, _, _, _, _, _, _, _, _, _, _, _, _, _, _, _, _, _, _, _, f 1, f 2, _, _, _, _, _, _, _, _, _, _, _, _, _, _, _, _, _, _, _, _, _, _, _, _, _, _, _, _, _, _, _, _, _, _, _, _, _, _, _, _, _, _, _, _, _, _, _, _, _, _, _, _, _, _, _, _, _, _, _, _, _, _, _, _, _, _, _, _, _, _, _, _, _, _, _, _, _, _, _, _, _, _, _, _, _, _, _, _, _, _, _, _, _, _, _, _, _, _, _, _, _, _, _, _, _, _, _, _, _, _, _, _, _, _, _, _, _, _, _, _, _, _, _, _, _, _, _, _, _, _, _, _, _, _, _, _, _], _⟩ _
                rw [show f 1 = _ from h1]
                rw [show f 2 = _ from h2]
                clear h1 h2
                repeat (first | go_guarded | go_step)
                exact hQ _ _ hI (Grow.refl _) rfl rfl
              refine obls2_cons (fun b hb1 hb2 f w' hI hH Q hQ => ?_) ?_
              · skip
                obtain rfl : b = 0 := by omega
                clear hb1 hb2
                have h3 := hH.get 0 (67, 3) rfl
                clear hH
                refine wpList_view ?_; show wpList _ _ _ [_] ⟨#[_, _, _, _, _, _, _, _, _, _, _, _, _, _, _, _, _, _, _, _, _, _, _, _, _, _, _, _, _, _, _, _, _, _, _, _, _, _, _, _, _, _, _, _, _, _, _, _, _, _, _, _, _, _, _, _, _, _, _, _, _, _, _, _, _, _, _, f 3, _, _, _, _, _, _, _, _, _, _, _, _, _, _, _, _, _, _, _, _, _, _, _, _, _, _, _, _, _, _, _, _, _, _, _, _, _, _, _, _, _, _, _, _, _, _, _, _, _, _, _, _, _, _, _, _, _, _, _, _, _, _, _, _, _, _, _, _, _, _, _, _, _, _, _, _, _, _, _, _, _, _, _, _, _, _, _, _, _, _, _, _, _, _, _, _, _, _, _, _, _, _, _, _, _, _, _, _, _, _, _, _, _, _, _, _, _, _, _, _, _, _, _, _, _, _, _, _, _, _, _, _, _, _, _, _], _⟩ _
                rw [show f 3 = _ from h3]
                clear h3
                repeat (first | go_guarded | go_step)
                exact hQ _ _ hI (Grow.refl _) rfl rfl
              refine obls2_cons (fun b hb1 hb2 f w' hI hH Q hQ => ?_) ?_
              · skip
                obtain rfl : b = 0 := by omega
                clear hb1 hb2
                have h4 := hH.get 0 (68, 4) rfl
                clear hH
                refine wpList_view ?_; show wpList _ _ _ [_] ⟨#[_, _, _, _, _, _, _, _, _, _, _, _, _, _, _, _, _, _, _, _, _, _, _, _, _, _, _, _, _, _, _, _, _, _, _, _, _, _, _, _, _, _, _, _, _, _, _, _, _, _, _, _, _, _, _, _, _, _, _, _, _, _, _, _, _, _, _, _, f 4, _, _, _, _, _, _, _, _, _, _, _, _, _, _, _, _, _, _, _, _, _, _, _, _, _, _, _, _, _, _, _, _, _, _, _, _, _, _, _, _, _, _, _, _, _, _, _, _, _, _, _, _, _, _, _, _, _, _, _, _, _, _, _, _, _, _, _, _, _, _, _, _, _, _, _, _, _, _, _, _, _, _, _, _, _, _, _, _, _, _, _, _, _, _, _, _, _, _, _, _, _, _, _, _, _, _, _, _, _, _, _, _, _, _, _, _, _, _, _, _, _, _, _, _, _, _, _, _, _, _, _, _, _, _, _], _⟩ _
                rw [show f 4 = _ from h4]
                clear h4
                have HIg := Lib.hid hI
                have y1 := hI.get0.g.cell HQ1.out
                clear hI
                go_wp2_with fail
                exact hQ _ _ HIg.out (Grow.refl _) rfl rfl
              refine obls2_cons (fun b hb1 hb2 f w' hI hH Q hQ => ?_) ?_
              · skip
                obtain rfl : b = 0 := by omega
                clear hb1 hb2
                have h0 := hH.get 0 (64, 0) rfl
                have h5 := hH.get 1 (69, 5) rfl
                clear hH
                refine wpList_view ?_; show wpList _ _ _ [_] ⟨#[_, _, _, _, _, _, _, _, _, _, _, _, _, _, _, _, _, _, _, _, _, _, _, _, _, _, _, _, _, _, _, _, _, _, _, _, _, _, _, _, _, _, _, _, _, _, _, _, _, _, _, _, _, _, _, _, _, _, _, _, _, _, _, _, f 0, _, _, _, _, f 5, _, _, _, _, _, _, _, _, _, _, _, _, _, _, _, _, _, _, _, _, _, _, _, _, _, _, _, _, _, _, _, _, _, _, _, _, _, _, _, _, _, _, _, _, _, _, _, _, _, _, _, _, _, _, _, _, _, _, _, _, _, _, _, _, _, _, _, _, _, _, _, _, _, _, _, _, _, _, _, _, _, _, _, _, _, _, _, _, _, _, _, _, _, _, _, _, _, _, _, _, _, _, _, _, _, _, _, _, _, _, _, _, _, _, _, _, _, _, _, _, _, _, _, _, _, _, _, _, _, _, _, _, _, _], _⟩ _
                rw [show f 0 = _ from h0]
                rw [show f 5 = _ from h5]
                clear h0 h5
                have HIg := Lib.hid hI
                have HH6 := Lib.hid (HH.out _ hI.get0.i9)
                clear hI
                go_wp2_with (go_at_call 23; refine HH6.out.mono ?_; rintro e w1 ⟨v1, rfl, hi1, hg1⟩)
                exact hQ _ _ (I2.zero (HIg.out.get0.grow hg1)) hg1 ⟨v1, rfl, fun _ => hi1⟩ rfl
              refine obls2_cons (fun b hb1 hb2 f w' hI hH Q hQ => ?_) ?_
              · skip
                obtain rfl : b = 0 := by omega
                clear hb1 hb2
                have h6 := hH.get 0 (70, 6) rfl
                clear hH
                refine wpList_view ?_; show wpList _ _ _ [_] ⟨#[_, _, _, _, _, _, _, _, _, _, _, _, _, _, _, _, _, _, _, _, _, _, _, _, _, _, _, _, _, _, _, _, _, _, _, _, _, _, _, _, _, _, _, _, _, _, _, _, _, _, _, _, _, _, _, _, _, _, _, _, _, _, _, _, _, _, _, _, _, _, f 6, _, _, _, _, _, _, _, _, _, _, _, _, _, _, _, _, _, _, _, _, _, _, _, _, _, _, _, _, _, _, _, _, _, _, _, _, _, _, _, _, _, _, _, _, _, _, _, _, _, _, _, _, _, _, _, _, _, _, _, _, _, _, _, _, _, _, _, _, _, _, _, _, _, _, _, _, _, _, _, _, _, _, _, _, _, _, _, _, _, _, _, _, _, _, _, _, _, _, _, _, _, _, _, _, _, _, _, _, _, _, _, _, _, _, _, _, _, _, _, _, _, _, _, _, _, _, _, _, _, _, _, _, _], _⟩ _
                replace h6 : (IsPut (n : Int) r Ln) (f 6) 0 w' := h6
                obtain ⟨u6, hu6⟩ : ∃ u, u = f 6 := ⟨_, rfl⟩
                rw [← hu6]
                rw [← hu6] at h6
                clear hu6
                have HIg := Lib.hid hI
                clear hI
                go_wp2_with fail
                exact hQ _ _ HIg.out (Grow.refl _) h6 rfl
              refine obls2_cons (fun b hb1 hb2 f w' hI hH Q hQ => ?_) ?_
              · skip
                obtain rfl : b = 0 := by omega
                clear hb1 hb2
                have h7 := hH.get 0 (63, 7) rfl
                clear hH
                refine wpList_view ?_; show wpList _ _ _ [_] ⟨#[_, _, _, _, _, _, _, _, _, _, _, _, _, _, _, _, _, _, _, _, _, _, _, _, _, _, _, _, _, _, _, _, _, _, _, _, _, _, _, _, _, _, _, _, _, _, _, _, _, _, _, _, _, _, _, _, _, _, _, _, _, _, _, f 7, _, _, _, _, _, _, _, _, _, _, _, _, _, _, _, _, _, _, _, _, _, _, _, _, _, _, _, _, _, _, _, _, _, _, _, _, _, _, _, _, _, _, _, _, _, _, _, _, _, _, _, _, _, _, _, _, _, _, _, _, _, _, _, _, _, _, _, _, _, _, _, _, _, _, _, _, _, _, _, _, _, _, _, _, _, _, _, _, _, _, _, _, _, _, _, _, _, _, _, _, _, _, _, _, _, _, _, _, _, _, _, _, _, _, _, _, _, _, _, _, _, _, _, _, _, _, _, _, _, _, _, _, _, _, _, _, _, _, _, _], _⟩ _
                replace h7 : (IsPut (n : Int) r Ln) (f 7) 0 w' := h7
                obtain ⟨u7, hu7⟩ : ∃ u, u = f 7 := ⟨_, rfl⟩
                rw [← hu7]
                rw [← hu7] at h7
                clear hu7
                have HIg := Lib.hid hI
                obtain ⟨v1, rfl, hi1⟩ := h7
                have hi2 := hi1 rfl
                clear hi1 hI
                go_wp2_with fail
                exact hQ _ _ HIg.out (Grow.refl _) (from2.mk ⟨v1, rfl, hi2⟩) rfl
              refine obls2_cons (fun b hb1 hb2 f w' hI hH Q hQ => ?_) ?_
              · skip
                have h7 := hH.get 0 (63, 7) rfl
                clear hH
                refine wpList_view ?_; show wpList _ _ _ [_] ⟨#[_, _, _, _, _, _, _, _, _, _, _, _, _, _, _, _, _, _, _, _, _, _, _, _, _, _, _, _, _, _, _, _, _, _, _, _, _, _, _, _, _, _, _, _, _, _, _, _, _, _, _, _, _, _, _, _, _, _, _, _, _, _, _, f 7, _, _, _, _, _, _, _, _, _, _, _, _, _, _, _, _, _, _, _, _, _, _, _, _, _, _, _, _, _, _, _, _, _, _, _, _, _, _, _, _, _, _, _, _, _, _, _, _, _, _, _, _, _, _, _, _, _, _, _, _, _, _, _, _, _, _, _, _, _, _, _, _, _, _, _, _, _, _, _, _, _, _, _, _, _, _, _, _, _, _, _, _, _, _, _, _, _, _, _, _, _, _, _, _, _, _, _, _, _, _, _, _, _, _, _, _, _, _, _, _, _, _, _, _, _, _, _, _, _, _, _, _, _, _, _, _, _, _, _, _], _⟩ _
                replace h7 : (IsPut (n : Int) r Ln) (f 7) b w' := h7
                obtain ⟨u7, hu7⟩ : ∃ u, u = f 7 := ⟨_, rfl⟩
                rw [← hu7]
                rw [← hu7] at h7
                clear hu7
                have HIg := Lib.hid hI
                obtain ⟨v1, rfl, -⟩ := h7
                clear hI
                go_wp2_with fail
                exact hQ _ _ HIg.out (Grow.refl _) rfl rfl
              refine oblsP_cons (fun f w' hI hH Q hQ => ?_) ?_
              · skip
                have h8 := hH.get 0 (71, 8) rfl
                clear hH
                refine wpList_view ?_; show wpList _ _ _ [_] ⟨#[_, _, _, _, _, _, _, _, _, _, _, _, _, _, _, _, _, _, _, _, _, _, _, _, _, _, _, _, _, _, _, _, _, _, _, _, _, _, _, _, _, _, _, _, _, _, _, _, _, _, _, _, _, _, _, _, _, _, _, _, _, _, _, _, _, _, _, _, _, _, _, f 8, _, _, _, _, _, _, _, _, _, _, _, _, _, _, _, _, _, _, _, _, _, _, _, _, _, _, _, _, _, _, _, _, _, _, _, _, _, _, _, _, _, _, _, _, _, _, _, _, _, _, _, _, _, _, _, _, _, _, _, _, _, _, _, _, _, _, _, _, _, _, _, _, _, _, _, _, _, _, _, _, _, _, _, _, _, _, _, _, _, _, _, _, _, _, _, _, _, _, _, _, _, _, _, _, _, _, _, _, _, _, _, _, _, _, _, _, _, _, _, _, _, _, _, _, _, _, _, _, _, _, _, _], _⟩ _
                replace h8 : (from2 0 (IsSet (n : Int) Ln)) (f 8) 0 w' := h8
                obtain ⟨u8, hu8⟩ : ∃ u, u = f 8 := ⟨_, rfl⟩
                rw [← hu8]
                rw [← hu8] at h8
                have HU8 : Hid (f 8 = u8) := Lib.hid hu8.symm
                clear hu8
                have HIg := Lib.hid hI.get0
                have hb9 := hI.get0.b9
                obtain ⟨v1, rfl, hi1⟩ := h8.get
                have HI1 := Lib.hid hi1
                obtain ⟨A8, c8, rfl, -⟩ := hi1
                clear hI
                go_wp2_with (refine store_blk rfl _ _ _ rfl g9 [.int .i64 (n : Int), (.slice A8 Ln.length c8)] rfl rfl _ _ hb9 (by rw [sizeX]; rfl) rfl rfl ?_)
                exact hQ _ _ (I2.one ⟨_, PI.put9 HR.out HIg.out HG9.out.1 (by omega) HI1.out⟩) trivial rfl rfl
              refine obls2_cons (fun b hb1 hb2 f w' hI hH Q hQ => ?_) ?_
              · skip
                obtain rfl : b = 1 := by omega
                clear hb1 hb2
                have h9 := hH.get 0 (72, 9) rfl
                clear hH
                refine wpList_view ?_; show wpList _ _ _ [_] ⟨#[_, _, _, _, _, _, _, _, _, _, _, _, _, _, _, _, _, _, _, _, _, _, _, _, _, _, _, _, _, _, _, _, _, _, _, _, _, _, _, _, _, _, _, _, _, _, _, _, _, _, _, _, _, _, _, _, _, _, _, _, _, _, _, _, _, _, _, _, _, _, _, _, f 9, _, _, _, _, _, _, _, _, _, _, _, _, _, _, _, _, _, _, _, _, _, _, _, _, _, _, _, _, _, _, _, _, _, _, _, _, _, _, _, _, _, _, _, _, _, _, _, _, _, _, _, _, _, _, _, _, _, _, _, _, _, _, _, _, _, _, _, _, _, _, _, _, _, _, _, _, _, _, _, _, _, _, _, _, _, _, _, _, _, _, _, _, _, _, _, _, _, _, _, _, _, _, _, _, _, _, _, _, _, _, _, _, _, _, _, _, _, _, _, _, _, _, _, _, _, _, _, _, _, _, _], _⟩ _
                rw [show f 9 = _ from h9]
                clear h9
                repeat (first | go_guarded | go_step)
                exact hQ _ _ hI (Grow.refl _) rfl rfl
              exact obls2_nil
            case draw =>
              exact I2.zero (HP5.out.grow (Grow.drew _))
            case mono => exact ⟨Mono2.veq _, Mono2.veq _, Mono2.veq _, Mono2.veq _, Mono2.veq _, Mono2.veq _, IsPut.mono, IsPut.mono, Mono2.from IsSet.mono, Mono2.veq _, Mono2.veq _, Mono2.veq _, trivial⟩
            case tail =>
              intro f w' hI hH
              have q11 := hH.get 11 (13, 11) rfl
              clear hH
              refine wpList_merge (idx := [none, none, none, none, none, none, none, none, none, none, none, none, none, some 11, none, none, none, none, none, none, none, none, none, none, none, none, none, none, none, none, none, none, none, none, none, none, none, none, none, none, none, none, none, none, none, none, none, none, none, none, none, none, none, none, none, none, none, none, none, none, none, none, none, some 7, some 0, some 1, some 2, some 3, some 4, some 5, some 6, some 8, some 9, none, none, none, none, none, none, none, none, none, none, none, none, none, none, none, none, none, none, none, none, none, none, none, none, none, none, none, none, none, none, none, none, none, none, none, none, none, none, none, none, none, none, none, none, none, none, none, none, none, none, none, none, none, none, none, none, none, none, none, none, none, none, none, none, none, none, none, none, none, none, none, none, none, none, none, none, none, none, none, none, none, none, none, none, none, none, none, none, none, none, none, none, none, none, none, none, none, none, none, none, none, none, none, none, none, none, none, none, none, none, none, none, none, none, none, none, none, none, none, none, none, none, none, none, none, none, none, none, none, none, none]) (by kernel_rfl) ?_; show wpList _ _ _ [] ⟨#[_, _, _, _, _, _, _, _, _, _, _, _, _, f 11, _, _, _, _, _, _, _, _, _, _, _, _, _, _, _, _, _, _, _, _, _, _, _, _, _, _, _, _, _, _, _, _, _, _, _, _, _, _, _, _, _, _, _, _, _, _, _, _, _, f 7, f 0, f 1, f 2, f 3, f 4, f 5, f 6, f 8, f 9, _, _, _, _, _, _, _, _, _, _, _, _, _, _, _, _, _, _, _, _, _, _, _, _, _, _, _, _, _, _, _, _, _, _, _, _, _, _, _, _, _, _, _, _, _, _, _, _, _, _, _, _, _, _, _, _, _, _, _, _, _, _, _, _, _, _, _, _, _, _, _, _, _, _, _, _, _, _, _, _, _, _, _, _, _, _, _, _, _, _, _, _, _, _, _, _, _, _, _, _, _, _, _, _, _, _, _, _, _, _, _, _, _, _, _, _, _, _, _, _, _, _, _, _, _, _, _, _, _, _, _], _⟩ _
              rw [show f 11 = _ from q11]
              clear q11
              obtain ⟨v9, hp6⟩ := hI.get1
              have HP6 := Lib.hid hp6
              clear hI hp6
              obtain ⟨w6, hw6⟩ : ∃ w6, w6 = w' := ⟨_, rfl⟩
              rw [← hw6] at HP6 ⊢
              clear hw6
              clear H5 HH hrr
              go_wp2_with fail
              refine CutEnd.mk (by kernel_rfl) ⟨S', T, v9, vt, r, rfl, rfl, ?_⟩
              rw [HL5.out] at HP6
              exact HP6
          · have hk0 := hk
            clear hk
            by_cases hk : kd = 1
            · skip
              have t0a : ((kd : Int) == 0) = false := by subst hk; rfl
              have t0b : (kd == 0) = false := by subst hk; rfl
              have t1a : ((kd : Int) == 1) = true := by subst hk; rfl
              have t1b : (kd == 1) = true := by subst hk; rfl
              have t2a : ((kd : Int) == 2) = false := by subst hk; rfl
              have t2b : (kd == 2) = false := by subst hk; rfl
              have t3a : ((kd : Int) == 3) = false := by subst hk; rfl
              have t3b : (kd == 3) = false := by subst hk; rfl
              clear hk
              obtain ⟨r, hr⟩ : ∃ r, r = (memI S xi) := ⟨_, rfl⟩
              obtain ⟨S', hS'⟩ : ∃ S', S' = delS S xi := ⟨_, rfl⟩
              obtain ⟨Ln, hLn⟩ : ∃ Ln, Ln = elems n S' := ⟨_, rfl⟩
              have hrr : (r != r) = false := bne_self_eq_false r
              have H5 := Lib.hid (drop_any wr w.heap.size _ (hs + 1) (some hs) n S HPS.out.ms hFS.out xi)
              have HR5 := Lib.hid hr
              have HS5 := Lib.hid hS'
              have HL5 := Lib.hid hLn
              rw [← hr, ← hS'] at H5
              clear hr hS' hLn
              go_wp2_with fail
              refine H5.out.mono ?_
              rintro e w5 ⟨rfl, m5, k5⟩
              have HP5 := Lib.hid (PI.set HR.out HPS.out HD.out k5 m5)
              clear m5 k5 z0 z1
              have HH : Hid (∀ w', IntsV w' vs (elems n S) → Calls Try.prog 25 #[.agg #[.int .i64 (n : Int), vs], .int .i64 xi] w' fun e w2 => ∃ v', e = .returned (.tuple #[.agg #[.int .i64 (n : Int), v'], .bool r]) ∧ IntsV w2 v' Ln ∧ Grow w' w2) := Lib.hid fun w' hi => by rw [HR5.out, HL5.out, HS5.out, ← drop_says HGS.out xi, ← drop_elems (n := n) xi]; exact ref_drop w' n vs _ hi xi (by have := HLS.out; omega)
              go_wp2_with fail
              apply (fun (v0 v1 v2 v3 v4 v5 v9 v11 : Value) mono draw obl tail => wp_region_piv (I := I2 (PI w (some ⟨b, off, none⟩) k xs (hs + 1) hs (ht + 1) ht g9 (g9 + 1) n m S' T (elems n S) (elems m T) vs vt) (fun w' => ∃ v9, PI w (some ⟨b, off, none⟩) k xs (hs + 1) hs (ht + 1) ht g9 (g9 + 1) n m S' T Ln (elems m T) v9 vt w')) (G := Grow) (Rp := (fun _ _ _ => True)) (Φ := phi2 [veq2 v0, veq2 v1, veq2 v2, veq2 v3, veq2 v4, veq2 v5, (IsPut (n : Int) r Ln), (IsPut (n : Int) r Ln), (from2 0 (IsSet (n : Int) Ln)), veq2 v9, (veq2 undef), veq2 v11]) (m := 12) (ps := [10]) (qs := [(0, 0, false), (0, 0, false), (0, 0, false), (0, 0, false), (0, 0, false), (0, 0, false), (0, 0, false), (0, 0, false), (0, 0, false), (0, 1, false), (0, 0, true), (1, 1, false)]) (dls := [[], [], [], [(84, 1), (85, 2)], [(86, 3)], [(87, 4)], [(83, 0), (88, 5)], [(89, 6)], [(82, 7)], [(82, 7)], [(90, 8)], [(91, 9)]]) (ds := [83, 84, 85, 86, 87, 88, 89, 82, 90, 91, 215, 13]) (by kernel_rfl) (by kernel_rfl) (by kernel_rfl) (by decide) rfl rfl draw (mono2_phi mono) (piv2_phi mono) obl tail)
              case obl =>
                refine obls2_cons (fun b hb1 hb2 f w' hI hH Q hQ => ?_) ?_
                · skip
                  obtain rfl : b = 0 := by omega
                  clear hb1 hb2
                  clear hH
                  refine wpList_view ?_; show wpList _ _ _ [_] ⟨#[_, _, _, _, _, _, _, _, _, _, _, _, _, _, _, _, _, _, _, _, _, _, _, _, _, _, _, _, _, _, _, _, _, _, _, _, _, _, _, _, _, _, _, _, _, _, _, _, _, _, _, _, _, _, _, _, _, _, _, _, _, _, _, _, _, _, _, _, _, _, _, _, _, _, _, _, _, _, _, _, _, _, _, _, _, _, _, _, _, _, _, _, _, _, _, _, _, _, _, _, _, _, _, _, _, _, _, _, _, _, _, _, _, _, _, _, _, _, _, _, _, _, _, _, _, _, _, _, _, _, _, _, _, _, _, _, _, _, _, _, _, _, _, _, _, _, _, _, _, _, _, _, _, _, _, _, _, _, _, _, _, _, _, _, _, _, _, _, _, _, _, _, _, _, _, _, _, _, _, _, _, _, _, _, _, _, _, _, _, _, _, _, _, _, _, _, _, _, _, _, _, _, _, _], _⟩ _
                  have HIg := Lib.hid hI
                  have hb9 := hI.get0.b9
                  clear hI
                  go_wp2_with (refine load_blk rfl _ _ rfl g9 rfl _ _ _ hb9 undX rfl (by rw [sizeX]; rfl) ?_)
                  exact hQ _ _ HIg.out (Grow.refl _) rfl rfl
                refine obls2_cons (fun b hb1 hb2 f w' hI hH Q hQ => ?_) ?_
                · skip
                  obtain rfl : b = 0 := by omega
                  clear hb1 hb2
                  clear hH
                  refine wpList_view ?_; show wpList _ _ _ [_] ⟨#[_, _, _, _, _, _, _, _, _, _, _, _, _, _, _, _, _, _, _, _, _, _, _, _, _, _, _, _, _, _, _, _, _, _, _, _, _, _, _, _, _, _, _, _, _, _, _, _, _, _, _, _, _, _, _, _, _, _, _, _, _, _, _, _, _, _, _, _, _, _, _, _, _, _, _, _, _, _, _, _, _, _, _, _, _, _, _, _, _, _, _, _, _, _, _, _, _, _, _, _, _, _, _, _, _, _, _, _, _, _, _, _, _, _, _, _, _, _, _, _, _, _, _, _, _, _, _, _, _, _, _, _, _, _, _, _, _, _, _, _, _, _, _, _, _, _, _, _, _, _, _, _, _, _, _, _, _, _, _, _, _, _, _, _, _, _, _, _, _, _, _, _, _, _, _, _, _, _, _, _, _, _, _, _, _, _, _, _, _, _, _, _, _, _, _, _, _, _, _, _, _, _, _, _], _⟩ _
                  repeat (first | go_guarded | go_step)
                  exact hQ _ _ hI (Grow.refl _) rfl rfl
                refine obls2_cons (fun b hb1 hb2 f w' hI hH Q hQ => ?_) ?_
                · skip
                  obtain rfl : b = 0 := by omega
                  clear hb1 hb2
                  clear hH
                  refine wpList_view ?_; show wpList _ _ _ [_] ⟨#[_, _, _, _, _, _, _, _, _, _, _, _, _, _, _, _, _, _, _, _, _, _, _, _, _, _, _, _, _, _, _, _, _, _, _, _, _, _, _, _, _, _, _, _, _, _, _, _, _, _, _, _, _, _, _, _, _, _, _, _, _, _, _, _, _, _, _, _, _, _, _, _, _, _, _, _, _, _, _, _, _, _, _, _, _, _, _, _, _, _, _, _, _, _, _, _, _, _, _, _, _, _, _, _, _, _, _, _, _, _, _, _, _, _, _, _, _, _, _, _, _, _, _, _, _, _, _, _, _, _, _, _, _, _, _, _, _, _, _, _, _, _, _, _, _, _, _, _, _, _, _, _, _, _, _, _, _, _, _, _, _, _, _, _, _, _, _, _, _, _, _, _, _, _, _, _, _, _, _, _, _, _, _, _, _, _, _, _, _, _, _, _, _, _, _, _, _, _, _, _, _, _, _, _], _⟩ _
                  repeat (first | go_guarded | go_step)
                  exact hQ _ _ hI (Grow.refl _) rfl rfl
                refine obls2_cons (fun b hb1 hb2 f w' hI hH Q hQ => ?_) ?_
                · skip
                  obtain rfl : b = 0 := by omega
                  clear hb1 hb2
                  have h1 := hH.get 0 (84, 1) rfl
                  have h2 := hH.get 1 (85, 2) rfl
                  clear hH
                  refine wpList_view ?_; show wpList _ _ _ [_] ⟨#[_, _, _, _, _, _, _, _, _, _, _, _, _, _, _, _, _, _, _, _, _, _, _, _, _, _, _, _, _, _, _, _, _, _, _, _, _, _, _, _, _, _, _, _, _, _, _, _, _, _, _, _, _, _, _, _, _, _, _, _, _, _, _, _, _, _, _, _, _, _, _, _, _, _, _, _, _, _, _, _, _, _, _, _, f 1, f 2, _, _, _, _, _, _, _, _, _, _, _, _, _, _, _, _, _, _, _, _, _, _, _, _, _, _, _, _, _, _, _, _, _, _, _, _, _, _, _, _, _, _, _, _, _, _, _, _, _, _, _, _, _, _, _, _, _, _, _, _, _, _, _, _, _, _, _, _, _, _, _, _, _, _, _, _, _, _, _, _, _, _, _, _, _, _, _, _, _, _, _, _, _, _, _, _, _, _, _, _, _, _, _, _, _, _, _, _, _, _, _, _, _, _, _, _, _, _], _⟩ _
                  rw [show f 1 = _ from h1]
                  rw [show f 2 = _ from h2]
                  clear h1 h2
                  repeat (first | go_guarded | go_step)
                  exact hQ _ _ hI (Grow.refl _) rfl rfl
                refine obls2_cons (fun b hb1 hb2 f w' hI hH Q hQ => ?_) ?_
                · skip
                  obtain rfl : b = 0 := by omega
                  clear hb1 hb2
                  have h3 := hH.get 0 (86, 3) rfl
                  clear hH
                  refine wpList_view ?_; show wpList _ _ _ [_] ⟨#[_, _, _, _, _, _, _, _, _, _, _, _, _, _, _, _, _, _, _, _, _, _, _, _, _, _, _, _, _, _, _, _, _, _, _, _, _, _, _, _, _, _, _, _, _, _, _, _, _, _, _, _, _, _, _, _, _, _, _, _, _, _, _, _, _, _, _, _, _, _, _, _, _, _, _, _, _, _, _, _, _, _, _, _, _, _, f 3, _, _, _, _, _, _, _, _, _, _, _, _, _, _, _, _, _, _, _, _, _, _, _, _, _, _, _, _, _, _, _, _, _, _, _, _, _, _, _, _, _, _, _, _, _, _, _, _, _, _, _, _, _, _, _, _, _, _, _, _, _, _, _, _, _, _, _, _, _, _, _, _, _, _, _, _, _, _, _, _, _, _, _, _, _, _, _, _, _, _, _, _, _, _, _, _, _, _, _, _, _, _, _, _, _, _, _, _, _, _, _, _, _, _, _, _, _], _⟩ _
                  rw [show f 3 = _ from h3]
                  clear h3
                  repeat (first | go_guarded | go_step)
                  exact hQ _ _ hI (Grow.refl _) rfl rfl
                refine obls2_cons (fun b hb1 hb2 f w' hI hH Q hQ => ?_) ?_
                · skip
                  obtain rfl : b = 0 := by omega
                  clear hb1 hb2
                  have h4 := hH.get 0 (87, 4) rfl
                  clear hH
                  refine wpList_view ?_; show wpList _ _ _ [_] ⟨#[_, _, _, _, _, _, _, _, _, _, _, _, _, _, _, _, _, _, _, _, _, _, _, _, _, _, _, _, _, _, _, _, _, _, _, _, _, _, _, _, _, _, _, _, _, _, _, _, _, _, _, _, _, _, _, _, _, _, _, _, _, _, _, _, _, _, _, _, _, _, _, _, _, _, _, _, _, _, _, _, _, _, _, _, _, _, _, f 4, _, _, _, _, _, _, _, _, _, _, _, _, _, _, _, _, _, _, _, _, _, _, _, _, _, _, _, _, _, _, _, _, _, _, _, _, _, _, _, _, _, _, _, _, _, _, _, _, _, _, _, _, _, _, _, _, _, _, _, _, _, _, _, _, _, _, _, _, _, _, _, _, _, _, _, _, _, _, _, _, _, _, _, _, _, _, _, _, _, _, _, _, _, _, _, _, _, _, _, _, _, _, _, _, _, _, _, _, _, _, _, _, _, _, _, _], _⟩ _
                  rw [show f 4 = _ from h4]
                  clear h4
                  have HIg := Lib.hid hI
                  have y1 := hI.get0.g.cell HQ1.out
                  clear hI
                  go_wp2_with fail
                  exact hQ _ _ HIg.out (Grow.refl _) rfl rfl
                refine obls2_cons (fun b hb1 hb2 f w' hI hH Q hQ => ?_) ?_
                · skip
                  obtain rfl : b = 0 := by omega
                  clear hb1 hb2
                  have h0 := hH.get 0 (83, 0) rfl
                  have h5 := hH.get 1 (88, 5) rfl
                  clear hH
                  refine wpList_view ?_; show wpList _ _ _ [_] ⟨#[_, _, _, _, _, _, _, _, _, _, _, _, _, _, _, _, _, _, _, _, _, _, _, _, _, _, _, _, _, _, _, _, _, _, _, _, _, _, _, _, _, _, _, _, _, _, _, _, _, _, _, _, _, _, _, _, _, _, _, _, _, _, _, _, _, _, _, _, _, _, _, _, _, _, _, _, _, _, _, _, _, _, _, f 0, _, _, _, _, f 5, _, _, _, _, _, _, _, _, _, _, _, _, _, _, _, _, _, _, _, _, _, _, _, _, _, _, _, _, _, _, _, _, _, _, _, _, _, _, _, _, _, _, _, _, _, _, _, _, _, _, _, _, _, _, _, _, _, _, _, _, _, _, _, _, _, _, _, _, _, _, _, _, _, _, _, _, _, _, _, _, _, _, _, _, _, _, _, _, _, _, _, _, _, _, _, _, _, _, _, _, _, _, _, _, _, _, _, _, _, _, _, _, _, _, _], _⟩ _
                  rw [show f 0 = _ from h0]
                  rw [show f 5 = _ from h5]
                  clear h0 h5
                  have HIg := Lib.hid hI
                  have HH6 := Lib.hid (HH.out _ hI.get0.i9)
                  clear hI
                  go_wp2_with (go_at_call 25; refine HH6.out.mono ?_; rintro e w1 ⟨v1, rfl, hi1, hg1⟩)
                  exact hQ _ _ (I2.zero (HIg.out.get0.grow hg1)) hg1 ⟨v1, rfl, fun _ => hi1⟩ rfl
                refine obls2_cons (fun b hb1 hb2 f w' hI hH Q hQ => ?_) ?_
                · skip
                  obtain rfl : b = 0 := by omega
                  clear hb1 hb2
                  have h6 := hH.get 0 (89, 6) rfl
                  clear hH
                  refine wpList_view ?_; show wpList _ _ _ [_] ⟨#[_, _, _, _, _, _, _, _, _, _, _, _, _, _, _, _, _, _, _, _, _, _, _, _, _, _, _, _, _, _, _, _, _, _, _, _, _, _, _, _, _, _, _, _, _, _, _, _, _, _, _, _, _, _, _, _, _, _, _, _, _, _, _, _, _, _, _, _, _, _, _, _, _, _, _, _, _, _, _, _, _, _, _, _, _, _, _, _, _, f 6, _, _, _, _, _, _, _, _, _, _, _, _, _, _, _, _, _, _, _, _, _, _, _, _, _, _, _, _, _, _, _, _, _, _, _, _, _, _, _, _, _, _, _, _, _, _, _, _, _, _, _, _, _, _, _, _, _, _, _, _, _, _, _, _, _, _, _, _, _, _, _, _, _, _, _, _, _, _, _, _, _, _, _, _, _, _, _, _, _, _, _, _, _, _, _, _, _, _, _, _, _, _, _, _, _, _, _, _, _, _, _, _, _, _], _⟩ _
                  replace h6 : (IsPut (n : Int) r Ln) (f 6) 0 w' := h6
                  obtain ⟨u6, hu6⟩ : ∃ u, u = f 6 := ⟨_, rfl⟩
                  rw [← hu6]
                  rw [← hu6] at h6
                  clear hu6
                  have HIg := Lib.hid hI
                  clear hI
                  go_wp2_with fail
                  exact hQ _ _ HIg.out (Grow.refl _) h6 rfl
                refine obls2_cons (fun b hb1 hb2 f w' hI hH Q hQ => ?_) ?_
                · skip
                  obtain rfl : b = 0 := by omega
                  clear hb1 hb2
                  have h7 := hH.get 0 (82, 7) rfl
                  clear hH
                  refine wpList_view ?_; show wpList _ _ _ [_] ⟨#[_, _, _, _, _, _, _, _, _, _, _, _, _, _, _, _, _, _, _, _, _, _, _, _, _, _, _, _, _, _, _, _, _, _, _, _, _, _, _, _, _, _, _, _, _, _, _, _, _, _, _, _, _, _, _, _, _, _, _, _, _, _, _, _, _, _, _, _, _, _, _, _, _, _, _, _, _, _, _, _, _, _, f 7, _, _, _, _, _, _, _, _, _, _, _, _, _, _, _, _, _, _, _, _, _, _, _, _, _, _, _, _, _, _, _, _, _, _, _, _, _, _, _, _, _, _, _, _, _, _, _, _, _, _, _, _, _, _, _, _, _, _, _, _, _, _, _, _, _, _, _, _, _, _, _, _, _, _, _, _, _, _, _, _, _, _, _, _, _, _, _, _, _, _, _, _, _, _, _, _, _, _, _, _, _, _, _, _, _, _, _, _, _, _, _, _, _, _, _, _, _, _, _, _, _], _⟩ _
                  replace h7 : (IsPut (n : Int) r Ln) (f 7) 0 w' := h7
                  obtain ⟨u7, hu7⟩ : ∃ u, u = f 7 := ⟨_, rfl⟩
                  rw [← hu7]
                  rw [← hu7] at h7
                  clear hu7
                  have HIg := Lib.hid hI
                  obtain ⟨v1, rfl, hi1⟩ := h7
                  have hi2 := hi1 rfl
                  clear hi1 hI
                  go_wp2_with fail
                  exact hQ _ _ HIg.out (Grow.refl _) (from2.mk ⟨v1, rfl, hi2⟩) rfl
                refine obls2_cons (fun b hb1 hb2 f w' hI hH Q hQ => ?_) ?_
                · skip
                  have h7 := hH.get 0 (82, 7) rfl
                  clear hH
                  refine wpList_view ?_; show wpList _ _ _ [_] ⟨#[_, _, _, _, _, _, _, _, _, _, _, _, _, _, _, _, _, _, _, _, _, _, _, _, _, _, _, _, _, _, _, _, _, _, _, _, _, _, _, _, _, _, _, _, _, _, _, _, _, _, _, _, _, _, _, _, _, _, _, _, _, _, _, _, _, _, _, _, _, _, _, _, _, _, _, _, _, _, _, _, _, _, f 7, _, _, _, _, _, _, _, _, _, _, _, _, _, _, _, _, _, _, _, _, _, _, _, _, _, _, _, _, _, _, _, _, _, _, _, _, _, _, _, _, _, _, _, _, _, _, _, _, _, _, _, _, _, _, _, _, _, _, _, _, _, _, _, _, _, _, _, _, _, _, _, _, _, _, _, _, _, _, _, _, _, _, _, _, _, _, _, _, _, _, _, _, _, _, _, _, _, _, _, _, _, _, _, _, _, _, _, _, _, _, _, _, _, _, _, _, _, _, _, _, _], _⟩ _
                  replace h7 : (IsPut (n : Int) r Ln) (f 7) b w' := h7
                  obtain ⟨u7, hu7⟩ : ∃ u, u = f 7 := ⟨_, rfl⟩
                  rw [← hu7]
                  rw [← hu7] at h7
                  clear hu7
                  have HIg := Lib.hid hI
                  obtain ⟨v1, rfl, -⟩ := h7
                  clear hI
                  go_wp2_with fail
                  exact hQ _ _ HIg.out (Grow.refl _) rfl rfl
                refine oblsP_cons (fun f w' hI hH Q hQ => ?_) ?_
                · skip
                  have h8 := hH.get 0 (90, 8) rfl
                  clear hH
                  refine wpList_view ?_; show wpList _ _ _ [_] ⟨#[_, _, _, _, _, _, _, _, _, _, _, _, _, _, _, _, _, _, _, _, _, _, _, _, _, _, _, _, _, _, _, _, _, _, _, _, _, _, _, _, _, _, _, _, _, _, _, _, _, _, _, _, _, _, _, _, _, _, _, _, _, _, _, _, _, _, _, _, _, _, _, _, _, _, _, _, _, _, _, _, _, _, _, _, _, _, _, _, _, _, f 8, _, _, _, _, _, _, _, _, _, _, _, _, _, _, _, _, _, _, _, _, _, _, _, _, _, _, _, _, _, _, _, _, _, _, _, _, _, _, _, _, _, _, _, _, _, _, _, _, _, _, _, _, _, _, _, _, _, _, _, _, _, _, _, _, _, _, _, _, _, _, _, _, _, _, _, _, _, _, _, _, _, _, _, _, _, _, _, _, _, _, _, _, _, _, _, _, _, _, _, _, _, _, _, _, _, _, _, _, _, _, _, _, _], _⟩ _
                  replace h8 : (from2 0 (IsSet (n : Int) Ln)) (f 8) 0 w' := h8
                  obtain ⟨u8, hu8⟩ : ∃ u, u = f 8 := ⟨_, rfl⟩
                  rw [← hu8]
                  rw [← hu8] at h8
                  have HU8 : Hid (f 8 = u8) := Lib.hid hu8.symm
                  clear hu8
                  have HIg := Lib.hid hI.get0
                  have hb9 := hI.get0.b9
                  obtain ⟨v1, rfl, hi1⟩ := h8.get
                  have HI1 := Lib.hid hi1
                  obtain ⟨A8, c8, rfl, -⟩ := hi1
                  clear hI
                  go_wp2_with (refine store_blk rfl _ _ _ rfl g9 [.int .i64 (n : Int), (.slice A8 Ln.length c8)] rfl rfl _ _ hb9 (by rw [sizeX]; rfl) rfl rfl ?_)
                  exact hQ _ _ (I2.one ⟨_, PI.put9 HR.out HIg.out HG9.out.1 (by omega) HI1.out⟩) trivial rfl rfl
                refine obls2_cons (fun b hb1 hb2 f w' hI hH Q hQ => ?_) ?_
                · skip
                  obtain rfl : b = 1 := by omega
                  clear hb1 hb2
                  have h9 := hH.get 0 (91, 9) rfl
                  clear hH
                  refine wpList_view ?_; show wpList _ _ _ [_] ⟨#[_, _, _, _, _, _, _, _, _, _, _, _, _, _, _, _, _, _, _, _, _, _, _, _, _, _, _, _, _, _, _, _, _, _, _, _, _, _, _, _, _, _, _, _, _, _, _, _, _, _, _, _, _, _, _, _, _, _, _, _, _, _, _, _, _, _, _, _, _, _, _, _, _, _, _, _, _, _, _, _, _, _, _, _, _, _, _, _, _, _, _, f 9, _, _, _, _, _, _, _, _, _, _, _, _, _, _, _, _, _, _, _, _, _, _, _, _, _, _, _, _, _, _, _, _, _, _, _, _, _, _, _, _, _, _, _, _, _, _, _, _, _, _, _, _, _, _, _, _, _, _, _, _, _, _, _, _, _, _, _, _, _, _, _, _, _, _, _, _, _, _, _, _, _, _, _, _, _, _, _, _, _, _, _, _, _, _, _, _, _, _, _, _, _, _, _, _, _, _, _, _, _, _, _, _], _⟩ _
                  rw [show f 9 = _ from h9]
                  clear h9
                  repeat (first | go_guarded | go_step)
                  exact hQ _ _ hI (Grow.refl _) rfl rfl
                exact obls2_nil
              case draw =>
                exact I2.zero (HP5.out.grow (Grow.drew _))
              case mono => exact ⟨Mono2.veq _, Mono2.veq _, Mono2.veq _, Mono2.veq _, Mono2.veq _, Mono2.veq _, IsPut.mono, IsPut.mono, Mono2.from IsSet.mono, Mono2.veq _, Mono2.veq _, Mono2.veq _, trivial⟩
              case tail =>
                intro f w' hI hH
                have q11 := hH.get 11 (13, 11) rfl
                clear hH
                refine wpList_merge (idx := [none, none, none, none, none, none, none, none, none, none, none, none, none, some 11, none, none, none, none, none, none, none, none, none, none, none, none, none, none, none, none, none, none, none, none, none, none, none, none, none, none, none, none, none, none, none, none, none, none, none, none, none, none, none, none, none, none, none, none, none, none, none, none, none, none, none, none, none, none, none, none, none, none, none, none, none, none, none, none, none, none, none, none, some 7, some 0, some 1, some 2, some 3, some 4, some 5, some 6, some 8, some 9, none, none, none, none, none, none, none, none, none, none, none, none, none, none, none, none, none, none, none, none, none, none, none, none, none, none, none, none, none, none, none, none, none, none, none, none, none, none, none, none, none, none, none, none, none, none, none, none, none, none, none, none, none, none, none, none, none, none, none, none, none, none, none, none, none, none, none, none, none, none, none, none, none, none, none, none, none, none, none, none, none, none, none, none, none, none, none, none, none, none, none, none, none, none, none, none, none, none, none, none, none, none, none, none, none, none, none, none, none, none, none, none]) (by kernel_rfl) ?_; show wpList _ _ _ [] ⟨#[_, _, _, _, _, _, _, _, _, _, _, _, _, f 11, _, _, _, _, _, _, _, _, _, _, _, _, _, _, _, _, _, _, _, _, _, _, _, _, _, _, _, _, _, _, _, _, _, _, _, _, _, _, _, _, _, _, _, _, _, _, _, _, _, _, _, _, _, _, _, _, _, _, _, _, _, _, _, _, _, _, _, _, f 7, f 0, f 1, f 2, f 3, f 4, f 5, f 6, f 8, f 9, _, _, _, _, _, _, _, _, _, _, _, _, _, _, _, _, _, _, _, _, _, _, _, _, _, _, _, _, _, _, _, _, _, _, _, _, _, _, _, _, _, _, _, _, _, _, _, _, _, _, _, _, _, _, _, _, _, _, _, _, _, _, _, _, _, _, _, _, _, _, _, _, _, _, _, _, _, _, _, _, _, _, _, _, _, _, _, _, _, _, _, _, _, _, _, _, _, _, _, _, _, _, _, _, _, _, _, _, _, _, _, _], _⟩ _
                rw [show f 11 = _ from q11]
                clear q11
                obtain ⟨v9, hp6⟩ := hI.get1
                have HP6 := Lib.hid hp6
                clear hI hp6
                obtain ⟨w6, hw6⟩ : ∃ w6, w6 = w' := ⟨_, rfl⟩
                rw [← hw6] at HP6 ⊢
                clear hw6
                clear H5 HH hrr
                go_wp2_with fail
                refine CutEnd.mk (by kernel_rfl) ⟨S', T, v9, vt, r, rfl, rfl, ?_⟩
                rw [HL5.out] at HP6
                exact HP6
            · have hk1 := hk
              clear hk
              by_cases hk : kd = 2
              · skip
                have t0a : ((kd : Int) == 0) = false := by subst hk; rfl
                have t0b : (kd == 0) = false := by subst hk; rfl
                have t1a : ((kd : Int) == 1) = false := by subst hk; rfl
                have t1b : (kd == 1) = false := by subst hk; rfl
                have t2a : ((kd : Int) == 2) = true := by subst hk; rfl
                have t2b : (kd == 2) = true := by subst hk; rfl
                have t3a : ((kd : Int) == 3) = false := by subst hk; rfl
                have t3b : (kd == 3) = false := by subst hk; rfl
                clear hk
                obtain ⟨r, hr⟩ : ∃ r, r = (diff n S (uni S T n)) := ⟨_, rfl⟩
                obtain ⟨S', hS'⟩ : ∃ S', S' = uni S T n := ⟨_, rfl⟩
                obtain ⟨Ln, hLn⟩ : ∃ Ln, Ln = elems n S' := ⟨_, rfl⟩
                have hrr : (r != r) = false := bne_self_eq_false r
                have H5 := Lib.hid (or_two (B := w.heap.size) (K := fun j => j ≠ hs + 1 ∧ j ≠ hs) HPS.out.ms hFS.out HPS.out.g.size HPS.out.mt (.inr ⟨by have := HD2.out; omega, by have := HD2.out; omega⟩) (fun k hk => by injection hk with hk; subst hk; exact .inr ⟨by have := HD2.out; omega, by have := HD2.out; omega⟩))
                have HR5 := Lib.hid hr
                have HS5 := Lib.hid hS'
                have HL5 := Lib.hid hLn
                rw [← hr, ← hS'] at H5
                clear hr hS' hLn
                go_wp2_with fail
                refine H5.out.mono ?_
                rintro e w5 ⟨rfl, m5, k5⟩
                have HP5 := Lib.hid (PI.set HR.out HPS.out HD.out k5 m5)
                clear m5 k5 z0 z1
                have HH : Hid (∀ w', IntsV w' vs (elems n S) → IntsV w' vt (elems m T) → Calls Try.prog 26 #[.agg #[.int .i64 (n : Int), vs], .agg #[.int .i64 (m : Int), vt]] w' fun e w2 => ∃ v', e = .returned (.tuple #[.agg #[.int .i64 (n : Int), v'], .bool r]) ∧ IntsV w2 v' Ln ∧ Grow w' w2) := Lib.hid fun w' hi hi2 => by rw [HR5.out, HL5.out, HS5.out]; have := ref_or w' n m vs vt _ _ hi hi2 (by have := HLS.out; omega) HN6.out.1; rw [or_elems HGS.out HGT.out] at this; exact this
                have HH5 := Lib.hid (HH.out _ HP5.out.i9 HP5.out.i10)
                have hb9 := HP5.out.b9
                have hb10 := HP5.out.b10
                go_wp2_with (first | (refine load_blk rfl _ _ rfl g9 rfl _ _ _ hb9 undX rfl (by rw [sizeX]; rfl) ?_) | (refine load_blk rfl _ _ rfl (g9 + 1) rfl _ _ _ hb10 undX rfl (by rw [sizeX]; rfl) ?_))
                refine HH5.out.mono ?_
                rintro e wc ⟨v9, rfl, hi9, hgc⟩
                have HPC := Lib.hid (HP5.out.grow hgc)
                have HI9 := Lib.hid hi9
                obtain ⟨A8, c8, rfl, -⟩ := hi9
                have hbc := HPC.out.b9
                clear hb9 hb10 hgc
                go_wp2_with (refine store_blk rfl _ _ _ rfl g9 [.int .i64 (n : Int), (.slice A8 Ln.length c8)] rfl rfl _ _ hbc (by rw [sizeX]; rfl) rfl rfl ?_)
                have HP6 := Lib.hid (PI.put9 HR.out HPC.out HG9.out.1 (by omega) HI9.out)
                obtain ⟨v9, hv9⟩ : ∃ v9, v9 = Value.slice A8 Ln.length c8 := ⟨_, rfl⟩
                obtain ⟨w6, hw6⟩ : ∃ w6, w6 = wc.setRow g9 [.int .i64 (n : Int), (.slice A8 Ln.length c8)].toArray := ⟨_, rfl⟩
                rw [← hw6] at HP6
                first | rw [← hw6] | skip
                rw [← hv9] at HP6
                clear hw6 hv9 hbc
                clear H5 HH hrr
                go_wp2_with fail
                refine CutEnd.mk (by kernel_rfl) ⟨S', T, v9, vt, r, rfl, rfl, ?_⟩
                rw [HL5.out] at HP6
                exact HP6
              · have hk2 := hk
                clear hk
                by_cases hk : kd = 3
                · skip
                  have t0a : ((kd : Int) == 0) = false := by subst hk; rfl
                  have t0b : (kd == 0) = false := by subst hk; rfl
                  have t1a : ((kd : Int) == 1) = false := by subst hk; rfl
                  have t1b : (kd == 1) = false := by subst hk; rfl
                  have t2a : ((kd : Int) == 2) = false := by subst hk; rfl
                  have t2b : (kd == 2) = false := by subst hk; rfl
                  have t3a : ((kd : Int) == 3) = true := by subst hk; rfl
                  have t3b : (kd == 3) = true := by subst hk; rfl
                  clear hk
                  obtain ⟨r, hr⟩ : ∃ r, r = (diff n S (int S T)) := ⟨_, rfl⟩
                  obtain ⟨S', hS'⟩ : ∃ S', S' = int S T := ⟨_, rfl⟩
                  obtain ⟨Ln, hLn⟩ : ∃ Ln, Ln = elems n S' := ⟨_, rfl⟩
                  have hrr : (r != r) = false := bne_self_eq_false r
                  have H5 := Lib.hid (and_two (B := w.heap.size) (K := fun j => j ≠ hs + 1 ∧ j ≠ hs) HPS.out.ms hFS.out HPS.out.g.size HPS.out.mt (.inr ⟨by have := HD2.out; omega, by have := HD2.out; omega⟩) (fun k hk => by injection hk with hk; subst hk; exact .inr ⟨by have := HD2.out; omega, by have := HD2.out; omega⟩))
                  have HR5 := Lib.hid hr
                  have HS5 := Lib.hid hS'
                  have HL5 := Lib.hid hLn
                  rw [← hr, ← hS'] at H5
                  clear hr hS' hLn
                  go_wp2_with fail
                  refine H5.out.mono ?_
                  rintro e w5 ⟨rfl, m5, k5⟩
                  have HP5 := Lib.hid (PI.set HR.out HPS.out HD.out k5 m5)
                  clear m5 k5 z0 z1
                  have HH : Hid (∀ w', IntsV w' vs (elems n S) → IntsV w' vt (elems m T) → Calls Try.prog 27 #[.agg #[.int .i64 (n : Int), vs], .agg #[.int .i64 (m : Int), vt]] w' fun e w2 => ∃ v', e = .returned (.tuple #[.agg #[.int .i64 (n : Int), v'], .bool r]) ∧ IntsV w2 v' Ln ∧ Grow w' w2) := Lib.hid fun w' hi hi2 => by rw [HR5.out, HL5.out, HS5.out, ← and_says (n := n) (S := S) HGT.out, ← and_elems (n := n) HGT.out]; exact ref_and w' n m vs vt _ _ hi hi2 (by have := HLS.out; omega)
                  have HH5 := Lib.hid (HH.out _ HP5.out.i9 HP5.out.i10)
                  have hb9 := HP5.out.b9
                  have hb10 := HP5.out.b10
                  go_wp2_with (first | (refine load_blk rfl _ _ rfl g9 rfl _ _ _ hb9 undX rfl (by rw [sizeX]; rfl) ?_) | (refine load_blk rfl _ _ rfl (g9 + 1) rfl _ _ _ hb10 undX rfl (by rw [sizeX]; rfl) ?_))
                  refine HH5.out.mono ?_
                  rintro e wc ⟨v9, rfl, hi9, hgc⟩
                  have HPC := Lib.hid (HP5.out.grow hgc)
                  have HI9 := Lib.hid hi9
                  obtain ⟨A8, c8, rfl, -⟩ := hi9
                  have hbc := HPC.out.b9
                  clear hb9 hb10 hgc
                  go_wp2_with (refine store_blk rfl _ _ _ rfl g9 [.int .i64 (n : Int), (.slice A8 Ln.length c8)] rfl rfl _ _ hbc (by rw [sizeX]; rfl) rfl rfl ?_)
                  have HP6 := Lib.hid (PI.put9 HR.out HPC.out HG9.out.1 (by omega) HI9.out)
                  obtain ⟨v9, hv9⟩ : ∃ v9, v9 = Value.slice A8 Ln.length c8 := ⟨_, rfl⟩
                  obtain ⟨w6, hw6⟩ : ∃ w6, w6 = wc.setRow g9 [.int .i64 (n : Int), (.slice A8 Ln.length c8)].toArray := ⟨_, rfl⟩
                  rw [← hw6] at HP6
                  first | rw [← hw6] | skip
                  rw [← hv9] at HP6
                  clear hw6 hv9 hbc
                  clear H5 HH hrr
                  go_wp2_with fail
                  refine CutEnd.mk (by kernel_rfl) ⟨S', T, v9, vt, r, rfl, rfl, ?_⟩
                  rw [HL5.out] at HP6
                  exact HP6
                · have hk3 := hk
                  clear hk
                  have t0a : ((kd : Int) == 0) = false := by exact beq_false_of_ne (by omega)
                  have t0b : (kd == 0) = false := by exact beq_false_of_ne (by omega)
                  have t1a : ((kd : Int) == 1) = false := by exact beq_false_of_ne (by omega)
                  have t1b : (kd == 1) = false := by exact beq_false_of_ne (by omega)
                  have t2a : ((kd : Int) == 2) = false := by exact beq_false_of_ne (by omega)
                  have t2b : (kd == 2) = false := by exact beq_false_of_ne (by omega)
                  have t3a : ((kd : Int) == 3) = false := by exact beq_false_of_ne (by omega)
                  have t3b : (kd == 3) = false := by exact beq_false_of_ne (by omega)
                  clear hk0 hk1 hk2 hk3
                  obtain ⟨r, hr⟩ : ∃ r, r = (fitB m xi && !memI T xi) := ⟨_, rfl⟩
                  obtain ⟨S', hS'⟩ : ∃ S', S' = putS m T xi := ⟨_, rfl⟩
                  obtain ⟨Ln, hLn⟩ : ∃ Ln, Ln = elems m S' := ⟨_, rfl⟩
                  have hrr : (r != r) = false := bne_self_eq_false r
                  have H5 := Lib.hid (put_any wr w.heap.size _ (ht + 1) (some ht) m T HPS.out.mt hFT.out xi)
                  have HR5 := Lib.hid hr
                  have HS5 := Lib.hid hS'
                  have HL5 := Lib.hid hLn
                  rw [← hr, ← hS'] at H5
                  clear hr hS' hLn
                  go_wp2_with fail
                  refine H5.out.mono ?_
                  rintro e w5 ⟨rfl, m5, k5⟩
                  have HP5 := Lib.hid (PI.setT HR.out HPS.out HD.out k5 m5)
                  clear m5 k5 z0 z1
                  have HH : Hid (∀ w', IntsV w' vt (elems m T) → Calls Try.prog 23 #[.agg #[.int .i64 (m : Int), vt], .int .i64 xi] w' fun e w2 => ∃ v', e = .returned (.tuple #[.agg #[.int .i64 (m : Int), v'], .bool r]) ∧ IntsV w2 v' Ln ∧ Grow w' w2) := Lib.hid fun w' hi => by rw [HR5.out, HL5.out, HS5.out, ← putL_elems HGT.out xi, ← badP_elems HGT.out xi]; exact ref_put w' m vt _ hi xi (by have := HLS.out; omega) HN6.out.2
                  go_wp2_with fail
                  apply (fun (v0 v1 v2 v3 v4 v5 v9 v11 : Value) mono draw obl tail => wp_region_piv (I := I2 (PI w (some ⟨b, off, none⟩) k xs (hs + 1) hs (ht + 1) ht g9 (g9 + 1) n m S S' (elems n S) (elems m T) vs vt) (fun w' => ∃ v9, PI w (some ⟨b, off, none⟩) k xs (hs + 1) hs (ht + 1) ht g9 (g9 + 1) n m S S' (elems n S) Ln vs v9 w')) (G := Grow) (Rp := (fun _ _ _ => True)) (Φ := phi2 [veq2 v0, veq2 v1, veq2 v2, veq2 v3, veq2 v4, veq2 v5, (IsPut (m : Int) r Ln), (IsPut (m : Int) r Ln), (from2 0 (IsSet (m : Int) Ln)), veq2 v9, (veq2 undef), veq2 v11]) (m := 12) (ps := [10]) (qs := [(0, 0, false), (0, 0, false), (0, 0, false), (0, 0, false), (0, 0, false), (0, 0, false), (0, 0, false), (0, 0, false), (0, 0, false), (0, 1, false), (0, 0, true), (1, 1, false)]) (dls := [[], [], [], [(46, 1), (47, 2)], [(48, 3)], [(49, 4)], [(45, 0), (50, 5)], [(51, 6)], [(44, 7)], [(44, 7)], [(52, 8)], [(53, 9)]]) (ds := [45, 46, 47, 48, 49, 50, 51, 44, 52, 53, 215, 13]) (by kernel_rfl) (by kernel_rfl) (by kernel_rfl) (by decide) rfl rfl draw (mono2_phi mono) (piv2_phi mono) obl tail)
                  case obl =>
                    refine obls2_cons (fun b hb1 hb2 f w' hI hH Q hQ => ?_) ?_
                    · skip
                      obtain rfl : b = 0 := by omega
                      clear hb1 hb2
                      clear hH
                      refine wpList_view ?_; show wpList _ _ _ [_] ⟨#[_, _, _, _, _, _, _, _, _, _, _, _, _, _, _, _, _, _, _, _, _, _, _, _, _, _, _, _, _, _, _, _, _, _, _, _, _, _, _, _, _, _, _, _, _, _, _, _, _, _, _, _, _, _, _, _, _, _, _, _, _, _, _, _, _, _, _, _, _, _, _, _, _, _, _, _, _, _, _, _, _, _, _, _, _, _, _, _, _, _, _, _, _, _, _, _, _, _, _, _, _, _, _, _, _, _, _, _, _, _, _, _, _, _, _, _, _, _, _, _, _, _, _, _, _, _, _, _, _, _, _, _, _, _, _, _, _, _, _, _, _, _, _, _, _, _, _, _, _, _, _, _, _, _, _, _, _, _, _, _, _, _, _, _, _, _, _, _, _, _, _, _, _, _, _, _, _, _, _, _, _, _, _, _, _, _, _, _, _, _, _, _, _, _, _, _, _, _, _, _, _, _, _, _], _⟩ _
                      have HIg := Lib.hid hI
                      have hb9 := hI.get0.b10
                      clear hI
                      go_wp2_with (refine load_blk rfl _ _ rfl (g9 + 1) rfl _ _ _ hb9 undX rfl (by rw [sizeX]; rfl) ?_)
                      exact hQ _ _ HIg.out (Grow.refl _) rfl rfl
                    refine obls2_cons (fun b hb1 hb2 f w' hI hH Q hQ => ?_) ?_
                    · skip
                      obtain rfl : b = 0 := by omega
                      clear hb1 hb2
                      clear hH
                      refine wpList_view ?_; show wpList _ _ _ [_] ⟨#[_, _, _, _, _, _, _, _, _, _, _, _, _, _, _, _, _, _, _, _, _, _, _, _, _, _, _, _, _, _, _, _, _, _, _, _, _, _, _, _, _, _, _, _, _, _, _, _, _, _, _, _, _, _, _, _, _, _, _, _, _, _, _, _, _, _, _, _, _, _, _, _, _, _, _, _, _, _, _, _, _, _, _, _, _, _, _, _, _, _, _, _, _, _, _, _, _, _, _, _, _, _, _, _, _, _, _, _, _, _, _, _, _, _, _, _, _, _, _, _, _, _, _, _, _, _, _, _, _, _, _, _, _, _, _, _, _, _, _, _, _, _, _, _, _, _, _, _, _, _, _, _, _, _, _, _, _, _, _, _, _, _, _, _, _, _, _, _, _, _, _, _, _, _, _, _, _, _, _, _, _, _, _, _, _, _, _, _, _, _, _, _, _, _, _, _, _, _, _, _, _, _, _, _], _⟩ _
                      repeat (first | go_guarded | go_step)
                      exact hQ _ _ hI (Grow.refl _) rfl rfl
                    refine obls2_cons (fun b hb1 hb2 f w' hI hH Q hQ => ?_) ?_
                    · skip
                      obtain rfl : b = 0 := by omega
                      clear hb1 hb2
                      clear hH
                      refine wpList_view ?_; show wpList _ _ _ [_] ⟨#[_, _, _, _, _, _, _, _, _, _, _, _, _, _, _, _, _, _, _, _, _, _, _, _, _, _, _, _, _, _, _, _, _, _, _, _, _, _, _, _, _, _, _, _, _, _, _, _, _, _, _, _, _, _, _, _, _, _, _, _, _, _, _, _, _, _, _, _, _, _, _, _, _, _, _, _, _, _, _, _, _, _, _, _, _, _, _, _, _, _, _, _, _, _, _, _, _, _, _, _, _, _, _, _, _, _, _, _, _, _, _, _, _, _, _, _, _, _, _, _, _, _, _, _, _, _, _, _, _, _, _, _, _, _, _, _, _, _, _, _, _, _, _, _, _, _, _, _, _, _, _, _, _, _, _, _, _, _, _, _, _, _, _, _, _, _, _, _, _, _, _, _, _, _, _, _, _, _, _, _, _, _, _, _, _, _, _, _, _, _, _, _, _, _, _, _, _, _, _, _, _, _, _, _], _⟩ _
                      repeat (first | go_guarded | go_step)
                      exact hQ _ _ hI (Grow.refl _) rfl rfl
                    refine obls2_cons (fun b hb1 hb2 f w' hI hH Q hQ => ?_) ?_
                    · skip
                      obtain rfl : b = 0 := by omega
                      clear hb1 hb2
                      have h1 := hH.get 0 (46, 1) rfl
                      have h2 := hH.get 1 (47, 2) rfl
                      clear hH
                      refine wpList_view ?_; show wpList _ _ _ [_] ⟨#[_, _, _, _, _, _, _, _, _, _, _, _, _, _, _, _, _, _, _, _, _, _, _, _, _, _, _, _, _, _, _, _, _, _, _, _, _, _, _, _, _, _, _, _, _, _, f 1, f 2, _, _, _, _, _, _, _, _, _, _, _, _, _, _, _, _, _, _, _, _, _, _, _, _, _, _, _, _, _, _, _, _, _, _, _, _, _, _, _, _, _, _, _, _, _, _, _, _, _, _, _, _, _, _, _, _, _, _, _, _, _, _, _, _, _, _, _, _, _, _, _, _, _, _, _, _, _, _, _, _, _, _, _, _, _, _, _, _, _, _, _, _, _, _, _, _, _, _, _, _, _, _, _, _, _, _, _, _, _, _, _, _, _, _, _, _, _, _, _, _, _, _, _, _, _, _, _, _, _, _, _, _, _, _, _, _, _, _, _, _, _, _, _, _, _, _, _, _, _, _, _, _, _, _, _, _], _⟩ _
                      rw [show f 1 = _ from h1]
                      rw [show f 2 = _ from h2]
                      clear h1 h2
                      repeat (first | go_guarded | go_step)
                      exact hQ _ _ hI (Grow.refl _) rfl rfl
                    refine obls2_cons (fun b hb1 hb2 f w' hI hH Q hQ => ?_) ?_
                    · skip
                      obtain rfl : b = 0 := by omega
                      clear hb1 hb2
                      have h3 := hH.get 0 (48, 3) rfl
                      clear hH
                      refine wpList_view ?_; show wpList _ _ _ [_] ⟨#[_, _, _, _, _, _, _, _, _, _, _, _, _, _, _, _, _, _, _, _, _, _, _, _, _, _, _, _, _, _, _, _, _, _, _, _, _, _, _, _, _, _, _, _, _, _, _, _, f 3, _, _, _, _, _, _, _, _, _, _, _, _, _, _, _, _, _, _, _, _, _, _, _, _, _, _, _, _, _, _, _, _, _, _, _, _, _, _, _, _, _, _, _, _, _, _, _, _, _, _, _, _, _, _, _, _, _, _, _, _, _, _, _, _, _, _, _, _, _, _, _, _, _, _, _, _, _, _, _, _, _, _, _, _, _, _, _, _, _, _, _, _, _, _, _, _, _, _, _, _, _, _, _, _, _, _, _, _, _, _, _, _, _, _, _, _, _, _, _, _, _, _, _, _, _, _, _, _, _, _, _, _, _, _, _, _, _, _, _, _, _, _, _, _, _, _, _, _, _, _, _, _, _, _, _], _⟩ _
                      rw [show f 3 = _ from h3]
                      clear h3
                      repeat (first | go_guarded | go_step)
                      exact hQ _ _ hI (Grow.refl _) rfl rfl
                    refine obls2_cons (fun b hb1 hb2 f w' hI hH Q hQ => ?_) ?_
                    · skip
                      obtain rfl : b = 0 := by omega
                      clear hb1 hb2
                      have h4 := hH.get 0 (49, 4) rfl
                      clear hH
                      refine wpList_view ?_; show wpList _ _ _ [_] ⟨#[_, _, _, _, _, _, _, _, _, _, _, _, _, _, _, _, _, _, _, _, _, _, _, _, _, _, _, _, _, _, _, _, _, _, _, _, _, _, _, _, _, _, _, _, _, _, _, _, _, f 4, _, _, _, _, _, _, _, _, _, _, _, _, _, _, _, _, _, _, _, _, _, _, _, _, _, _, _, _, _, _, _, _, _, _, _, _, _, _, _, _, _, _, _, _, _, _, _, _, _, _, _, _, _, _, _, _, _, _, _, _, _, _, _, _, _, _, _, _, _, _, _, _, _, _, _, _, _, _, _, _, _, _, _, _, _, _, _, _, _, _, _, _, _, _, _, _, _, _, _, _, _, _, _, _, _, _, _, _, _, _, _, _, _, _, _, _, _, _, _, _, _, _, _, _, _, _, _, _, _, _, _, _, _, _, _, _, _, _, _, _, _, _, _, _, _, _, _, _, _, _, _, _, _, _], _⟩ _
                      rw [show f 4 = _ from h4]
                      clear h4
                      have HIg := Lib.hid hI
                      have y1 := hI.get0.g.cell HQ1.out
                      clear hI
                      go_wp2_with fail
                      exact hQ _ _ HIg.out (Grow.refl _) rfl rfl
                    refine obls2_cons (fun b hb1 hb2 f w' hI hH Q hQ => ?_) ?_
                    · skip
                      obtain rfl : b = 0 := by omega
                      clear hb1 hb2
                      have h0 := hH.get 0 (45, 0) rfl
                      have h5 := hH.get 1 (50, 5) rfl
                      clear hH
                      refine wpList_view ?_; show wpList _ _ _ [_] ⟨#[_, _, _, _, _, _, _, _, _, _, _, _, _, _, _, _, _, _, _, _, _, _, _, _, _, _, _, _, _, _, _, _, _, _, _, _, _, _, _, _, _, _, _, _, _, f 0, _, _, _, _, f 5, _, _, _, _, _, _, _, _, _, _, _, _, _, _, _, _, _, _, _, _, _, _, _, _, _, _, _, _, _, _, _, _, _, _, _, _, _, _, _, _, _, _, _, _, _, _, _, _, _, _, _, _, _, _, _, _, _, _, _, _, _, _, _, _, _, _, _, _, _, _, _, _, _, _, _, _, _, _, _, _, _, _, _, _, _, _, _, _, _, _, _, _, _, _, _, _, _, _, _, _, _, _, _, _, _, _, _, _, _, _, _, _, _, _, _, _, _, _, _, _, _, _, _, _, _, _, _, _, _, _, _, _, _, _, _, _, _, _, _, _, _, _, _, _, _, _, _, _, _, _, _, _, _], _⟩ _
                      rw [show f 0 = _ from h0]
                      rw [show f 5 = _ from h5]
                      clear h0 h5
                      have HIg := Lib.hid hI
                      have HH6 := Lib.hid (HH.out _ hI.get0.i10)
                      clear hI
                      go_wp2_with (go_at_call 23; refine HH6.out.mono ?_; rintro e w1 ⟨v1, rfl, hi1, hg1⟩)
                      exact hQ _ _ (I2.zero (HIg.out.get0.grow hg1)) hg1 ⟨v1, rfl, fun _ => hi1⟩ rfl
                    refine obls2_cons (fun b hb1 hb2 f w' hI hH Q hQ => ?_) ?_
                    · skip
                      obtain rfl : b = 0 := by omega
                      clear hb1 hb2
                      have h6 := hH.get 0 (51, 6) rfl
                      clear hH
                      refine wpList_view ?_; show wpList _ _ _ [_] ⟨#[_, _, _, _, _, _, _, _, _, _, _, _, _, _, _, _, _, _, _, _, _, _, _, _, _, _, _, _, _, _, _, _, _, _, _, _, _, _, _, _, _, _, _, _, _, _, _, _, _, _, _, f 6, _, _, _, _, _, _, _, _, _, _, _, _, _, _, _, _, _, _, _, _, _, _, _, _, _, _, _, _, _, _, _, _, _, _, _, _, _, _, _, _, _, _, _, _, _, _, _, _, _, _, _, _, _, _, _, _, _, _, _, _, _, _, _, _, _, _, _, _, _, _, _, _, _, _, _, _, _, _, _, _, _, _, _, _, _, _, _, _, _, _, _, _, _, _, _, _, _, _, _, _, _, _, _, _, _, _, _, _, _, _, _, _, _, _, _, _, _, _, _, _, _, _, _, _, _, _, _, _, _, _, _, _, _, _, _, _, _, _, _, _, _, _, _, _, _, _, _, _, _, _, _, _], _⟩ _
                      replace h6 : (IsPut (m : Int) r Ln) (f 6) 0 w' := h6
                      obtain ⟨u6, hu6⟩ : ∃ u, u = f 6 := ⟨_, rfl⟩
                      rw [← hu6]
                      rw [← hu6] at h6
                      clear hu6
                      have HIg := Lib.hid hI
                      clear hI
                      go_wp2_with fail
                      exact hQ _ _ HIg.out (Grow.refl _) h6 rfl
                    refine obls2_cons (fun b hb1 hb2 f w' hI hH Q hQ => ?_) ?_
                    · skip
                      obtain rfl : b = 0 := by omega
                      clear hb1 hb2
                      have h7 := hH.get 0 (44, 7) rfl
                      clear hH
                      refine wpList_view ?_; show wpList _ _ _ [_] ⟨#[_, _, _, _, _, _, _, _, _, _, _, _, _, _, _, _, _, _, _, _, _, _, _, _, _, _, _, _, _, _, _, _, _, _, _, _, _, _, _, _, _, _, _, _, f 7, _, _, _, _, _, _, _, _, _, _, _, _, _, _, _, _, _, _, _, _, _, _, _, _, _, _, _, _, _, _, _, _, _, _, _, _, _, _, _, _, _, _, _, _, _, _, _, _, _, _, _, _, _, _, _, _, _, _, _, _, _, _, _, _, _, _, _, _, _, _, _, _, _, _, _, _, _, _, _, _, _, _, _, _, _, _, _, _, _, _, _, _, _, _, _, _, _, _, _, _, _, _, _, _, _, _, _, _, _, _, _, _, _, _, _, _, _, _, _, _, _, _, _, _, _, _, _, _, _, _, _, _, _, _, _, _, _, _, _, _, _, _, _, _, _, _, _, _, _, _, _, _, _, _, _, _, _, _, _], _⟩ _
                      replace h7 : (IsPut (m : Int) r Ln) (f 7) 0 w' := h7
                      obtain ⟨u7, hu7⟩ : ∃ u, u = f 7 := ⟨_, rfl⟩
                      rw [← hu7]
                      rw [← hu7] at h7
                      clear hu7
                      have HIg := Lib.hid hI
                      obtain ⟨v1, rfl, hi1⟩ := h7
                      have hi2 := hi1 rfl
                      clear hi1 hI
                      go_wp2_with fail
                      exact hQ _ _ HIg.out (Grow.refl _) (from2.mk ⟨v1, rfl, hi2⟩) rfl
                    refine obls2_cons (fun b hb1 hb2 f w' hI hH Q hQ => ?_) ?_
                    · skip
                      have h7 := hH.get 0 (44, 7) rfl
                      clear hH
                      refine wpList_view ?_; show wpList _ _ _ [_] ⟨#[_, _, _, _, _, _, _, _, _, _, _, _, _, _, _, _, _, _, _, _, _, _, _, _, _, _, _, _, _, _, _, _, _, _, _, _, _, _, _, _, _, _, _, _, f 7, _, _, _, _, _, _, _, _, _, _, _, _, _, _, _, _, _, _, _, _, _, _, _, _, _, _, _, _, _, _, _, _, _, _, _, _, _, _, _, _, _, _, _, _, _, _, _, _, _, _, _, _, _, _, _, _, _, _, _, _, _, _, _, _, _, _, _, _, _, _, _, _, _, _, _, _, _, _, _, _, _, _, _, _, _, _, _, _, _, _, _, _, _, _, _, _, _, _, _, _, _, _, _, _, _, _, _, _, _, _, _, _, _, _, _, _, _, _, _, _, _, _, _, _, _, _, _, _, _, _, _, _, _, _, _, _, _, _, _, _, _, _, _, _, _, _, _, _, _, _, _, _, _, _, _, _, _, _, _], _⟩ _
                      replace h7 : (IsPut (m : Int) r Ln) (f 7) b w' := h7
                      obtain ⟨u7, hu7⟩ : ∃ u, u = f 7 := ⟨_, rfl⟩
                      rw [← hu7]
                      rw [← hu7] at h7
                      clear hu7
                      have HIg := Lib.hid hI
                      obtain ⟨v1, rfl, -⟩ := h7
                      clear hI
                      go_wp2_with fail
                      exact hQ _ _ HIg.out (Grow.refl _) rfl rfl
                    refine oblsP_cons (fun f w' hI hH Q hQ => ?_) ?_
                    · skip
                      have h8 := hH.get 0 (52, 8) rfl
                      clear hH
                      refine wpList_view ?_; show wpList _ _ _ [_] ⟨#[_, _, _, _, _, _, _, _, _, _, _, _, _, _, _, _, _, _, _, _, _, _, _, _, _, _, _, _, _, _, _, _, _, _, _, _, _, _, _, _, _, _, _, _, _, _, _, _, _, _, _, _, f 8, _, _, _, _, _, _, _, _, _, _, _, _, _, _, _, _, _, _, _, _, _, _, _, _, _, _, _, _, _, _, _, _, _, _, _, _, _, _, _, _, _, _, _, _, _, _, _, _, _, _, _, _, _, _, _, _, _, _, _, _, _, _, _, _, _, _, _, _, _, _, _, _, _, _, _, _, _, _, _, _, _, _, _, _, _, _, _, _, _, _, _, _, _, _, _, _, _, _, _, _, _, _, _, _, _, _, _, _, _, _, _, _, _, _, _, _, _, _, _, _, _, _, _, _, _, _, _, _, _, _, _, _, _, _, _, _, _, _, _, _, _, _, _, _, _, _, _, _, _, _, _], _⟩ _
                      replace h8 : (from2 0 (IsSet (m : Int) Ln)) (f 8) 0 w' := h8
                      obtain ⟨u8, hu8⟩ : ∃ u, u = f 8 := ⟨_, rfl⟩
                      rw [← hu8]
                      rw [← hu8] at h8
                      have HU8 : Hid (f 8 = u8) := Lib.hid hu8.symm
                      clear hu8
                      have HIg := Lib.hid hI.get0
                      have hb9 := hI.get0.b10
                      obtain ⟨v1, rfl, hi1⟩ := h8.get
                      have HI1 := Lib.hid hi1
                      obtain ⟨A8, c8, rfl, -⟩ := hi1
                      clear hI
                      go_wp2_with (refine store_blk rfl _ _ _ rfl (g9 + 1) [.int .i64 (m : Int), (.slice A8 Ln.length c8)] rfl rfl _ _ hb9 (by rw [sizeX]; rfl) rfl rfl ?_)
                      exact hQ _ _ (I2.one ⟨_, PI.put10 HR.out HIg.out HG9.out.2.1 (by omega) HI1.out⟩) trivial rfl rfl
                    refine obls2_cons (fun b hb1 hb2 f w' hI hH Q hQ => ?_) ?_
                    · skip
                      obtain rfl : b = 1 := by omega
                      clear hb1 hb2
                      have h9 := hH.get 0 (53, 9) rfl
                      clear hH
                      refine wpList_view ?_; show wpList _ _ _ [_] ⟨#[_, _, _, _, _, _, _, _, _, _, _, _, _, _, _, _, _, _, _, _, _, _, _, _, _, _, _, _, _, _, _, _, _, _, _, _, _, _, _, _, _, _, _, _, _, _, _, _, _, _, _, _, _, f 9, _, _, _, _, _, _, _, _, _, _, _, _, _, _, _, _, _, _, _, _, _, _, _, _, _, _, _, _, _, _, _, _, _, _, _, _, _, _, _, _, _, _, _, _, _, _, _, _, _, _, _, _, _, _, _, _, _, _, _, _, _, _, _, _, _, _, _, _, _, _, _, _, _, _, _, _, _, _, _, _, _, _, _, _, _, _, _, _, _, _, _, _, _, _, _, _, _, _, _, _, _, _, _, _, _, _, _, _, _, _, _, _, _, _, _, _, _, _, _, _, _, _, _, _, _, _, _, _, _, _, _, _, _, _, _, _, _, _, _, _, _, _, _, _, _, _, _, _, _, _], _⟩ _
                      rw [show f 9 = _ from h9]
                      clear h9
                      repeat (first | go_guarded | go_step)
                      exact hQ _ _ hI (Grow.refl _) rfl rfl
                    exact obls2_nil
                  case draw =>
                    exact I2.zero (HP5.out.grow (Grow.drew _))
                  case mono => exact ⟨Mono2.veq _, Mono2.veq _, Mono2.veq _, Mono2.veq _, Mono2.veq _, Mono2.veq _, IsPut.mono, IsPut.mono, Mono2.from IsSet.mono, Mono2.veq _, Mono2.veq _, Mono2.veq _, trivial⟩
                  case tail =>
                    intro f w' hI hH
                    have q11 := hH.get 11 (13, 11) rfl
                    clear hH
                    refine wpList_merge (idx := [none, none, none, none, none, none, none, none, none, none, none, none, none, some 11, none, none, none, none, none, none, none, none, none, none, none, none, none, none, none, none, none, none, none, none, none, none, none, none, none, none, none, none, none, none, some 7, some 0, some 1, some 2, some 3, some 4, some 5, some 6, some 8, some 9, none, none, none, none, none, none, none, none, none, none, none, none, none, none, none, none, none, none, none, none, none, none, none, none, none, none, none, none, none, none, none, none, none, none, none, none, none, none, none, none, none, none, none, none, none, none, none, none, none, none, none, none, none, none, none, none, none, none, none, none, none, none, none, none, none, none, none, none, none, none, none, none, none, none, none, none, none, none, none, none, none, none, none, none, none, none, none, none, none, none, none, none, none, none, none, none, none, none, none, none, none, none, none, none, none, none, none, none, none, none, none, none, none, none, none, none, none, none, none, none, none, none, none, none, none, none, none, none, none, none, none, none, none, none, none, none, none, none, none, none, none, none, none, none, none, none, none, none, none, none]) (by kernel_rfl) ?_; show wpList _ _ _ [] ⟨#[_, _, _, _, _, _, _, _, _, _, _, _, _, f 11, _, _, _, _, _, _, _, _, _, _, _, _, _, _, _, _, _, _, _, _, _, _, _, _, _, _, _, _, _, _, f 7, f 0, f 1, f 2, f 3, f 4, f 5, f 6, f 8, f 9, _, _, _, _, _, _, _, _, _, _, _, _, _, _, _, _, _, _, _, _, _, _, _, _, _, _, _, _, _, _, _, _, _, _, _, _, _, _, _, _, _, _, _, _, _, _, _, _, _, _, _, _, _, _, _, _, _, _, _, _, _, _, _, _, _, _, _, _, _, _, _, _, _, _, _, _, _, _, _, _, _, _, _, _, _, _, _, _, _, _, _, _, _, _, _, _, _, _, _, _, _, _, _, _, _, _, _, _, _, _, _, _, _, _, _, _, _, _, _, _, _, _, _, _, _, _, _, _, _, _, _, _, _, _, _, _, _, _, _, _, _, _, _, _, _, _, _, _, _, _], _⟩ _
                    rw [show f 11 = _ from q11]
                    clear q11
                    obtain ⟨v9, hp6⟩ := hI.get1
                    have HP6 := Lib.hid hp6
                    clear hI hp6
                    obtain ⟨w6, hw6⟩ : ∃ w6, w6 = w' := ⟨_, rfl⟩
                    rw [← hw6] at HP6 ⊢
                    clear hw6
                    clear H5 HH hrr
                    go_wp2_with fail
                    refine CutEnd.mk (by kernel_rfl) ⟨S, S', vs, v9, r, rfl, rfl, ?_⟩
                    rw [HL5.out] at HP6
                    exact HP6
      · obtain rfl : j = k := by omega
        have HPE := Lib.hid pi
        obtain ⟨A9, c9, hv9, -⟩ := pi.i9
        obtain ⟨A10, c10, hv10, -⟩ := pi.i10
        obtain ⟨q9, hq9⟩ : ∃ q, q = (elems n S).length := ⟨_, rfl⟩
        obtain ⟨q10, hq10⟩ : ∃ q, q = (elems m T).length := ⟨_, rfl⟩
        obtain ⟨p, hp⟩ : ∃ p, p = (allIn n S T && allIn m T S) := ⟨_, rfl⟩
        obtain ⟨zi, hzi⟩ : ∃ zi : Int, zi = if elems n S = elems m T then 1 else 0 := ⟨_, rfl⟩
        obtain ⟨pw, hpw⟩ : ∃ p, p = allIn n S T := ⟨_, rfl⟩
        have hzp : (zi == 1) = p := by rw [hzi, hp, both_in gS gT]; by_cases h : elems n S = elems m T <;> simp [h]
        have HD1 : Hid (∀ w', Grow wr w' → Calls Try.prog 34 #[.pointer (some ⟨hs + 1, 0, none⟩)] w' fun e w2 => ∃ v, e = .returned v ∧ IntsV w2 v (elems n S) ∧ Grow w' w2) := Lib.hid fun w' hg => (list_any w' _ _ n S (HPE.out.ms.grow hg)).mono fun e w2 ⟨v, h1, h2, h3⟩ => ⟨v, h1, IntsV.own h2, h3⟩
        have HD3 : Hid (∀ w', Grow wr w' → Calls Try.prog 34 #[.pointer (some ⟨ht + 1, 0, none⟩)] w' fun e w2 => ∃ v, e = .returned v ∧ IntsV w2 v (elems m T) ∧ Grow w' w2) := Lib.hid fun w' hg => (list_any w' _ _ m T (HPE.out.mt.grow hg)).mono fun e w2 ⟨v, h1, h2, h3⟩ => ⟨v, h1, IntsV.own h2, h3⟩
        have HI1 : Hid (∀ w' v, Grow wr w' → IntsV w' v (elems n S) → Calls Try.prog 33 #[v, .slice A9 q9 c9] w' fun e w2 => e = .returned (.int .i64 1) ∧ Grow w' w2) := Lib.hid fun w' v hg hv => by have := ints_any w' v _ _ _ hv (HPE.out.i9.grow hg); rw [if_pos rfl, hv9, ← hq9] at this; exact this
        have HI2 : Hid (∀ w' v, Grow wr w' → IntsV w' v (elems m T) → Calls Try.prog 33 #[v, .slice A10 q10 c10] w' fun e w2 => e = .returned (.int .i64 1) ∧ Grow w' w2) := Lib.hid fun w' v hg hv => by have := ints_any w' v _ _ _ hv (HPE.out.i10.grow hg); rw [if_pos rfl, hv10, ← hq10] at this; exact this
        have HI3 : Hid (∀ w', Grow wr w' → Calls Try.prog 33 #[.slice A9 q9 c9, .slice A10 q10 c10] w' fun e w2 => e = .returned (.int .i64 zi) ∧ Grow w' w2) := Lib.hid fun w' hg => by have := ints_any w' _ _ _ _ (HPE.out.i9.grow hg) (HPE.out.i10.grow hg); rw [← hzi, hv9, hv10, ← hq9, ← hq10] at this; exact this
        have HRm : Hid (∀ w', Grow wr w' → Calls Try.prog 35 #[.pointer (some ⟨hs + 1, 0, none⟩)] w' fun e w2 => e = .returned (.int .i64 (n : Int)) ∧ w' = w2) := Lib.hid fun w' hg => room_any w' _ _ n S (HPE.out.ms.grow hg)
        have HSm : Hid (∀ w', Grow wr w' → Calls Try.prog 17 #[.pointer (some ⟨hs + 1, 0, none⟩), .pointer (some ⟨ht + 1, 0, none⟩)] w' fun e w2 => e = .returned (.bool p) ∧ w' = w2) := Lib.hid fun w' hg => by rw [hp]; exact same_ms (HPE.out.ms.grow hg) (HPE.out.mt.grow hg)
        have HWi : Hid (∀ w', Grow wr w' → Calls Try.prog 18 #[.pointer (some ⟨hs + 1, 0, none⟩), .pointer (some ⟨ht + 1, 0, none⟩)] w' fun e w2 => e = .returned (.bool pw) ∧ w' = w2) := Lib.hid fun w' hg => by rw [hpw]; exact within_ms (HPE.out.ms.grow hg) (HPE.out.mt.grow hg)
        have HRw : Hid (∀ w', Grow wr w' → Calls Try.prog 36 #[.agg #[.int .i64 (n : Int), .slice A9 q9 c9], .agg #[.int .i64 (m : Int), .slice A10 q10 c10]] w' fun e w2 => e = .returned (.bool pw) ∧ Grow w' w2) := Lib.hid fun w' hg => by have := ref_within w' n m _ _ _ _ (HPE.out.i9.grow hg) (HPE.out.i10.grow hg); rw [all_elems gT, hv9, hv10, ← hq9, ← hq10, ← hpw] at this; exact this
        have hb9 := pi.b9
        have hb10 := pi.b10
        rw [hv9, ← hq9] at hb9
        rw [hv10, ← hq10] at hb10
        have HB9 := Lib.hid hb9
        have HB10 := Lib.hid hb10
        have HG := Lib.hid pi.g
        have hpp : (p == p) = true := beq_self_eq_true p
        have hpp2 : (pw == pw) = true := beq_self_eq_true pw
        have hnn : ((n : Int) == (n : Int)) = true := beq_self_eq_true _
        clear hb9 hb10 hv9 hv10 hq9 hq10 hp hzi hpw pi gS gT
        go_wp2_with fail
        apply (fun (v0 v2 v3 v4 v5 v6 v7 v9 v10 v11 v12 v13 v14 v15 v16 v17 v18 v19 v20 v21 v22 v23 v24 v25 v26 v27 v28 v29 v30 v31 v32 v33 v34 v35 v36 v37 v38 v39 v40 v41 v42 v43 v44 v45 : Value) mono obl tail => wp_region_par (R := Grow) (Φ := phi [veq v0, (IsInts (elems n S)), veq v2, veq v3, veq v4, veq v5, veq v6, veq v7, (IsInts (elems m T)), veq v9, veq v10, veq v11, veq v12, veq v13, veq v14, veq v15, veq v16, veq v17, veq v18, veq v19, veq v20, veq v21, veq v22, veq v23, veq v24, veq v25, veq v26, veq v27, veq v28, veq v29, veq v30, veq v31, veq v32, veq v33, veq v34, veq v35, veq v36, veq v37, veq v38, veq v39, veq v40, veq v41, veq v42, veq v43, veq v44, veq v45]) (m := 46) (dls := [[], [(159, 0)], [], [(161, 2)], [(160, 1), (162, 3)], [(163, 4)], [(164, 5)], [(165, 6)], [(166, 7), (165, 6)], [(165, 6)], [(168, 9), (165, 6)], [(167, 8), (169, 10), (165, 6)], [(170, 11), (165, 6)], [(165, 6), (171, 12)], [(172, 13)], [(173, 14)], [(174, 15), (173, 14)], [(173, 14)], [(176, 17), (173, 14)], [(175, 16), (177, 18), (173, 14)], [(173, 14), (178, 19)], [(179, 20)], [(180, 21)], [(180, 21)], [(181, 22), (182, 23), (180, 21)], [(180, 21)], [(184, 25), (180, 21)], [(180, 21)], [(186, 27), (180, 21)], [(185, 26), (187, 28), (180, 21)], [(188, 29), (180, 21)], [(183, 24), (189, 30), (180, 21)], [(180, 21), (190, 31)], [(191, 32)], [(192, 33)], [(192, 33)], [(193, 34), (194, 35), (192, 33)], [(192, 33)], [(192, 33)], [(196, 37), (197, 38), (192, 33)], [(195, 36), (198, 39), (192, 33)], [(192, 33), (199, 40)], [(200, 41)], [(201, 42)], [(201, 42), (202, 43)], [(203, 44)]]) (ds := [159, 160, 161, 162, 163, 164, 165, 166, 167, 168, 169, 170, 171, 172, 173, 174, 175, 176, 177, 178, 179, 180, 181, 182, 183, 184, 185, 186, 187, 188, 189, 190, 191, 192, 193, 194, 195, 196, 197, 198, 199, 200, 201, 202, 203, 6]) (by kernel_rfl) (by kernel_rfl) (by decide) rfl (Grow.drew _) (fun _ _ _ => Grow.trans) (mono_phi mono) obl tail)
        case obl =>
          refine obls_cons (fun f w' hR hH Q hQ => ?_) ?_
          · skip
            clear hH
            refine wpList_view ?_; show wpList _ _ _ [_] ⟨#[_, _, _, _, _, _, _, _, _, _, _, _, _, _, _, _, _, _, _, _, _, _, _, _, _, _, _, _, _, _, _, _, _, _, _, _, _, _, _, _, _, _, _, _, _, _, _, _, _, _, _, _, _, _, _, _, _, _, _, _, _, _, _, _, _, _, _, _, _, _, _, _, _, _, _, _, _, _, _, _, _, _, _, _, _, _, _, _, _, _, _, _, _, _, _, _, _, _, _, _, _, _, _, _, _, _, _, _, _, _, _, _, _, _, _, _, _, _, _, _, _, _, _, _, _, _, _, _, _, _, _, _, _, _, _, _, _, _, _, _, _, _, _, _, _, _, _, _, _, _, _, _, _, _, _, _, _, _, _, _, _, _, _, _, _, _, _, _, _, _, _, _, _, _, _, _, _, _, _, _, _, _, _, _, _, _, _, _, _, _, _, _, _, _, _, _, _, _, _, _, _, _, _, _], _⟩ _
            repeat (first | go_guarded | go_step)
            exact hQ _ _ (Grow.refl _) rfl rfl
          refine obls_cons (fun f w' hR hH Q hQ => ?_) ?_
          · skip
            have h0 := hH.get 0 (159, 0) rfl
            clear hH
            refine wpList_view ?_; show wpList _ _ _ [_] ⟨#[_, _, _, _, _, _, _, _, _, _, _, _, _, _, _, _, _, _, _, _, _, _, _, _, _, _, _, _, _, _, _, _, _, _, _, _, _, _, _, _, _, _, _, _, _, _, _, _, _, _, _, _, _, _, _, _, _, _, _, _, _, _, _, _, _, _, _, _, _, _, _, _, _, _, _, _, _, _, _, _, _, _, _, _, _, _, _, _, _, _, _, _, _, _, _, _, _, _, _, _, _, _, _, _, _, _, _, _, _, _, _, _, _, _, _, _, _, _, _, _, _, _, _, _, _, _, _, _, _, _, _, _, _, _, _, _, _, _, _, _, _, _, _, _, _, _, _, _, _, _, _, _, _, _, _, _, _, _, _, f 0, _, _, _, _, _, _, _, _, _, _, _, _, _, _, _, _, _, _, _, _, _, _, _, _, _, _, _, _, _, _, _, _, _, _, _, _, _, _, _, _, _, _, _, _], _⟩ _
            rw [show f 0 = _ from h0]
            clear h0
            go_wp2_with (go_at_call 34; refine (HD1.out w' hR).mono ?_; rintro e w1 ⟨v1, rfl, hi1, hg1⟩)
            exact hQ _ _ hg1 hi1 rfl
          refine obls_cons (fun f w' hR hH Q hQ => ?_) ?_
          · skip
            clear hH
            refine wpList_view ?_; show wpList _ _ _ [_] ⟨#[_, _, _, _, _, _, _, _, _, _, _, _, _, _, _, _, _, _, _, _, _, _, _, _, _, _, _, _, _, _, _, _, _, _, _, _, _, _, _, _, _, _, _, _, _, _, _, _, _, _, _, _, _, _, _, _, _, _, _, _, _, _, _, _, _, _, _, _, _, _, _, _, _, _, _, _, _, _, _, _, _, _, _, _, _, _, _, _, _, _, _, _, _, _, _, _, _, _, _, _, _, _, _, _, _, _, _, _, _, _, _, _, _, _, _, _, _, _, _, _, _, _, _, _, _, _, _, _, _, _, _, _, _, _, _, _, _, _, _, _, _, _, _, _, _, _, _, _, _, _, _, _, _, _, _, _, _, _, _, _, _, _, _, _, _, _, _, _, _, _, _, _, _, _, _, _, _, _, _, _, _, _, _, _, _, _, _, _, _, _, _, _, _, _, _, _, _, _, _, _, _, _, _, _], _⟩ _
            repeat (first | go_guarded | go_step)
            exact hQ _ _ (Grow.refl _) rfl rfl
          refine obls_cons (fun f w' hR hH Q hQ => ?_) ?_
          · skip
            have h2 := hH.get 0 (161, 2) rfl
            clear hH
            refine wpList_view ?_; show wpList _ _ _ [_] ⟨#[_, _, _, _, _, _, _, _, _, _, _, _, _, _, _, _, _, _, _, _, _, _, _, _, _, _, _, _, _, _, _, _, _, _, _, _, _, _, _, _, _, _, _, _, _, _, _, _, _, _, _, _, _, _, _, _, _, _, _, _, _, _, _, _, _, _, _, _, _, _, _, _, _, _, _, _, _, _, _, _, _, _, _, _, _, _, _, _, _, _, _, _, _, _, _, _, _, _, _, _, _, _, _, _, _, _, _, _, _, _, _, _, _, _, _, _, _, _, _, _, _, _, _, _, _, _, _, _, _, _, _, _, _, _, _, _, _, _, _, _, _, _, _, _, _, _, _, _, _, _, _, _, _, _, _, _, _, _, _, _, _, f 2, _, _, _, _, _, _, _, _, _, _, _, _, _, _, _, _, _, _, _, _, _, _, _, _, _, _, _, _, _, _, _, _, _, _, _, _, _, _, _, _, _, _], _⟩ _
            rw [show f 2 = _ from h2]
            clear h2
            have y2 := (HB9.out.grow hR).cell (i := 1) rfl
            repeat (first | go_guarded | go_step)
            exact hQ _ _ (Grow.refl _) rfl rfl
          refine obls_cons (fun f w' hR hH Q hQ => ?_) ?_
          · skip
            have h1 := hH.get 0 (160, 1) rfl
            have h3 := hH.get 1 (162, 3) rfl
            clear hH
            refine wpList_view ?_; show wpList _ _ _ [_] ⟨#[_, _, _, _, _, _, _, _, _, _, _, _, _, _, _, _, _, _, _, _, _, _, _, _, _, _, _, _, _, _, _, _, _, _, _, _, _, _, _, _, _, _, _, _, _, _, _, _, _, _, _, _, _, _, _, _, _, _, _, _, _, _, _, _, _, _, _, _, _, _, _, _, _, _, _, _, _, _, _, _, _, _, _, _, _, _, _, _, _, _, _, _, _, _, _, _, _, _, _, _, _, _, _, _, _, _, _, _, _, _, _, _, _, _, _, _, _, _, _, _, _, _, _, _, _, _, _, _, _, _, _, _, _, _, _, _, _, _, _, _, _, _, _, _, _, _, _, _, _, _, _, _, _, _, _, _, _, _, _, _, f 1, _, f 3, _, _, _, _, _, _, _, _, _, _, _, _, _, _, _, _, _, _, _, _, _, _, _, _, _, _, _, _, _, _, _, _, _, _, _, _, _, _, _, _, _], _⟩ _
            replace h1 : (IsInts (elems n S)) (f 1) w' := h1
            generalize f 1 = u1 at h1 ⊢
            rw [show f 3 = _ from h3]
            clear h3
            go_wp2_with (go_at_call 33; refine (HI1.out w' _ hR h1).mono ?_; rintro e w1 ⟨rfl, hg1⟩)
            exact hQ _ _ hg1 rfl rfl
          refine obls_cons (fun f w' hR hH Q hQ => ?_) ?_
          · skip
            have h4 := hH.get 0 (163, 4) rfl
            clear hH
            refine wpList_view ?_; show wpList _ _ _ [_] ⟨#[_, _, _, _, _, _, _, _, _, _, _, _, _, _, _, _, _, _, _, _, _, _, _, _, _, _, _, _, _, _, _, _, _, _, _, _, _, _, _, _, _, _, _, _, _, _, _, _, _, _, _, _, _, _, _, _, _, _, _, _, _, _, _, _, _, _, _, _, _, _, _, _, _, _, _, _, _, _, _, _, _, _, _, _, _, _, _, _, _, _, _, _, _, _, _, _, _, _, _, _, _, _, _, _, _, _, _, _, _, _, _, _, _, _, _, _, _, _, _, _, _, _, _, _, _, _, _, _, _, _, _, _, _, _, _, _, _, _, _, _, _, _, _, _, _, _, _, _, _, _, _, _, _, _, _, _, _, _, _, _, _, _, _, f 4, _, _, _, _, _, _, _, _, _, _, _, _, _, _, _, _, _, _, _, _, _, _, _, _, _, _, _, _, _, _, _, _, _, _, _, _, _, _, _, _], _⟩ _
            rw [show f 4 = _ from h4]
            clear h4
            repeat (first | go_guarded | go_step)
            exact hQ _ _ (Grow.refl _) rfl rfl
          refine obls_cons (fun f w' hR hH Q hQ => ?_) ?_
          · skip
            have h5 := hH.get 0 (164, 5) rfl
            clear hH
            refine wpList_view ?_; show wpList _ _ _ [_] ⟨#[_, _, _, _, _, _, _, _, _, _, _, _, _, _, _, _, _, _, _, _, _, _, _, _, _, _, _, _, _, _, _, _, _, _, _, _, _, _, _, _, _, _, _, _, _, _, _, _, _, _, _, _, _, _, _, _, _, _, _, _, _, _, _, _, _, _, _, _, _, _, _, _, _, _, _, _, _, _, _, _, _, _, _, _, _, _, _, _, _, _, _, _, _, _, _, _, _, _, _, _, _, _, _, _, _, _, _, _, _, _, _, _, _, _, _, _, _, _, _, _, _, _, _, _, _, _, _, _, _, _, _, _, _, _, _, _, _, _, _, _, _, _, _, _, _, _, _, _, _, _, _, _, _, _, _, _, _, _, _, _, _, _, _, _, f 5, _, _, _, _, _, _, _, _, _, _, _, _, _, _, _, _, _, _, _, _, _, _, _, _, _, _, _, _, _, _, _, _, _, _, _, _, _, _, _], _⟩ _
            rw [show f 5 = _ from h5]
            clear h5
            repeat (first | go_guarded | go_step)
            exact hQ _ _ (Grow.refl _) rfl rfl
          refine obls_cons (fun f w' hR hH Q hQ => ?_) ?_
          · skip
            have h6 := hH.get 0 (165, 6) rfl
            clear hH
            refine wpList_view ?_; show wpList _ _ _ [_] ⟨#[_, _, _, _, _, _, _, _, _, _, _, _, _, _, _, _, _, _, _, _, _, _, _, _, _, _, _, _, _, _, _, _, _, _, _, _, _, _, _, _, _, _, _, _, _, _, _, _, _, _, _, _, _, _, _, _, _, _, _, _, _, _, _, _, _, _, _, _, _, _, _, _, _, _, _, _, _, _, _, _, _, _, _, _, _, _, _, _, _, _, _, _, _, _, _, _, _, _, _, _, _, _, _, _, _, _, _, _, _, _, _, _, _, _, _, _, _, _, _, _, _, _, _, _, _, _, _, _, _, _, _, _, _, _, _, _, _, _, _, _, _, _, _, _, _, _, _, _, _, _, _, _, _, _, _, _, _, _, _, _, _, _, _, _, _, f 6, _, _, _, _, _, _, _, _, _, _, _, _, _, _, _, _, _, _, _, _, _, _, _, _, _, _, _, _, _, _, _, _, _, _, _, _, _, _], _⟩ _
            rw [show f 6 = _ from h6]
            clear h6
            repeat (first | go_guarded | go_step)
            exact hQ _ _ (Grow.refl _) rfl rfl
          refine obls_cons (fun f w' hR hH Q hQ => ?_) ?_
          · skip
            have h7 := hH.get 0 (166, 7) rfl
            have h6 := hH.get 1 (165, 6) rfl
            clear hH
            refine wpList_view ?_; show wpList _ _ _ [_] ⟨#[_, _, _, _, _, _, _, _, _, _, _, _, _, _, _, _, _, _, _, _, _, _, _, _, _, _, _, _, _, _, _, _, _, _, _, _, _, _, _, _, _, _, _, _, _, _, _, _, _, _, _, _, _, _, _, _, _, _, _, _, _, _, _, _, _, _, _, _, _, _, _, _, _, _, _, _, _, _, _, _, _, _, _, _, _, _, _, _, _, _, _, _, _, _, _, _, _, _, _, _, _, _, _, _, _, _, _, _, _, _, _, _, _, _, _, _, _, _, _, _, _, _, _, _, _, _, _, _, _, _, _, _, _, _, _, _, _, _, _, _, _, _, _, _, _, _, _, _, _, _, _, _, _, _, _, _, _, _, _, _, _, _, _, _, _, f 6, f 7, _, _, _, _, _, _, _, _, _, _, _, _, _, _, _, _, _, _, _, _, _, _, _, _, _, _, _, _, _, _, _, _, _, _, _, _, _], _⟩ _
            rw [show f 7 = _ from h7]
            rw [show f 6 = _ from h6]
            clear h7 h6
            go_wp2_with (go_at_call 34; refine (HD3.out w' hR).mono ?_; rintro e w1 ⟨v1, rfl, hi1, hg1⟩)
            exact hQ _ _ hg1 hi1 rfl
          refine obls_cons (fun f w' hR hH Q hQ => ?_) ?_
          · skip
            have h6 := hH.get 0 (165, 6) rfl
            clear hH
            refine wpList_view ?_; show wpList _ _ _ [_] ⟨#[_, _, _, _, _, _, _, _, _, _, _, _, _, _, _, _, _, _, _, _, _, _, _, _, _, _, _, _, _, _, _, _, _, _, _, _, _, _, _, _, _, _, _, _, _, _, _, _, _, _, _, _, _, _, _, _, _, _, _, _, _, _, _, _, _, _, _, _, _, _, _, _, _, _, _, _, _, _, _, _, _, _, _, _, _, _, _, _, _, _, _, _, _, _, _, _, _, _, _, _, _, _, _, _, _, _, _, _, _, _, _, _, _, _, _, _, _, _, _, _, _, _, _, _, _, _, _, _, _, _, _, _, _, _, _, _, _, _, _, _, _, _, _, _, _, _, _, _, _, _, _, _, _, _, _, _, _, _, _, _, _, _, _, _, _, f 6, _, _, _, _, _, _, _, _, _, _, _, _, _, _, _, _, _, _, _, _, _, _, _, _, _, _, _, _, _, _, _, _, _, _, _, _, _, _], _⟩ _
            rw [show f 6 = _ from h6]
            clear h6
            repeat (first | go_guarded | go_step)
            exact hQ _ _ (Grow.refl _) rfl rfl
          refine obls_cons (fun f w' hR hH Q hQ => ?_) ?_
          · skip
            have h9 := hH.get 0 (168, 9) rfl
            have h6 := hH.get 1 (165, 6) rfl
            clear hH
            refine wpList_view ?_; show wpList _ _ _ [_] ⟨#[_, _, _, _, _, _, _, _, _, _, _, _, _, _, _, _, _, _, _, _, _, _, _, _, _, _, _, _, _, _, _, _, _, _, _, _, _, _, _, _, _, _, _, _, _, _, _, _, _, _, _, _, _, _, _, _, _, _, _, _, _, _, _, _, _, _, _, _, _, _, _, _, _, _, _, _, _, _, _, _, _, _, _, _, _, _, _, _, _, _, _, _, _, _, _, _, _, _, _, _, _, _, _, _, _, _, _, _, _, _, _, _, _, _, _, _, _, _, _, _, _, _, _, _, _, _, _, _, _, _, _, _, _, _, _, _, _, _, _, _, _, _, _, _, _, _, _, _, _, _, _, _, _, _, _, _, _, _, _, _, _, _, _, _, _, f 6, _, _, f 9, _, _, _, _, _, _, _, _, _, _, _, _, _, _, _, _, _, _, _, _, _, _, _, _, _, _, _, _, _, _, _, _, _, _, _], _⟩ _
            rw [show f 9 = _ from h9]
            rw [show f 6 = _ from h6]
            clear h9 h6
            have y2 := (HB10.out.grow hR).cell (i := 1) rfl
            repeat (first | go_guarded | go_step)
            exact hQ _ _ (Grow.refl _) rfl rfl
          refine obls_cons (fun f w' hR hH Q hQ => ?_) ?_
          · skip
            have h8 := hH.get 0 (167, 8) rfl
            have h10 := hH.get 1 (169, 10) rfl
            have h6 := hH.get 2 (165, 6) rfl
            clear hH
            refine wpList_merge (idx := [none, none, none, none, none, none, none, none, none, none, none, none, none, none, none, none, none, none, none, none, none, none, none, none, none, none, none, none, none, none, none, none, none, none, none, none, none, none, none, none, none, none, none, none, none, none, none, none, none, none, none, none, none, none, none, none, none, none, none, none, none, none, none, none, none, none, none, none, none, none, none, none, none, none, none, none, none, none, none, none, none, none, none, none, none, none, none, none, none, none, none, none, none, none, none, none, none, none, none, none, none, none, none, none, none, none, none, none, none, none, none, none, none, none, none, none, none, none, none, none, none, none, none, none, none, none, none, none, none, none, none, none, none, none, none, none, none, none, none, none, none, none, none, none, none, none, none, none, none, none, none, none, none, none, none, none, none, none, none, none, none, none, none, none, none, some 6, none, some 8, none, some 10, none, none, none, none, none, none, none, none, none, none, none, none, none, none, none, none, none, none, none, none, none, none, none, none, none, none, none, none, none, none, none, none, none, none]) (by kernel_rfl) ?_; show wpList _ _ _ [_] ⟨#[_, _, _, _, _, _, _, _, _, _, _, _, _, _, _, _, _, _, _, _, _, _, _, _, _, _, _, _, _, _, _, _, _, _, _, _, _, _, _, _, _, _, _, _, _, _, _, _, _, _, _, _, _, _, _, _, _, _, _, _, _, _, _, _, _, _, _, _, _, _, _, _, _, _, _, _, _, _, _, _, _, _, _, _, _, _, _, _, _, _, _, _, _, _, _, _, _, _, _, _, _, _, _, _, _, _, _, _, _, _, _, _, _, _, _, _, _, _, _, _, _, _, _, _, _, _, _, _, _, _, _, _, _, _, _, _, _, _, _, _, _, _, _, _, _, _, _, _, _, _, _, _, _, _, _, _, _, _, _, _, _, _, _, _, _, f 6, _, f 8, _, f 10, _, _, _, _, _, _, _, _, _, _, _, _, _, _, _, _, _, _, _, _, _, _, _, _, _, _, _, _, _, _, _, _, _, _], _⟩ _
            replace h8 : (IsInts (elems m T)) (f 8) w' := h8
            generalize f 8 = u8 at h8 ⊢
            rw [show f 10 = _ from h10]
            rw [show f 6 = _ from h6]
            clear h10 h6
            go_wp2_with (go_at_call 33; refine (HI2.out w' _ hR h8).mono ?_; rintro e w1 ⟨rfl, hg1⟩)
            exact hQ _ _ hg1 rfl rfl
          refine obls_cons (fun f w' hR hH Q hQ => ?_) ?_
          · skip
            have h11 := hH.get 0 (170, 11) rfl
            have h6 := hH.get 1 (165, 6) rfl
            clear hH
            refine wpList_view ?_; show wpList _ _ _ [_] ⟨#[_, _, _, _, _, _, _, _, _, _, _, _, _, _, _, _, _, _, _, _, _, _, _, _, _, _, _, _, _, _, _, _, _, _, _, _, _, _, _, _, _, _, _, _, _, _, _, _, _, _, _, _, _, _, _, _, _, _, _, _, _, _, _, _, _, _, _, _, _, _, _, _, _, _, _, _, _, _, _, _, _, _, _, _, _, _, _, _, _, _, _, _, _, _, _, _, _, _, _, _, _, _, _, _, _, _, _, _, _, _, _, _, _, _, _, _, _, _, _, _, _, _, _, _, _, _, _, _, _, _, _, _, _, _, _, _, _, _, _, _, _, _, _, _, _, _, _, _, _, _, _, _, _, _, _, _, _, _, _, _, _, _, _, _, _, f 6, _, _, _, _, f 11, _, _, _, _, _, _, _, _, _, _, _, _, _, _, _, _, _, _, _, _, _, _, _, _, _, _, _, _, _, _, _, _, _], _⟩ _
            rw [show f 11 = _ from h11]
            rw [show f 6 = _ from h6]
            clear h11 h6
            repeat (first | go_guarded | go_step)
            exact hQ _ _ (Grow.refl _) rfl rfl
          refine obls_cons (fun f w' hR hH Q hQ => ?_) ?_
          · skip
            have h6 := hH.get 0 (165, 6) rfl
            have h12 := hH.get 1 (171, 12) rfl
            clear hH
            refine wpList_view ?_; show wpList _ _ _ [_] ⟨#[_, _, _, _, _, _, _, _, _, _, _, _, _, _, _, _, _, _, _, _, _, _, _, _, _, _, _, _, _, _, _, _, _, _, _, _, _, _, _, _, _, _, _, _, _, _, _, _, _, _, _, _, _, _, _, _, _, _, _, _, _, _, _, _, _, _, _, _, _, _, _, _, _, _, _, _, _, _, _, _, _, _, _, _, _, _, _, _, _, _, _, _, _, _, _, _, _, _, _, _, _, _, _, _, _, _, _, _, _, _, _, _, _, _, _, _, _, _, _, _, _, _, _, _, _, _, _, _, _, _, _, _, _, _, _, _, _, _, _, _, _, _, _, _, _, _, _, _, _, _, _, _, _, _, _, _, _, _, _, _, _, _, _, _, _, f 6, _, _, _, _, _, f 12, _, _, _, _, _, _, _, _, _, _, _, _, _, _, _, _, _, _, _, _, _, _, _, _, _, _, _, _, _, _, _, _], _⟩ _
            rw [show f 6 = _ from h6]
            rw [show f 12 = _ from h12]
            clear h6 h12
            repeat (first | go_guarded | go_step)
            exact hQ _ _ (Grow.refl _) rfl rfl
          refine obls_cons (fun f w' hR hH Q hQ => ?_) ?_
          · skip
            have h13 := hH.get 0 (172, 13) rfl
            clear hH
            refine wpList_view ?_; show wpList _ _ _ [_] ⟨#[_, _, _, _, _, _, _, _, _, _, _, _, _, _, _, _, _, _, _, _, _, _, _, _, _, _, _, _, _, _, _, _, _, _, _, _, _, _, _, _, _, _, _, _, _, _, _, _, _, _, _, _, _, _, _, _, _, _, _, _, _, _, _, _, _, _, _, _, _, _, _, _, _, _, _, _, _, _, _, _, _, _, _, _, _, _, _, _, _, _, _, _, _, _, _, _, _, _, _, _, _, _, _, _, _, _, _, _, _, _, _, _, _, _, _, _, _, _, _, _, _, _, _, _, _, _, _, _, _, _, _, _, _, _, _, _, _, _, _, _, _, _, _, _, _, _, _, _, _, _, _, _, _, _, _, _, _, _, _, _, _, _, _, _, _, _, _, _, _, _, _, _, f 13, _, _, _, _, _, _, _, _, _, _, _, _, _, _, _, _, _, _, _, _, _, _, _, _, _, _, _, _, _, _, _], _⟩ _
            rw [show f 13 = _ from h13]
            clear h13
            repeat (first | go_guarded | go_step)
            exact hQ _ _ (Grow.refl _) rfl rfl
          refine obls_cons (fun f w' hR hH Q hQ => ?_) ?_
          · skip
            have h14 := hH.get 0 (173, 14) rfl
            clear hH
            refine wpList_view ?_; show wpList _ _ _ [_] ⟨#[_, _, _, _, _, _, _, _, _, _, _, _, _, _, _, _, _, _, _, _, _, _, _, _, _, _, _, _, _, _, _, _, _, _, _, _, _, _, _, _, _, _, _, _, _, _, _, _, _, _, _, _, _, _, _, _, _, _, _, _, _, _, _, _, _, _, _, _, _, _, _, _, _, _, _, _, _, _, _, _, _, _, _, _, _, _, _, _, _, _, _, _, _, _, _, _, _, _, _, _, _, _, _, _, _, _, _, _, _, _, _, _, _, _, _, _, _, _, _, _, _, _, _, _, _, _, _, _, _, _, _, _, _, _, _, _, _, _, _, _, _, _, _, _, _, _, _, _, _, _, _, _, _, _, _, _, _, _, _, _, _, _, _, _, _, _, _, _, _, _, _, _, _, f 14, _, _, _, _, _, _, _, _, _, _, _, _, _, _, _, _, _, _, _, _, _, _, _, _, _, _, _, _, _, _], _⟩ _
            rw [show f 14 = _ from h14]
            clear h14
            repeat (first | go_guarded | go_step)
            exact hQ _ _ (Grow.refl _) rfl rfl
          refine obls_cons (fun f w' hR hH Q hQ => ?_) ?_
          · skip
            have h15 := hH.get 0 (174, 15) rfl
            have h14 := hH.get 1 (173, 14) rfl
            clear hH
            refine wpList_view ?_; show wpList _ _ _ [_] ⟨#[_, _, _, _, _, _, _, _, _, _, _, _, _, _, _, _, _, _, _, _, _, _, _, _, _, _, _, _, _, _, _, _, _, _, _, _, _, _, _, _, _, _, _, _, _, _, _, _, _, _, _, _, _, _, _, _, _, _, _, _, _, _, _, _, _, _, _, _, _, _, _, _, _, _, _, _, _, _, _, _, _, _, _, _, _, _, _, _, _, _, _, _, _, _, _, _, _, _, _, _, _, _, _, _, _, _, _, _, _, _, _, _, _, _, _, _, _, _, _, _, _, _, _, _, _, _, _, _, _, _, _, _, _, _, _, _, _, _, _, _, _, _, _, _, _, _, _, _, _, _, _, _, _, _, _, _, _, _, _, _, _, _, _, _, _, _, _, _, _, _, _, _, _, f 14, f 15, _, _, _, _, _, _, _, _, _, _, _, _, _, _, _, _, _, _, _, _, _, _, _, _, _, _, _, _, _], _⟩ _
            rw [show f 15 = _ from h15]
            rw [show f 14 = _ from h14]
            clear h15 h14
            go_wp2_with (go_at_call 35; refine (HRm.out w' hR).mono ?_; rintro e w1 ⟨rfl, rfl⟩)
            exact hQ _ _ (Grow.refl _) rfl rfl
          refine obls_cons (fun f w' hR hH Q hQ => ?_) ?_
          · skip
            have h14 := hH.get 0 (173, 14) rfl
            clear hH
            refine wpList_view ?_; show wpList _ _ _ [_] ⟨#[_, _, _, _, _, _, _, _, _, _, _, _, _, _, _, _, _, _, _, _, _, _, _, _, _, _, _, _, _, _, _, _, _, _, _, _, _, _, _, _, _, _, _, _, _, _, _, _, _, _, _, _, _, _, _, _, _, _, _, _, _, _, _, _, _, _, _, _, _, _, _, _, _, _, _, _, _, _, _, _, _, _, _, _, _, _, _, _, _, _, _, _, _, _, _, _, _, _, _, _, _, _, _, _, _, _, _, _, _, _, _, _, _, _, _, _, _, _, _, _, _, _, _, _, _, _, _, _, _, _, _, _, _, _, _, _, _, _, _, _, _, _, _, _, _, _, _, _, _, _, _, _, _, _, _, _, _, _, _, _, _, _, _, _, _, _, _, _, _, _, _, _, _, f 14, _, _, _, _, _, _, _, _, _, _, _, _, _, _, _, _, _, _, _, _, _, _, _, _, _, _, _, _, _, _], _⟩ _
            rw [show f 14 = _ from h14]
            clear h14
            repeat (first | go_guarded | go_step)
            exact hQ _ _ (Grow.refl _) rfl rfl
          refine obls_cons (fun f w' hR hH Q hQ => ?_) ?_
          · skip
            have h17 := hH.get 0 (176, 17) rfl
            have h14 := hH.get 1 (173, 14) rfl
            clear hH
            refine wpList_view ?_; show wpList _ _ _ [_] ⟨#[_, _, _, _, _, _, _, _, _, _, _, _, _, _, _, _, _, _, _, _, _, _, _, _, _, _, _, _, _, _, _, _, _, _, _, _, _, _, _, _, _, _, _, _, _, _, _, _, _, _, _, _, _, _, _, _, _, _, _, _, _, _, _, _, _, _, _, _, _, _, _, _, _, _, _, _, _, _, _, _, _, _, _, _, _, _, _, _, _, _, _, _, _, _, _, _, _, _, _, _, _, _, _, _, _, _, _, _, _, _, _, _, _, _, _, _, _, _, _, _, _, _, _, _, _, _, _, _, _, _, _, _, _, _, _, _, _, _, _, _, _, _, _, _, _, _, _, _, _, _, _, _, _, _, _, _, _, _, _, _, _, _, _, _, _, _, _, _, _, _, _, _, _, f 14, _, _, f 17, _, _, _, _, _, _, _, _, _, _, _, _, _, _, _, _, _, _, _, _, _, _, _, _, _, _, _], _⟩ _
            rw [show f 17 = _ from h17]
            rw [show f 14 = _ from h14]
            clear h17 h14
            have y2 := (HB9.out.grow hR).cell (i := 0) rfl
            repeat (first | go_guarded | go_step)
            exact hQ _ _ (Grow.refl _) rfl rfl
          refine obls_cons (fun f w' hR hH Q hQ => ?_) ?_
          · skip
            have h16 := hH.get 0 (175, 16) rfl
            have h18 := hH.get 1 (177, 18) rfl
            have h14 := hH.get 2 (173, 14) rfl
            clear hH
            refine wpList_merge (idx := [none, none, none, none, none, none, none, none, none, none, none, none, none, none, none, none, none, none, none, none, none, none, none, none, none, none, none, none, none, none, none, none, none, none, none, none, none, none, none, none, none, none, none, none, none, none, none, none, none, none, none, none, none, none, none, none, none, none, none, none, none, none, none, none, none, none, none, none, none, none, none, none, none, none, none, none, none, none, none, none, none, none, none, none, none, none, none, none, none, none, none, none, none, none, none, none, none, none, none, none, none, none, none, none, none, none, none, none, none, none, none, none, none, none, none, none, none, none, none, none, none, none, none, none, none, none, none, none, none, none, none, none, none, none, none, none, none, none, none, none, none, none, none, none, none, none, none, none, none, none, none, none, none, none, none, none, none, none, none, none, none, none, none, none, none, none, none, none, none, none, none, none, none, some 14, none, some 16, none, some 18, none, none, none, none, none, none, none, none, none, none, none, none, none, none, none, none, none, none, none, none, none, none, none, none, none, none]) (by kernel_rfl) ?_; show wpList _ _ _ [_] ⟨#[_, _, _, _, _, _, _, _, _, _, _, _, _, _, _, _, _, _, _, _, _, _, _, _, _, _, _, _, _, _, _, _, _, _, _, _, _, _, _, _, _, _, _, _, _, _, _, _, _, _, _, _, _, _, _, _, _, _, _, _, _, _, _, _, _, _, _, _, _, _, _, _, _, _, _, _, _, _, _, _, _, _, _, _, _, _, _, _, _, _, _, _, _, _, _, _, _, _, _, _, _, _, _, _, _, _, _, _, _, _, _, _, _, _, _, _, _, _, _, _, _, _, _, _, _, _, _, _, _, _, _, _, _, _, _, _, _, _, _, _, _, _, _, _, _, _, _, _, _, _, _, _, _, _, _, _, _, _, _, _, _, _, _, _, _, _, _, _, _, _, _, _, _, f 14, _, f 16, _, f 18, _, _, _, _, _, _, _, _, _, _, _, _, _, _, _, _, _, _, _, _, _, _, _, _, _, _], _⟩ _
            rw [show f 16 = _ from h16]
            rw [show f 18 = _ from h18]
            rw [show f 14 = _ from h14]
            clear h16 h18 h14
            repeat (first | go_guarded | go_step)
            exact hQ _ _ (Grow.refl _) rfl rfl
          refine obls_cons (fun f w' hR hH Q hQ => ?_) ?_
          · skip
            have h14 := hH.get 0 (173, 14) rfl
            have h19 := hH.get 1 (178, 19) rfl
            clear hH
            refine wpList_view ?_; show wpList _ _ _ [_] ⟨#[_, _, _, _, _, _, _, _, _, _, _, _, _, _, _, _, _, _, _, _, _, _, _, _, _, _, _, _, _, _, _, _, _, _, _, _, _, _, _, _, _, _, _, _, _, _, _, _, _, _, _, _, _, _, _, _, _, _, _, _, _, _, _, _, _, _, _, _, _, _, _, _, _, _, _, _, _, _, _, _, _, _, _, _, _, _, _, _, _, _, _, _, _, _, _, _, _, _, _, _, _, _, _, _, _, _, _, _, _, _, _, _, _, _, _, _, _, _, _, _, _, _, _, _, _, _, _, _, _, _, _, _, _, _, _, _, _, _, _, _, _, _, _, _, _, _, _, _, _, _, _, _, _, _, _, _, _, _, _, _, _, _, _, _, _, _, _, _, _, _, _, _, _, f 14, _, _, _, _, f 19, _, _, _, _, _, _, _, _, _, _, _, _, _, _, _, _, _, _, _, _, _, _, _, _, _], _⟩ _
            rw [show f 14 = _ from h14]
            rw [show f 19 = _ from h19]
            clear h14 h19
            repeat (first | go_guarded | go_step)
            exact hQ _ _ (Grow.refl _) rfl rfl
          refine obls_cons (fun f w' hR hH Q hQ => ?_) ?_
          · skip
            have h20 := hH.get 0 (179, 20) rfl
            clear hH
            refine wpList_view ?_; show wpList _ _ _ [_] ⟨#[_, _, _, _, _, _, _, _, _, _, _, _, _, _, _, _, _, _, _, _, _, _, _, _, _, _, _, _, _, _, _, _, _, _, _, _, _, _, _, _, _, _, _, _, _, _, _, _, _, _, _, _, _, _, _, _, _, _, _, _, _, _, _, _, _, _, _, _, _, _, _, _, _, _, _, _, _, _, _, _, _, _, _, _, _, _, _, _, _, _, _, _, _, _, _, _, _, _, _, _, _, _, _, _, _, _, _, _, _, _, _, _, _, _, _, _, _, _, _, _, _, _, _, _, _, _, _, _, _, _, _, _, _, _, _, _, _, _, _, _, _, _, _, _, _, _, _, _, _, _, _, _, _, _, _, _, _, _, _, _, _, _, _, _, _, _, _, _, _, _, _, _, _, _, _, _, _, _, _, f 20, _, _, _, _, _, _, _, _, _, _, _, _, _, _, _, _, _, _, _, _, _, _, _, _], _⟩ _
            rw [show f 20 = _ from h20]
            clear h20
            repeat (first | go_guarded | go_step)
            exact hQ _ _ (Grow.refl _) rfl rfl
          refine obls_cons (fun f w' hR hH Q hQ => ?_) ?_
          · skip
            have h21 := hH.get 0 (180, 21) rfl
            clear hH
            refine wpList_view ?_; show wpList _ _ _ [_] ⟨#[_, _, _, _, _, _, _, _, _, _, _, _, _, _, _, _, _, _, _, _, _, _, _, _, _, _, _, _, _, _, _, _, _, _, _, _, _, _, _, _, _, _, _, _, _, _, _, _, _, _, _, _, _, _, _, _, _, _, _, _, _, _, _, _, _, _, _, _, _, _, _, _, _, _, _, _, _, _, _, _, _, _, _, _, _, _, _, _, _, _, _, _, _, _, _, _, _, _, _, _, _, _, _, _, _, _, _, _, _, _, _, _, _, _, _, _, _, _, _, _, _, _, _, _, _, _, _, _, _, _, _, _, _, _, _, _, _, _, _, _, _, _, _, _, _, _, _, _, _, _, _, _, _, _, _, _, _, _, _, _, _, _, _, _, _, _, _, _, _, _, _, _, _, _, _, _, _, _, _, _, f 21, _, _, _, _, _, _, _, _, _, _, _, _, _, _, _, _, _, _, _, _, _, _, _], _⟩ _
            rw [show f 21 = _ from h21]
            clear h21
            repeat (first | go_guarded | go_step)
            exact hQ _ _ (Grow.refl _) rfl rfl
          refine obls_cons (fun f w' hR hH Q hQ => ?_) ?_
          · skip
            have h21 := hH.get 0 (180, 21) rfl
            clear hH
            refine wpList_view ?_; show wpList _ _ _ [_] ⟨#[_, _, _, _, _, _, _, _, _, _, _, _, _, _, _, _, _, _, _, _, _, _, _, _, _, _, _, _, _, _, _, _, _, _, _, _, _, _, _, _, _, _, _, _, _, _, _, _, _, _, _, _, _, _, _, _, _, _, _, _, _, _, _, _, _, _, _, _, _, _, _, _, _, _, _, _, _, _, _, _, _, _, _, _, _, _, _, _, _, _, _, _, _, _, _, _, _, _, _, _, _, _, _, _, _, _, _, _, _, _, _, _, _, _, _, _, _, _, _, _, _, _, _, _, _, _, _, _, _, _, _, _, _, _, _, _, _, _, _, _, _, _, _, _, _, _, _, _, _, _, _, _, _, _, _, _, _, _, _, _, _, _, _, _, _, _, _, _, _, _, _, _, _, _, _, _, _, _, _, _, f 21, _, _, _, _, _, _, _, _, _, _, _, _, _, _, _, _, _, _, _, _, _, _, _], _⟩ _
            rw [show f 21 = _ from h21]
            clear h21
            repeat (first | go_guarded | go_step)
            exact hQ _ _ (Grow.refl _) rfl rfl
          refine obls_cons (fun f w' hR hH Q hQ => ?_) ?_
          · skip
            have h22 := hH.get 0 (181, 22) rfl
            have h23 := hH.get 1 (182, 23) rfl
            have h21 := hH.get 2 (180, 21) rfl
            clear hH
            refine wpList_merge (idx := [none, none, none, none, none, none, none, none, none, none, none, none, none, none, none, none, none, none, none, none, none, none, none, none, none, none, none, none, none, none, none, none, none, none, none, none, none, none, none, none, none, none, none, none, none, none, none, none, none, none, none, none, none, none, none, none, none, none, none, none, none, none, none, none, none, none, none, none, none, none, none, none, none, none, none, none, none, none, none, none, none, none, none, none, none, none, none, none, none, none, none, none, none, none, none, none, none, none, none, none, none, none, none, none, none, none, none, none, none, none, none, none, none, none, none, none, none, none, none, none, none, none, none, none, none, none, none, none, none, none, none, none, none, none, none, none, none, none, none, none, none, none, none, none, none, none, none, none, none, none, none, none, none, none, none, none, none, none, none, none, none, none, none, none, none, none, none, none, none, none, none, none, none, none, none, none, none, none, none, none, some 21, some 22, some 23, none, none, none, none, none, none, none, none, none, none, none, none, none, none, none, none, none, none, none, none, none]) (by kernel_rfl) ?_; show wpList _ _ _ [_] ⟨#[_, _, _, _, _, _, _, _, _, _, _, _, _, _, _, _, _, _, _, _, _, _, _, _, _, _, _, _, _, _, _, _, _, _, _, _, _, _, _, _, _, _, _, _, _, _, _, _, _, _, _, _, _, _, _, _, _, _, _, _, _, _, _, _, _, _, _, _, _, _, _, _, _, _, _, _, _, _, _, _, _, _, _, _, _, _, _, _, _, _, _, _, _, _, _, _, _, _, _, _, _, _, _, _, _, _, _, _, _, _, _, _, _, _, _, _, _, _, _, _, _, _, _, _, _, _, _, _, _, _, _, _, _, _, _, _, _, _, _, _, _, _, _, _, _, _, _, _, _, _, _, _, _, _, _, _, _, _, _, _, _, _, _, _, _, _, _, _, _, _, _, _, _, _, _, _, _, _, _, _, f 21, f 22, f 23, _, _, _, _, _, _, _, _, _, _, _, _, _, _, _, _, _, _, _, _, _], _⟩ _
            rw [show f 22 = _ from h22]
            rw [show f 23 = _ from h23]
            rw [show f 21 = _ from h21]
            clear h22 h23 h21
            go_wp2_with (go_at_call 17; refine (HSm.out w' hR).mono ?_; rintro e w1 ⟨rfl, rfl⟩)
            exact hQ _ _ (Grow.refl _) rfl rfl
          refine obls_cons (fun f w' hR hH Q hQ => ?_) ?_
          · skip
            have h21 := hH.get 0 (180, 21) rfl
            clear hH
            refine wpList_view ?_; show wpList _ _ _ [_] ⟨#[_, _, _, _, _, _, _, _, _, _, _, _, _, _, _, _, _, _, _, _, _, _, _, _, _, _, _, _, _, _, _, _, _, _, _, _, _, _, _, _, _, _, _, _, _, _, _, _, _, _, _, _, _, _, _, _, _, _, _, _, _, _, _, _, _, _, _, _, _, _, _, _, _, _, _, _, _, _, _, _, _, _, _, _, _, _, _, _, _, _, _, _, _, _, _, _, _, _, _, _, _, _, _, _, _, _, _, _, _, _, _, _, _, _, _, _, _, _, _, _, _, _, _, _, _, _, _, _, _, _, _, _, _, _, _, _, _, _, _, _, _, _, _, _, _, _, _, _, _, _, _, _, _, _, _, _, _, _, _, _, _, _, _, _, _, _, _, _, _, _, _, _, _, _, _, _, _, _, _, _, f 21, _, _, _, _, _, _, _, _, _, _, _, _, _, _, _, _, _, _, _, _, _, _, _], _⟩ _
            rw [show f 21 = _ from h21]
            clear h21
            repeat (first | go_guarded | go_step)
            exact hQ _ _ (Grow.refl _) rfl rfl
          refine obls_cons (fun f w' hR hH Q hQ => ?_) ?_
          · skip
            have h25 := hH.get 0 (184, 25) rfl
            have h21 := hH.get 1 (180, 21) rfl
            clear hH
            refine wpList_view ?_; show wpList _ _ _ [_] ⟨#[_, _, _, _, _, _, _, _, _, _, _, _, _, _, _, _, _, _, _, _, _, _, _, _, _, _, _, _, _, _, _, _, _, _, _, _, _, _, _, _, _, _, _, _, _, _, _, _, _, _, _, _, _, _, _, _, _, _, _, _, _, _, _, _, _, _, _, _, _, _, _, _, _, _, _, _, _, _, _, _, _, _, _, _, _, _, _, _, _, _, _, _, _, _, _, _, _, _, _, _, _, _, _, _, _, _, _, _, _, _, _, _, _, _, _, _, _, _, _, _, _, _, _, _, _, _, _, _, _, _, _, _, _, _, _, _, _, _, _, _, _, _, _, _, _, _, _, _, _, _, _, _, _, _, _, _, _, _, _, _, _, _, _, _, _, _, _, _, _, _, _, _, _, _, _, _, _, _, _, _, f 21, _, _, _, f 25, _, _, _, _, _, _, _, _, _, _, _, _, _, _, _, _, _, _, _], _⟩ _
            rw [show f 25 = _ from h25]
            rw [show f 21 = _ from h21]
            clear h25 h21
            have y2 := (HB9.out.grow hR).cell (i := 1) rfl
            repeat (first | go_guarded | go_step)
            exact hQ _ _ (Grow.refl _) rfl rfl
          refine obls_cons (fun f w' hR hH Q hQ => ?_) ?_
          · skip
            have h21 := hH.get 0 (180, 21) rfl
            clear hH
            refine wpList_view ?_; show wpList _ _ _ [_] ⟨#[_, _, _, _, _, _, _, _, _, _, _, _, _, _, _, _, _, _, _, _, _, _, _, _, _, _, _, _, _, _, _, _, _, _, _, _, _, _, _, _, _, _, _, _, _, _, _, _, _, _, _, _, _, _, _, _, _, _, _, _, _, _, _, _, _, _, _, _, _, _, _, _, _, _, _, _, _, _, _, _, _, _, _, _, _, _, _, _, _, _, _, _, _, _, _, _, _, _, _, _, _, _, _, _, _, _, _, _, _, _, _, _, _, _, _, _, _, _, _, _, _, _, _, _, _, _, _, _, _, _, _, _, _, _, _, _, _, _, _, _, _, _, _, _, _, _, _, _, _, _, _, _, _, _, _, _, _, _, _, _, _, _, _, _, _, _, _, _, _, _, _, _, _, _, _, _, _, _, _, _, f 21, _, _, _, _, _, _, _, _, _, _, _, _, _, _, _, _, _, _, _, _, _, _, _], _⟩ _
            rw [show f 21 = _ from h21]
            clear h21
            repeat (first | go_guarded | go_step)
            exact hQ _ _ (Grow.refl _) rfl rfl
          refine obls_cons (fun f w' hR hH Q hQ => ?_) ?_
          · skip
            have h27 := hH.get 0 (186, 27) rfl
            have h21 := hH.get 1 (180, 21) rfl
            clear hH
            refine wpList_view ?_; show wpList _ _ _ [_] ⟨#[_, _, _, _, _, _, _, _, _, _, _, _, _, _, _, _, _, _, _, _, _, _, _, _, _, _, _, _, _, _, _, _, _, _, _, _, _, _, _, _, _, _, _, _, _, _, _, _, _, _, _, _, _, _, _, _, _, _, _, _, _, _, _, _, _, _, _, _, _, _, _, _, _, _, _, _, _, _, _, _, _, _, _, _, _, _, _, _, _, _, _, _, _, _, _, _, _, _, _, _, _, _, _, _, _, _, _, _, _, _, _, _, _, _, _, _, _, _, _, _, _, _, _, _, _, _, _, _, _, _, _, _, _, _, _, _, _, _, _, _, _, _, _, _, _, _, _, _, _, _, _, _, _, _, _, _, _, _, _, _, _, _, _, _, _, _, _, _, _, _, _, _, _, _, _, _, _, _, _, _, f 21, _, _, _, _, _, f 27, _, _, _, _, _, _, _, _, _, _, _, _, _, _, _, _, _], _⟩ _
            rw [show f 27 = _ from h27]
            rw [show f 21 = _ from h21]
            clear h27 h21
            have y2 := (HB10.out.grow hR).cell (i := 1) rfl
            repeat (first | go_guarded | go_step)
            exact hQ _ _ (Grow.refl _) rfl rfl
          refine obls_cons (fun f w' hR hH Q hQ => ?_) ?_
          · skip
            have h26 := hH.get 0 (185, 26) rfl
            have h28 := hH.get 1 (187, 28) rfl
            have h21 := hH.get 2 (180, 21) rfl
            clear hH
            refine wpList_merge (idx := [none, none, none, none, none, none, none, none, none, none, none, none, none, none, none, none, none, none, none, none, none, none, none, none, none, none, none, none, none, none, none, none, none, none, none, none, none, none, none, none, none, none, none, none, none, none, none, none, none, none, none, none, none, none, none, none, none, none, none, none, none, none, none, none, none, none, none, none, none, none, none, none, none, none, none, none, none, none, none, none, none, none, none, none, none, none, none, none, none, none, none, none, none, none, none, none, none, none, none, none, none, none, none, none, none, none, none, none, none, none, none, none, none, none, none, none, none, none, none, none, none, none, none, none, none, none, none, none, none, none, none, none, none, none, none, none, none, none, none, none, none, none, none, none, none, none, none, none, none, none, none, none, none, none, none, none, none, none, none, none, none, none, none, none, none, none, none, none, none, none, none, none, none, none, none, none, none, none, none, none, some 21, none, none, none, none, some 26, none, some 28, none, none, none, none, none, none, none, none, none, none, none, none, none, none, none, none]) (by kernel_rfl) ?_; show wpList _ _ _ [_] ⟨#[_, _, _, _, _, _, _, _, _, _, _, _, _, _, _, _, _, _, _, _, _, _, _, _, _, _, _, _, _, _, _, _, _, _, _, _, _, _, _, _, _, _, _, _, _, _, _, _, _, _, _, _, _, _, _, _, _, _, _, _, _, _, _, _, _, _, _, _, _, _, _, _, _, _, _, _, _, _, _, _, _, _, _, _, _, _, _, _, _, _, _, _, _, _, _, _, _, _, _, _, _, _, _, _, _, _, _, _, _, _, _, _, _, _, _, _, _, _, _, _, _, _, _, _, _, _, _, _, _, _, _, _, _, _, _, _, _, _, _, _, _, _, _, _, _, _, _, _, _, _, _, _, _, _, _, _, _, _, _, _, _, _, _, _, _, _, _, _, _, _, _, _, _, _, _, _, _, _, _, _, f 21, _, _, _, _, f 26, _, f 28, _, _, _, _, _, _, _, _, _, _, _, _, _, _, _, _], _⟩ _
            rw [show f 26 = _ from h26]
            rw [show f 28 = _ from h28]
            rw [show f 21 = _ from h21]
            clear h26 h28 h21
            go_wp2_with (go_at_call 33; refine (HI3.out w' hR).mono ?_; rintro e w1 ⟨rfl, hg1⟩)
            exact hQ _ _ hg1 rfl rfl
          refine obls_cons (fun f w' hR hH Q hQ => ?_) ?_
          · skip
            have h29 := hH.get 0 (188, 29) rfl
            have h21 := hH.get 1 (180, 21) rfl
            clear hH
            refine wpList_view ?_; show wpList _ _ _ [_] ⟨#[_, _, _, _, _, _, _, _, _, _, _, _, _, _, _, _, _, _, _, _, _, _, _, _, _, _, _, _, _, _, _, _, _, _, _, _, _, _, _, _, _, _, _, _, _, _, _, _, _, _, _, _, _, _, _, _, _, _, _, _, _, _, _, _, _, _, _, _, _, _, _, _, _, _, _, _, _, _, _, _, _, _, _, _, _, _, _, _, _, _, _, _, _, _, _, _, _, _, _, _, _, _, _, _, _, _, _, _, _, _, _, _, _, _, _, _, _, _, _, _, _, _, _, _, _, _, _, _, _, _, _, _, _, _, _, _, _, _, _, _, _, _, _, _, _, _, _, _, _, _, _, _, _, _, _, _, _, _, _, _, _, _, _, _, _, _, _, _, _, _, _, _, _, _, _, _, _, _, _, _, f 21, _, _, _, _, _, _, _, f 29, _, _, _, _, _, _, _, _, _, _, _, _, _, _, _], _⟩ _
            rw [show f 29 = _ from h29]
            rw [show f 21 = _ from h21]
            clear h29 h21
            repeat (first | go_guarded | go_step)
            exact hQ _ _ (Grow.refl _) rfl rfl
          refine obls_cons (fun f w' hR hH Q hQ => ?_) ?_
          · skip
            have h24 := hH.get 0 (183, 24) rfl
            have h30 := hH.get 1 (189, 30) rfl
            have h21 := hH.get 2 (180, 21) rfl
            clear hH
            refine wpList_merge (idx := [none, none, none, none, none, none, none, none, none, none, none, none, none, none, none, none, none, none, none, none, none, none, none, none, none, none, none, none, none, none, none, none, none, none, none, none, none, none, none, none, none, none, none, none, none, none, none, none, none, none, none, none, none, none, none, none, none, none, none, none, none, none, none, none, none, none, none, none, none, none, none, none, none, none, none, none, none, none, none, none, none, none, none, none, none, none, none, none, none, none, none, none, none, none, none, none, none, none, none, none, none, none, none, none, none, none, none, none, none, none, none, none, none, none, none, none, none, none, none, none, none, none, none, none, none, none, none, none, none, none, none, none, none, none, none, none, none, none, none, none, none, none, none, none, none, none, none, none, none, none, none, none, none, none, none, none, none, none, none, none, none, none, none, none, none, none, none, none, none, none, none, none, none, none, none, none, none, none, none, none, some 21, none, none, some 24, none, none, none, none, none, some 30, none, none, none, none, none, none, none, none, none, none, none, none, none, none]) (by kernel_rfl) ?_; show wpList _ _ _ [_] ⟨#[_, _, _, _, _, _, _, _, _, _, _, _, _, _, _, _, _, _, _, _, _, _, _, _, _, _, _, _, _, _, _, _, _, _, _, _, _, _, _, _, _, _, _, _, _, _, _, _, _, _, _, _, _, _, _, _, _, _, _, _, _, _, _, _, _, _, _, _, _, _, _, _, _, _, _, _, _, _, _, _, _, _, _, _, _, _, _, _, _, _, _, _, _, _, _, _, _, _, _, _, _, _, _, _, _, _, _, _, _, _, _, _, _, _, _, _, _, _, _, _, _, _, _, _, _, _, _, _, _, _, _, _, _, _, _, _, _, _, _, _, _, _, _, _, _, _, _, _, _, _, _, _, _, _, _, _, _, _, _, _, _, _, _, _, _, _, _, _, _, _, _, _, _, _, _, _, _, _, _, _, f 21, _, _, f 24, _, _, _, _, _, f 30, _, _, _, _, _, _, _, _, _, _, _, _, _, _], _⟩ _
            rw [show f 24 = _ from h24]
            rw [show f 30 = _ from h30]
            rw [show f 21 = _ from h21]
            clear h24 h30 h21
            repeat (first | go_guarded | go_step)
            exact hQ _ _ (Grow.refl _) rfl rfl
          refine obls_cons (fun f w' hR hH Q hQ => ?_) ?_
          · skip
            have h21 := hH.get 0 (180, 21) rfl
            have h31 := hH.get 1 (190, 31) rfl
            clear hH
            refine wpList_view ?_; show wpList _ _ _ [_] ⟨#[_, _, _, _, _, _, _, _, _, _, _, _, _, _, _, _, _, _, _, _, _, _, _, _, _, _, _, _, _, _, _, _, _, _, _, _, _, _, _, _, _, _, _, _, _, _, _, _, _, _, _, _, _, _, _, _, _, _, _, _, _, _, _, _, _, _, _, _, _, _, _, _, _, _, _, _, _, _, _, _, _, _, _, _, _, _, _, _, _, _, _, _, _, _, _, _, _, _, _, _, _, _, _, _, _, _, _, _, _, _, _, _, _, _, _, _, _, _, _, _, _, _, _, _, _, _, _, _, _, _, _, _, _, _, _, _, _, _, _, _, _, _, _, _, _, _, _, _, _, _, _, _, _, _, _, _, _, _, _, _, _, _, _, _, _, _, _, _, _, _, _, _, _, _, _, _, _, _, _, _, f 21, _, _, _, _, _, _, _, _, _, f 31, _, _, _, _, _, _, _, _, _, _, _, _, _], _⟩ _
            rw [show f 21 = _ from h21]
            rw [show f 31 = _ from h31]
            clear h21 h31
            repeat (first | go_guarded | go_step)
            exact hQ _ _ (Grow.refl _) rfl rfl
          refine obls_cons (fun f w' hR hH Q hQ => ?_) ?_
          · skip
            have h32 := hH.get 0 (191, 32) rfl
            clear hH
            refine wpList_view ?_; show wpList _ _ _ [_] ⟨#[_, _, _, _, _, _, _, _, _, _, _, _, _, _, _, _, _, _, _, _, _, _, _, _, _, _, _, _, _, _, _, _, _, _, _, _, _, _, _, _, _, _, _, _, _, _, _, _, _, _, _, _, _, _, _, _, _, _, _, _, _, _, _, _, _, _, _, _, _, _, _, _, _, _, _, _, _, _, _, _, _, _, _, _, _, _, _, _, _, _, _, _, _, _, _, _, _, _, _, _, _, _, _, _, _, _, _, _, _, _, _, _, _, _, _, _, _, _, _, _, _, _, _, _, _, _, _, _, _, _, _, _, _, _, _, _, _, _, _, _, _, _, _, _, _, _, _, _, _, _, _, _, _, _, _, _, _, _, _, _, _, _, _, _, _, _, _, _, _, _, _, _, _, _, _, _, _, _, _, _, _, _, _, _, _, _, _, _, _, _, _, f 32, _, _, _, _, _, _, _, _, _, _, _, _], _⟩ _
            rw [show f 32 = _ from h32]
            clear h32
            repeat (first | go_guarded | go_step)
            exact hQ _ _ (Grow.refl _) rfl rfl
          refine obls_cons (fun f w' hR hH Q hQ => ?_) ?_
          · skip
            have h33 := hH.get 0 (192, 33) rfl
            clear hH
            refine wpList_view ?_; show wpList _ _ _ [_] ⟨#[_, _, _, _, _, _, _, _, _, _, _, _, _, _, _, _, _, _, _, _, _, _, _, _, _, _, _, _, _, _, _, _, _, _, _, _, _, _, _, _, _, _, _, _, _, _, _, _, _, _, _, _, _, _, _, _, _, _, _, _, _, _, _, _, _, _, _, _, _, _, _, _, _, _, _, _, _, _, _, _, _, _, _, _, _, _, _, _, _, _, _, _, _, _, _, _, _, _, _, _, _, _, _, _, _, _, _, _, _, _, _, _, _, _, _, _, _, _, _, _, _, _, _, _, _, _, _, _, _, _, _, _, _, _, _, _, _, _, _, _, _, _, _, _, _, _, _, _, _, _, _, _, _, _, _, _, _, _, _, _, _, _, _, _, _, _, _, _, _, _, _, _, _, _, _, _, _, _, _, _, _, _, _, _, _, _, _, _, _, _, _, _, f 33, _, _, _, _, _, _, _, _, _, _, _], _⟩ _
            rw [show f 33 = _ from h33]
            clear h33
            repeat (first | go_guarded | go_step)
            exact hQ _ _ (Grow.refl _) rfl rfl
          refine obls_cons (fun f w' hR hH Q hQ => ?_) ?_
          · skip
            have h33 := hH.get 0 (192, 33) rfl
            clear hH
            refine wpList_view ?_; show wpList _ _ _ [_] ⟨#[_, _, _, _, _, _, _, _, _, _, _, _, _, _, _, _, _, _, _, _, _, _, _, _, _, _, _, _, _, _, _, _, _, _, _, _, _, _, _, _, _, _, _, _, _, _, _, _, _, _, _, _, _, _, _, _, _, _, _, _, _, _, _, _, _, _, _, _, _, _, _, _, _, _, _, _, _, _, _, _, _, _, _, _, _, _, _, _, _, _, _, _, _, _, _, _, _, _, _, _, _, _, _, _, _, _, _, _, _, _, _, _, _, _, _, _, _, _, _, _, _, _, _, _, _, _, _, _, _, _, _, _, _, _, _, _, _, _, _, _, _, _, _, _, _, _, _, _, _, _, _, _, _, _, _, _, _, _, _, _, _, _, _, _, _, _, _, _, _, _, _, _, _, _, _, _, _, _, _, _, _, _, _, _, _, _, _, _, _, _, _, _, f 33, _, _, _, _, _, _, _, _, _, _, _], _⟩ _
            rw [show f 33 = _ from h33]
            clear h33
            repeat (first | go_guarded | go_step)
            exact hQ _ _ (Grow.refl _) rfl rfl
          refine obls_cons (fun f w' hR hH Q hQ => ?_) ?_
          · skip
            have h34 := hH.get 0 (193, 34) rfl
            have h35 := hH.get 1 (194, 35) rfl
            have h33 := hH.get 2 (192, 33) rfl
            clear hH
            refine wpList_merge (idx := [none, none, none, none, none, none, none, none, none, none, none, none, none, none, none, none, none, none, none, none, none, none, none, none, none, none, none, none, none, none, none, none, none, none, none, none, none, none, none, none, none, none, none, none, none, none, none, none, none, none, none, none, none, none, none, none, none, none, none, none, none, none, none, none, none, none, none, none, none, none, none, none, none, none, none, none, none, none, none, none, none, none, none, none, none, none, none, none, none, none, none, none, none, none, none, none, none, none, none, none, none, none, none, none, none, none, none, none, none, none, none, none, none, none, none, none, none, none, none, none, none, none, none, none, none, none, none, none, none, none, none, none, none, none, none, none, none, none, none, none, none, none, none, none, none, none, none, none, none, none, none, none, none, none, none, none, none, none, none, none, none, none, none, none, none, none, none, none, none, none, none, none, none, none, none, none, none, none, none, none, none, none, none, none, none, none, none, none, none, none, none, none, some 33, some 34, some 35, none, none, none, none, none, none, none, none, none]) (by kernel_rfl) ?_; show wpList _ _ _ [_] ⟨#[_, _, _, _, _, _, _, _, _, _, _, _, _, _, _, _, _, _, _, _, _, _, _, _, _, _, _, _, _, _, _, _, _, _, _, _, _, _, _, _, _, _, _, _, _, _, _, _, _, _, _, _, _, _, _, _, _, _, _, _, _, _, _, _, _, _, _, _, _, _, _, _, _, _, _, _, _, _, _, _, _, _, _, _, _, _, _, _, _, _, _, _, _, _, _, _, _, _, _, _, _, _, _, _, _, _, _, _, _, _, _, _, _, _, _, _, _, _, _, _, _, _, _, _, _, _, _, _, _, _, _, _, _, _, _, _, _, _, _, _, _, _, _, _, _, _, _, _, _, _, _, _, _, _, _, _, _, _, _, _, _, _, _, _, _, _, _, _, _, _, _, _, _, _, _, _, _, _, _, _, _, _, _, _, _, _, _, _, _, _, _, _, f 33, f 34, f 35, _, _, _, _, _, _, _, _, _], _⟩ _
            rw [show f 34 = _ from h34]
            rw [show f 35 = _ from h35]
            rw [show f 33 = _ from h33]
            clear h34 h35 h33
            go_wp2_with (go_at_call 18; refine (HWi.out w' hR).mono ?_; rintro e w1 ⟨rfl, rfl⟩)
            exact hQ _ _ (Grow.refl _) rfl rfl
          refine obls_cons (fun f w' hR hH Q hQ => ?_) ?_
          · skip
            have h33 := hH.get 0 (192, 33) rfl
            clear hH
            refine wpList_view ?_; show wpList _ _ _ [_] ⟨#[_, _, _, _, _, _, _, _, _, _, _, _, _, _, _, _, _, _, _, _, _, _, _, _, _, _, _, _, _, _, _, _, _, _, _, _, _, _, _, _, _, _, _, _, _, _, _, _, _, _, _, _, _, _, _, _, _, _, _, _, _, _, _, _, _, _, _, _, _, _, _, _, _, _, _, _, _, _, _, _, _, _, _, _, _, _, _, _, _, _, _, _, _, _, _, _, _, _, _, _, _, _, _, _, _, _, _, _, _, _, _, _, _, _, _, _, _, _, _, _, _, _, _, _, _, _, _, _, _, _, _, _, _, _, _, _, _, _, _, _, _, _, _, _, _, _, _, _, _, _, _, _, _, _, _, _, _, _, _, _, _, _, _, _, _, _, _, _, _, _, _, _, _, _, _, _, _, _, _, _, _, _, _, _, _, _, _, _, _, _, _, _, f 33, _, _, _, _, _, _, _, _, _, _, _], _⟩ _
            rw [show f 33 = _ from h33]
            clear h33
            have hb := HB9.out.grow hR
            go_wp2_with (refine load_blk rfl _ _ rfl g9 rfl _ _ _ hb undX rfl (by rw [sizeX]; rfl) ?_)
            exact hQ _ _ (Grow.refl _) rfl rfl
          refine obls_cons (fun f w' hR hH Q hQ => ?_) ?_
          · skip
            have h33 := hH.get 0 (192, 33) rfl
            clear hH
            refine wpList_view ?_; show wpList _ _ _ [_] ⟨#[_, _, _, _, _, _, _, _, _, _, _, _, _, _, _, _, _, _, _, _, _, _, _, _, _, _, _, _, _, _, _, _, _, _, _, _, _, _, _, _, _, _, _, _, _, _, _, _, _, _, _, _, _, _, _, _, _, _, _, _, _, _, _, _, _, _, _, _, _, _, _, _, _, _, _, _, _, _, _, _, _, _, _, _, _, _, _, _, _, _, _, _, _, _, _, _, _, _, _, _, _, _, _, _, _, _, _, _, _, _, _, _, _, _, _, _, _, _, _, _, _, _, _, _, _, _, _, _, _, _, _, _, _, _, _, _, _, _, _, _, _, _, _, _, _, _, _, _, _, _, _, _, _, _, _, _, _, _, _, _, _, _, _, _, _, _, _, _, _, _, _, _, _, _, _, _, _, _, _, _, _, _, _, _, _, _, _, _, _, _, _, _, f 33, _, _, _, _, _, _, _, _, _, _, _], _⟩ _
            rw [show f 33 = _ from h33]
            clear h33
            have hb := HB10.out.grow hR
            go_wp2_with (refine load_blk rfl _ _ rfl (g9 + 1) rfl _ _ _ hb undX rfl (by rw [sizeX]; rfl) ?_)
            exact hQ _ _ (Grow.refl _) rfl rfl
          refine obls_cons (fun f w' hR hH Q hQ => ?_) ?_
          · skip
            have h37 := hH.get 0 (196, 37) rfl
            have h38 := hH.get 1 (197, 38) rfl
            have h33 := hH.get 2 (192, 33) rfl
            clear hH
            refine wpList_merge (idx := [none, none, none, none, none, none, none, none, none, none, none, none, none, none, none, none, none, none, none, none, none, none, none, none, none, none, none, none, none, none, none, none, none, none, none, none, none, none, none, none, none, none, none, none, none, none, none, none, none, none, none, none, none, none, none, none, none, none, none, none, none, none, none, none, none, none, none, none, none, none, none, none, none, none, none, none, none, none, none, none, none, none, none, none, none, none, none, none, none, none, none, none, none, none, none, none, none, none, none, none, none, none, none, none, none, none, none, none, none, none, none, none, none, none, none, none, none, none, none, none, none, none, none, none, none, none, none, none, none, none, none, none, none, none, none, none, none, none, none, none, none, none, none, none, none, none, none, none, none, none, none, none, none, none, none, none, none, none, none, none, none, none, none, none, none, none, none, none, none, none, none, none, none, none, none, none, none, none, none, none, none, none, none, none, none, none, none, none, none, none, none, none, some 33, none, none, none, some 37, some 38, none, none, none, none, none, none]) (by kernel_rfl) ?_; show wpList _ _ _ [_] ⟨#[_, _, _, _, _, _, _, _, _, _, _, _, _, _, _, _, _, _, _, _, _, _, _, _, _, _, _, _, _, _, _, _, _, _, _, _, _, _, _, _, _, _, _, _, _, _, _, _, _, _, _, _, _, _, _, _, _, _, _, _, _, _, _, _, _, _, _, _, _, _, _, _, _, _, _, _, _, _, _, _, _, _, _, _, _, _, _, _, _, _, _, _, _, _, _, _, _, _, _, _, _, _, _, _, _, _, _, _, _, _, _, _, _, _, _, _, _, _, _, _, _, _, _, _, _, _, _, _, _, _, _, _, _, _, _, _, _, _, _, _, _, _, _, _, _, _, _, _, _, _, _, _, _, _, _, _, _, _, _, _, _, _, _, _, _, _, _, _, _, _, _, _, _, _, _, _, _, _, _, _, _, _, _, _, _, _, _, _, _, _, _, _, f 33, _, _, _, f 37, f 38, _, _, _, _, _, _], _⟩ _
            rw [show f 37 = _ from h37]
            rw [show f 38 = _ from h38]
            rw [show f 33 = _ from h33]
            clear h37 h38 h33
            go_wp2_with (go_at_call 36; refine (HRw.out w' hR).mono ?_; rintro e w1 ⟨rfl, hg1⟩)
            exact hQ _ _ hg1 rfl rfl
          refine obls_cons (fun f w' hR hH Q hQ => ?_) ?_
          · skip
            have h36 := hH.get 0 (195, 36) rfl
            have h39 := hH.get 1 (198, 39) rfl
            have h33 := hH.get 2 (192, 33) rfl
            clear hH
            refine wpList_merge (idx := [none, none, none, none, none, none, none, none, none, none, none, none, none, none, none, none, none, none, none, none, none, none, none, none, none, none, none, none, none, none, none, none, none, none, none, none, none, none, none, none, none, none, none, none, none, none, none, none, none, none, none, none, none, none, none, none, none, none, none, none, none, none, none, none, none, none, none, none, none, none, none, none, none, none, none, none, none, none, none, none, none, none, none, none, none, none, none, none, none, none, none, none, none, none, none, none, none, none, none, none, none, none, none, none, none, none, none, none, none, none, none, none, none, none, none, none, none, none, none, none, none, none, none, none, none, none, none, none, none, none, none, none, none, none, none, none, none, none, none, none, none, none, none, none, none, none, none, none, none, none, none, none, none, none, none, none, none, none, none, none, none, none, none, none, none, none, none, none, none, none, none, none, none, none, none, none, none, none, none, none, none, none, none, none, none, none, none, none, none, none, none, none, some 33, none, none, some 36, none, none, some 39, none, none, none, none, none]) (by kernel_rfl) ?_; show wpList _ _ _ [_] ⟨#[_, _, _, _, _, _, _, _, _, _, _, _, _, _, _, _, _, _, _, _, _, _, _, _, _, _, _, _, _, _, _, _, _, _, _, _, _, _, _, _, _, _, _, _, _, _, _, _, _, _, _, _, _, _, _, _, _, _, _, _, _, _, _, _, _, _, _, _, _, _, _, _, _, _, _, _, _, _, _, _, _, _, _, _, _, _, _, _, _, _, _, _, _, _, _, _, _, _, _, _, _, _, _, _, _, _, _, _, _, _, _, _, _, _, _, _, _, _, _, _, _, _, _, _, _, _, _, _, _, _, _, _, _, _, _, _, _, _, _, _, _, _, _, _, _, _, _, _, _, _, _, _, _, _, _, _, _, _, _, _, _, _, _, _, _, _, _, _, _, _, _, _, _, _, _, _, _, _, _, _, _, _, _, _, _, _, _, _, _, _, _, _, f 33, _, _, f 36, _, _, f 39, _, _, _, _, _], _⟩ _
            rw [show f 36 = _ from h36]
            rw [show f 39 = _ from h39]
            rw [show f 33 = _ from h33]
            clear h36 h39 h33
            repeat (first | go_guarded | go_step)
            exact hQ _ _ (Grow.refl _) rfl rfl
          refine obls_cons (fun f w' hR hH Q hQ => ?_) ?_
          · skip
            have h33 := hH.get 0 (192, 33) rfl
            have h40 := hH.get 1 (199, 40) rfl
            clear hH
            refine wpList_view ?_; show wpList _ _ _ [_] ⟨#[_, _, _, _, _, _, _, _, _, _, _, _, _, _, _, _, _, _, _, _, _, _, _, _, _, _, _, _, _, _, _, _, _, _, _, _, _, _, _, _, _, _, _, _, _, _, _, _, _, _, _, _, _, _, _, _, _, _, _, _, _, _, _, _, _, _, _, _, _, _, _, _, _, _, _, _, _, _, _, _, _, _, _, _, _, _, _, _, _, _, _, _, _, _, _, _, _, _, _, _, _, _, _, _, _, _, _, _, _, _, _, _, _, _, _, _, _, _, _, _, _, _, _, _, _, _, _, _, _, _, _, _, _, _, _, _, _, _, _, _, _, _, _, _, _, _, _, _, _, _, _, _, _, _, _, _, _, _, _, _, _, _, _, _, _, _, _, _, _, _, _, _, _, _, _, _, _, _, _, _, _, _, _, _, _, _, _, _, _, _, _, _, f 33, _, _, _, _, _, _, f 40, _, _, _, _], _⟩ _
            rw [show f 33 = _ from h33]
            rw [show f 40 = _ from h40]
            clear h33 h40
            repeat (first | go_guarded | go_step)
            exact hQ _ _ (Grow.refl _) rfl rfl
          refine obls_cons (fun f w' hR hH Q hQ => ?_) ?_
          · skip
            have h41 := hH.get 0 (200, 41) rfl
            clear hH
            refine wpList_view ?_; show wpList _ _ _ [_] ⟨#[_, _, _, _, _, _, _, _, _, _, _, _, _, _, _, _, _, _, _, _, _, _, _, _, _, _, _, _, _, _, _, _, _, _, _, _, _, _, _, _, _, _, _, _, _, _, _, _, _, _, _, _, _, _, _, _, _, _, _, _, _, _, _, _, _, _, _, _, _, _, _, _, _, _, _, _, _, _, _, _, _, _, _, _, _, _, _, _, _, _, _, _, _, _, _, _, _, _, _, _, _, _, _, _, _, _, _, _, _, _, _, _, _, _, _, _, _, _, _, _, _, _, _, _, _, _, _, _, _, _, _, _, _, _, _, _, _, _, _, _, _, _, _, _, _, _, _, _, _, _, _, _, _, _, _, _, _, _, _, _, _, _, _, _, _, _, _, _, _, _, _, _, _, _, _, _, _, _, _, _, _, _, _, _, _, _, _, _, _, _, _, _, _, _, _, _, _, _, _, _, f 41, _, _, _], _⟩ _
            rw [show f 41 = _ from h41]
            clear h41
            repeat (first | go_guarded | go_step)
            exact hQ _ _ (Grow.refl _) rfl rfl
          refine obls_cons (fun f w' hR hH Q hQ => ?_) ?_
          · skip
            have h42 := hH.get 0 (201, 42) rfl
            clear hH
            refine wpList_view ?_; show wpList _ _ _ [_] ⟨#[_, _, _, _, _, _, _, _, _, _, _, _, _, _, _, _, _, _, _, _, _, _, _, _, _, _, _, _, _, _, _, _, _, _, _, _, _, _, _, _, _, _, _, _, _, _, _, _, _, _, _, _, _, _, _, _, _, _, _, _, _, _, _, _, _, _, _, _, _, _, _, _, _, _, _, _, _, _, _, _, _, _, _, _, _, _, _, _, _, _, _, _, _, _, _, _, _, _, _, _, _, _, _, _, _, _, _, _, _, _, _, _, _, _, _, _, _, _, _, _, _, _, _, _, _, _, _, _, _, _, _, _, _, _, _, _, _, _, _, _, _, _, _, _, _, _, _, _, _, _, _, _, _, _, _, _, _, _, _, _, _, _, _, _, _, _, _, _, _, _, _, _, _, _, _, _, _, _, _, _, _, _, _, _, _, _, _, _, _, _, _, _, _, _, _, _, _, _, _, _, _, f 42, _, _], _⟩ _
            rw [show f 42 = _ from h42]
            clear h42
            go_wp2_with (go_at_call 19; refine (works_any w').mono ?_; rintro e w1 ⟨rfl, hg1⟩)
            exact hQ _ _ hg1 rfl rfl
          refine obls_cons (fun f w' hR hH Q hQ => ?_) ?_
          · skip
            have h42 := hH.get 0 (201, 42) rfl
            have h43 := hH.get 1 (202, 43) rfl
            clear hH
            refine wpList_view ?_; show wpList _ _ _ [_] ⟨#[_, _, _, _, _, _, _, _, _, _, _, _, _, _, _, _, _, _, _, _, _, _, _, _, _, _, _, _, _, _, _, _, _, _, _, _, _, _, _, _, _, _, _, _, _, _, _, _, _, _, _, _, _, _, _, _, _, _, _, _, _, _, _, _, _, _, _, _, _, _, _, _, _, _, _, _, _, _, _, _, _, _, _, _, _, _, _, _, _, _, _, _, _, _, _, _, _, _, _, _, _, _, _, _, _, _, _, _, _, _, _, _, _, _, _, _, _, _, _, _, _, _, _, _, _, _, _, _, _, _, _, _, _, _, _, _, _, _, _, _, _, _, _, _, _, _, _, _, _, _, _, _, _, _, _, _, _, _, _, _, _, _, _, _, _, _, _, _, _, _, _, _, _, _, _, _, _, _, _, _, _, _, _, _, _, _, _, _, _, _, _, _, _, _, _, _, _, _, _, _, _, f 42, f 43, _], _⟩ _
            rw [show f 42 = _ from h42]
            rw [show f 43 = _ from h43]
            clear h42 h43
            repeat (first | go_guarded | go_step)
            exact hQ _ _ (Grow.refl _) rfl rfl
          refine obls_cons (fun f w' hR hH Q hQ => ?_) ?_
          · skip
            have h44 := hH.get 0 (203, 44) rfl
            clear hH
            refine wpList_view ?_; show wpList _ _ _ [_] ⟨#[_, _, _, _, _, _, _, _, _, _, _, _, _, _, _, _, _, _, _, _, _, _, _, _, _, _, _, _, _, _, _, _, _, _, _, _, _, _, _, _, _, _, _, _, _, _, _, _, _, _, _, _, _, _, _, _, _, _, _, _, _, _, _, _, _, _, _, _, _, _, _, _, _, _, _, _, _, _, _, _, _, _, _, _, _, _, _, _, _, _, _, _, _, _, _, _, _, _, _, _, _, _, _, _, _, _, _, _, _, _, _, _, _, _, _, _, _, _, _, _, _, _, _, _, _, _, _, _, _, _, _, _, _, _, _, _, _, _, _, _, _, _, _, _, _, _, _, _, _, _, _, _, _, _, _, _, _, _, _, _, _, _, _, _, _, _, _, _, _, _, _, _, _, _, _, _, _, _, _, _, _, _, _, _, _, _, _, _, _, _, _, _, _, _, _, _, _, _, _, _, _, _, _, f 44], _⟩ _
            rw [show f 44 = _ from h44]
            clear h44
            repeat (first | go_guarded | go_step)
            exact hQ _ _ (Grow.refl _) rfl rfl
          exact obls_nil
        case mono => exact ⟨Mono.veq _, IsInts.mono, Mono.veq _, Mono.veq _, Mono.veq _, Mono.veq _, Mono.veq _, Mono.veq _, IsInts.mono, Mono.veq _, Mono.veq _, Mono.veq _, Mono.veq _, Mono.veq _, Mono.veq _, Mono.veq _, Mono.veq _, Mono.veq _, Mono.veq _, Mono.veq _, Mono.veq _, Mono.veq _, Mono.veq _, Mono.veq _, Mono.veq _, Mono.veq _, Mono.veq _, Mono.veq _, Mono.veq _, Mono.veq _, Mono.veq _, Mono.veq _, Mono.veq _, Mono.veq _, Mono.veq _, Mono.veq _, Mono.veq _, Mono.veq _, Mono.veq _, Mono.veq _, Mono.veq _, Mono.veq _, Mono.veq _, Mono.veq _, Mono.veq _, Mono.veq _, trivial⟩
        case tail =>
          intro f w' hR hH
          have q45 := hH.get 45 (6, 45) rfl
          clear hH
          refine wpList_merge (idx := [none, none, none, none, none, none, some 45, none, none, none, none, none, none, none, none, none, none, none, none, none, none, none, none, none, none, none, none, none, none, none, none, none, none, none, none, none, none, none, none, none, none, none, none, none, none, none, none, none, none, none, none, none, none, none, none, none, none, none, none, none, none, none, none, none, none, none, none, none, none, none, none, none, none, none, none, none, none, none, none, none, none, none, none, none, none, none, none, none, none, none, none, none, none, none, none, none, none, none, none, none, none, none, none, none, none, none, none, none, none, none, none, none, none, none, none, none, none, none, none, none, none, none, none, none, none, none, none, none, none, none, none, none, none, none, none, none, none, none, none, none, none, none, none, none, none, none, none, none, none, none, none, none, none, none, none, none, none, none, none, some 0, some 1, some 2, some 3, some 4, some 5, some 6, some 7, some 8, some 9, some 10, some 11, some 12, some 13, some 14, some 15, some 16, some 17, some 18, some 19, some 20, some 21, some 22, some 23, some 24, some 25, some 26, some 27, some 28, some 29, some 30, some 31, some 32, some 33, some 34, some 35, some 36, some 37, some 38, some 39, some 40, some 41, some 42, some 43, some 44]) (by kernel_rfl) ?_; show wpList _ _ _ [] ⟨#[_, _, _, _, _, _, f 45, _, _, _, _, _, _, _, _, _, _, _, _, _, _, _, _, _, _, _, _, _, _, _, _, _, _, _, _, _, _, _, _, _, _, _, _, _, _, _, _, _, _, _, _, _, _, _, _, _, _, _, _, _, _, _, _, _, _, _, _, _, _, _, _, _, _, _, _, _, _, _, _, _, _, _, _, _, _, _, _, _, _, _, _, _, _, _, _, _, _, _, _, _, _, _, _, _, _, _, _, _, _, _, _, _, _, _, _, _, _, _, _, _, _, _, _, _, _, _, _, _, _, _, _, _, _, _, _, _, _, _, _, _, _, _, _, _, _, _, _, _, _, _, _, _, _, _, _, _, _, _, _, f 0, f 1, f 2, f 3, f 4, f 5, f 6, f 7, f 8, f 9, f 10, f 11, f 12, f 13, f 14, f 15, f 16, f 17, f 18, f 19, f 20, f 21, f 22, f 23, f 24, f 25, f 26, f 27, f 28, f 29, f 30, f 31, f 32, f 33, f 34, f 35, f 36, f 37, f 38, f 39, f 40, f 41, f 42, f 43, f 44], _⟩ _
          rw [show f 45 = _ from q45]
          clear q45
          have HRG := Lib.hid hR
          clear hR
          go_wp2_with fail
          go_ret
          exact ⟨rfl, HG.out.trans HRG.out⟩
end Go.Proofs.Ytjfohglkpbgkaaa.mkL
