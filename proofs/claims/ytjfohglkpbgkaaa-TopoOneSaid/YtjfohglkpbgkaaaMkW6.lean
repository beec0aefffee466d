/- The walks of sets: Copy; Or, And of two sets, of one, of nil. -/
import Derived.Test.YtjfohglkpbgkaaaMkW5
import Derived.Lib.BufferMore
import Derived.Lib.SlBytesConst
import Derived.WalkLawsBesides
namespace Go.Proofs.Ytjfohglkpbgkaaa.mkW
open Go Go.RowKit Go.Par Go.Kit Go.Proofs.Ytjfohglkpbgkaaa.Mk

theorem one_b64 (ws : List (BitVec 64)) : ∀ u ∈ ws.map b64, u.oneCell' = true := by
  intro u hu
  simp only [List.mem_map] at hu
  obtain ⟨x, _, rfl⟩ := hu
  rfl
set_option maxHeartbeats 400000 in
theorem clone64_any (A : Option Addr) (n c : Nat) (xs : List Value) (w : World) (hb : Row w A n xs) (h1 : ∀ u ∈ xs, u.oneCell' = true) (hn : n ≤ 1000000) :
    Calls Try.prog 55 #[.slice A n c] w fun e w' => ∃ v, e = .returned v ∧ w'.ownsRow w.heap.size 80 1 v n xs ∧ Grow w w' := by
  have hlen := hb.1
  cases A with
  | none =>
    have hn0 : n = 0 := by
      rcases Nat.eq_zero_or_pos n with h | h
      · exact h
      · obtain ⟨_, _, e, _⟩ := hb.2 h
        cases e
    subst hn0
    have : xs = [] := List.eq_nil_of_length_eq_zero hlen
    subst this
    have hnil := fun W => Lib.run_eql_slice_nil_nil (P := Try.prog) W 0 c Try.underlying50
    clear hlen
    go_enter Try.func55, Try.ntmps55
    go_wp2_with fail
    go_ret
    exact ⟨_, rfl, World.ownsRow_nil _ _ _ _, Grow.refl _⟩
  | some a =>
    have hnil := fun W => Lib.run_eql_slice_some_nil (P := Try.prog) W a n c Try.underlying50
    have ho0 := own_zero (base := w.heap.size) w 80 rfl (Nat.le_refl _)
    have hb2 : Row (w.alloc (.cells #[] 80)) (some a) (n * 1) xs := by rw [Nat.mul_one]; exact hb.grow (Grow.alloc w _)
    have hsz : w.heap.size ≤ (w.alloc (.cells #[] 80)).heap.size := by simp
    have hlim : 0 + n ≤ maxLen := by unfold maxLen; omega
    have hlim2 : (0 + n) * 8 ≤ 140737488355328 := by omega
    clear hlen hb
    go_enter Try.func55, Try.ntmps55
    go_wp2_with (at_builtin; refine wpList_append_row rfl _ _ 50 rfl w.heap.size 80 _ (.int .u64 0) 1 8 Try.underlying50 i64 i64z i64s i64b rfl (by decide) _ 0 [] rfl ho0 (some a) n c xs rfl hb2 h1 hlim hlim2 hsz ?_; intro v1 w1 hown1 hgb1 hh1)
    go_ret
    rw [Nat.zero_add, List.nil_append] at hown1
    exact ⟨v1, rfl, hown1, grow_by (Grow.alloc w _) hgb1 (own_base ho0)⟩
theorem MSr.row {w : World} {g : Nat} {h : Option Nat} {n : Nat} {ws : List (BitVec 64)} (m : MSr w g h n ws) : ∃ A c, w.cell? ⟨g, 0, none⟩ = some (.int .i64 (n : Int)) ∧ w.cell? ⟨g, 1, none⟩ = some (.slice A ws.length c) ∧ Row w A ws.length (ws.map b64) := by
  obtain ⟨A, c, h1, h2, h3⟩ := m
  obtain ⟨A', c', e, _, _, r⟩ := own_form h2
  injection e with e1 e2 e3
  subst e1
  rw [Nat.mul_one] at r
  exact ⟨A, c, h1.cell (i := 0) rfl, h1.cell (i := 1) rfl, r⟩
set_option maxRecDepth 100000 in
set_option maxHeartbeats 1000000 in
theorem copy_any (w : World) (g : Nat) (h : Option Nat) (n : Nat) (S : Nat → Bool) (m : MS w g h n S) :
    Calls Try.prog 14 #[.pointer (some ⟨g, 0, none⟩)] w fun e w' => ∃ g' h', e = .returned (.pointer (some ⟨g', 0, none⟩)) ∧ MS w' g' h' n S ∧ w.heap.size ≤ g' ∧ (∀ k, h' = some k → w.heap.size ≤ k) ∧ Grow w w' := by
  obtain ⟨ws, hr, hgd⟩ := m.raw
  obtain ⟨A, c, c0, c1, row⟩ := hr.row
  have hl : ws.length ≤ 1025 := by have := hgd.1; have := hgd.2.1; omega
  have HC := Lib.hid (fun W hb => clone64_any A ws.length c (ws.map b64) W hb (one_b64 ws) (by omega))
  have HROW := Lib.hid row
  have C0 := Lib.hid c0
  have C1 := Lib.hid c1
  have HGD := Lib.hid hgd
  clear hr hgd m row c0 c1
  go_enter Try.func14, Try.ntmps14
  go_wp2_with fail
  apply (fun (v0 v1 v2 v3 v4 v5 v6 v7 : Value) mono obl tail => wp_region_par (R := Grow) (Φ := phi [veq v0, veq v1, veq v2, veq v3, veq v4, veq v5, veq v6, veq v7, (OwnRow w.heap.size 80 (ws.map b64))]) (m := 9) (dls := [[], [(5, 0)], [(6, 1)], [(7, 2)], [], [(9, 4)], [(10, 5)], [(11, 6)], [(12, 7)]]) (ds := [5, 6, 7, 8, 9, 10, 11, 12, 13]) (by kernel_rfl) (by kernel_rfl) (by decide) rfl (Grow.drew _) (fun _ _ _ => Grow.trans) (mono_phi mono) obl tail)
  case obl =>
    refine obls_cons (fun f w' hR hH Q hQ => ?_) ?_
    · skip
      clear hH
      refine wpList_view ?_; show wpList _ _ _ [_] ⟨#[_, _, _, _, _, _, _, _, _, _, _, _, _, _, _, _], _⟩ _
      repeat (first | go_guarded | go_step)
      exact hQ _ _ (Grow.refl _) rfl rfl
    refine obls_cons (fun f w' hR hH Q hQ => ?_) ?_
    · skip
      have h0 := hH.get 0 (5, 0) rfl
      clear hH
      refine wpList_view ?_; show wpList _ _ _ [_] ⟨#[_, _, _, _, _, f 0, _, _, _, _, _, _, _, _, _, _], _⟩ _
      rw [show f 0 = _ from h0]
      clear h0
      repeat (first | go_guarded | go_step)
      exact hQ _ _ (Grow.refl _) rfl rfl
    refine obls_cons (fun f w' hR hH Q hQ => ?_) ?_
    · skip
      have h1 := hH.get 0 (6, 1) rfl
      clear hH
      refine wpList_view ?_; show wpList _ _ _ [_] ⟨#[_, _, _, _, _, _, f 1, _, _, _, _, _, _, _, _, _], _⟩ _
      rw [show f 1 = _ from h1]
      clear h1
      repeat (first | go_guarded | go_step)
      exact hQ _ _ (Grow.refl _) rfl rfl
    refine obls_cons (fun f w' hR hH Q hQ => ?_) ?_
    · skip
      have h2 := hH.get 0 (7, 2) rfl
      clear hH
      refine wpList_view ?_; show wpList _ _ _ [_] ⟨#[_, _, _, _, _, _, _, f 2, _, _, _, _, _, _, _, _], _⟩ _
      rw [show f 2 = _ from h2]
      clear h2
      have c0 := hR.cell C0.out
      repeat (first | go_guarded | go_step)
      exact hQ _ _ (Grow.refl _) rfl rfl
    refine obls_cons (fun f w' hR hH Q hQ => ?_) ?_
    · skip
      clear hH
      refine wpList_view ?_; show wpList _ _ _ [_] ⟨#[_, _, _, _, _, _, _, _, _, _, _, _, _, _, _, _], _⟩ _
      repeat (first | go_guarded | go_step)
      exact hQ _ _ (Grow.refl _) rfl rfl
    refine obls_cons (fun f w' hR hH Q hQ => ?_) ?_
    · skip
      have h4 := hH.get 0 (9, 4) rfl
      clear hH
      refine wpList_view ?_; show wpList _ _ _ [_] ⟨#[_, _, _, _, _, _, _, _, _, f 4, _, _, _, _, _, _], _⟩ _
      rw [show f 4 = _ from h4]
      clear h4
      repeat (first | go_guarded | go_step)
      exact hQ _ _ (Grow.refl _) rfl rfl
    refine obls_cons (fun f w' hR hH Q hQ => ?_) ?_
    · skip
      have h5 := hH.get 0 (10, 5) rfl
      clear hH
      refine wpList_view ?_; show wpList _ _ _ [_] ⟨#[_, _, _, _, _, _, _, _, _, _, f 5, _, _, _, _, _], _⟩ _
      rw [show f 5 = _ from h5]
      clear h5
      repeat (first | go_guarded | go_step)
      exact hQ _ _ (Grow.refl _) rfl rfl
    refine obls_cons (fun f w' hR hH Q hQ => ?_) ?_
    · skip
      have h6 := hH.get 0 (11, 6) rfl
      clear hH
      refine wpList_view ?_; show wpList _ _ _ [_] ⟨#[_, _, _, _, _, _, _, _, _, _, _, f 6, _, _, _, _], _⟩ _
      rw [show f 6 = _ from h6]
      clear h6
      have c1 := hR.cell C1.out
      repeat (first | go_guarded | go_step)
      exact hQ _ _ (Grow.refl _) rfl rfl
    refine obls_cons (fun f w' hR hH Q hQ => ?_) ?_
    · skip
      have h7 := hH.get 0 (12, 7) rfl
      clear hH
      refine wpList_view ?_; show wpList _ _ _ [_] ⟨#[_, _, _, _, _, _, _, _, _, _, _, _, f 7, _, _, _], _⟩ _
      rw [show f 7 = _ from h7]
      clear h7
      go_wp2_with (go_at_call 55; refine (HC.out w' (HROW.out.grow hR)).mono ?_; rintro e w1 ⟨v1, rfl, ho1, hg1⟩)
      exact hQ _ _ hg1 (OwnRow.mk (own_lower ho1 hR.size) (by simp)) rfl
    exact obls_nil
  case mono => exact ⟨Mono.veq _, Mono.veq _, Mono.veq _, Mono.veq _, Mono.veq _, Mono.veq _, Mono.veq _, Mono.veq _, OwnRow.mono, trivial⟩
  case tail =>
    intro f w' hR hH
    have q3 := hH.get 3 (8, 3) rfl
    have q8 : (OwnRow w.heap.size 80 (ws.map b64)) (f 8) w' := hH.get 8 (13, 8) rfl
    clear hH
    refine wpList_merge (idx := [none, none, none, none, none, some 0, some 1, some 2, some 3, some 4, some 5, some 6, some 7, some 8, none, none]) (by kernel_rfl) ?_; show wpList _ _ _ [_, _, _] ⟨#[_, _, _, _, _, f 0, f 1, f 2, f 3, f 4, f 5, f 6, f 7, f 8, _, _], _⟩ _
    rw [show f 3 = _ from q3]
    clear q3
    generalize f 8 = x8 at *
    obtain ⟨A2, c2, rfl, ho2⟩ := OwnRow.form q8
    have HR := Lib.hid hR
    have HO := Lib.hid ho2
    clear hR ho2 q8
    go_wp2_with fail
    go_ret
    have ho3 := HO.out
    rw [List.length_map] at ho3 ⊢
    refine ⟨_, _, rfl, ⟨A2, c2, ws, Blk.new _ _ _ _ rfl rfl, own_grow (own_lower ho3 (Nat.zero_le _)) (Grow.alloc _ _), rfl, (fun k hk => by have := (ho3.lt k hk).2; omega), HGD.out⟩, HR.out.size, (fun k hk => (ho3.lt k hk).1), HR.out.trans (Grow.alloc _ _)⟩

theorem good_nil : GoodW 0 [] (fun _ => false) := ⟨by decide, rfl, fun j => by simp [bit], fun j h => by cases h⟩
theorem orTo_at' {ws ts : List (BitVec 64)} {n k : Nat} : (orTo ws ts n k)[k]? = ws[k]? := by unfold orTo; rw [List.getElem?_mapIdx]; cases ws[k]? <;> simp
theorem andTo_at' {ws ts : List (BitVec 64)} {n k : Nat} : (andTo ws ts n k)[k]? = ws[k]? := by unfold andTo; rw [List.getElem?_mapIdx]; cases ws[k]? <;> simp
theorem wordOf_eq {ws us : List (BitVec 64)} {k n : Nat} (h : ws[k]? = us[k]?) : wordOf ws k n = wordOf us k n := by unfold wordOf; rw [h]
section
variable {w : World} {B : Nat} {K : Nat → Prop} {g : Nat} {h : Option Nat} {n : Nat} {S : Nat → Bool}
theorem or_two (m : MS w g h n S) (hf : Free B K g h) (hB : B ≤ w.heap.size) {g2 : Nat} {h2 : Option Nat} {n2 : Nat} {T : Nat → Bool} (m2 : MS w g2 h2 n2 T) (k2 : g2 < B ∨ K g2) (k3 : ∀ k, h2 = some k → k < B ∨ K k) :
    Calls Try.prog 15 #[.pointer (some ⟨g, 0, none⟩), .pointer (some ⟨g2, 0, none⟩)] w fun e w' => e = .returned (.bool (diff n S (uni S T n))) ∧ MS w' g h n (uni S T n) ∧ Keep B K w w' := by
  obtain ⟨ws, hr, hgd⟩ := m.raw
  obtain ⟨ts, hr2, hgt⟩ := m2.raw
  exact or_gen w B K g h n S ws hr hgd hf hB _ n2 ts T hgt (fun wr k hk _ hke => word_any wr g2 h2 n2 ts (hr2.keep hke k2 k3) k n (by have := hgd.1; omega) hgd.1)
theorem and_two (m : MS w g h n S) (hf : Free B K g h) (hB : B ≤ w.heap.size) {g2 : Nat} {h2 : Option Nat} {n2 : Nat} {T : Nat → Bool} (m2 : MS w g2 h2 n2 T) (k2 : g2 < B ∨ K g2) (k3 : ∀ k, h2 = some k → k < B ∨ K k) :
    Calls Try.prog 16 #[.pointer (some ⟨g, 0, none⟩), .pointer (some ⟨g2, 0, none⟩)] w fun e w' => e = .returned (.bool (diff n S (int S T))) ∧ MS w' g h n (int S T) ∧ Keep B K w w' := by
  obtain ⟨ws, hr, hgd⟩ := m.raw
  obtain ⟨ts, hr2, hgt⟩ := m2.raw
  exact and_gen w B K g h n S ws hr hgd hf hB _ n2 ts T hgt (fun wr k hk _ hke => word_any wr g2 h2 n2 ts (hr2.keep hke k2 k3) k n (by have := hgd.1; omega) hgd.1)
theorem or_self (m : MS w g h n S) (hf : Free B K g h) (hB : B ≤ w.heap.size) :
    Calls Try.prog 15 #[.pointer (some ⟨g, 0, none⟩), .pointer (some ⟨g, 0, none⟩)] w fun e w' => e = .returned (.bool (diff n S (uni S S n))) ∧ MS w' g h n (uni S S n) ∧ Keep B K w w' := by
  obtain ⟨ws, hr, hgd⟩ := m.raw
  exact or_gen w B K g h n S ws hr hgd hf hB _ n ws S hgd (fun wr k hk hm _ => by
    rw [← wordOf_eq (ws := orTo ws ws n k) orTo_at']
    exact word_any wr g h n _ hm k n (by have := hgd.1; omega) hgd.1)
theorem or_none (m : MS w g h n S) (hf : Free B K g h) (hB : B ≤ w.heap.size) :
    Calls Try.prog 15 #[.pointer (some ⟨g, 0, none⟩), .pointer none] w fun e w' => e = .returned (.bool (diff n S (uni S (fun _ => false) n))) ∧ MS w' g h n (uni S (fun _ => false) n) ∧ Keep B K w w' := by
  obtain ⟨ws, hr, hgd⟩ := m.raw
  exact or_gen w B K g h n S ws hr hgd hf hB _ 0 [] _ good_nil (fun wr k _ _ _ => word_nil wr k n)
theorem and_none (m : MS w g h n S) (hf : Free B K g h) (hB : B ≤ w.heap.size) :
    Calls Try.prog 16 #[.pointer (some ⟨g, 0, none⟩), .pointer none] w fun e w' => e = .returned (.bool (diff n S (int S (fun _ => false)))) ∧ MS w' g h n (int S (fun _ => false)) ∧ Keep B K w w' := by
  obtain ⟨ws, hr, hgd⟩ := m.raw
  exact and_gen w B K g h n S ws hr hgd hf hB _ 0 [] _ good_nil (fun wr k _ _ _ => word_nil wr k n)
end
theorem diff_same (n : Nat) (S : Nat → Bool) : diff n S S = false := by unfold diff; rw [List.any_eq_false]; intro x _; simp
theorem uni_none (S : Nat → Bool) (n : Nat) : uni S (fun _ => false) n = S := by funext j; simp [uni]
theorem within_ms {w : World} {g g2 : Nat} {h h2 : Option Nat} {n n2 : Nat} {S T : Nat → Bool} (m : MS w g h n S) (m2 : MS w g2 h2 n2 T) :
    Calls Try.prog 18 #[.pointer (some ⟨g, 0, none⟩), .pointer (some ⟨g2, 0, none⟩)] w fun e w' => e = .returned (.bool (allIn n S T)) ∧ w = w' :=
  within_gen w _ _ n S T m.good.1 m.good.2 (fun a ha => next_any w g h n S m a ha) (fun a => has_any w g2 h2 n2 T m2 a)
theorem same_ms {w : World} {g g2 : Nat} {h h2 : Option Nat} {n n2 : Nat} {S T : Nat → Bool} (m : MS w g h n S) (m2 : MS w g2 h2 n2 T) :
    Calls Try.prog 17 #[.pointer (some ⟨g, 0, none⟩), .pointer (some ⟨g2, 0, none⟩)] w fun e w' => e = .returned (.bool (allIn n S T && allIn n2 T S)) ∧ w = w' :=
  same_gen w _ _ _ _ (within_ms m m2) (within_ms m2 m)
/-! of nil -/
theorem put_nil (w : World) (i : Int) : Calls Try.prog 22 #[.pointer none, .int .i64 i] w fun e w' => e = .returned (.bool false) ∧ w = w' := by
  go_enter Try.func22, Try.ntmps22
  go_wp2_with fail
  refine (fits_nil w i).mono ?_
  rintro e w' ⟨rfl, rfl⟩
  go_wp2_with fail
  go_ret
  exact ⟨rfl, rfl⟩
theorem drop_nil (w : World) (i : Int) : Calls Try.prog 24 #[.pointer none, .int .i64 i] w fun e w' => e = .returned (.bool false) ∧ w = w' := by
  go_enter Try.func24, Try.ntmps24
  go_wp2_with fail
  refine (has_nil w i).mono ?_
  rintro e w' ⟨rfl, rfl⟩
  go_wp2_with fail
  go_ret
  exact ⟨rfl, rfl⟩
theorem or_nil (w : World) (v : Value) : Calls Try.prog 15 #[.pointer none, v] w fun e w' => e = .returned (.bool false) ∧ w = w' := by
  go_enter Try.func15, Try.ntmps15
  go_wp2_with fail
  refine (room_nil w).mono ?_
  rintro e w' ⟨rfl, rfl⟩
  go_wp2_with fail
  go_loop [5, 12] (fun r i => r = .bool false ∧ i = .int .i64 0) (fun _ _ => 0)
  case atStart => exact ⟨rfl, rfl⟩
  case round =>
    obtain ⟨rfl, rfl⟩ := hrel
    go_wp2_with fail
    go_ret
    exact ⟨rfl, rfl⟩
theorem and_nil (w : World) (v : Value) : Calls Try.prog 16 #[.pointer none, v] w fun e w' => e = .returned (.bool false) ∧ w = w' := by
  go_enter Try.func16, Try.ntmps16
  go_wp2_with fail
  refine (room_nil w).mono ?_
  rintro e w' ⟨rfl, rfl⟩
  go_wp2_with fail
  go_loop [5, 12] (fun r i => r = .bool false ∧ i = .int .i64 0) (fun _ _ => 0)
  case atStart => exact ⟨rfl, rfl⟩
  case round =>
    obtain ⟨rfl, rfl⟩ := hrel
    go_wp2_with fail
    go_ret
    exact ⟨rfl, rfl⟩
theorem list_nil (w : World) : Calls Try.prog 34 #[.pointer none] w fun e w' => e = .returned (.slice none 0 0) ∧ w = w' := by
  go_enter Try.func34, Try.ntmps34
  go_wp2_with fail
  refine (next_nil w 0).mono ?_
  rintro e w' ⟨rfl, rfl⟩
  go_wp2_with fail
  go_loop [3, 4] (fun r i => r = .slice none 0 0 ∧ i = .int .i64 (-1)) (fun _ _ => 0)
  case atStart => exact ⟨rfl, rfl⟩
  case round =>
    obtain ⟨rfl, rfl⟩ := hrel
    go_wp2_with fail
    go_ret
    exact ⟨rfl, rfl⟩
theorem copy_nil (w : World) : Calls Try.prog 14 #[.pointer none] w fun e w' => e = .returned (.pointer none) ∧ w = w' := by
  go_enter Try.func14, Try.ntmps14
  go_wp2_with fail
  go_ret
  exact ⟨rfl, rfl⟩
end Go.Proofs.Ytjfohglkpbgkaaa.mkW
