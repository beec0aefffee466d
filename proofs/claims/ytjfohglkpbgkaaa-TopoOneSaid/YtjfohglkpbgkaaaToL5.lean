/- The walk of TopoOne. -/
import Derived.Test.YtjfohglkpbgkaaaToL4
import Derived.Test.YtjfohglkpbgkaaaFast
import Derived.Test.YtjfohglkpbgkaaaCut
namespace Go.Proofs.Ytjfohglkpbgkaaa.toL
open Go Go.RowKit Go.Par Go.Kit Go.Proofs.Ytjfohglkpbgkaaa.Mk Go.Proofs.Ytjfohglkpbgkaaa.mkW Go.Proofs.Ytjfohglkpbgkaaa.Re Go.Proofs.Ytjfohglkpbgkaaa.reW Go.Proofs.Ytjfohglkpbgkaaa.mkR Go.Proofs.Ytjfohglkpbgkaaa.To Go.Proofs.Ytjfohglkpbgkaaa.toW

/-- append of nothing -/
theorem run_append_zero {P : Program} (w : World) (t ty e : TypeId) (i : TypeInfo) (ht : P.underlying t = some (.slice e)) (hi : P.info? e = some i) (b : Addr) (n c c' : Nat) (A : Option Addr) (hn : n ≤ c) :
    (Builtin.append_ #[t, t] ty #[.slice (some b) n c, .slice A 0 c']).run P w = .ok (.slice (some b) n c) w := by
  cases A with
  | none => simp [Builtin.append_, run_underlying ht, sizeOf, typeInfo, hi, Builtin.lenOf, Builtin.firstCells, hn, storeCells]
  | some a => simp [Builtin.append_, run_underlying ht, sizeOf, typeInfo, hi, Builtin.lenOf, Builtin.firstCells, hn, storeCells, loadCells, loadCellsFrom]
theorem wpList_append_zero {P : Program} (w : World) {ops : Array Oper} {rest : List Oper} {o : Oper} {a : Act} {Q : Exit → Act → World → Prop}
    (hg : o.guard = none) (s x : Operand) (t : TypeId) (hop : o.op = Op.call { callee := Callee.builtin Builtin.append, args := #[s, x], argTypes := #[t, t] })
    (e : TypeId) (i : TypeInfo) (h1 : P.underlying t = some (.slice e)) (h2 : P.info? e = some i) (b : Addr) (n c : Nat) (A : Option Addr) (c' : Nat) (hn : n ≤ c)
    (hs : a.eval s = .slice (some b) n c) (hx : a.eval x = .slice A 0 c') (hK : wpList P ops Q rest (a.put o.dst (.slice (some b) n c)) w) : wpList P ops Q (o :: rest) a w := by
  refine wpList_plain hg fun K hK' => ?_
  have hrun := run_append_zero (P := P) w t o.type e i h1 h2 b n c c' A hn
  unfold Oper.wp
  simp [execOp, hop, resolve, invoke, builtin, hs, hx, hrun, Result.andThen]
  exact hK' _ _ hK
/-- a slice of one number, in a block of its own -/
def OneI (x : Nat) : Value → World → Prop := fun u w => ∃ g, u = .slice (some ⟨g, 0, none⟩) 1 1 ∧ Row w (some ⟨g, 0, none⟩) 1 [nv x]
theorem OneI.mono {x : Nat} : Mono Grow (OneI x) := fun _ _ _ ⟨g, e, h⟩ hg => ⟨g, e, h.grow hg⟩
theorem one_nv (L : List Nat) : ∀ u ∈ L.map nv, u.oneCell' = true := fun u hu => by
  obtain ⟨x, -, rfl⟩ := List.mem_map.1 hu
  rfl
theorem slice_hm {P : Program} {t e : TypeId} {i : TypeInfo} (ht : P.underlying t = some (.slice e)) (hi : P.info? e = some i) (A : Option Addr) (n c k : Nat) (hk : k ≤ c) (w : World) :
    (Instr.slice t (.slice A n c) none (some (.int .i64 (k : Int))) (some (.int .i64 (k : Int)))).run P w = .ok (.slice A k k) w := by
  simp [Instr.slice, run_underlying ht, Instr.sliceBounds, run_sliceBound, sizeOf, typeInfo, hi, hk]
  intro _
  cases A <;> simp [Addr.add]
def OwnI (B : Nat) (L : List Nat) : Value → World → Prop := fun u w => w.ownsRow B 3 1 u L.length (L.map nv)
theorem OwnI.mono {B : Nat} {L : List Nat} : Mono Grow (OwnI B L) := fun _ _ _ h hg => own_grow h hg
/-- steps of the call's own -/
structure OS (W1 : World) (M : List (Nat × Nat)) (v : Value) (w : World) : Prop where
  g : Grow W1 w
  own : w.ownsRow W1.heap.size T2 2 v M.length (steps M)
def ipair (p : Nat × Nat) : Int × Int := ((p.1 : Int), (p.2 : Int))
theorem OS.recs {W1 w : World} {M : List (Nat × Nat)} {v : Value} (h : OS W1 M v w) : ∃ A c, v = .slice A M.length c ∧ Recs 2 prow w A M.length (M.map ipair) := by
  obtain ⟨A, c, e, _, _, h3⟩ := own_form h.own
  exact ⟨A, c, e, by simp, fun _ => rfl, by rw [List.map_map]; exact h3⟩
theorem vp_all {n : Nat} {M : List (Nat × Nat)} (h : ∀ p ∈ M, p.1 < n ∧ p.2 < n) : vp n (M.map ipair) = M := by
  unfold vp
  rw [List.filter_eq_self.2, List.map_map]
  · conv => rhs; rw [← List.map_id M]
    apply List.map_congr_left
    intro p _
    simp [ipair]
  · intro x hx
    obtain ⟨p, hp, rfl⟩ := List.mem_map.1 hx
    have := h p hp
    unfold valid ipair
    simp
    omega
theorem pairs_ok {M : List (Nat × Nat)} (h : ∀ p ∈ M, p.1 < 100 ∧ p.2 < 100) : ∀ x ∈ M.map ipair, PairOk x := by
  intro x hx
  obtain ⟨p, hp, rfl⟩ := List.mem_map.1 hx
  have := h p hp
  exact ⟨(show i64ok ((p.1 : Nat) : Int) from ⟨by omega, by omega⟩), (show i64ok ((p.2 : Nat) : Int) from ⟨by omega, by omega⟩)⟩
theorem chain_in {L : List Nat} (h : Alls L) (k : Nat) : ∀ p ∈ chain L k, p.1 < L.length ∧ p.2 < L.length := by
  rintro ⟨a, b⟩ hp
  obtain ⟨i, _, h1, h2⟩ := mem_chain.1 hp
  exact ⟨h.lt _ (List.mem_of_getElem? h1), h.lt _ (List.mem_of_getElem? h2)⟩
theorem ring_in {L : List Nat} (h : Alls L) (h0 : 0 < L.length) : ∀ p ∈ ring L, p.1 < L.length ∧ p.2 < L.length := by
  intro p hp
  rcases List.mem_append.1 hp with hp | hp
  · exact chain_in h _ p hp
  · obtain rfl := List.mem_singleton.1 hp
    have hg : ∀ k, k < L.length → L.getD k 0 ∈ L := fun k hk => by
      rw [List.getD_eq_getElem?_getD, List.getElem?_eq_getElem hk]
      exact List.getElem_mem hk
    exact ⟨h.lt _ (hg _ (by omega)), h.lt _ (hg _ h0)⟩
/-- the list behind the first loop -/
def JL (w : World) (f : Nat → Value) (w' : World) : Prop := ∃ (L : List Nat) (v : Value), f 3 = v ∧ Alls L ∧ L.length ≤ 20 ∧ OR w L v w'
/-- what the law asks of a list: a relation of its steps has just this order -/
theorem of_chain (w : World) (n : Nat) (M : List (Nat × Nat)) (v : Value) (w0 : World) (h : OS w0 M v w) (hM : ∀ p ∈ M, p.1 < n ∧ p.2 < n) (hn : n ≤ 20) (hl : M.length ≤ 100) :
    Calls Try.prog 39 #[.int .i64 (n : Int), v] w fun e w' => ∃ gr, e = .returned (.pointer (some ⟨gr, 0, none⟩)) ∧ RelP w' gr n (leadB M) ∧ Grow w w' := by
  obtain ⟨A, c, rfl, hr⟩ := h.recs
  have := reW.of_any w (n : Int) A M.length c _ hr (by omega) (pairs_ok fun p hp => by have := hM p hp; omega)
  rw [show clampN (n : Int) = n by unfold clampN; omega, vp_all hM] at this
  exact this
theorem bd_of {n : Nat} {M : List (Nat × Nat)} (hM : ∀ p ∈ M, p.1 < n ∧ p.2 < n) : Bd n (leadB M) := fun i j h => by
  obtain ⟨y, hy⟩ := (leadB_iff.1 h).src
  obtain ⟨z, hz⟩ := (leadB_iff.1 h).dst
  exact ⟨(hM _ hy).1, (hM _ hz).2⟩
set_option linter.unusedSimpArgs false in
set_option maxRecDepth 100000 in
set_option maxHeartbeats 16000000 in
theorem one_walk (A0 : Option Addr) (n0 c0 : Nat) (xs : List UInt8) (w : World) (hr : Bytes w A0 n0 xs) (hn0 : n0 ≤ maxLen) :
    Calls Try.prog 11 #[.slice A0 n0 c0] w fun e w' => e = .returned (.bool true) ∧ Grow w w' := by
  unfold maxLen at hn0
  have HR := Lib.hid hr
  clear hr
  go_enter Try.func11, Try.ntmps11
  repeat (first | with_reducible (refine wp_block_cut (k := 0) ?_) | go_values | go_guarded | go_step | go_upon | go_back)
  refine wp_cut [none, none, none, some 3, some 4, some 5, none, none, none, none, some 10, some 11, some 12, some 13, some 14, some 15, some 16, some 17, some 18, some 19, some 20, some 21, some 22, some 23, some 24, some 25, some 26, some 27, some 28, some 29, some 30, some 31, some 32, some 33, some 34, some 35, some 36, some 37, some 38, some 39, some 40, some 41, none, none, none, none, none, none, none, none, none, none, none, none, none, none, none, none, none, none, none, none, none, none, none, none, none, none, none, none, none, none, none, none, none, none, none, none, none, none, none, none, none, none, none, none, none, none, none, none, none, none, none, none, none, none, none, none, none, none, none, none, none, none, none, none, none, none, none, none, none] (JL w) ?cutA ?cutB
  case cutB =>
    intro f w' A hA hJ
    replace hA : A = ⟨#[_, _, _, f 3, f 4, f 5, _, _, _, _, f 10, f 11, f 12, f 13, f 14, f 15, f 16, f 17, f 18, f 19, f 20, f 21, f 22, f 23, f 24, f 25, f 26, f 27, f 28, f 29, f 30, f 31, f 32, f 33, f 34, f 35, f 36, f 37, f 38, f 39, f 40, f 41, _, _, _, _, _, _, _, _, _, _, _, _, _, _, _, _, _, _, _, _, _, _, _, _, _, _, _, _, _, _, _, _, _, _, _, _, _, _, _, _, _, _, _, _, _, _, _, _, _, _, _, _, _, _, _, _, _, _, _, _, _, _, _, _, _, _, _, _, _], _⟩ := hA
    subst hA
    obtain ⟨L, v, e3, al, hl20, po⟩ := hJ
    rw [e3]
    obtain ⟨W1, hW1⟩ : ∃ W, W = w' := ⟨_, rfl⟩
    rw [← hW1] at po ⊢
    clear hW1 e3
    have HAL := Lib.hid al
    have HPO := Lib.hid po
    obtain ⟨A, c, e, hlc, hcm, hrow⟩ := own_form po.own
    obtain ⟨l, hl⟩ : ∃ l, l = L.length := ⟨_, rfl⟩
    rw [← hl] at e hlc hl20 hrow
    rw [Nat.mul_one] at hrow
    have HL := Lib.hid hl
    have HROW := Lib.hid hrow
    subst e
    unfold maxLen at hcm
    have HIV : Hid (IntsV W1 (.slice A l c) L) := Lib.hid (IntsV.own po.own)
    have HG1 := Lib.hid po.g
    clear al po hl hrow
    go_wp2_with fail
    go_loopw [6, 7] (fun v0 i' wr => ∃ (k : Nat) (v : Value), (k = 0 ∨ k < l) ∧ i' = .int .i64 ((k : Int) + 1) ∧ v = v0 ∧ OS W1 (chain L k) v wr) (fun _ i' _ => l - (intOf i').toNat)
    case atStart => exact ⟨0, _, .inl rfl, rfl, rfl, Grow.refl _, World.ownsRow_nil _ _ _ _⟩
    case round =>
      obtain ⟨k, v, hkl, rfl, rfl, os⟩ := hrel
      have HOS := Lib.hid os
      have HCL := Lib.hid (chain_len L k)
      obtain ⟨A6, c6, e6, -⟩ := own_form os.own
      obtain ⟨l6, hl6⟩ : ∃ l, l = (chain L k).length := ⟨_, rfl⟩
      rw [← hl6] at e6
      have HL6 := Lib.hid hl6
      subst e6
      by_cases hlt : k + 1 < l
      · obtain ⟨b, off, x, e, hx, hcell⟩ := Row.nat_at (L := L) (A := A) (by rw [← HL.out]; exact HROW.out) (k := k) (by rw [← HL.out]; omega)
        obtain ⟨b2, off2, y, e2, hy, hcell2⟩ := Row.nat_at (L := L) (A := A) (by rw [← HL.out]; exact HROW.out) (k := k + 1) (by rw [← HL.out]; omega)
        rw [e] at e2
        injection e2 with e2
        injection e2 with e2 e3
        subst e2; subst e3; subst e
        have HC1 := Lib.hid (os.g.cell hcell)
        have HC2 := Lib.hid (os.g.cell hcell2)
        have HX := Lib.hid hx
        have HY := Lib.hid hy
        have HLTk := Lib.hid hlt
        have HLX : Hid (x < 100 ∧ y < 100) := Lib.hid ⟨by have := HAL.out.lt _ (List.mem_of_getElem? hx); have := HL.out; omega, by have := HAL.out.lt _ (List.mem_of_getElem? hy); have := HL.out; omega⟩
        clear os hcell hcell2 hx hy hl6
        go_wp2_with fail
        apply (fun (v0 v1 v2 v3 v4 v5 v6 v7 v8 v9 v10 : Value) mono draw obl tail => wp_region_piv (I := two (Grow wr) (Grow W1)) (G := Grow) (Rp := (fun _ _ _ => True)) (Φ := phi2 [veq2 v0, veq2 v1, veq2 v2, veq2 v3, veq2 v4, veq2 v5, veq2 v6, veq2 v7, veq2 v8, veq2 v9, veq2 v10, (from2 0 (NewS x y)), (from2 1 (IsOwn W1.heap.size (chain L k ++ [(x, y)]))), (from2 1 (IsOwn W1.heap.size (chain L k ++ [(x, y)])))]) (m := 14) (ps := [12]) (qs := [(0, 0, false), (0, 0, false), (0, 0, false), (0, 0, false), (0, 0, false), (0, 0, false), (0, 0, false), (0, 0, false), (0, 0, false), (0, 0, false), (0, 0, false), (0, 0, false), (0, 0, true), (1, 1, false)]) (dls := [[], [], [], [(50, 2)], [(49, 1), (51, 3)], [(52, 4)], [], [], [(54, 6), (55, 7)], [(56, 8)], [(53, 5), (57, 9)], [(58, 10)], [(48, 0), (59, 11)], [(60, 12)]]) (ds := [48, 49, 50, 51, 52, 53, 54, 55, 56, 57, 58, 59, 60, 6]) (by kernel_rfl) (by kernel_rfl) (by kernel_rfl) (by decide) rfl rfl draw (mono2_phi mono) (piv2_phi mono) obl tail)
        case obl =>
          refine obls2_cons (fun b hb1 hb2 f w' hI hH Q hQ => ?_) ?_
          · skip
            obtain rfl : b = 0 := by omega
            clear hb1 hb2
            clear hH
            refine wpList_view ?_; show wpList _ _ _ [_] ⟨#[_, _, _, _, _, _, _, _, _, _, _, _, _, _, _, _, _, _, _, _, _, _, _, _, _, _, _, _, _, _, _, _, _, _, _, _, _, _, _, _, _, _, _, _, _, _, _, _, _, _, _, _, _, _, _, _, _, _, _, _, _, _, _, _, _, _, _, _, _, _, _, _, _, _, _, _, _, _, _, _, _, _, _, _, _, _, _, _, _, _, _, _, _, _, _, _, _, _, _, _, _, _, _, _, _, _, _, _, _, _, _], _⟩ _
            repeat (first | go_guarded | go_step)
            exact hQ _ _ hI (Grow.refl _) rfl rfl
          refine obls2_cons (fun b hb1 hb2 f w' hI hH Q hQ => ?_) ?_
          · skip
            obtain rfl : b = 0 := by omega
            clear hb1 hb2
            clear hH
            refine wpList_view ?_; show wpList _ _ _ [_] ⟨#[_, _, _, _, _, _, _, _, _, _, _, _, _, _, _, _, _, _, _, _, _, _, _, _, _, _, _, _, _, _, _, _, _, _, _, _, _, _, _, _, _, _, _, _, _, _, _, _, _, _, _, _, _, _, _, _, _, _, _, _, _, _, _, _, _, _, _, _, _, _, _, _, _, _, _, _, _, _, _, _, _, _, _, _, _, _, _, _, _, _, _, _, _, _, _, _, _, _, _, _, _, _, _, _, _, _, _, _, _, _, _], _⟩ _
            repeat (first | go_guarded | go_step)
            exact hQ _ _ hI (Grow.refl _) rfl rfl
          refine obls2_cons (fun b hb1 hb2 f w' hI hH Q hQ => ?_) ?_
          · skip
            obtain rfl : b = 0 := by omega
            clear hb1 hb2
            clear hH
            refine wpList_view ?_; show wpList _ _ _ [_] ⟨#[_, _, _, _, _, _, _, _, _, _, _, _, _, _, _, _, _, _, _, _, _, _, _, _, _, _, _, _, _, _, _, _, _, _, _, _, _, _, _, _, _, _, _, _, _, _, _, _, _, _, _, _, _, _, _, _, _, _, _, _, _, _, _, _, _, _, _, _, _, _, _, _, _, _, _, _, _, _, _, _, _, _, _, _, _, _, _, _, _, _, _, _, _, _, _, _, _, _, _, _, _, _, _, _, _, _, _, _, _, _, _], _⟩ _
            repeat (first | go_guarded | go_step)
            exact hQ _ _ hI (Grow.refl _) rfl rfl
          refine obls2_cons (fun b hb1 hb2 f w' hI hH Q hQ => ?_) ?_
          · skip
            obtain rfl : b = 0 := by omega
            clear hb1 hb2
            have h2 := hH.get 0 (50, 2) rfl
            clear hH
            refine wpList_view ?_; show wpList _ _ _ [_] ⟨#[_, _, _, _, _, _, _, _, _, _, _, _, _, _, _, _, _, _, _, _, _, _, _, _, _, _, _, _, _, _, _, _, _, _, _, _, _, _, _, _, _, _, _, _, _, _, _, _, _, _, f 2, _, _, _, _, _, _, _, _, _, _, _, _, _, _, _, _, _, _, _, _, _, _, _, _, _, _, _, _, _, _, _, _, _, _, _, _, _, _, _, _, _, _, _, _, _, _, _, _, _, _, _, _, _, _, _, _, _, _, _, _], _⟩ _
            rw [show f 2 = _ from h2]
            clear h2
            repeat (first | go_guarded | go_step)
            exact hQ _ _ hI (Grow.refl _) rfl rfl
          refine obls2_cons (fun b hb1 hb2 f w' hI hH Q hQ => ?_) ?_
          · skip
            obtain rfl : b = 0 := by omega
            clear hb1 hb2
            have h1 := hH.get 0 (49, 1) rfl
            have h3 := hH.get 1 (51, 3) rfl
            clear hH
            refine wpList_view ?_; show wpList _ _ _ [_] ⟨#[_, _, _, _, _, _, _, _, _, _, _, _, _, _, _, _, _, _, _, _, _, _, _, _, _, _, _, _, _, _, _, _, _, _, _, _, _, _, _, _, _, _, _, _, _, _, _, _, _, f 1, _, f 3, _, _, _, _, _, _, _, _, _, _, _, _, _, _, _, _, _, _, _, _, _, _, _, _, _, _, _, _, _, _, _, _, _, _, _, _, _, _, _, _, _, _, _, _, _, _, _, _, _, _, _, _, _, _, _, _, _, _, _], _⟩ _
            rw [show f 1 = _ from h1]
            rw [show f 3 = _ from h3]
            clear h1 h3
            repeat (first | go_guarded | go_step)
            exact hQ _ _ hI (Grow.refl _) rfl rfl
          refine obls2_cons (fun b hb1 hb2 f w' hI hH Q hQ => ?_) ?_
          · skip
            obtain rfl : b = 0 := by omega
            clear hb1 hb2
            have h4 := hH.get 0 (52, 4) rfl
            clear hH
            refine wpList_view ?_; show wpList _ _ _ [_] ⟨#[_, _, _, _, _, _, _, _, _, _, _, _, _, _, _, _, _, _, _, _, _, _, _, _, _, _, _, _, _, _, _, _, _, _, _, _, _, _, _, _, _, _, _, _, _, _, _, _, _, _, _, _, f 4, _, _, _, _, _, _, _, _, _, _, _, _, _, _, _, _, _, _, _, _, _, _, _, _, _, _, _, _, _, _, _, _, _, _, _, _, _, _, _, _, _, _, _, _, _, _, _, _, _, _, _, _, _, _, _, _, _, _], _⟩ _
            rw [show f 4 = _ from h4]
            clear h4
            have y0 := hI.get0.cell HC1.out
            repeat (first | go_guarded | go_step)
            exact hQ _ _ hI (Grow.refl _) rfl rfl
          refine obls2_cons (fun b hb1 hb2 f w' hI hH Q hQ => ?_) ?_
          · skip
            obtain rfl : b = 0 := by omega
            clear hb1 hb2
            clear hH
            refine wpList_view ?_; show wpList _ _ _ [_] ⟨#[_, _, _, _, _, _, _, _, _, _, _, _, _, _, _, _, _, _, _, _, _, _, _, _, _, _, _, _, _, _, _, _, _, _, _, _, _, _, _, _, _, _, _, _, _, _, _, _, _, _, _, _, _, _, _, _, _, _, _, _, _, _, _, _, _, _, _, _, _, _, _, _, _, _, _, _, _, _, _, _, _, _, _, _, _, _, _, _, _, _, _, _, _, _, _, _, _, _, _, _, _, _, _, _, _, _, _, _, _, _, _], _⟩ _
            repeat (first | go_guarded | go_step)
            exact hQ _ _ hI (Grow.refl _) rfl rfl
          refine obls2_cons (fun b hb1 hb2 f w' hI hH Q hQ => ?_) ?_
          · skip
            obtain rfl : b = 0 := by omega
            clear hb1 hb2
            clear hH
            refine wpList_view ?_; show wpList _ _ _ [_] ⟨#[_, _, _, _, _, _, _, _, _, _, _, _, _, _, _, _, _, _, _, _, _, _, _, _, _, _, _, _, _, _, _, _, _, _, _, _, _, _, _, _, _, _, _, _, _, _, _, _, _, _, _, _, _, _, _, _, _, _, _, _, _, _, _, _, _, _, _, _, _, _, _, _, _, _, _, _, _, _, _, _, _, _, _, _, _, _, _, _, _, _, _, _, _, _, _, _, _, _, _, _, _, _, _, _, _, _, _, _, _, _, _], _⟩ _
            repeat (first | go_guarded | go_step)
            exact hQ _ _ hI (Grow.refl _) rfl rfl
          refine obls2_cons (fun b hb1 hb2 f w' hI hH Q hQ => ?_) ?_
          · skip
            obtain rfl : b = 0 := by omega
            clear hb1 hb2
            have h6 := hH.get 0 (54, 6) rfl
            have h7 := hH.get 1 (55, 7) rfl
            clear hH
            refine wpList_view ?_; show wpList _ _ _ [_] ⟨#[_, _, _, _, _, _, _, _, _, _, _, _, _, _, _, _, _, _, _, _, _, _, _, _, _, _, _, _, _, _, _, _, _, _, _, _, _, _, _, _, _, _, _, _, _, _, _, _, _, _, _, _, _, _, f 6, f 7, _, _, _, _, _, _, _, _, _, _, _, _, _, _, _, _, _, _, _, _, _, _, _, _, _, _, _, _, _, _, _, _, _, _, _, _, _, _, _, _, _, _, _, _, _, _, _, _, _, _, _, _, _, _, _], _⟩ _
            rw [show f 6 = _ from h6]
            rw [show f 7 = _ from h7]
            clear h6 h7
            repeat (first | go_guarded | go_step)
            exact hQ _ _ hI (Grow.refl _) rfl rfl
          refine obls2_cons (fun b hb1 hb2 f w' hI hH Q hQ => ?_) ?_
          · skip
            obtain rfl : b = 0 := by omega
            clear hb1 hb2
            have h8 := hH.get 0 (56, 8) rfl
            clear hH
            refine wpList_view ?_; show wpList _ _ _ [_] ⟨#[_, _, _, _, _, _, _, _, _, _, _, _, _, _, _, _, _, _, _, _, _, _, _, _, _, _, _, _, _, _, _, _, _, _, _, _, _, _, _, _, _, _, _, _, _, _, _, _, _, _, _, _, _, _, _, _, f 8, _, _, _, _, _, _, _, _, _, _, _, _, _, _, _, _, _, _, _, _, _, _, _, _, _, _, _, _, _, _, _, _, _, _, _, _, _, _, _, _, _, _, _, _, _, _, _, _, _, _, _, _, _, _], _⟩ _
            rw [show f 8 = _ from h8]
            clear h8
            have y0 := hI.get0.cell HC2.out
            repeat (first | go_guarded | go_step)
            exact hQ _ _ hI (Grow.refl _) rfl rfl
          refine obls2_cons (fun b hb1 hb2 f w' hI hH Q hQ => ?_) ?_
          · skip
            obtain rfl : b = 0 := by omega
            clear hb1 hb2
            have h5 := hH.get 0 (53, 5) rfl
            have h9 := hH.get 1 (57, 9) rfl
            clear hH
            refine wpList_view ?_; show wpList _ _ _ [_] ⟨#[_, _, _, _, _, _, _, _, _, _, _, _, _, _, _, _, _, _, _, _, _, _, _, _, _, _, _, _, _, _, _, _, _, _, _, _, _, _, _, _, _, _, _, _, _, _, _, _, _, _, _, _, _, f 5, _, _, _, f 9, _, _, _, _, _, _, _, _, _, _, _, _, _, _, _, _, _, _, _, _, _, _, _, _, _, _, _, _, _, _, _, _, _, _, _, _, _, _, _, _, _, _, _, _, _, _, _, _, _, _, _, _, _], _⟩ _
            rw [show f 5 = _ from h5]
            rw [show f 9 = _ from h9]
            clear h5 h9
            repeat (first | go_guarded | go_step)
            exact hQ _ _ hI (Grow.refl _) rfl rfl
          refine obls2_cons (fun b hb1 hb2 f w' hI hH Q hQ => ?_) ?_
          · skip
            obtain rfl : b = 0 := by omega
            clear hb1 hb2
            have h10 := hH.get 0 (58, 10) rfl
            clear hH
            refine wpList_view ?_; show wpList _ _ _ [_] ⟨#[_, _, _, _, _, _, _, _, _, _, _, _, _, _, _, _, _, _, _, _, _, _, _, _, _, _, _, _, _, _, _, _, _, _, _, _, _, _, _, _, _, _, _, _, _, _, _, _, _, _, _, _, _, _, _, _, _, _, f 10, _, _, _, _, _, _, _, _, _, _, _, _, _, _, _, _, _, _, _, _, _, _, _, _, _, _, _, _, _, _, _, _, _, _, _, _, _, _, _, _, _, _, _, _, _, _, _, _, _, _, _, _], _⟩ _
            rw [show f 10 = _ from h10]
            clear h10
            have HIg := Lib.hid hI
            clear hI
            go_wp2_with fail
            exact hQ _ _ (two.zero (HIg.out.get0.trans (Grow.alloc _ _))) (Grow.alloc _ _) (from2.mk (NewS.mk rfl)) rfl
          refine oblsP_cons (fun f w' hI hH Q hQ => ?_) ?_
          · skip
            have h0 := hH.get 0 (48, 0) rfl
            have h11 := hH.get 1 (59, 11) rfl
            clear hH
            refine wpList_view ?_; show wpList _ _ _ [_] ⟨#[_, _, _, _, _, _, _, _, _, _, _, _, _, _, _, _, _, _, _, _, _, _, _, _, _, _, _, _, _, _, _, _, _, _, _, _, _, _, _, _, _, _, _, _, _, _, _, _, f 0, _, _, _, _, _, _, _, _, _, _, f 11, _, _, _, _, _, _, _, _, _, _, _, _, _, _, _, _, _, _, _, _, _, _, _, _, _, _, _, _, _, _, _, _, _, _, _, _, _, _, _, _, _, _, _, _, _, _, _, _, _, _, _], _⟩ _
            rw [show f 0 = _ from h0]
            replace h11 : (from2 0 (NewS x y)) (f 11) 0 w' := h11
            obtain ⟨u11, hu11⟩ : ∃ u, u = f 11 := ⟨_, rfl⟩
            rw [← hu11]
            rw [← hu11] at h11
            have HU11 : Hid (f 11 = u11) := Lib.hid hu11.symm
            clear hu11
            clear h0
            obtain ⟨gs, rfl, hrow⟩ := h11.get
            have HG := Lib.hid hI.get0
            have hown := own_grow HOS.out.own hI.get0
            rw [← HL6.out] at hown
            have hl6' : l6 ≤ 20 := by rw [HL6.out]; have := HCL.out; have := HLTk.out; omega
            refine wpList_append_row rfl _ _ _ rfl W1.heap.size T2 _ _ 2 16 Try.underlying54 i2 i2z i2s i2b rfl (by decide) (.slice A6 l6 c6) l6 (steps (chain L k)) rfl hown (some ⟨gs, 0, none⟩) 1 1 (npair (x, y)) rfl hrow (by simp [npair, Value.oneCell']) (by unfold maxLen; omega) (by omega) (Nat.le_trans HOS.out.g.size HG.out.size) ?_
            intro v1 w1 hown1 hgb1 _
            have e1 : w1.ownsRow W1.heap.size T2 2 v1 (chain L k ++ [(x, y)]).length (steps (chain L k ++ [(x, y)])) := by rw [steps_snoc] at hown1; rw [List.length_append, ← HL6.out]; exact hown1
            exact hQ _ _ (two.one (grow_by (HOS.out.g.trans HG.out) hgb1 (own_base hown))) trivial (from2.mk e1) rfl
          refine obls2_cons (fun b hb1 hb2 f w' hI hH Q hQ => ?_) ?_
          · skip
            obtain rfl : b = 1 := by omega
            clear hb1 hb2
            have h12 := hH.get 0 (60, 12) rfl
            clear hH
            refine wpList_view ?_; show wpList _ _ _ [_] ⟨#[_, _, _, _, _, _, _, _, _, _, _, _, _, _, _, _, _, _, _, _, _, _, _, _, _, _, _, _, _, _, _, _, _, _, _, _, _, _, _, _, _, _, _, _, _, _, _, _, _, _, _, _, _, _, _, _, _, _, _, _, f 12, _, _, _, _, _, _, _, _, _, _, _, _, _, _, _, _, _, _, _, _, _, _, _, _, _, _, _, _, _, _, _, _, _, _, _, _, _, _, _, _, _, _, _, _, _, _, _, _, _, _], _⟩ _
            replace h12 : (from2 1 (IsOwn W1.heap.size (chain L k ++ [(x, y)]))) (f 12) 1 w' := h12
            obtain ⟨u12, hu12⟩ : ∃ u, u = f 12 := ⟨_, rfl⟩
            rw [← hu12]
            rw [← hu12] at h12
            clear hu12
            have h9 := h12.get
            have HIg := Lib.hid hI
            clear hI h12
            repeat (first | go_guarded | go_step)
            exact hQ _ _ HIg.out (Grow.refl _) (from2.mk h9) rfl
          exact obls2_nil
        case draw =>
          exact two.zero (Grow.drew _)
        case mono => exact ⟨Mono2.veq _, Mono2.veq _, Mono2.veq _, Mono2.veq _, Mono2.veq _, Mono2.veq _, Mono2.veq _, Mono2.veq _, Mono2.veq _, Mono2.veq _, Mono2.veq _, Mono2.from NewS.mono, Mono2.from IsOwn.mono, Mono2.from IsOwn.mono, trivial⟩
        case tail =>
          intro f w' hI hH
          have q13 : (from2 1 (IsOwn W1.heap.size (chain L k ++ [(x, y)]))) (f 13) 1 w' := hH.get 13 (6, 13) rfl
          clear hH
          refine wpList_merge (idx := [none, none, none, none, none, none, some 13, none, none, none, none, none, none, none, none, none, none, none, none, none, none, none, none, none, none, none, none, none, none, none, none, none, none, none, none, none, none, none, none, none, none, none, none, none, none, none, none, none, some 0, some 1, some 2, some 3, some 4, some 5, some 6, some 7, some 8, some 9, some 10, some 11, some 12, none, none, none, none, none, none, none, none, none, none, none, none, none, none, none, none, none, none, none, none, none, none, none, none, none, none, none, none, none, none, none, none, none, none, none, none, none, none, none, none, none, none, none, none, none, none, none, none, none, none]) (by kernel_rfl) ?_; show wpList _ _ _ [] ⟨#[_, _, _, _, _, _, f 13, _, _, _, _, _, _, _, _, _, _, _, _, _, _, _, _, _, _, _, _, _, _, _, _, _, _, _, _, _, _, _, _, _, _, _, _, _, _, _, _, _, f 0, f 1, f 2, f 3, f 4, f 5, f 6, f 7, f 8, f 9, f 10, f 11, f 12, _, _, _, _, _, _, _, _, _, _, _, _, _, _, _, _, _, _, _, _, _, _, _, _, _, _, _, _, _, _, _, _, _, _, _, _, _, _, _, _, _, _, _, _, _, _, _, _, _, _], _⟩ _
          generalize f 13 = x13 at *
          have HOS2 : Hid (OS W1 (chain L (k + 1)) x13 w') := Lib.hid ⟨hI.get1, by rw [chain_step HX.out HY.out]; exact q13.get⟩
          clear q13 hI
          go_wp2_with fail
          go_roundw
          case rel => exact ⟨k + 1, _, .inr HLTk.out, by go_num, rfl, HOS2.out⟩
          case measure => have := HLTk.out; simp [intOf] <;> omega
      · obtain rfl : k = l - 1 := by omega
        have HCH : Hid (∀ p ∈ chain L (l - 1), p.1 < l ∧ p.2 < l) := Lib.hid (by rw [HL.out]; exact chain_in HAL.out _)
        have hof := of_chain wr l (chain L (l - 1)) (.slice A6 l6 c6) W1 os HCH.out hl20 (by have := HCL.out; omega)
        obtain ⟨R, hR⟩ : ∃ R, R = leadB (chain L (l - 1)) := ⟨_, rfl⟩
        rw [← hR] at hof
        have HOF := Lib.hid hof
        have HBD : Hid (Bd l R) := Lib.hid (by rw [hR]; exact bd_of HCH.out)
        have HTR : Hid (Tr R) := Lib.hid (by rw [hR]; exact leadB_tr _)
        have HORD : Hid (orderN l R = L) := Lib.hid (by rw [hR, HL.out]; exact chain_order HAL.out)
        have HGw := Lib.hid os.g
        clear os hof hR hl6
        go_wp2_with fail
        refine HOF.out.mono ?_
        rintro e w2 ⟨gr, rfl, hrel, hg2⟩
        have HG2 := Lib.hid hg2
        have HOR := Lib.hid (order_any w2 gr l R hrel HBD.out HTR.out)
        clear hrel hg2 HOF
        go_wp2_with fail
        refine HOR.out.mono ?_
        rintro e w3 ⟨u, rfl, hu, hg3⟩
        rw [HORD.out] at hu
        have HG3 : Hid (Grow W1 w3) := Lib.hid (HGw.out.trans (HG2.out.trans hg3))
        have HSM := Lib.hid (ints_same w3 u (.slice A l c) L hu (HIV.out.grow HG3.out))
        have HGw3 : Hid (Grow wr w3) := Lib.hid (HG2.out.trans hg3)
        clear hu hg3 HOR HG2
        go_wp2_with fail
        refine HSM.out.mono ?_
        rintro e w4 ⟨rfl, hg4⟩
        have HG4 : Hid (Grow W1 w4) := Lib.hid (HG3.out.trans hg4)
        have HGw4 : Hid (Grow wr w4) := Lib.hid (HGw3.out.trans hg4)
        clear hg4 HSM HGw3
        by_cases h0 : l = 0
        · have t1 : ((l : Int) == 0) = true := beq_iff_eq.2 (by omega)
          have t2 : (l == 0) = true := beq_iff_eq.2 h0
          have HWK := Lib.hid (works_any w4)
          clear h0
          go_wp2_with fail
          refine HWK.out.mono ?_
          rintro e w5 ⟨rfl, hg5⟩
          go_wp2_with fail
          go_ret
          exact ⟨rfl, HG1.out.trans (HG4.out.trans hg5)⟩
        · have t1 : ((l : Int) == 0) = false := beq_false_of_ne (by omega)
          have t2 : (l == 0) = false := beq_false_of_ne h0
          have hl0 : 0 < l := by omega
          obtain ⟨b, off, x, e, hx, hcell⟩ := Row.nat_at (L := L) (A := A) (by rw [← HL.out]; exact HROW.out) (k := l - 1) (by rw [← HL.out]; omega)
          obtain ⟨b2, off2, y, e2, hy, hcell2⟩ := Row.nat_at (L := L) (A := A) (by rw [← HL.out]; exact HROW.out) (k := 0) (by rw [← HL.out]; omega)
          rw [e] at e2
          injection e2 with e2
          injection e2 with e2 e3
          subst e2; subst e3; subst e
          rw [Nat.add_zero] at hcell2
          have HC1 := Lib.hid (HG4.out.cell hcell)
          have HC2 := Lib.hid (HG4.out.cell hcell2)
          have HRG : Hid (chain L (l - 1) ++ [(x, y)] = ring L) := Lib.hid (by
            unfold ring
            rw [← HL.out, List.getD_eq_getElem?_getD, List.getD_eq_getElem?_getD, hx, hy]; rfl)
          have HOS4 : Hid (OS W1 (chain L (l - 1)) (.slice A6 l6 c6) w4) := Lib.hid ⟨HOS.out.g.trans HGw4.out, own_grow HOS.out.own HGw4.out⟩
          have hcast : (l : Int) - 1 = ((l - 1 : Nat) : Int) := by omega
          have HCAST := Lib.hid hcast
          clear hcell hcell2 hx hy h0 hcast
          go_wp2_with fail
          apply (fun (v0 v1 v2 v3 v4 v5 v6 v7 v8 v9 v10 : Value) mono draw obl tail => wp_region_piv (I := two (Grow w4) (Grow W1)) (G := Grow) (Rp := (fun _ _ _ => True)) (Φ := phi2 [veq2 v0, veq2 v1, veq2 v2, veq2 v3, veq2 v4, veq2 v5, veq2 v6, veq2 v7, veq2 v8, veq2 v9, veq2 v10, (from2 0 (NewS x y)), (from2 1 (IsOwn W1.heap.size (chain L (l - 1) ++ [(x, y)]))), (from2 1 (IsOwn W1.heap.size (chain L (l - 1) ++ [(x, y)])))]) (m := 14) (ps := [12]) (qs := [(0, 0, false), (0, 0, false), (0, 0, false), (0, 0, false), (0, 0, false), (0, 0, false), (0, 0, false), (0, 0, false), (0, 0, false), (0, 0, false), (0, 0, false), (0, 0, false), (0, 0, true), (1, 1, false)]) (dls := [[], [], [], [(75, 2)], [(76, 3)], [(74, 1), (77, 4)], [(78, 5)], [], [(80, 7)], [(81, 8)], [(79, 6), (82, 9)], [(83, 10)], [(73, 0), (84, 11)], [(85, 12)]]) (ds := [73, 74, 75, 76, 77, 78, 79, 80, 81, 82, 83, 84, 85, 6]) (by kernel_rfl) (by kernel_rfl) (by kernel_rfl) (by decide) rfl rfl draw (mono2_phi mono) (piv2_phi mono) obl tail)
          case obl =>
            refine obls2_cons (fun b hb1 hb2 f w' hI hH Q hQ => ?_) ?_
            · skip
              obtain rfl : b = 0 := by omega
              clear hb1 hb2
              clear hH
              refine wpList_view ?_; show wpList _ _ _ [_] ⟨#[_, _, _, _, _, _, _, _, _, _, _, _, _, _, _, _, _, _, _, _, _, _, _, _, _, _, _, _, _, _, _, _, _, _, _, _, _, _, _, _, _, _, _, _, _, _, _, _, _, _, _, _, _, _, _, _, _, _, _, _, _, _, _, _, _, _, _, _, _, _, _, _, _, _, _, _, _, _, _, _, _, _, _, _, _, _, _, _, _, _, _, _, _, _, _, _, _, _, _, _, _, _, _, _, _, _, _, _, _, _, _], _⟩ _
              repeat (first | go_guarded | go_step)
              exact hQ _ _ hI (Grow.refl _) rfl rfl
            refine obls2_cons (fun b hb1 hb2 f w' hI hH Q hQ => ?_) ?_
            · skip
              obtain rfl : b = 0 := by omega
              clear hb1 hb2
              clear hH
              refine wpList_view ?_; show wpList _ _ _ [_] ⟨#[_, _, _, _, _, _, _, _, _, _, _, _, _, _, _, _, _, _, _, _, _, _, _, _, _, _, _, _, _, _, _, _, _, _, _, _, _, _, _, _, _, _, _, _, _, _, _, _, _, _, _, _, _, _, _, _, _, _, _, _, _, _, _, _, _, _, _, _, _, _, _, _, _, _, _, _, _, _, _, _, _, _, _, _, _, _, _, _, _, _, _, _, _, _, _, _, _, _, _, _, _, _, _, _, _, _, _, _, _, _, _], _⟩ _
              repeat (first | go_guarded | go_step)
              exact hQ _ _ hI (Grow.refl _) rfl rfl
            refine obls2_cons (fun b hb1 hb2 f w' hI hH Q hQ => ?_) ?_
            · skip
              obtain rfl : b = 0 := by omega
              clear hb1 hb2
              clear hH
              refine wpList_view ?_; show wpList _ _ _ [_] ⟨#[_, _, _, _, _, _, _, _, _, _, _, _, _, _, _, _, _, _, _, _, _, _, _, _, _, _, _, _, _, _, _, _, _, _, _, _, _, _, _, _, _, _, _, _, _, _, _, _, _, _, _, _, _, _, _, _, _, _, _, _, _, _, _, _, _, _, _, _, _, _, _, _, _, _, _, _, _, _, _, _, _, _, _, _, _, _, _, _, _, _, _, _, _, _, _, _, _, _, _, _, _, _, _, _, _, _, _, _, _, _, _], _⟩ _
              repeat (first | go_guarded | go_step)
              exact hQ _ _ hI (Grow.refl _) rfl rfl
            refine obls2_cons (fun b hb1 hb2 f w' hI hH Q hQ => ?_) ?_
            · skip
              obtain rfl : b = 0 := by omega
              clear hb1 hb2
              have h2 := hH.get 0 (75, 2) rfl
              clear hH
              refine wpList_view ?_; show wpList _ _ _ [_] ⟨#[_, _, _, _, _, _, _, _, _, _, _, _, _, _, _, _, _, _, _, _, _, _, _, _, _, _, _, _, _, _, _, _, _, _, _, _, _, _, _, _, _, _, _, _, _, _, _, _, _, _, _, _, _, _, _, _, _, _, _, _, _, _, _, _, _, _, _, _, _, _, _, _, _, _, _, f 2, _, _, _, _, _, _, _, _, _, _, _, _, _, _, _, _, _, _, _, _, _, _, _, _, _, _, _, _, _, _, _, _, _, _, _], _⟩ _
              rw [show f 2 = _ from h2]
              clear h2
              repeat (first | go_guarded | go_step)
              exact hQ _ _ hI (Grow.refl _) rfl rfl
            refine obls2_cons (fun b hb1 hb2 f w' hI hH Q hQ => ?_) ?_
            · skip
              obtain rfl : b = 0 := by omega
              clear hb1 hb2
              have h3 := hH.get 0 (76, 3) rfl
              clear hH
              refine wpList_view ?_; show wpList _ _ _ [_] ⟨#[_, _, _, _, _, _, _, _, _, _, _, _, _, _, _, _, _, _, _, _, _, _, _, _, _, _, _, _, _, _, _, _, _, _, _, _, _, _, _, _, _, _, _, _, _, _, _, _, _, _, _, _, _, _, _, _, _, _, _, _, _, _, _, _, _, _, _, _, _, _, _, _, _, _, _, _, f 3, _, _, _, _, _, _, _, _, _, _, _, _, _, _, _, _, _, _, _, _, _, _, _, _, _, _, _, _, _, _, _, _, _, _], _⟩ _
              rw [show f 3 = _ from h3]
              clear h3
              repeat (first | go_guarded | go_step)
              exact hQ _ _ hI (Grow.refl _) rfl rfl
            refine obls2_cons (fun b hb1 hb2 f w' hI hH Q hQ => ?_) ?_
            · skip
              obtain rfl : b = 0 := by omega
              clear hb1 hb2
              have h1 := hH.get 0 (74, 1) rfl
              have h4 := hH.get 1 (77, 4) rfl
              clear hH
              refine wpList_view ?_; show wpList _ _ _ [_] ⟨#[_, _, _, _, _, _, _, _, _, _, _, _, _, _, _, _, _, _, _, _, _, _, _, _, _, _, _, _, _, _, _, _, _, _, _, _, _, _, _, _, _, _, _, _, _, _, _, _, _, _, _, _, _, _, _, _, _, _, _, _, _, _, _, _, _, _, _, _, _, _, _, _, _, _, f 1, _, _, f 4, _, _, _, _, _, _, _, _, _, _, _, _, _, _, _, _, _, _, _, _, _, _, _, _, _, _, _, _, _, _, _, _, _], _⟩ _
              rw [show f 1 = _ from h1]
              rw [show f 4 = _ from h4]
              clear h1 h4
              have hcast := HCAST.out
              repeat (first | go_guarded | go_step)
              exact hQ _ _ hI (Grow.refl _) rfl rfl
            refine obls2_cons (fun b hb1 hb2 f w' hI hH Q hQ => ?_) ?_
            · skip
              obtain rfl : b = 0 := by omega
              clear hb1 hb2
              have h5 := hH.get 0 (78, 5) rfl
              clear hH
              refine wpList_view ?_; show wpList _ _ _ [_] ⟨#[_, _, _, _, _, _, _, _, _, _, _, _, _, _, _, _, _, _, _, _, _, _, _, _, _, _, _, _, _, _, _, _, _, _, _, _, _, _, _, _, _, _, _, _, _, _, _, _, _, _, _, _, _, _, _, _, _, _, _, _, _, _, _, _, _, _, _, _, _, _, _, _, _, _, _, _, _, _, f 5, _, _, _, _, _, _, _, _, _, _, _, _, _, _, _, _, _, _, _, _, _, _, _, _, _, _, _, _, _, _, _, _], _⟩ _
              rw [show f 5 = _ from h5]
              clear h5
              have y0 := hI.get0.cell HC1.out
              repeat (first | go_guarded | go_step)
              exact hQ _ _ hI (Grow.refl _) rfl rfl
            refine obls2_cons (fun b hb1 hb2 f w' hI hH Q hQ => ?_) ?_
            · skip
              obtain rfl : b = 0 := by omega
              clear hb1 hb2
              clear hH
              refine wpList_view ?_; show wpList _ _ _ [_] ⟨#[_, _, _, _, _, _, _, _, _, _, _, _, _, _, _, _, _, _, _, _, _, _, _, _, _, _, _, _, _, _, _, _, _, _, _, _, _, _, _, _, _, _, _, _, _, _, _, _, _, _, _, _, _, _, _, _, _, _, _, _, _, _, _, _, _, _, _, _, _, _, _, _, _, _, _, _, _, _, _, _, _, _, _, _, _, _, _, _, _, _, _, _, _, _, _, _, _, _, _, _, _, _, _, _, _, _, _, _, _, _, _], _⟩ _
              repeat (first | go_guarded | go_step)
              exact hQ _ _ hI (Grow.refl _) rfl rfl
            refine obls2_cons (fun b hb1 hb2 f w' hI hH Q hQ => ?_) ?_
            · skip
              obtain rfl : b = 0 := by omega
              clear hb1 hb2
              have h7 := hH.get 0 (80, 7) rfl
              clear hH
              refine wpList_view ?_; show wpList _ _ _ [_] ⟨#[_, _, _, _, _, _, _, _, _, _, _, _, _, _, _, _, _, _, _, _, _, _, _, _, _, _, _, _, _, _, _, _, _, _, _, _, _, _, _, _, _, _, _, _, _, _, _, _, _, _, _, _, _, _, _, _, _, _, _, _, _, _, _, _, _, _, _, _, _, _, _, _, _, _, _, _, _, _, _, _, f 7, _, _, _, _, _, _, _, _, _, _, _, _, _, _, _, _, _, _, _, _, _, _, _, _, _, _, _, _, _, _], _⟩ _
              rw [show f 7 = _ from h7]
              clear h7
              repeat (first | go_guarded | go_step)
              exact hQ _ _ hI (Grow.refl _) rfl rfl
            refine obls2_cons (fun b hb1 hb2 f w' hI hH Q hQ => ?_) ?_
            · skip
              obtain rfl : b = 0 := by omega
              clear hb1 hb2
              have h8 := hH.get 0 (81, 8) rfl
              clear hH
              refine wpList_view ?_; show wpList _ _ _ [_] ⟨#[_, _, _, _, _, _, _, _, _, _, _, _, _, _, _, _, _, _, _, _, _, _, _, _, _, _, _, _, _, _, _, _, _, _, _, _, _, _, _, _, _, _, _, _, _, _, _, _, _, _, _, _, _, _, _, _, _, _, _, _, _, _, _, _, _, _, _, _, _, _, _, _, _, _, _, _, _, _, _, _, _, f 8, _, _, _, _, _, _, _, _, _, _, _, _, _, _, _, _, _, _, _, _, _, _, _, _, _, _, _, _, _], _⟩ _
              rw [show f 8 = _ from h8]
              clear h8
              have y0 := hI.get0.cell HC2.out
              repeat (first | go_guarded | go_step)
              exact hQ _ _ hI (Grow.refl _) rfl rfl
            refine obls2_cons (fun b hb1 hb2 f w' hI hH Q hQ => ?_) ?_
            · skip
              obtain rfl : b = 0 := by omega
              clear hb1 hb2
              have h6 := hH.get 0 (79, 6) rfl
              have h9 := hH.get 1 (82, 9) rfl
              clear hH
              refine wpList_view ?_; show wpList _ _ _ [_] ⟨#[_, _, _, _, _, _, _, _, _, _, _, _, _, _, _, _, _, _, _, _, _, _, _, _, _, _, _, _, _, _, _, _, _, _, _, _, _, _, _, _, _, _, _, _, _, _, _, _, _, _, _, _, _, _, _, _, _, _, _, _, _, _, _, _, _, _, _, _, _, _, _, _, _, _, _, _, _, _, _, f 6, _, _, f 9, _, _, _, _, _, _, _, _, _, _, _, _, _, _, _, _, _, _, _, _, _, _, _, _, _, _, _, _], _⟩ _
              rw [show f 6 = _ from h6]
              rw [show f 9 = _ from h9]
              clear h6 h9
              repeat (first | go_guarded | go_step)
              exact hQ _ _ hI (Grow.refl _) rfl rfl
            refine obls2_cons (fun b hb1 hb2 f w' hI hH Q hQ => ?_) ?_
            · skip
              obtain rfl : b = 0 := by omega
              clear hb1 hb2
              have h10 := hH.get 0 (83, 10) rfl
              clear hH
              refine wpList_view ?_; show wpList _ _ _ [_] ⟨#[_, _, _, _, _, _, _, _, _, _, _, _, _, _, _, _, _, _, _, _, _, _, _, _, _, _, _, _, _, _, _, _, _, _, _, _, _, _, _, _, _, _, _, _, _, _, _, _, _, _, _, _, _, _, _, _, _, _, _, _, _, _, _, _, _, _, _, _, _, _, _, _, _, _, _, _, _, _, _, _, _, _, _, f 10, _, _, _, _, _, _, _, _, _, _, _, _, _, _, _, _, _, _, _, _, _, _, _, _, _, _, _], _⟩ _
              rw [show f 10 = _ from h10]
              clear h10
              have HIg := Lib.hid hI
              clear hI
              go_wp2_with fail
              exact hQ _ _ (two.zero (HIg.out.get0.trans (Grow.alloc _ _))) (Grow.alloc _ _) (from2.mk (NewS.mk rfl)) rfl
            refine oblsP_cons (fun f w' hI hH Q hQ => ?_) ?_
            · skip
              have h0 := hH.get 0 (73, 0) rfl
              have h11 := hH.get 1 (84, 11) rfl
              clear hH
              refine wpList_view ?_; show wpList _ _ _ [_] ⟨#[_, _, _, _, _, _, _, _, _, _, _, _, _, _, _, _, _, _, _, _, _, _, _, _, _, _, _, _, _, _, _, _, _, _, _, _, _, _, _, _, _, _, _, _, _, _, _, _, _, _, _, _, _, _, _, _, _, _, _, _, _, _, _, _, _, _, _, _, _, _, _, _, _, f 0, _, _, _, _, _, _, _, _, _, _, f 11, _, _, _, _, _, _, _, _, _, _, _, _, _, _, _, _, _, _, _, _, _, _, _, _, _, _], _⟩ _
              rw [show f 0 = _ from h0]
              replace h11 : (from2 0 (NewS x y)) (f 11) 0 w' := h11
              obtain ⟨u11, hu11⟩ : ∃ u, u = f 11 := ⟨_, rfl⟩
              rw [← hu11]
              rw [← hu11] at h11
              have HU11 : Hid (f 11 = u11) := Lib.hid hu11.symm
              clear hu11
              clear h0
              obtain ⟨gs, rfl, hrow⟩ := h11.get
              have HG := Lib.hid hI.get0
              have hown := own_grow HOS4.out.own hI.get0
              rw [← HL6.out] at hown
              have hl6' : l6 ≤ 20 := by rw [HL6.out]; have := HCL.out; omega
              refine wpList_append_row rfl _ _ _ rfl W1.heap.size T2 _ _ 2 16 Try.underlying54 i2 i2z i2s i2b rfl (by decide) (.slice A6 l6 c6) l6 (steps (chain L (l - 1))) rfl hown (some ⟨gs, 0, none⟩) 1 1 (npair (x, y)) rfl hrow (by simp [npair, Value.oneCell']) (by unfold maxLen; omega) (by omega) (Nat.le_trans HOS4.out.g.size HG.out.size) ?_
              intro v1 w1 hown1 hgb1 _
              have e1 : w1.ownsRow W1.heap.size T2 2 v1 (chain L (l - 1) ++ [(x, y)]).length (steps (chain L (l - 1) ++ [(x, y)])) := by rw [steps_snoc] at hown1; rw [List.length_append, ← HL6.out]; exact hown1
              exact hQ _ _ (two.one (grow_by (HOS4.out.g.trans HG.out) hgb1 (own_base hown))) trivial (from2.mk e1) rfl
            refine obls2_cons (fun b hb1 hb2 f w' hI hH Q hQ => ?_) ?_
            · skip
              obtain rfl : b = 1 := by omega
              clear hb1 hb2
              have h12 := hH.get 0 (85, 12) rfl
              clear hH
              refine wpList_view ?_; show wpList _ _ _ [_] ⟨#[_, _, _, _, _, _, _, _, _, _, _, _, _, _, _, _, _, _, _, _, _, _, _, _, _, _, _, _, _, _, _, _, _, _, _, _, _, _, _, _, _, _, _, _, _, _, _, _, _, _, _, _, _, _, _, _, _, _, _, _, _, _, _, _, _, _, _, _, _, _, _, _, _, _, _, _, _, _, _, _, _, _, _, _, _, f 12, _, _, _, _, _, _, _, _, _, _, _, _, _, _, _, _, _, _, _, _, _, _, _, _, _], _⟩ _
              replace h12 : (from2 1 (IsOwn W1.heap.size (chain L (l - 1) ++ [(x, y)]))) (f 12) 1 w' := h12
              obtain ⟨u12, hu12⟩ : ∃ u, u = f 12 := ⟨_, rfl⟩
              rw [← hu12]
              rw [← hu12] at h12
              clear hu12
              have h9 := h12.get
              have HIg := Lib.hid hI
              clear hI h12
              repeat (first | go_guarded | go_step)
              exact hQ _ _ HIg.out (Grow.refl _) (from2.mk h9) rfl
            exact obls2_nil
          case draw =>
            exact two.zero (Grow.drew _)
          case mono => exact ⟨Mono2.veq _, Mono2.veq _, Mono2.veq _, Mono2.veq _, Mono2.veq _, Mono2.veq _, Mono2.veq _, Mono2.veq _, Mono2.veq _, Mono2.veq _, Mono2.veq _, Mono2.from NewS.mono, Mono2.from IsOwn.mono, Mono2.from IsOwn.mono, trivial⟩
          case tail =>
            intro f w' hI hH
            have q13 : (from2 1 (IsOwn W1.heap.size (chain L (l - 1) ++ [(x, y)]))) (f 13) 1 w' := hH.get 13 (6, 13) rfl
            clear hH
            refine wpList_merge (idx := [none, none, none, none, none, none, some 13, none, none, none, none, none, none, none, none, none, none, none, none, none, none, none, none, none, none, none, none, none, none, none, none, none, none, none, none, none, none, none, none, none, none, none, none, none, none, none, none, none, none, none, none, none, none, none, none, none, none, none, none, none, none, none, none, none, none, none, none, none, none, none, none, none, none, some 0, some 1, some 2, some 3, some 4, some 5, some 6, some 7, some 8, some 9, some 10, some 11, some 12, none, none, none, none, none, none, none, none, none, none, none, none, none, none, none, none, none, none, none, none, none, none, none, none, none]) (by kernel_rfl) ?_; show wpList _ _ _ [] ⟨#[_, _, _, _, _, _, f 13, _, _, _, _, _, _, _, _, _, _, _, _, _, _, _, _, _, _, _, _, _, _, _, _, _, _, _, _, _, _, _, _, _, _, _, _, _, _, _, _, _, _, _, _, _, _, _, _, _, _, _, _, _, _, _, _, _, _, _, _, _, _, _, _, _, _, f 0, f 1, f 2, f 3, f 4, f 5, f 6, f 7, f 8, f 9, f 10, f 11, f 12, _, _, _, _, _, _, _, _, _, _, _, _, _, _, _, _, _, _, _, _, _, _, _, _, _], _⟩ _
            generalize f 13 = x13 at *
            have HOS5 : Hid (OS W1 (ring L) x13 w') := Lib.hid ⟨hI.get1, by rw [← HRG.out]; exact q13.get⟩
            have HRI : Hid (∀ p ∈ ring L, p.1 < l ∧ p.2 < l) := Lib.hid (by rw [HL.out]; exact ring_in HAL.out (by rw [← HL.out]; exact hl0))
            have hof := of_chain w' l (ring L) x13 W1 HOS5.out HRI.out hl20 (by rw [← HRG.out, List.length_append]; have := HCL.out; simp; omega)
            obtain ⟨R2, hR2⟩ : ∃ R, R = leadB (ring L) := ⟨_, rfl⟩
            rw [← hR2] at hof
            have HOF := Lib.hid hof
            have HBD2 : Hid (Bd l R2) := Lib.hid (by rw [hR2]; exact bd_of HRI.out)
            have HTR2 : Hid (Tr R2) := Lib.hid (by rw [hR2]; exact leadB_tr _)
            have HORD2 : Hid (orderN l R2 = List.range l) := Lib.hid (by rw [hR2, HL.out]; exact ring_order HAL.out (by rw [← HL.out]; exact hl0))
            have HG5 : Hid (Grow W1 w') := Lib.hid hI.get1
            obtain ⟨A10, c10, e10, -⟩ := HOS5.out.recs
            obtain ⟨l10, hl10⟩ : ∃ n, n = (ring L).length := ⟨_, rfl⟩
            rw [← hl10] at e10
            subst e10
            clear q13 hI hof hR2 hl10
            go_wp2_with fail
            refine HOF.out.mono ?_
            rintro e w6 ⟨gs, rfl, hrel, hg6⟩
            have HG6 := Lib.hid hg6
            have HOR := Lib.hid (order_any w6 gs l R2 hrel HBD2.out HTR2.out)
            clear hrel hg6 HOF
            go_wp2_with fail
            refine HOR.out.mono ?_
            rintro e w7 ⟨u2, rfl, hu, hg7⟩
            rw [HORD2.out] at hu
            have HG7 : Hid (Grow W1 w7) := Lib.hid (HG5.out.trans (HG6.out.trans hg7))
            obtain ⟨A11, c11, rfl, -, hc11, hrow, -⟩ := hu
            rw [List.length_range] at hrow ⊢
            have HROW7 := Lib.hid hrow
            have HWK := Lib.hid (works_any w7)
            clear hg7 HOR HG6 hrow hc11
            go_wp2_with fail
            go_loop [9] (fun i' => ∃ k : Nat, k ≤ l ∧ i' = .int .i64 (k : Int)) (fun i => l - (intOf i).toNat)
            case atStart => exact ⟨0, by omega, rfl⟩
            case round =>
              obtain ⟨k, hk, rfl⟩ := hrel
              by_cases hlt : k < l
              · obtain ⟨b3, off3, z, rfl, hz, hcell⟩ := Row.nat_at (L := List.range l) (A := A11) (by rw [List.length_range]; exact HROW7.out) (k := k) (by rw [List.length_range]; exact hlt)
                rw [List.getElem?_range hlt] at hz
                obtain rfl := Option.some.inj hz
                have t5 : ((k : Int) != (k : Int)) = false := bne_self_eq_false _
                clear hz
                go_wp2_with fail
                go_round
                case rel => exact ⟨k + 1, by omega, by go_num⟩
                case measure => simp [intOf] <;> omega
              · have t5 : ((l : Int) == (l : Int)) = true := beq_self_eq_true _
                go_wp2_with fail
                refine HWK.out.mono ?_
                rintro e w8 ⟨rfl, hg8⟩
                go_wp2_with fail
                go_ret
                exact ⟨rfl, HG1.out.trans (HG7.out.trans hg8)⟩
  case cutA =>
    go_wp2_with fail
    go_loopw [3, 4] (fun v0 i' wr => ∃ (k : Nat) (L : List Nat) (v : Value), k ≤ n0 ∧ i' = .int .i64 (k : Int) ∧ v = v0 ∧ Alls L ∧ L.length ≤ 20 ∧ OR w L v wr) (fun _ i' _ => n0 - (intOf i').toNat)
    case atStart => exact ⟨0, [], _, by omega, rfl, rfl, Alls.nil, by decide, Grow.refl _, World.ownsRow_nil _ _ _ _⟩
    case round =>
      obtain ⟨k, L, v, hkn, rfl, rfl, al, hl20, po⟩ := hrel
      have HAL := Lib.hid al
      have HPO := Lib.hid po
      obtain ⟨A, c, e, hlc, hcm, hrow⟩ := own_form po.own
      obtain ⟨l, hl⟩ : ∃ l, l = L.length := ⟨_, rfl⟩
      rw [← hl] at e hlc hl20 hrow
      rw [Nat.mul_one] at hrow
      have HL := Lib.hid hl
      have HROW := Lib.hid hrow
      subst e
      unfold maxLen at hcm
      have hiv := IntsV.own po.own
      have HIV := Lib.hid hiv
      clear al po hl hrow hiv
      by_cases hlt : k < n0
      · have HLTk := Lib.hid hlt
        by_cases h20 : l < 20
        · obtain ⟨b0, off0, y, rfl, hcell⟩ : ∃ b off y, A0 = some ⟨b, off, none⟩ ∧ w.cell? ⟨b, off + k, none⟩ = some (.int .u8 ((y : UInt8).toNat : Int)) := by
            obtain ⟨b, off, u, e, hu, hc⟩ := Row.at_ HR.out hlt
            simp only [u8s, List.getElem?_map, Option.map_eq_some_iff] at hu
            obtain ⟨y, _, rfl⟩ := hu
            exact ⟨b, off, y, e, hc⟩
          have hcl := HPO.out.g.cell hcell
          obtain ⟨m, hm, hml⟩ : ∃ m : Nat, (y.toNat : Int) % ((l : Int) + 1) = m ∧ m ≤ l := ⟨y.toNat % (l + 1), by simp, by have := Nat.mod_lt y.toNat (show 0 < l + 1 by omega); omega⟩
          have t1 : decide (l < 20) = true := decide_eq_true h20
          have t2 : decide ((l : Int) < 20) = true := decide_eq_true (by omega)
          have hy : y.toNat < 256 := y.toNat_lt
          have hs1 := slice_hm (P := Try.prog) Try.underlying22 iI A l c m (by omega)
          have hs2 := slice_lo (P := Try.prog) Try.underlying22 iI iIs A l c m hml
          go_wp2_with fail
          apply (fun (v0 v1 v2 v3 v4 v5 v7 v8 v9 : Value) mono obl tail => wp_region_par (R := Grow) (Φ := phi [veq v0, veq v1, veq v2, veq v3, veq v4, veq v5, (OneI l), veq v7, veq v8, veq v9, (IsRow ((l :: L.drop m).map nv)), (OwnI w.heap.size (putIn L m)), (OwnI w.heap.size (putIn L m))]) (m := 13) (dls := [[], [], [], [(30, 0), (31, 1), (32, 2)], [], [(34, 4)], [(35, 5)], [], [], [(37, 7), (38, 8)], [(36, 6), (39, 9)], [(33, 3), (40, 10)], [(41, 11)]]) (ds := [30, 31, 32, 33, 34, 35, 36, 37, 38, 39, 40, 41, 3]) (by kernel_rfl) (by kernel_rfl) (by decide) rfl (Grow.drew _) (fun _ _ _ => Grow.trans) (mono_phi mono) obl tail)
          case obl =>
            refine obls_frame (fun a1 ha => ?_)
            have hsz := rd_size (n := 111) ha rfl
            have e3 := rd_slot 3 ha rfl
            have e5 := rd_slot 5 ha rfl
            clear ha
            refine obls_cons (fun f w' hR hH Q0 hQ0 => ?_) ?_
            · skip
              have s3 := sv_off f [] e3 rfl
              refine small_v hsz [(3, _)] ⟨some 1, (Op.move (.tmp 0)), 22, "", #[], none⟩ [_, undef] 1 rfl rfl ⟨s3, trivial⟩ rfl hQ0 ?_
              clear hQ0 hH s3
              intro Q hQ
              repeat go_step
              exact hQ _ _ (Grow.refl _) rfl rfl
            refine obls_cons (fun f w' hR hH Q0 hQ0 => ?_) ?_
            · skip
              have s5 := sv_off f [] e5 rfl
              refine small_v hsz [(5, _)] ⟨some 1, (Op.move (.tmp 0)), 3, "", #[], none⟩ [_, undef] 1 rfl rfl ⟨s5, trivial⟩ rfl hQ0 ?_
              clear hQ0 hH s5
              intro Q hQ
              repeat go_step
              exact hQ _ _ (Grow.refl _) rfl rfl
            refine obls_cons (fun f w' hR hH Q0 hQ0 => ?_) ?_
            · skip
              have s5 := sv_off f [] e5 rfl
              refine small_v hsz [(5, _)] ⟨some 1, (Op.move (.tmp 0)), 3, "", #[], none⟩ [_, undef] 1 rfl rfl ⟨s5, trivial⟩ rfl hQ0 ?_
              clear hQ0 hH s5
              intro Q hQ
              repeat go_step
              exact hQ _ _ (Grow.refl _) rfl rfl
            refine obls_cons (fun f w' hR hH Q0 hQ0 => ?_) ?_
            · skip
              have s30 := (sv_at 30 0 hsz f [(30, 0), (31, 1), (32, 2)] rfl).trans (show f 0 = _ from hH.get 0 (30, 0) rfl)
              have s31 := (sv_at 31 1 hsz f [(30, 0), (31, 1), (32, 2)] rfl).trans (show f 1 = _ from hH.get 1 (31, 1) rfl)
              have s32 := (sv_at 32 2 hsz f [(30, 0), (31, 1), (32, 2)] rfl).trans (show f 2 = _ from hH.get 2 (32, 2) rfl)
              refine small_v hsz [(30, _), (31, _), (32, _)] ⟨some 3, (Op.slice 22 (.tmp 0) none (some (.tmp 1)) (some (.tmp 2))), 22, "", #[], none⟩ [_, _, _, undef] 3 rfl rfl ⟨s30, s31, s32, trivial⟩ rfl hQ0 ?_
              clear hQ0 hH s30 s31 s32
              intro Q hQ
              repeat go_step
              exact hQ _ _ (Grow.refl _) rfl rfl
            refine obls_cons (fun f w' hR hH Q0 hQ0 => ?_) ?_
            · skip
              have s3 := sv_off f [] e3 rfl
              refine small_v hsz [(3, _)] ⟨some 1, (Op.move (.tmp 0)), 22, "", #[], none⟩ [_, undef] 1 rfl rfl ⟨s3, trivial⟩ rfl hQ0 ?_
              clear hQ0 hH s3
              intro Q hQ
              repeat go_step
              exact hQ _ _ (Grow.refl _) rfl rfl
            refine obls_cons (fun f w' hR hH Q0 hQ0 => ?_) ?_
            · skip
              have s34 := (sv_at 34 4 hsz f [(34, 4)] rfl).trans (show f 4 = _ from hH.get 0 (34, 4) rfl)
              refine small_v hsz [(34, _)] ⟨some 1, (Op.call (Call.mk (Callee.builtin Builtin.len) #[(.tmp 0)] #[22])), 3, "", #[], none⟩ [_, undef] 1 rfl rfl ⟨s34, trivial⟩ (ren_builtin rfl rfl) hQ0 ?_
              clear hQ0 hH s34
              intro Q hQ
              repeat go_step
              exact hQ _ _ (Grow.refl _) rfl rfl
            refine obls_cons (fun f w' hR hH Q0 hQ0 => ?_) ?_
            · skip
              have s35 := (sv_at 35 5 hsz f [(35, 5)] rfl).trans (show f 5 = _ from hH.get 0 (35, 5) rfl)
              refine small_v hsz [(35, _)] ⟨some 1, (Op.buildSlice 22 1 #[(0, (.tmp 0))]), 22, "", #[], none⟩ [_, undef] 1 rfl rfl ⟨s35, trivial⟩ (ren_buildSlice rfl) hQ0 ?_
              clear hQ0 hH s35
              intro Q hQ
              repeat go_step
              exact hQ _ _ (Grow.alloc _ _) ⟨w'.heap.size, rfl, Row.new w' [nv l] 3 (0, 0)⟩ rfl
            refine obls_cons (fun f w' hR hH Q0 hQ0 => ?_) ?_
            · skip
              have s3 := sv_off f [] e3 rfl
              refine small_v hsz [(3, _)] ⟨some 1, (Op.move (.tmp 0)), 22, "", #[], none⟩ [_, undef] 1 rfl rfl ⟨s3, trivial⟩ rfl hQ0 ?_
              clear hQ0 hH s3
              intro Q hQ
              repeat go_step
              exact hQ _ _ (Grow.refl _) rfl rfl
            refine obls_cons (fun f w' hR hH Q0 hQ0 => ?_) ?_
            · skip
              have s5 := sv_off f [] e5 rfl
              refine small_v hsz [(5, _)] ⟨some 1, (Op.move (.tmp 0)), 3, "", #[], none⟩ [_, undef] 1 rfl rfl ⟨s5, trivial⟩ rfl hQ0 ?_
              clear hQ0 hH s5
              intro Q hQ
              repeat go_step
              exact hQ _ _ (Grow.refl _) rfl rfl
            refine obls_cons (fun f w' hR hH Q0 hQ0 => ?_) ?_
            · skip
              have s37 := (sv_at 37 7 hsz f [(37, 7), (38, 8)] rfl).trans (show f 7 = _ from hH.get 0 (37, 7) rfl)
              have s38 := (sv_at 38 8 hsz f [(37, 7), (38, 8)] rfl).trans (show f 8 = _ from hH.get 1 (38, 8) rfl)
              refine small_v hsz [(37, _), (38, _)] ⟨some 2, (Op.slice 22 (.tmp 0) (some (.tmp 1)) none none), 22, "", #[], none⟩ [_, _, undef] 2 rfl rfl ⟨s37, s38, trivial⟩ rfl hQ0 ?_
              clear hQ0 hH s37 s38
              intro Q hQ
              repeat go_step
              exact hQ _ _ (Grow.refl _) rfl rfl
            refine obls_cons (fun f w' hR hH Q0 hQ0 => ?_) ?_
            · skip
              have h6 : (OneI l) (f 6) w' := hH.get 0 (36, 6) rfl
              have s36 := sv_at 36 6 hsz f [(36, 6), (39, 9)] rfl
              obtain ⟨u6, hu6⟩ : ∃ u, f 6 = u := ⟨_, rfl⟩
              rw [hu6] at s36 h6
              clear hu6
              have s39 := (sv_at 39 9 hsz f [(36, 6), (39, 9)] rfl).trans (show f 9 = _ from hH.get 1 (39, 9) rfl)
              refine small_v hsz [(36, _), (39, _)] ⟨some 2, (Op.call (Call.mk (Callee.builtin Builtin.append) #[(.tmp 0), (.tmp 1)] #[22, 22])), 22, "", #[], none⟩ [_, _, undef] 2 rfl rfl ⟨s36, s39, trivial⟩ (ren_builtin rfl rfl) hQ0 ?_
              clear hQ0 hH s36 s39
              intro Q hQ
              obtain ⟨g6, rfl, hr6⟩ := h6
              have hrw := HROW.out.grow hR
              have hdl : (L.drop m).length = l - m := by rw [List.length_drop, ← HL.out]
              rcases Nat.eq_zero_or_pos (l - m) with h0 | h0
              · have hd : L.drop m = [] := List.eq_nil_of_length_eq_zero (by rw [hdl, h0])
                refine wpList_append_zero w' rfl _ _ _ rfl 3 _ Try.underlying22 iI ⟨g6, 0, none⟩ 1 1 (cutAt A c m) (c - m) (by decide) rfl (by rw [h0]; rfl) ?_
                exact hQ _ _ (Grow.refl _) ⟨some ⟨g6, 0, none⟩, 1, (by rw [hd]; rfl), (by rw [hd]; exact Nat.le_refl 1), (by decide), (by rw [hd]; exact hr6)⟩ rfl
              · obtain ⟨ad7, e7, hc7⟩ := Row.add_ (hrw.cut hml hlc) h0
                obtain ⟨ad6, e6, hc6⟩ := Row.add_ hr6 (by decide)
                refine wpList_append_grows w' rfl _ _ _ rfl 3 _ _ 1 8 Try.underlying22 iI iIz iIs iIb rfl (by decide) (some ⟨g6, 0, none⟩) 1 1 [nv l] rfl (fun e => by cases e) rfl (fun b hb j u hu => by injection hb with hb; subst hb; injection e6 with e6; subst e6; exact hc6 j u hu) ad7 (l - m) (c - m) ((L.drop m).map nv) (by rw [e7]; rfl) (by rw [List.length_map, hdl, Nat.mul_one]) (fun j u hu => hc7 j u (by rw [← List.map_drop]; exact hu)) (one_nv _) (by omega) (by unfold maxLen; omega) (by omega) ?_
                intro v1 w1 hown1 hgb1
                exact hQ _ _ (grow_by (Grow.refl _) hgb1 (fun k hk => by cases hk)) (isRow_own (n := 1 + (l - m)) hown1) rfl
            refine obls_cons (fun f w' hR hH Q0 hQ0 => ?_) ?_
            · skip
              have s33 := (sv_at 33 3 hsz f [(33, 3), (40, 10)] rfl).trans (show f 3 = _ from hH.get 0 (33, 3) rfl)
              have h10 : (IsRow ((l :: L.drop m).map nv)) (f 10) w' := hH.get 1 (40, 10) rfl
              have s40 := sv_at 40 10 hsz f [(33, 3), (40, 10)] rfl
              obtain ⟨u10, hu10⟩ : ∃ u, f 10 = u := ⟨_, rfl⟩
              rw [hu10] at s40 h10
              clear hu10
              refine small_v hsz [(33, _), (40, _)] ⟨some 2, (Op.call (Call.mk (Callee.builtin Builtin.append) #[(.tmp 0), (.tmp 1)] #[22, 22])), 22, "", #[], none⟩ [_, _, undef] 2 rfl rfl ⟨s33, s40, trivial⟩ (ren_builtin rfl rfl) hQ0 ?_
              clear hQ0 hH s33 s40
              intro Q hQ
              obtain ⟨A7, c7, rfl, -, -, hr7⟩ := h10
              obtain ⟨ad7, rfl, hc7⟩ := Row.add_ hr7 (by simp)
              have hrw := HROW.out.grow hR
              have hln : ((l :: L.drop m).map nv).length = l - m + 1 := by rw [List.length_map, List.length_cons, List.length_drop, ← HL.out]
              refine wpList_append_grows w' rfl _ _ _ rfl 3 _ _ 1 8 Try.underlying22 iI iIz iIs iIb rfl (by decide) A m m ((L.take m).map nv) rfl (fun e => ?_) (by rw [List.length_map, List.length_take, ← HL.out]; omega) (fun b hb j u hu => ?_) ad7 ((l :: L.drop m).map nv).length c7 ((l :: L.drop m).map nv) rfl (by rw [Nat.mul_one]) hc7 (one_nv _) (by rw [hln]; omega) (by rw [hln]; unfold maxLen; omega) (by rw [hln]; omega) ?_
              · rcases Nat.eq_zero_or_pos l with h0 | h0
                · omega
                · obtain ⟨b, off, e2, -⟩ := hrw.2 h0
                  rw [e] at e2; cases e2
              · have hj := (List.getElem?_eq_some_iff.1 hu).1
                rw [List.length_map, List.length_take] at hj
                obtain ⟨ad, e2, hc2⟩ := Row.add_ hrw (show 0 < l by rw [HL.out]; omega)
                rw [hb] at e2
                injection e2 with e2
                subst e2
                refine hc2 j u ?_
                rw [List.map_take, List.getElem?_take_of_lt (by omega)] at hu
                exact hu
              · intro v1 w1 hown1 hgb1
                refine hQ _ _ (grow_by (Grow.refl _) hgb1 (fun k hk => by cases hk)) ?_ rfl
                have h9 := own_lower hown1 (Nat.le_trans HPO.out.g.size hR.size)
                rw [hln, ← List.map_append] at h9
                show World.ownsRow _ _ _ _ _ (putIn L m).length ((putIn L m).map nv)
                rw [putIn_len, ← HL.out]
                unfold putIn
                rw [← HL.out]
                rw [show m + (l - m + 1) = l + 1 by omega] at h9
                exact h9
            refine obls_cons (fun f w' hR hH Q0 hQ0 => ?_) ?_
            · skip
              have h11 : (OwnI w.heap.size (putIn L m)) (f 11) w' := hH.get 0 (41, 11) rfl
              have s41 := sv_at 41 11 hsz f [(41, 11)] rfl
              obtain ⟨u11, hu11⟩ : ∃ u, f 11 = u := ⟨_, rfl⟩
              rw [hu11] at s41 h11
              clear hu11
              refine small_v hsz [(41, _)] ⟨some 1, (Op.assign (.tmp 0)), 22, "", #[], none⟩ [_, undef] 1 rfl rfl ⟨s41, trivial⟩ rfl hQ0 ?_
              clear hQ0 hH s41
              intro Q hQ
              repeat go_step
              exact hQ _ _ (Grow.refl _) h11 rfl
            exact obls_nil
          case mono => exact ⟨Mono.veq _, Mono.veq _, Mono.veq _, Mono.veq _, Mono.veq _, Mono.veq _, OneI.mono, Mono.veq _, Mono.veq _, Mono.veq _, IsRow.mono, OwnI.mono, OwnI.mono, trivial⟩
          case tail =>
            intro f w' hR hH
            have q12 : (OwnI w.heap.size (putIn L m)) (f 12) w' := hH.get 12 (3, 12) rfl
            clear hH
            refine wpList_merge (idx := [none, none, none, some 12, none, none, none, none, none, none, none, none, none, none, none, none, none, none, none, none, none, none, none, none, none, none, none, none, none, none, some 0, some 1, some 2, some 3, some 4, some 5, some 6, some 7, some 8, some 9, some 10, some 11, none, none, none, none, none, none, none, none, none, none, none, none, none, none, none, none, none, none, none, none, none, none, none, none, none, none, none, none, none, none, none, none, none, none, none, none, none, none, none, none, none, none, none, none, none, none, none, none, none, none, none, none, none, none, none, none, none, none, none, none, none, none, none, none, none, none, none, none, none]) (by kernel_rfl) ?_; show wpList _ _ _ [] ⟨#[_, _, _, f 12, _, _, _, _, _, _, _, _, _, _, _, _, _, _, _, _, _, _, _, _, _, _, _, _, _, _, f 0, f 1, f 2, f 3, f 4, f 5, f 6, f 7, f 8, f 9, f 10, f 11, _, _, _, _, _, _, _, _, _, _, _, _, _, _, _, _, _, _, _, _, _, _, _, _, _, _, _, _, _, _, _, _, _, _, _, _, _, _, _, _, _, _, _, _, _, _, _, _, _, _, _, _, _, _, _, _, _, _, _, _, _, _, _, _, _, _, _, _, _], _⟩ _
            obtain ⟨x12, hx12⟩ : ∃ x, f 12 = x := ⟨_, rfl⟩
            rw [hx12] at q12 ⊢
            clear hx12
            have HPO2 : Hid (OR w (putIn L m) x12 w') := Lib.hid ⟨HPO.out.g.trans hR, q12⟩
            clear hR q12
            go_wp2_with fail
            go_roundw
            case rel => exact ⟨k + 1, putIn L m, _, by have := HLTk.out; omega, by go_num, rfl, HAL.out.put m, by rw [putIn_len, ← HL.out]; omega, HPO2.out⟩
            case measure => have := HLTk.out; simp [intOf] <;> omega
        · have t1 : decide (l < 20) = false := decide_eq_false h20
          have t2 : decide ((l : Int) < 20) = false := decide_eq_false (by omega)
          go_wp2_with fail
          exact CutEnd.mk (by kernel_rfl) ⟨L, _, rfl, HAL.out, by rw [← HL.out]; exact hl20, HPO.out⟩
      · go_wp2_with fail
        exact CutEnd.mk (by kernel_rfl) ⟨L, _, rfl, HAL.out, by rw [← HL.out]; exact hl20, HPO.out⟩
end Go.Proofs.Ytjfohglkpbgkaaa.toL
