/- The walks of the document's piece and Of (printed by gen_bkr3.py). -/
import Derived.Test.YtbcifodifadoiaaBkR2
namespace Go.Proofs.Ytbcifodifadoiaa.bk
open Go Go.RowKit Go.Par Go.Kit Go.Proofs.Ytbcifodifadoiaa.Bk Go.Proofs.Ytbcifodifadoiaa.reW Go.Proofs.Ytbcifodifadoiaa.mkW Go.Proofs.Ytbcifodifadoiaa.Re

theorem infoY : (Try.prog.info? TY).isSome = true := by kernel_rfl
theorem iY : Try.prog.info? TY = some ((Try.prog.info? TY).get infoY) := by simp
theorem iYs : ((Try.prog.info? TY).get infoY).size = 3 := by kernel_rfl
theorem iYz : ((Try.prog.info? TY).get infoY).zero = some (.agg #[.int .i64 0, .int .i64 0, .slice none 0 0]) := by kernel_rfl
theorem iYb : ((Try.prog.info? TY).get infoY).bytes = 40 := by kernel_rfl
theorem undY : Try.prog.underlying TY = some (.struct (Try.prog.fieldsOf TY)) := by kernel_rfl
theorem sizeY : (Try.prog.info? TY).map (·.size) = some 3 := by kernel_rfl
theorem whole {N : Int → Int → Bool} (hN : ∀ a b, N a b = N b a) {l : List Int} (h : (firsts N l).length = 1) {i : Nat} (hi : i < l.length) : (sideL N l i).length = l.length := by
  have key : ∀ k, k < l.length → Cn N l 0 k := fun k hk => by
    obtain ⟨f, h1, h2, _⟩ := has_first N l hk
    have h3 : f = 0 := by
      have h0 := zero_first (N := N) (l := l) (by omega)
      match hfl : firsts N l, h with
      | [x], _ =>
        rw [hfl] at h1 h0
        rw [List.mem_singleton.1 h1, List.mem_singleton.1 h0]
    rw [← h3]; exact h2
  have : sideL N l i = List.range l.length := by
    unfold sideL
    refine List.filter_eq_self.2 fun k hk => conn_iff.2 (((key i hi).symm hN).trans (key k (List.mem_range.1 hk)))
  rw [this, List.length_range]
theorem head_side {N : Int → Int → Bool} (hN : ∀ a b, N a b = N b a) {l : List Int} {i x : Nat} (hi : i < l.length) (hx : (sideL N l i)[0]? = some x) : (x = i ↔ seenTo N l i i = false) := by
  have hmin : ∀ k, k ∈ sideL N l i → x ≤ k := fun k hk => by
    have h1 := sideL_lt N l i
    match hs : sideL N l i, h1 with
    | [], _ => rw [hs] at hx; cases hx
    | y :: ys, h1 =>
      rw [hs] at hx hk
      injection hx with hx
      subst hx
      rcases List.mem_cons.1 hk with rfl | hk
      · exact Nat.le_refl _
      · exact Nat.le_of_lt ((List.pairwise_cons.1 h1).1 k hk)
  have hxm := mem_sideL.1 (List.mem_of_getElem? hx)
  constructor
  · rintro rfl
    cases hs : seenTo N l x x with
    | false => rfl
    | true =>
      obtain ⟨f, h1, h2⟩ := seenTo_iff.1 hs
      have := hmin f (mem_sideL.2 ⟨by omega, h2.symm hN⟩)
      omega
  · intro hs
    have h1 := hmin i (mem_sideL.2 ⟨hi, .refl i⟩)
    rcases Nat.lt_or_ge x i with h2 | h2
    · rw [seenTo_iff.2 ⟨x, h2, hxm.2.symm hN⟩] at hs
      cases hs
    · omega
theorem PF.knd {w0 w : World} {B0 b4 b6 m : Nat} {e : TypeId} {kd : Int} {v v1 : Value} {qs : List (T × Value)} (h : PF w0 B0 b4 b6 e kd v v1 m qs w) (k2 : Int) (hb6 : b6 < B0) (h0 : w0.heap.size ≤ b6) (h46 : b4 ≠ b6) : PF w0 B0 b4 b6 e k2 v v1 m qs (w.setCell ⟨b6, 0, none⟩ (.int .i64 k2)) :=
  ⟨Grow.set_ h.g (p := ⟨b6, 0, none⟩) h0 _, by simpa using h.sz, h.r.far (p := ⟨b6, 0, none⟩) h46 _, h.x.set_ 0 _, h.own.far hb6 fun k hk => Below.heap_setCell w ⟨b6, 0, none⟩ _ k hk⟩
set_option maxRecDepth 100000 in
set_option maxHeartbeats 4000000 in
theorem ref_piece (rec_ : List Int → List T) (M : Int) (v : Value) (LR : List (Nat × Nat)) (hLR : LR.length ≤ 1000000) (w : World) (hv : RefV w v LR) (A : Option Addr) (n c : Nat) (l : List Int) (hl : Nums w A n c l) (h0 : 0 < n) (hn : n ≤ 1000)
    (ih : ∀ (s : List Int), s.length < n → ∀ (w' : World) (A' : Option Addr) (n' c' : Nat), Grow w w' → Nums w' A' n' c' s → Calls Try.prog 11 #[.agg #[.int .i64 M, v], .slice A' n' c'] w' fun e w'' => ∃ u, e = .returned u ∧ TsV w'' (fun k => w'.heap.size ≤ k) u (rec_ s) ∧ Grow w' w'') :
    Calls Try.prog 30 #[.agg #[.int .i64 M, v], .slice A n c] w fun e w' => ∃ u, e = .returned u ∧ IsT w.heap.size (pieceT (nearI (leadB LR)) rec_ l) u w' ∧ Grow w w' := by
  have hll := hl.len
  have HV := Lib.hid hv
  obtain ⟨A0, c0, rfl, -⟩ := hv
  obtain ⟨l0, hl0⟩ : ∃ l, l = LR.length := ⟨_, rfl⟩
  rw [← hl0] at HV ih ⊢
  have hlr : l0 ≤ 1000000 := by omega
  obtain ⟨b2, hb2⟩ : ∃ b2, b2 = w.heap.size := ⟨_, rfl⟩
  obtain ⟨W2, hW2⟩ : ∃ W, W = w.alloc (.cells #[.int .i64 M, .slice A0 l0 c0] TX8) := ⟨_, rfl⟩
  obtain ⟨b4, hb4⟩ : ∃ b4, b4 = w.heap.size + 1 := ⟨_, rfl⟩
  have hb4' : b4 = W2.heap.size := by rw [hb4, hW2]; simp
  obtain ⟨W1, hW1⟩ : ∃ W, W = W2.alloc (.cells #[.int .i64 0, .int .i64 0, .slice none 0 0] TY) := ⟨_, rfl⟩
  have hg2 : Grow w W2 := by rw [hW2]; exact Grow.alloc _ _
  have hg1' : Grow W2 W1 := by rw [hW1]; exact Grow.alloc _ _
  have hg1 := hg2.trans hg1'
  have hbx2 : Blk W1 b2 TX8 [.int .i64 M, .slice A0 l0 c0] := by rw [hW2] at hg1'; exact (Blk.new w _ _ _ rfl hb2).grow hg1'
  have hbx4 : Blk W1 b4 TY [.int .i64 0, .int .i64 0, .slice none 0 0] := by rw [hW1]; exact Blk.new _ _ _ _ rfl hb4'
  have h4w : w.heap.size ≤ b4 := by omega
  have HL := Lib.hid hl
  have HIH := Lib.hid ih
  have HG1 := Lib.hid hg1
  have HW1 := Lib.hid hW1
  have HW2 := Lib.hid hW2
  have HB4 := Lib.hid hb4
  have HB2 := Lib.hid hb2
  have HX4 := Lib.hid hbx4
  have HX2 := Lib.hid hbx2
  have HLL := Lib.hid hll
  have H4W := Lib.hid h4w
  have HLR := Lib.hid hLR
  have HL0 := Lib.hid hl0
  clear hl ih hW1 hW2 hg1 hg1' hg2 hbx4 hb4 hb4' hbx2 hb2 h4w hLR hl0 hlr
  by_cases h1 : n = 1
  · subst h1
    obtain ⟨z, hz⟩ : ∃ z, l = [z] := by
      match l, hll with
      | [z], _ => exact ⟨z, rfl⟩
    subst hz
    rw [pieceT_one rfl]
    obtain ⟨b, off, z', rfl, hx, hcz, -⟩ := HL.out.at_ (k := 0) (by decide)
    have hzz : z' = z := by simpa using hx.symm
    subst hzz
    have q0 := HG1.out.cell hcz
    rw [Nat.add_zero] at q0
    have HQ0 := Lib.hid q0
    clear hx hcz hll h0 hn q0
    go_enter Try.func30, Try.ntmps30
    try dsimp only
    repeat (first | with_reducible (refine wp_region_cut (k := 1) ?_) | go_values | go_guarded | go_step | go_upon | go_back)
    rw [← HW2.out, ← HW1.out, ← HB4.out, ← HB2.out]
    unfold Cut
    have q0 := HQ0.out
    go_wp2_with (refine store_blk rfl _ _ _ rfl b4 [.int .i64 1, .int .i64 z', .slice none 0 0] rfl rfl _ _ HX4.out (by rw [sizeY]; rfl) rfl rfl ?_)
    refine ret_blk rfl b4 _ [.int .i64 1, .int .i64 z', .slice none 0 0] _ rfl (HX4.out.setRow _) undY rfl (by rw [sizeY]; rfl) rfl ?_
    exact ⟨_, rfl, ⟨_, rfl, TsV.nil _ _⟩, Grow.setRow HG1.out (g := b4) H4W.out [.int .i64 1, .int .i64 z', .slice none 0 0].toArray⟩
  · have s1 : ((n : Int) == 1) = false := beq_false_of_ne (by omega)
    have s1' : (n == 1) = false := beq_false_of_ne h1
    have HN1 := Lib.hid h1
    obtain ⟨N, hN⟩ : ∃ N, N = nearI (leadB LR) := ⟨_, rfl⟩
    rw [← hN]
    have HSYM : Hid (∀ a b, N a b = N b a) := Lib.hid fun a b => by rw [hN]; exact nearI_symm _ a b
    have HSD : Hid (∀ (w' : World) (i : Nat), Grow W1 w' → i < n → Calls Try.prog 42 #[.agg #[.int .i64 M, .slice A0 l0 c0], .slice A n c, .int .i64 (i : Int)] w' fun e w'' => ∃ u, e = .returned u ∧ w''.ownsRow w'.heap.size 3 1 u (sideL N l i).length ((sideL N l i).map nv) ∧ Grow w' w'') := Lib.hid fun w' i hg hi => by
      rw [hN]; exact ref_side w' M _ LR (HV.out.grow (HG1.out.trans hg)) HLR.out A n c l (HL.out.grow (HG1.out.trans hg)) (by omega) i hi
    obtain ⟨b6, hb6⟩ : ∃ b6, b6 = W1.heap.size := ⟨_, rfl⟩
    obtain ⟨W6, hW6⟩ : ∃ W, W = W1.alloc (.cells #[.int .i64 2, .int .i64 0, .slice none 0 0] TY) := ⟨_, rfl⟩
    have hg6 : Grow W1 W6 := by rw [hW6]; exact Grow.alloc _ _
    have hbx6 : Blk W6 b6 TY [.int .i64 2, .int .i64 0, .slice none 0 0] := by rw [hW6]; exact Blk.new _ _ _ _ rfl hb6
    obtain ⟨B0, hB0⟩ : ∃ B0, B0 = W6.heap.size := ⟨_, rfl⟩
    have h4lt : b4 < W1.heap.size := HX4.out.lt
    have h6lt := hbx6.lt
    have hpf : PF W1 B0 b4 b6 TY 2 (.slice none 0 0) (.slice none 0 0) 0 [] W6 := ⟨hg6, by omega, HX4.out.grow hg6, hbx6, OwnT.nil _ _ _⟩
    have HPF := Lib.hid hpf
    have HB6 := Lib.hid hb6
    have HW6 := Lib.hid hW6
    have HLT : Hid (b4 < B0 ∧ b6 < B0 ∧ W1.heap.size ≤ B0 ∧ W1.heap.size ≤ b6 ∧ b4 ≠ b6 ∧ w.heap.size ≤ W1.heap.size) := Lib.hid ⟨by have := hg6.size; omega, by omega, by rw [hB0]; exact hg6.size, by omega, by omega, HG1.out.size⟩
    obtain ⟨tp, htp⟩ : ∃ tp, tp = pieceT N rec_ l := ⟨_, rfl⟩
    rw [← htp]
    have HTP := Lib.hid htp
    clear h1 hN hb6 hW6 hg6 hbx6 hB0 h4lt h6lt hpf htp
    go_enter Try.func30, Try.ntmps30
    try dsimp only
    repeat (first | with_reducible (refine wp_region_cut (k := 1) ?_) | go_values | go_guarded | go_step | go_upon | go_back)
    rw [← HW2.out, ← HW1.out, ← HB4.out, ← HB2.out]
    unfold Cut
    repeat (first | with_reducible (refine wp_region_cut (k := 4) ?_) | go_values | go_guarded | go_step | go_upon | go_back)
    rw [← HW6.out, ← HB6.out]
    unfold Cut
    go_wp2_with fail
    clear s1 s1'
    by_cases h2 : (firsts N l).length = 1
    · have HWH : Hid (∀ i, i < n → (sideL N l i).length = n) := Lib.hid fun i hi => by
        have := whole HSYM.out h2 (i := i) (by rw [hll]; exact hi)
        rwa [hll] at this
      obtain rfl : tp = .mk 3 0 (l.map line) := HTP.out.trans (pieceT_knot (by rw [hll]; exact HN1.out) h2)
      clear h2 hll
      go_loopw [6] (fun i' wr => ∃ (i : Nat) (kd : Int) (u : Value) (qs : List (T × Value)), i ≤ n ∧ i' = .int .i64 (i : Int) ∧ (0 < i → kd = 3) ∧ PF W1 B0 b4 b6 TY kd u u i qs wr ∧ qs.map Prod.fst = (l.take i).map line) (fun i' _ => n - (intOf i').toNat)
      case atStart => exact ⟨0, 2, _, [], by omega, rfl, fun h => absurd h (by omega), HPF.out, rfl⟩
      case round =>
        clear HPF
        obtain ⟨wa, rfl⟩ : ∃ wa, wa = wr := ⟨_, rfl⟩
        obtain ⟨i, kd, u, qs, hi, rfl, hkd, hpf, hqs⟩ := hrel
        by_cases hlt : i < n
        · have t1 : decide (i < n) = true := decide_eq_true hlt
          have t1' : decide ((i : Int) < (n : Int)) = true := decide_eq_true (by omega)
          have hx2 := HX2.out.grow hpf.g
          have y0 := hx2.cell (i := 0) rfl
          have y1 := hx2.cell (i := 1) rfl
          have HCS := Lib.hid (HSD.out wa i hpf.g hlt)
          have HPF := Lib.hid hpf
          have HQS := Lib.hid hqs
          have HI := Lib.hid hlt
          have hi9 : i < n := hlt
          clear hx2 hpf hqs hi hlt hkd
          go_wp2_with fail
          refine HCS.out.mono ?_
          rintro e w3 ⟨us, rfl, hos, hg3⟩
          obtain ⟨As, cs, rfl, -, -, -⟩ := own_form hos
          rw [HWH.out i HI.out]
          have sn : ((n : Int) == (n : Int)) = true := beq_self_eq_true _
          have hpf3 := HPF.out.grow hg3
          have f0 := hpf3.x.free 0
          have z0 := hpf3.x.cell (i := 0) rfl
          obtain ⟨W4, hW4⟩ : ∃ W, W = w3.setCell ⟨b6, 0, none⟩ (.int .i64 3) := ⟨_, rfl⟩
          have hpf4 : PF W1 B0 b4 b6 TY 3 u u i qs W4 := by rw [hW4]; exact hpf3.knd 3 HLT.out.2.1 HLT.out.2.2.2.1 HLT.out.2.2.2.2.1
          have HPF4 := Lib.hid hpf4
          have HW4 := Lib.hid hW4
          obtain ⟨bl, offl, z, rfl, hz, hcz, -⟩ := HL.out.at_ HI.out
          have HCZ := Lib.hid ((HG1.out.trans hpf4.g).cell hcz)
          have HZ := Lib.hid hz
          obtain ⟨Av, cv, rfl, -, -, -⟩ := own_form hpf4.own.row
          have HB1 : Hid (∀ k, (Value.slice Av i cv).ownBlock = some k → k < W4.heap.size) := Lib.hid (ltOwn hpf4.own.row)
          clear hos hg3 hpf3 hW4 hpf4 hz hcz HCS y0 y1
          go_wp2_with fail
          rw [← HW4.out]
          clear f0 z0 sn
          apply (fun (v0 v1 v2 v3 v4 v5 v6 v9 : Value) mono draw obl tail => wp_region_piv (I := two (Grow W4) (fun w1 => ∃ v1 s, PF W1 B0 b4 b6 TY 3 (.slice Av i cv) v1 (i + 1) (qs ++ [(line z, s)]) w1)) (G := Grow) (Rp := (fun _ _ _ => True)) (Φ := phi2 [veq2 v0, veq2 v1, veq2 v2, veq2 v3, veq2 v4, veq2 v5, veq2 v6, (from2 0 (New1 W4.heap.size (line z))), (from2 1 (IsO B0 TY i qs (line z))), veq2 v9]) (m := 10) (ps := [8]) (qs := [(0, 0, false), (0, 0, false), (0, 0, false), (0, 0, false), (0, 0, false), (0, 0, false), (0, 0, false), (0, 0, false), (0, 0, true), (1, 1, false)]) (dls := [[], [(34, 0)], [], [], [(36, 2), (37, 3)], [(38, 4)], [(39, 5)], [(40, 6)], [(35, 1), (41, 7)], []]) (ds := [34, 35, 36, 37, 38, 39, 40, 41, 42, 43]) (by kernel_rfl) (by kernel_rfl) (by kernel_rfl) (by decide) rfl rfl draw (mono2_phi mono) (piv2_phi mono) obl tail)
          case obl =>
            refine obls2_cons (fun b hb1 hb2 f w' hI hH Q hQ => ?_) ?_
            · skip
              obtain rfl : b = 0 := by omega
              clear hb1 hb2
              clear hH
              refine wpList_view ?_; show wpList _ _ _ [_] ⟨#[_, _, _, _, _, _, _, _, _, _, _, _, _, _, _, _, _, _, _, _, _, _, _, _, _, _, _, _, _, _, _, _, _, _, _, _, _, _, _, _, _, _, _, _, _, _, _, _, _, _, _, _, _, _, _, _, _, _, _, _, _, _, _, _, _, _, _, _, _, _, _, _, _, _, _], _⟩ _
              repeat (first | go_guarded | go_step)
              exact hQ _ _ hI (Grow.refl _) rfl rfl
            refine obls2_cons (fun b hb1 hb2 f w' hI hH Q hQ => ?_) ?_
            · skip
              obtain rfl : b = 0 := by omega
              clear hb1 hb2
              have h0 := hH.get 0 (34, 0) rfl
              clear hH
              refine wpList_view ?_; show wpList _ _ _ [_] ⟨#[_, _, _, _, _, _, _, _, _, _, _, _, _, _, _, _, _, _, _, _, _, _, _, _, _, _, _, _, _, _, _, _, _, _, f 0, _, _, _, _, _, _, _, _, _, _, _, _, _, _, _, _, _, _, _, _, _, _, _, _, _, _, _, _, _, _, _, _, _, _, _, _, _, _, _, _], _⟩ _
              rw [show f 0 = _ from h0]
              clear h0
              have y0 := (HPF4.out.x.grow hI.get0).cell (i := 2) rfl
              repeat (first | go_guarded | go_step)
              exact hQ _ _ hI (Grow.refl _) rfl rfl
            refine obls2_cons (fun b hb1 hb2 f w' hI hH Q hQ => ?_) ?_
            · skip
              obtain rfl : b = 0 := by omega
              clear hb1 hb2
              clear hH
              refine wpList_view ?_; show wpList _ _ _ [_] ⟨#[_, _, _, _, _, _, _, _, _, _, _, _, _, _, _, _, _, _, _, _, _, _, _, _, _, _, _, _, _, _, _, _, _, _, _, _, _, _, _, _, _, _, _, _, _, _, _, _, _, _, _, _, _, _, _, _, _, _, _, _, _, _, _, _, _, _, _, _, _, _, _, _, _, _, _], _⟩ _
              repeat (first | go_guarded | go_step)
              exact hQ _ _ hI (Grow.refl _) rfl rfl
            refine obls2_cons (fun b hb1 hb2 f w' hI hH Q hQ => ?_) ?_
            · skip
              obtain rfl : b = 0 := by omega
              clear hb1 hb2
              clear hH
              refine wpList_view ?_; show wpList _ _ _ [_] ⟨#[_, _, _, _, _, _, _, _, _, _, _, _, _, _, _, _, _, _, _, _, _, _, _, _, _, _, _, _, _, _, _, _, _, _, _, _, _, _, _, _, _, _, _, _, _, _, _, _, _, _, _, _, _, _, _, _, _, _, _, _, _, _, _, _, _, _, _, _, _, _, _, _, _, _, _], _⟩ _
              repeat (first | go_guarded | go_step)
              exact hQ _ _ hI (Grow.refl _) rfl rfl
            refine obls2_cons (fun b hb1 hb2 f w' hI hH Q hQ => ?_) ?_
            · skip
              obtain rfl : b = 0 := by omega
              clear hb1 hb2
              have h2 := hH.get 0 (36, 2) rfl
              have h3 := hH.get 1 (37, 3) rfl
              clear hH
              refine wpList_view ?_; show wpList _ _ _ [_] ⟨#[_, _, _, _, _, _, _, _, _, _, _, _, _, _, _, _, _, _, _, _, _, _, _, _, _, _, _, _, _, _, _, _, _, _, _, _, f 2, f 3, _, _, _, _, _, _, _, _, _, _, _, _, _, _, _, _, _, _, _, _, _, _, _, _, _, _, _, _, _, _, _, _, _, _, _, _, _], _⟩ _
              rw [show f 2 = _ from h2]
              rw [show f 3 = _ from h3]
              clear h2 h3
              have hin := HI.out
              repeat (first | go_guarded | go_step)
              exact hQ _ _ hI (Grow.refl _) rfl rfl
            refine obls2_cons (fun b hb1 hb2 f w' hI hH Q hQ => ?_) ?_
            · skip
              obtain rfl : b = 0 := by omega
              clear hb1 hb2
              have h4 := hH.get 0 (38, 4) rfl
              clear hH
              refine wpList_view ?_; show wpList _ _ _ [_] ⟨#[_, _, _, _, _, _, _, _, _, _, _, _, _, _, _, _, _, _, _, _, _, _, _, _, _, _, _, _, _, _, _, _, _, _, _, _, _, _, f 4, _, _, _, _, _, _, _, _, _, _, _, _, _, _, _, _, _, _, _, _, _, _, _, _, _, _, _, _, _, _, _, _, _, _, _, _], _⟩ _
              rw [show f 4 = _ from h4]
              clear h4
              have y0 := hI.get0.cell HCZ.out
              repeat (first | go_guarded | go_step)
              exact hQ _ _ hI (Grow.refl _) rfl rfl
            refine obls2_cons (fun b hb1 hb2 f w' hI hH Q hQ => ?_) ?_
            · skip
              obtain rfl : b = 0 := by omega
              clear hb1 hb2
              have h5 := hH.get 0 (39, 5) rfl
              clear hH
              refine wpList_view ?_; show wpList _ _ _ [_] ⟨#[_, _, _, _, _, _, _, _, _, _, _, _, _, _, _, _, _, _, _, _, _, _, _, _, _, _, _, _, _, _, _, _, _, _, _, _, _, _, _, f 5, _, _, _, _, _, _, _, _, _, _, _, _, _, _, _, _, _, _, _, _, _, _, _, _, _, _, _, _, _, _, _, _, _, _, _], _⟩ _
              rw [show f 5 = _ from h5]
              clear h5
              repeat (first | go_guarded | go_step)
              exact hQ _ _ hI (Grow.refl _) rfl rfl
            refine obls2_cons (fun b hb1 hb2 f w' hI hH Q hQ => ?_) ?_
            · skip
              obtain rfl : b = 0 := by omega
              clear hb1 hb2
              have h6 := hH.get 0 (40, 6) rfl
              clear hH
              refine wpList_view ?_; show wpList _ _ _ [_] ⟨#[_, _, _, _, _, _, _, _, _, _, _, _, _, _, _, _, _, _, _, _, _, _, _, _, _, _, _, _, _, _, _, _, _, _, _, _, _, _, _, _, f 6, _, _, _, _, _, _, _, _, _, _, _, _, _, _, _, _, _, _, _, _, _, _, _, _, _, _, _, _, _, _, _, _, _, _], _⟩ _
              rw [show f 6 = _ from h6]
              clear h6
              have HIg := Lib.hid hI
              clear hI
              go_wp2_with fail
              exact hQ _ _ (two.zero (HIg.out.get0.trans (Grow.alloc _ _))) (Grow.alloc _ _) (from2.mk ⟨_, .slice none 0 0, rfl, Row.new _ [.int .i64 1, .int .i64 z, .slice none 0 0] _ (0, 0), TsV.nil _ _⟩) rfl
            refine oblsP_cons (fun f w' hI hH Q hQ => ?_) ?_
            · skip
              have h1 := hH.get 0 (35, 1) rfl
              have h7 := hH.get 1 (41, 7) rfl
              clear hH
              refine wpList_view ?_; show wpList _ _ _ [_] ⟨#[_, _, _, _, _, _, _, _, _, _, _, _, _, _, _, _, _, _, _, _, _, _, _, _, _, _, _, _, _, _, _, _, _, _, _, f 1, _, _, _, _, _, f 7, _, _, _, _, _, _, _, _, _, _, _, _, _, _, _, _, _, _, _, _, _, _, _, _, _, _, _, _, _, _, _, _, _], _⟩ _
              rw [show f 1 = _ from h1]
              replace h7 : (from2 0 (New1 W4.heap.size (line z))) (f 7) 0 w' := h7
              obtain ⟨u7, hu7⟩ : ∃ u, u = f 7 := ⟨_, rfl⟩
              rw [← hu7]
              rw [← hu7] at h7
              have HU7 : Hid (f 7 = u7) := Lib.hid hu7.symm
              clear hu7
              clear h1
              obtain ⟨gs, s, rfl, hrow, htv⟩ := h7.get
              obtain ⟨As9, cs9, qs9, e9, -⟩ := htv.form
              subst e9
              have HQ2 := Lib.hid (HPF4.out.grow hI.get0)
              have HTV := Lib.hid htv
              clear htv
              refine wpList_append_row rfl _ _ _ rfl B0 TY _ _ 3 40 Try.underlying32 iY iYz iYs iYb rfl (by decide) (.slice Av i cv) i (qs.map qcells).flatten rfl HQ2.out.own.row (some ⟨gs, 0, none⟩) 1 1 [.int .i64 (line z).kind, .int .i64 (line z).n, .slice As9 (line z).subs.length cs9] rfl hrow (one3 rfl) (by unfold maxLen; omega) (by omega) HQ2.out.sz ?_
              intro v1 w1 hown1 hgb1 hnb1
              have hap := HQ2.out.app (q := (line z, .slice As9 (line z).subs.length cs9)) HLT.out.1 HLT.out.2.1 HLT.out.2.2.1 HTV.out HPF4.out.sz HB1.out hgb1 hown1 hnb1
              exact hQ _ _ (two.one ⟨v1, _, hap⟩) trivial (from2.mk ⟨_, hap.own⟩) rfl
            refine obls2_cons (fun b hb1 hb2 f w' hI hH Q hQ => ?_) ?_
            · skip
              obtain rfl : b = 1 := by omega
              clear hb1 hb2
              clear hH
              refine wpList_view ?_; show wpList _ _ _ [_] ⟨#[_, _, _, _, _, _, _, _, _, _, _, _, _, _, _, _, _, _, _, _, _, _, _, _, _, _, _, _, _, _, _, _, _, _, _, _, _, _, _, _, _, _, _, _, _, _, _, _, _, _, _, _, _, _, _, _, _, _, _, _, _, _, _, _, _, _, _, _, _, _, _, _, _, _, _], _⟩ _
              repeat (first | go_guarded | go_step)
              exact hQ _ _ hI (Grow.refl _) rfl rfl
            exact obls2_nil
          case draw =>
            exact two.zero (Grow.drew _)
          case mono => exact ⟨Mono2.veq _, Mono2.veq _, Mono2.veq _, Mono2.veq _, Mono2.veq _, Mono2.veq _, Mono2.veq _, Mono2.from New1.mono, Mono2.from IsO.mono, Mono2.veq _, trivial⟩
          case tail =>
            intro f w' hI hH
            have q8 : (from2 1 (IsO B0 TY i qs (line z))) (f 8) 1 w' := hH.get 8 (42, 8) rfl
            have q9 := hH.get 9 (43, 9) rfl
            clear hH
            refine wpList_merge (idx := [none, none, none, none, none, none, none, none, none, none, none, none, none, none, none, none, none, none, none, none, none, none, none, none, none, none, none, none, none, none, none, none, none, none, some 0, some 1, some 2, some 3, some 4, some 5, some 6, some 7, some 8, some 9, none, none, none, none, none, none, none, none, none, none, none, none, none, none, none, none, none, none, none, none, none, none, none, none, none, none, none, none, none, none, none]) (by kernel_rfl) ?_; show wpList _ _ _ [_] ⟨#[_, _, _, _, _, _, _, _, _, _, _, _, _, _, _, _, _, _, _, _, _, _, _, _, _, _, _, _, _, _, _, _, _, _, f 0, f 1, f 2, f 3, f 4, f 5, f 6, f 7, f 8, f 9, _, _, _, _, _, _, _, _, _, _, _, _, _, _, _, _, _, _, _, _, _, _, _, _, _, _, _, _, _, _, _], _⟩ _
            rw [show f 9 = _ from q9]
            clear q9
            generalize f 8 = x8 at *
            obtain ⟨v1, s1, pf⟩ := hI.get1
            obtain ⟨s, ho⟩ := q8.get
            obtain ⟨A7, c7, rfl, -, -, -⟩ := own_form ho.row
            have hp7 : PF W1 B0 b4 b6 TY 3 (.slice Av i cv) (.slice A7 (i + 1) c7) (i + 1) (qs ++ [(line z, s)]) w' := ⟨pf.g, pf.sz, pf.r, pf.x, ho⟩
            have f7 := hp7.x.free 2
            have z7 := hp7.x.cell (i := 2) rfl
            have HF7 := Lib.hid (hp7.put HLT.out.2.1 HLT.out.2.2.2.1 HLT.out.2.2.2.2.1)
            clear pf ho hp7 hI q8
            go_wp2_with fail
            go_roundw
            case rel => exact ⟨i + 1, 3, _, qs ++ [(line z, s)], by have := HI.out; omega, by go_num, fun _ => rfl, HF7.out, by rw [List.map_append, HQS.out, takeS HZ.out, List.map_append]; rfl⟩
            case measure => have := HI.out; simp [intOf] <;> omega
        · obtain rfl : i = n := by omega
          have t1 : decide (i < i) = false := decide_eq_false hlt
          obtain rfl : kd = 3 := hkd h0
          rw [List.take_of_length_le (by rw [HLL.out]; exact Nat.le_refl _)] at hqs
          obtain ⟨Av, cv, rfl, -, -, -⟩ := own_form hpf.own.row
          have HPF := Lib.hid hpf
          have htv := hpf.own.tsV
          rw [hqs] at htv
          have HTV := Lib.hid htv
          clear hpf hqs htv hlt hi hkd
          go_wp2_with (first | (refine load_blk rfl _ _ rfl b6 rfl _ _ _ HPF.out.x undY rfl (by rw [sizeY]; rfl) ?_) | (refine store_blk rfl _ _ _ rfl b4 [.int .i64 3, .int .i64 0, .slice Av i cv] rfl rfl _ _ HPF.out.r (by rw [sizeY]; rfl) rfl rfl ?_))
          refine ret_blk rfl b4 _ [.int .i64 3, .int .i64 0, .slice Av i cv] _ rfl (HPF.out.r.setRow _) undY rfl (by rw [sizeY]; rfl) rfl ?_
          exact ⟨_, rfl, ⟨_, rfl, (HTV.out.move (w' := wa.setRow b4 [.int .i64 3, .int .i64 0, .slice Av i cv].toArray) fun k hk _ => setRow_other _ _ _ _ (by have := HLT.out.1; omega)).imp fun k hk => Nat.le_trans (Nat.le_trans HLT.out.2.2.2.2.2 HLT.out.2.2.1) hk⟩, Grow.setRow (HG1.out.trans HPF.out.g) (g := b4) H4W.out [.int .i64 3, .int .i64 0, .slice Av i cv].toArray⟩
    · have HSL : Hid (∀ i, (sideL N l i).length < n) := Lib.hid fun i => by rw [← hll]; exact side_lt HSYM.out (by omega) h2 i
      obtain rfl : tp = .mk 2 0 ((firsts N l).map (runT rec_ N l)) := HTP.out.trans (pieceT_fork (by rw [hll]; exact HN1.out) h2)
      clear h2 hll h0
      go_loopw [6] (fun i' wr => ∃ (i m : Nat) (u : Value) (qs : List (T × Value)), i ≤ n ∧ m ≤ i ∧ i' = .int .i64 (i : Int) ∧ PF W1 B0 b4 b6 TY 2 u u m qs wr ∧ qs.map Prod.fst = (firstsTo N l i).map (runT rec_ N l)) (fun i' _ => n - (intOf i').toNat)
      case atStart => exact ⟨0, 0, _, [], by omega, Nat.le_refl _, rfl, HPF.out, rfl⟩
      case round =>
        clear HPF
        obtain ⟨wa, rfl⟩ : ∃ wa, wa = wr := ⟨_, rfl⟩
        obtain ⟨i, m, u, qs, hi, hmi, rfl, hpf, hqs⟩ := hrel
        by_cases hlt : i < n
        · have t1 : decide (i < n) = true := decide_eq_true hlt
          have t1' : decide ((i : Int) < (n : Int)) = true := decide_eq_true (by omega)
          have hx2 := HX2.out.grow hpf.g
          have y0 := hx2.cell (i := 0) rfl
          have y1 := hx2.cell (i := 1) rfl
          have HCS := Lib.hid (HSD.out wa i hpf.g hlt)
          have HPF := Lib.hid hpf
          have HQS := Lib.hid hqs
          have HI := Lib.hid hlt
          have HMI := Lib.hid hmi
          have hi9 : i < n := hlt
          clear hx2 hpf hqs hi hlt hmi
          go_wp2_with fail
          refine HCS.out.mono ?_
          rintro e w3 ⟨us, rfl, hos, hg3⟩
          obtain ⟨As, cs, rfl, -, -, hrs⟩ := own_form hos
          rw [Nat.mul_one] at hrs
          have h0s : 0 < (sideL N l i).length := side_self (by rw [HLL.out]; exact HI.out)
          obtain ⟨bS, offS, x0, rfl, hx0, cx0⟩ := Go.Proofs.Ytbcifodifadoiaa.mkR.Row.nat_at hrs h0s
          rw [Nat.add_zero] at cx0
          have hhd := head_side HSYM.out (by rw [HLL.out]; exact HI.out) hx0
          have hsl := HSL.out i
          obtain ⟨L, hL⟩ : ∃ L, L = sideL N l i := ⟨_, rfl⟩
          obtain ⟨ls, hls⟩ : ∃ ls, ls = L.length := ⟨_, rfl⟩
          rw [← hL, ← hls] at hrs h0s hsl ⊢
          have sn : ((ls : Int) == (n : Int)) = false := beq_false_of_ne (by omega)
          have sn' : (ls == n) = false := beq_false_of_ne (by omega)
          have tz : decide (0 < ls) = true := decide_eq_true h0s
          have HPF3 := Lib.hid (HPF.out.grow hg3)
          have HRS := Lib.hid hrs
          have HLL2 := Lib.hid hL
          have HLS := Lib.hid hls
          have HLSN := Lib.hid hsl
          have h0s9 : 0 < ls := h0s
          cases hsn : seenTo N l i i
          · obtain rfl : x0 = i := hhd.2 hsn
            have sx : ((x0 : Int) == (x0 : Int)) = true := beq_self_eq_true _
            have sx2 : ((x0 : Int) != (x0 : Int)) = false := by unfold bne; rw [sx]; rfl
            have sx3 : (x0 != x0) = false := by unfold bne; rw [beq_self_eq_true]; rfl
            have HFN := Lib.hid (firstsTo_new hsn)
            clear hos hg3 hrs h0s hsl hL hls hhd hsn HCS y0 y1 hx0
            go_wp2_with fail
            clear sn sn' sx sx2 sx3 cx0
            go_loopw [8, 9] (fun s' k' w2 => ∃ (k : Nat) (v9 : Value), k ≤ ls ∧ k' = .int .i64 (k : Int) ∧ v9 = s' ∧ OwnI w2 w3.heap.size v9 ((runs N l x0).take k) ∧ Grow w3 w2) (fun _ k' _ => ls - (intOf k').toNat)
            case atStart => exact ⟨0, _, by omega, rfl, rfl, OwnI.nil _ _, Grow.refl _⟩
            case round =>
              obtain ⟨k, v9, hk, rfl, rfl, ho9, hg9⟩ := hrel
              by_cases hlk : k < ls
              · have t2 : decide (k < ls) = true := decide_eq_true hlk
                have t2' : decide ((k : Int) < (ls : Int)) = true := decide_eq_true (by omega)
                obtain ⟨b8, off8, x, e8, hx, cx⟩ := Go.Proofs.Ytbcifodifadoiaa.mkR.Row.nat_at (L := L) (by rw [← HLS.out]; exact HRS.out) (k := k) (by rw [← HLS.out]; exact hlk)
                injection e8 with e8
                injection e8 with e8 e9 _
                subst e8; subst e9
                have hxs : x ∈ sideL N l x0 := by rw [← HLL2.out]; exact List.mem_of_getElem? hx
                have hxn : x < n := by have := (mem_sideL.1 hxs).1; rwa [HLL.out] at this
                obtain ⟨bl, offl, z, rfl, hz, cz, okz⟩ := HL.out.at_ hxn
                have y1 := hg9.cell cx
                have y2 := ((HG1.out.trans HPF3.out.g).trans hg9).cell cz
                have hrk : (runs N l x0)[k]? = some z := runs_at (by rw [← HLL2.out]; exact hx) hz
                have htk : (runs N l x0).take (k + 1) = (runs N l x0).take k ++ [z] := takeS hrk
                obtain ⟨Q, hQ⟩ : ∃ Q, Q = (runs N l x0).take k := ⟨_, rfl⟩
                rw [← hQ] at ho9 htk
                have hQl : Q.length = k := by rw [hQ, List.length_take]; have := (List.getElem?_eq_some_iff.1 hrk).1; omega
                have ho8 : wr.ownsRow w3.heap.size 3 1 v9 k (Q.map iv) := by rw [← hQl]; exact ho9
                obtain ⟨Av, cv, rfl, -, -, -⟩ := own_form ho8
                have HO8 := Lib.hid ho8
                have HTK := Lib.hid htk
                have HQL := Lib.hid hQl
                have HG9 := Lib.hid hg9
                have HLK := Lib.hid hlk
                have hk9 : k < ls := hlk
                have hls9 : ls ≤ 1000 := by have := HLSN.out; omega
                have tx : decide (x < n) = true := decide_eq_true hxn
                have tx' : decide ((x : Int) < (n : Int)) = true := decide_eq_true (by omega)
                clear hk hx cx hxs hz cz okz hrk htk hQ hQl ho9 ho8 hg9 hlk
                go_wp2_with (at_builtin; refine wpList_append_row rfl _ _ _ rfl w3.heap.size 3 _ _ 1 8 Try.underlying23 iI iIz iIs iIb rfl (by decide) (.slice Av k cv) k (Q.map iv) rfl (own_grow HO8.out (Grow.alloc wr (.cells #[.int .i64 z] 3))) (some ⟨wr.heap.size, 0, none⟩) 1 1 [.int .i64 z] rfl (Row.new wr [.int .i64 z] 3 (0, 0)) one1 (by unfold maxLen; omega) (by omega) (Nat.le_trans HG9.out.size (Grow.alloc wr (.cells #[.int .i64 z] 3)).size) ?_; intro v1 w1 hown1 hgb1 hnb1; obtain ⟨Aw, cw, rfl, -, -, -⟩ := own_form hown1)
                have hoi : OwnI w1 w3.heap.size (.slice Aw (k + 1) cw) (Q ++ [z]) := OwnI.next (m := [z]) (by rw [HQL.out]; rfl) hown1
                have hgr := grow_by (HG9.out.trans (Grow.alloc wr (.cells #[.int .i64 z] 3))) hgb1 (own_base HO8.out)
                have HOI := Lib.hid hoi
                have HGR := Lib.hid hgr
                clear hown1 hgb1 hnb1 hoi hgr y1 y2 tx tx' hxn
                go_roundw
                case rel => exact ⟨k + 1, _, by have := HLK.out; omega, by go_num, rfl, by rw [HTK.out]; exact HOI.out, HGR.out⟩
                case measure => have := HLK.out; simp [intOf] <;> omega
              · obtain rfl : k = ls := by omega
                have t2 : decide (k < k) = false := decide_eq_false hlk
                rw [List.take_of_length_le (by rw [runs_len, ← HLL2.out, ← HLS.out]; exact Nat.le_refl _)] at ho9
                obtain ⟨A9, c9, rfl, hn9⟩ := ho9.nums fun z hz => HL.out.ok z (runs_mem hz)
                obtain ⟨n9, hn9l⟩ : ∃ n9, n9 = (runs N l x0).length := ⟨_, rfl⟩
                rw [← hn9l] at hn9 ⊢
                have HOF := Lib.hid (fun (w' : World) (hR : Grow wr w') => HIH.out (runs N l x0) (by rw [runs_len]; exact HSL.out x0) w' A9 n9 c9 (((HG1.out.trans HPF3.out.g).trans hg9).trans hR) (hn9.grow hR))
                have hpf := HPF3.out.grow hg9
                obtain ⟨Av, cv, rfl, -, -, -⟩ := own_form hpf.own.row
                have HP2 := Lib.hid hpf
                have HX9 := Lib.hid (HX2.out.grow hpf.g)
                have HB1 : Hid (∀ k, (Value.slice Av m cv).ownBlock = some k → k < wr.heap.size) := Lib.hid (ltOwn hpf.own.row)
                obtain ⟨tR, htR⟩ : ∃ tR, tR = runT rec_ N l x0 := ⟨_, rfl⟩
                have HTR := Lib.hid htR
                have hkd : tR.kind = 4 ∧ tR.n = 0 ∧ tR.subs = rec_ (runs N l x0) := by rw [htR]; exact ⟨rfl, rfl, rfl⟩
                have HKD := Lib.hid hkd
                have hm9 : m ≤ 1000 := by have := HMI.out; omega
                clear hk hlk ho9 hn9 hn9l hpf htR hkd hg9
                go_wp2_with fail
                apply (fun (v0 v1 v2 v3 v8 : Value) mono draw obl tail => wp_region_piv (I := two (Grow wr) (fun w1 => ∃ v1 s, PF W1 B0 b4 b6 TY 2 (.slice Av m cv) v1 (m + 1) (qs ++ [(tR, s)]) w1)) (G := Grow) (Rp := (fun _ _ _ => True)) (Φ := phi2 [veq2 v0, veq2 v1, veq2 v2, veq2 v3, (from2 0 (IsTs wr.heap.size tR.subs)), (from2 0 (IsT wr.heap.size tR)), (from2 0 (New1 wr.heap.size tR)), (from2 1 (IsO B0 TY m qs tR)), veq2 v8]) (m := 9) (ps := [7]) (qs := [(0, 0, false), (0, 0, false), (0, 0, false), (0, 0, false), (0, 0, false), (0, 0, false), (0, 0, false), (0, 0, true), (1, 1, false)]) (dls := [[], [(65, 0)], [], [], [(67, 2), (68, 3)], [(69, 4)], [(70, 5)], [(66, 1), (71, 6)], []]) (ds := [65, 66, 67, 68, 69, 70, 71, 72, 73]) (by kernel_rfl) (by kernel_rfl) (by kernel_rfl) (by decide) rfl rfl draw (mono2_phi mono) (piv2_phi mono) obl tail)
                case obl =>
                  refine obls2_cons (fun b hb1 hb2 f w' hI hH Q hQ => ?_) ?_
                  · skip
                    obtain rfl : b = 0 := by omega
                    clear hb1 hb2
                    clear hH
                    refine wpList_view ?_; show wpList _ _ _ [_] ⟨#[_, _, _, _, _, _, _, _, _, _, _, _, _, _, _, _, _, _, _, _, _, _, _, _, _, _, _, _, _, _, _, _, _, _, _, _, _, _, _, _, _, _, _, _, _, _, _, _, _, _, _, _, _, _, _, _, _, _, _, _, _, _, _, _, _, _, _, _, _, _, _, _, _, _, _], _⟩ _
                    repeat (first | go_guarded | go_step)
                    exact hQ _ _ hI (Grow.refl _) rfl rfl
                  refine obls2_cons (fun b hb1 hb2 f w' hI hH Q hQ => ?_) ?_
                  · skip
                    obtain rfl : b = 0 := by omega
                    clear hb1 hb2
                    have h0 := hH.get 0 (65, 0) rfl
                    clear hH
                    refine wpList_view ?_; show wpList _ _ _ [_] ⟨#[_, _, _, _, _, _, _, _, _, _, _, _, _, _, _, _, _, _, _, _, _, _, _, _, _, _, _, _, _, _, _, _, _, _, _, _, _, _, _, _, _, _, _, _, _, _, _, _, _, _, _, _, _, _, _, _, _, _, _, _, _, _, _, _, _, f 0, _, _, _, _, _, _, _, _, _], _⟩ _
                    rw [show f 0 = _ from h0]
                    clear h0
                    have y0 := (HP2.out.x.grow hI.get0).cell (i := 2) rfl
                    repeat (first | go_guarded | go_step)
                    exact hQ _ _ hI (Grow.refl _) rfl rfl
                  refine obls2_cons (fun b hb1 hb2 f w' hI hH Q hQ => ?_) ?_
                  · skip
                    obtain rfl : b = 0 := by omega
                    clear hb1 hb2
                    clear hH
                    refine wpList_view ?_; show wpList _ _ _ [_] ⟨#[_, _, _, _, _, _, _, _, _, _, _, _, _, _, _, _, _, _, _, _, _, _, _, _, _, _, _, _, _, _, _, _, _, _, _, _, _, _, _, _, _, _, _, _, _, _, _, _, _, _, _, _, _, _, _, _, _, _, _, _, _, _, _, _, _, _, _, _, _, _, _, _, _, _, _], _⟩ _
                    have y0 := (HX9.out.grow hI.get0).cell (i := 0) rfl
                    have y1 := (HX9.out.grow hI.get0).cell (i := 1) rfl
                    repeat (first | go_guarded | go_step)
                    exact hQ _ _ hI (Grow.refl _) rfl rfl
                  refine obls2_cons (fun b hb1 hb2 f w' hI hH Q hQ => ?_) ?_
                  · skip
                    obtain rfl : b = 0 := by omega
                    clear hb1 hb2
                    clear hH
                    refine wpList_view ?_; show wpList _ _ _ [_] ⟨#[_, _, _, _, _, _, _, _, _, _, _, _, _, _, _, _, _, _, _, _, _, _, _, _, _, _, _, _, _, _, _, _, _, _, _, _, _, _, _, _, _, _, _, _, _, _, _, _, _, _, _, _, _, _, _, _, _, _, _, _, _, _, _, _, _, _, _, _, _, _, _, _, _, _, _], _⟩ _
                    repeat (first | go_guarded | go_step)
                    exact hQ _ _ hI (Grow.refl _) rfl rfl
                  refine obls2_cons (fun b hb1 hb2 f w' hI hH Q hQ => ?_) ?_
                  · skip
                    obtain rfl : b = 0 := by omega
                    clear hb1 hb2
                    have h2 := hH.get 0 (67, 2) rfl
                    have h3 := hH.get 1 (68, 3) rfl
                    clear hH
                    refine wpList_view ?_; show wpList _ _ _ [_] ⟨#[_, _, _, _, _, _, _, _, _, _, _, _, _, _, _, _, _, _, _, _, _, _, _, _, _, _, _, _, _, _, _, _, _, _, _, _, _, _, _, _, _, _, _, _, _, _, _, _, _, _, _, _, _, _, _, _, _, _, _, _, _, _, _, _, _, _, _, f 2, f 3, _, _, _, _, _, _], _⟩ _
                    rw [show f 2 = _ from h2]
                    rw [show f 3 = _ from h3]
                    clear h2 h3
                    have HIg := Lib.hid hI
                    have HC := Lib.hid (HOF.out w' HIg.out.get0)
                    clear hI
                    go_wp2_with (go_at_call 11; refine HC.out.mono ?_; rintro e w1 ⟨v1, rfl, ho1, hg1⟩)
                    exact hQ _ _ (two.zero (HIg.out.get0.trans hg1)) hg1 (from2.mk (show TsV w1 (fun k => wr.heap.size ≤ k) v1 tR.subs by rw [HKD.out.2.2]; exact ho1.imp fun k hk => Nat.le_trans HIg.out.get0.size hk)) rfl
                  refine obls2_cons (fun b hb1 hb2 f w' hI hH Q hQ => ?_) ?_
                  · skip
                    obtain rfl : b = 0 := by omega
                    clear hb1 hb2
                    have h4 := hH.get 0 (69, 4) rfl
                    clear hH
                    refine wpList_view ?_; show wpList _ _ _ [_] ⟨#[_, _, _, _, _, _, _, _, _, _, _, _, _, _, _, _, _, _, _, _, _, _, _, _, _, _, _, _, _, _, _, _, _, _, _, _, _, _, _, _, _, _, _, _, _, _, _, _, _, _, _, _, _, _, _, _, _, _, _, _, _, _, _, _, _, _, _, _, _, f 4, _, _, _, _, _], _⟩ _
                    replace h4 : (from2 0 (IsTs wr.heap.size tR.subs)) (f 4) 0 w' := h4
                    obtain ⟨u4, hu4⟩ : ∃ u, u = f 4 := ⟨_, rfl⟩
                    rw [← hu4]
                    rw [← hu4] at h4
                    clear hu4
                    have HIg := Lib.hid hI
                    have h9 : TsV w' (fun k => wr.heap.size ≤ k) u4 tR.subs := h4.get
                    have H9 := Lib.hid h9
                    obtain ⟨As9, cs9, qs9, e9, -⟩ := h9.form
                    subst e9
                    clear hI h4 h9
                    repeat go_step
                    have e5 : Value.agg #[.int .i64 4, .int .i64 0, .slice As9 tR.subs.length cs9] = .agg #[.int .i64 tR.kind, .int .i64 tR.n, .slice As9 tR.subs.length cs9] := by rw [HKD.out.1, HKD.out.2.1]
                    exact hQ _ _ HIg.out (Grow.refl _) (from2.mk ⟨_, e5, H9.out⟩) rfl
                  refine obls2_cons (fun b hb1 hb2 f w' hI hH Q hQ => ?_) ?_
                  · skip
                    obtain rfl : b = 0 := by omega
                    clear hb1 hb2
                    have h5 := hH.get 0 (70, 5) rfl
                    clear hH
                    refine wpList_view ?_; show wpList _ _ _ [_] ⟨#[_, _, _, _, _, _, _, _, _, _, _, _, _, _, _, _, _, _, _, _, _, _, _, _, _, _, _, _, _, _, _, _, _, _, _, _, _, _, _, _, _, _, _, _, _, _, _, _, _, _, _, _, _, _, _, _, _, _, _, _, _, _, _, _, _, _, _, _, _, _, f 5, _, _, _, _], _⟩ _
                    replace h5 : (from2 0 (IsT wr.heap.size tR)) (f 5) 0 w' := h5
                    obtain ⟨u5, hu5⟩ : ∃ u, u = f 5 := ⟨_, rfl⟩
                    rw [← hu5]
                    rw [← hu5] at h5
                    clear hu5
                    obtain ⟨s, rfl, h9⟩ := h5.get
                    have HIg := Lib.hid hI
                    have H9 := Lib.hid h9
                    obtain ⟨As9, cs9, qs9, e9, -⟩ := h9.form
                    subst e9
                    clear hI h9 h5
                    go_wp2_with fail
                    exact hQ _ _ (two.zero (HIg.out.get0.trans (Grow.alloc _ _))) (Grow.alloc _ _) (from2.mk ⟨_, _, rfl, Row.new _ [.int .i64 tR.kind, .int .i64 tR.n, _] _ (0, 0), H9.out.grow (Grow.alloc _ _)⟩) rfl
                  refine oblsP_cons (fun f w' hI hH Q hQ => ?_) ?_
                  · skip
                    have h1 := hH.get 0 (66, 1) rfl
                    have h6 := hH.get 1 (71, 6) rfl
                    clear hH
                    refine wpList_view ?_; show wpList _ _ _ [_] ⟨#[_, _, _, _, _, _, _, _, _, _, _, _, _, _, _, _, _, _, _, _, _, _, _, _, _, _, _, _, _, _, _, _, _, _, _, _, _, _, _, _, _, _, _, _, _, _, _, _, _, _, _, _, _, _, _, _, _, _, _, _, _, _, _, _, _, _, f 1, _, _, _, _, f 6, _, _, _], _⟩ _
                    rw [show f 1 = _ from h1]
                    replace h6 : (from2 0 (New1 wr.heap.size tR)) (f 6) 0 w' := h6
                    obtain ⟨u6, hu6⟩ : ∃ u, u = f 6 := ⟨_, rfl⟩
                    rw [← hu6]
                    rw [← hu6] at h6
                    have HU6 : Hid (f 6 = u6) := Lib.hid hu6.symm
                    clear hu6
                    clear h1
                    obtain ⟨gs, s, rfl, hrow, htv⟩ := h6.get
                    obtain ⟨As9, cs9, qs9, e9, -⟩ := htv.form
                    subst e9
                    have HQ2 := Lib.hid (HP2.out.grow hI.get0)
                    have HTV := Lib.hid htv
                    clear htv
                    refine wpList_append_row rfl _ _ _ rfl B0 TY _ _ 3 40 Try.underlying32 iY iYz iYs iYb rfl (by decide) (.slice Av m cv) m (qs.map qcells).flatten rfl HQ2.out.own.row (some ⟨gs, 0, none⟩) 1 1 [.int .i64 tR.kind, .int .i64 tR.n, .slice As9 tR.subs.length cs9] rfl hrow (one3 rfl) (by unfold maxLen; omega) (by omega) HQ2.out.sz ?_
                    intro v1 w1 hown1 hgb1 hnb1
                    have hap := HQ2.out.app (q := (tR, .slice As9 tR.subs.length cs9)) HLT.out.1 HLT.out.2.1 HLT.out.2.2.1 HTV.out HP2.out.sz HB1.out hgb1 hown1 hnb1
                    exact hQ _ _ (two.one ⟨v1, _, hap⟩) trivial (from2.mk ⟨_, hap.own⟩) rfl
                  refine obls2_cons (fun b hb1 hb2 f w' hI hH Q hQ => ?_) ?_
                  · skip
                    obtain rfl : b = 1 := by omega
                    clear hb1 hb2
                    clear hH
                    refine wpList_view ?_; show wpList _ _ _ [_] ⟨#[_, _, _, _, _, _, _, _, _, _, _, _, _, _, _, _, _, _, _, _, _, _, _, _, _, _, _, _, _, _, _, _, _, _, _, _, _, _, _, _, _, _, _, _, _, _, _, _, _, _, _, _, _, _, _, _, _, _, _, _, _, _, _, _, _, _, _, _, _, _, _, _, _, _, _], _⟩ _
                    repeat (first | go_guarded | go_step)
                    exact hQ _ _ hI (Grow.refl _) rfl rfl
                  exact obls2_nil
                case draw =>
                  exact two.zero (Grow.drew _)
                case mono => exact ⟨Mono2.veq _, Mono2.veq _, Mono2.veq _, Mono2.veq _, Mono2.from IsTs.mono, Mono2.from IsT.mono, Mono2.from New1.mono, Mono2.from IsO.mono, Mono2.veq _, trivial⟩
                case tail =>
                  intro f w' hI hH
                  have q7 : (from2 1 (IsO B0 TY m qs tR)) (f 7) 1 w' := hH.get 7 (72, 7) rfl
                  have q8 := hH.get 8 (73, 8) rfl
                  clear hH
                  refine wpList_merge (idx := [none, none, none, none, none, none, none, none, none, none, none, none, none, none, none, none, none, none, none, none, none, none, none, none, none, none, none, none, none, none, none, none, none, none, none, none, none, none, none, none, none, none, none, none, none, none, none, none, none, none, none, none, none, none, none, none, none, none, none, none, none, none, none, none, none, some 0, some 1, some 2, some 3, some 4, some 5, some 6, some 7, some 8, none]) (by kernel_rfl) ?_; show wpList _ _ _ [_] ⟨#[_, _, _, _, _, _, _, _, _, _, _, _, _, _, _, _, _, _, _, _, _, _, _, _, _, _, _, _, _, _, _, _, _, _, _, _, _, _, _, _, _, _, _, _, _, _, _, _, _, _, _, _, _, _, _, _, _, _, _, _, _, _, _, _, _, f 0, f 1, f 2, f 3, f 4, f 5, f 6, f 7, f 8, _], _⟩ _
                  rw [show f 8 = _ from q8]
                  clear q8
                  generalize f 7 = x7 at *
                  obtain ⟨v1, s1, pf⟩ := hI.get1
                  obtain ⟨s, ho⟩ := q7.get
                  obtain ⟨A7, c7, rfl, -, -, -⟩ := own_form ho.row
                  have hp7 : PF W1 B0 b4 b6 TY 2 (.slice Av m cv) (.slice A7 (m + 1) c7) (m + 1) (qs ++ [(tR, s)]) w' := ⟨pf.g, pf.sz, pf.r, pf.x, ho⟩
                  have f7 := hp7.x.free 2
                  have z7 := hp7.x.cell (i := 2) rfl
                  have HF7 := Lib.hid (hp7.put HLT.out.2.1 HLT.out.2.2.2.1 HLT.out.2.2.2.2.1)
                  clear pf ho hp7 hI q7
                  go_wp2_with fail
                  go_roundw
                  case rel => exact ⟨x0 + 1, m + 1, _, qs ++ [(tR, s)], by have := HI.out; omega, by have := HMI.out; omega, by go_num, HF7.out, by rw [List.map_append, HQS.out, HFN.out, List.map_append, HTR.out]; rfl⟩
                  case measure => have := HI.out; simp [intOf] <;> omega
          · have hxi : x0 ≠ i := fun e => by rw [hhd.1 e] at hsn; cases hsn
            have sx : ((x0 : Int) == (i : Int)) = false := beq_false_of_ne (by omega)
            have sx2 : ((x0 : Int) != (i : Int)) = true := by unfold bne; rw [sx]; rfl
            have sx3 : (x0 != i) = true := bne_iff_ne.2 hxi
            have HFN := Lib.hid (firstsTo_old hsn)
            clear hos hg3 hrs h0s hsl hL hls hhd hsn HCS y0 y1 hx0 hxi
            go_wp2_with fail
            clear sn sn' sx sx2 sx3 cx0
            go_roundw
            case rel => exact ⟨i + 1, m, _, qs, by have := HI.out; omega, by have := HMI.out; omega, by go_num, HPF3.out, by rw [HQS.out, HFN.out]⟩
            case measure => have := HI.out; simp [intOf] <;> omega
        · obtain rfl : i = n := by omega
          have t1 : decide (i < i) = false := decide_eq_false hlt
          rw [show firstsTo N l i = firsts N l by rw [← HLL.out]; rfl] at hqs
          obtain ⟨Av, cv, rfl, -, -, -⟩ := own_form hpf.own.row
          have HPF := Lib.hid hpf
          have htv := hpf.own.tsV
          rw [hqs] at htv
          have HTV := Lib.hid htv
          clear hpf hqs htv hlt hi hmi
          go_wp2_with (first | (refine load_blk rfl _ _ rfl b6 rfl _ _ _ HPF.out.x undY rfl (by rw [sizeY]; rfl) ?_) | (refine store_blk rfl _ _ _ rfl b4 [.int .i64 2, .int .i64 0, .slice Av m cv] rfl rfl _ _ HPF.out.r (by rw [sizeY]; rfl) rfl rfl ?_))
          refine ret_blk rfl b4 _ [.int .i64 2, .int .i64 0, .slice Av m cv] _ rfl (HPF.out.r.setRow _) undY rfl (by rw [sizeY]; rfl) rfl ?_
          exact ⟨_, rfl, ⟨_, rfl, (HTV.out.move (w' := wa.setRow b4 [.int .i64 2, .int .i64 0, .slice Av m cv].toArray) fun k hk _ => setRow_other _ _ _ _ (by have := HLT.out.1; omega)).imp fun k hk => Nat.le_trans (Nat.le_trans HLT.out.2.2.2.2.2 HLT.out.2.2.1) hk⟩, Grow.setRow (HG1.out.trans HPF.out.g) (g := b4) H4W.out [.int .i64 2, .int .i64 0, .slice Av m cv].toArray⟩
end Go.Proofs.Ytbcifodifadoiaa.bk
