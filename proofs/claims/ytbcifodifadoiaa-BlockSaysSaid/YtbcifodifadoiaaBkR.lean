/- The walks of the document's near, cut, side (printed by gen_bkr.py). -/
import Derived.Test.YtbcifodifadoiaaBkK
import Derived.Test.YtbcifodifadoiaaReR4
namespace Go.Proofs.Ytbcifodifadoiaa.bk
open Go Go.RowKit Go.Par Go.Kit Go.Proofs.Ytbcifodifadoiaa.Bk Go.Proofs.Ytbcifodifadoiaa.reW Go.Proofs.Ytbcifodifadoiaa.mkW Go.Proofs.Ytbcifodifadoiaa.Re

/-- a place's side, closed over by rounds -/
def full (N : Int → Int → Bool) (l : List Int) (a : Nat) (S : Nat → Bool) : Prop := ∀ k, k < l.length → Cn N l a k → S k = true
def cnt (n : Nat) (S : Nat → Bool) : Nat := ((List.range n).filter S).length
theorem cnt_le (n : Nat) (S : Nat → Bool) : cnt n S ≤ n := by
  have := List.length_filter_le S (List.range n)
  rwa [List.length_range] at this
theorem filter_more {S S' : Nat → Bool} : ∀ L : List Nat, (∀ x ∈ L, S x = true → S' x = true) → (L.filter S).length ≤ (L.filter S').length ∧ ((L.filter S').length ≤ (L.filter S).length → ∀ x ∈ L, S' x = true → S x = true)
  | [], _ => ⟨Nat.le_refl _, fun _ x hx => by cases hx⟩
  | y :: L, h => by
    obtain ⟨h1, h2⟩ := filter_more L fun x hx => h x (List.mem_cons_of_mem _ hx)
    have hy := h y List.mem_cons_self
    cases hs : S y with
    | true =>
      rw [List.filter_cons_of_pos hs, List.filter_cons_of_pos (hy hs)]
      simp only [List.length_cons]
      refine ⟨by omega, fun h3 x hx hx2 => ?_⟩
      rcases List.mem_cons.1 hx with rfl | hx
      · exact hs
      · exact h2 (by omega) x hx hx2
    | false =>
      rw [List.filter_cons_of_neg (by rw [hs]; decide)]
      cases hs' : S' y with
      | true =>
        rw [List.filter_cons_of_pos hs']
        simp only [List.length_cons]
        exact ⟨by omega, fun h3 => by omega⟩
      | false =>
        rw [List.filter_cons_of_neg (by rw [hs']; decide)]
        refine ⟨h1, fun h3 x hx hx2 => ?_⟩
        rcases List.mem_cons.1 hx with rfl | hx
        · rw [hs'] at hx2; cases hx2
        · exact h2 h3 x hx hx2
structure Clo (N : Int → Int → Bool) (l : List Int) (a : Nat) (S : Nat → Bool) : Prop where
  sub : ∀ k, k < l.length → S k = true → Cn N l a k
  at_ : S a = true
def Ok (N : Int → Int → Bool) (l : List Int) (a r : Nat) (S : Nat → Bool) : Prop := r + 1 ≤ cnt l.length S ∨ full N l a S
structure Rnd (N : Int → Int → Bool) (l : List Int) (a : Nat) (S0 S : Nat → Bool) (i k : Nat) : Prop where
  clo : Clo N l a S
  le : ∀ j, S0 j = true → S j = true
  done : ∀ i', i' < i → i' < l.length → S0 i' = true → ∀ k', k' < l.length → nr N l i' k' = true → S k' = true
  part : S0 i = true → ∀ k', k' < k → nr N l i k' = true → S k' = true
theorem Rnd.start {N : Int → Int → Bool} {l : List Int} {a : Nat} {S : Nat → Bool} (h : Clo N l a S) : Rnd N l a S S 0 0 := ⟨h, fun _ h => h, fun i' h => absurd h (by omega), fun _ k' h => absurd h (by omega)⟩
theorem Rnd.skip {N : Int → Int → Bool} {l : List Int} {a : Nat} {S0 S : Nat → Bool} {i k : Nat} (h : Rnd N l a S0 S i k) (hk : S i = true → nr N l i k = true → S k = true) : Rnd N l a S0 S i (k + 1) :=
  ⟨h.clo, h.le, h.done, fun h0 k' hk' hn => by
    rcases Nat.lt_or_ge k' k with h3 | h3
    · exact h.part h0 k' h3 hn
    · obtain rfl : k' = k := by omega
      exact hk (h.le i h0) hn⟩
theorem Rnd.mark {N : Int → Int → Bool} {l : List Int} {a : Nat} {S0 S : Nat → Bool} {i k : Nat} (h : Rnd N l a S0 S i k) (hi : i < l.length) (hl : k < l.length) (hs : S i = true) (hn : nr N l i k = true) : Rnd N l a S0 (fun j => S j || j == k) i (k + 1) := by
  refine ⟨⟨fun j hj hs2 => ?_, by rw [h.clo.at_]; rfl⟩, fun j hj => by rw [h.le j hj]; rfl, fun i' h1 h2 h3 k' h4 h5 => by rw [h.done i' h1 h2 h3 k' h4 h5]; rfl, fun h0 k' hk' hn2 => ?_⟩
  · rw [Bool.or_eq_true, beq_iff_eq] at hs2
    rcases hs2 with hs2 | rfl
    · exact h.clo.sub j hj hs2
    · exact .step (h.clo.sub i hi hs) hi hl hn
  · rcases Nat.lt_or_ge k' k with h3 | h3
    · rw [h.part h0 k' h3 hn2]; rfl
    · obtain rfl : k' = k := by omega
      simp
theorem Rnd.next {N : Int → Int → Bool} {l : List Int} {a : Nat} {S0 S : Nat → Bool} {i k : Nat} (h : Rnd N l a S0 S i k) (hk : l.length ≤ k) : Rnd N l a S0 S (i + 1) 0 :=
  ⟨h.clo, h.le, fun i' h1 h2 h3 k' h4 h5 => by
    rcases Nat.lt_or_ge i' i with h6 | h6
    · exact h.done i' h6 h2 h3 k' h4 h5
    · obtain rfl : i' = i := by omega
      exact h.part h3 k' (by omega) h5, fun _ k' h => absurd h (by omega)⟩
theorem Rnd.end_ {N : Int → Int → Bool} {l : List Int} {a r : Nat} {S0 S : Nat → Bool} {i : Nat} (h : Rnd N l a S0 S i 0) (ha : a < l.length) (hi : l.length ≤ i) (hok : Ok N l a r S0) : Ok N l a (r + 1) S := by
  rcases hok with hok | hok
  · obtain ⟨h1, h2⟩ := filter_more (List.range l.length) fun x _ hx => h.le x hx
    by_cases h3 : r + 2 ≤ cnt l.length S
    · exact .inl h3
    · refine .inr fun k hk hc => ?_
      have h4 := h2 (by unfold cnt at hok h3; omega)
      refine h.le k ?_
      induction hc with
      | refl => exact h4 a (List.mem_range.2 ha) h.clo.at_
      | @step j k hc hj hk2 hn ih => exact h4 k (List.mem_range.2 hk) (h.done j (by omega) hj (ih hj) k hk hn)
  · exact .inr fun k hk hc => h.le k (hok k hk hc)
theorem Ok.conn {N : Int → Int → Bool} {l : List Int} {a : Nat} {S : Nat → Bool} (h : Ok N l a l.length S) (hc : Clo N l a S) : (List.range l.length).filter S = sideL N l a := by
  have hf : full N l a S := by
    rcases h with h | h
    · have := cnt_le l.length S; omega
    · exact h
  unfold sideL
  refine List.filter_congr fun k hk => ?_
  rw [Bool.eq_iff_iff, conn_iff]
  exact ⟨hc.sub k (List.mem_range.1 hk), hf k (List.mem_range.1 hk)⟩
def boolsL (n : Nat) (S : Nat → Bool) : List Value := (List.range n).map fun k => .bool (S k)
theorem boolsL_at {n k : Nat} {S : Nat → Bool} (hk : k < n) : (boolsL n S)[k]? = some (.bool (S k)) := by simp [boolsL, hk]
theorem boolsL_set {n k : Nat} {S : Nat → Bool} : (boolsL n S).set k (.bool true) = boolsL n fun j => S j || j == k := by
  refine List.ext_getElem? fun i => ?_
  rw [List.getElem?_set]
  by_cases hi : i < n
  · rw [boolsL_at hi, boolsL_at hi]
    by_cases h : k = i
    · subst h
      have : k < (boolsL n S).length := by simp [boolsL]; exact hi
      rw [if_pos rfl, if_pos this]
      simp
    · have : (i == k) = false := beq_false_of_ne fun e => h e.symm
      simp [h, this]
  · rw [List.getElem?_eq_none (by simp [boolsL]; omega), List.getElem?_eq_none (by simp [boolsL]; omega)]
    simp [boolsL]
    omega
theorem boolsL_new (n : Nat) : (Array.replicate n (.bool false) : Array Value) = (boolsL n fun _ => false).toArray := by
  apply Array.ext_getElem?
  intro i
  by_cases hi : i < n
  · simp [boolsL, hi]
  · simp [boolsL, hi]
theorem infoBo : (Try.prog.info? 4).isSome = true := by kernel_rfl
theorem iBo : Try.prog.info? 4 = some ((Try.prog.info? 4).get infoBo) := by simp
theorem iBos : ((Try.prog.info? 4).get infoBo).size = 1 := by kernel_rfl
theorem iBoz : ((Try.prog.info? 4).get infoBo).zero = some (.bool false) := by kernel_rfl
theorem iBob : ((Try.prog.info? 4).get infoBo).bytes = 1 := by kernel_rfl
/-- the places of a side, while it is closed over -/
structure SS (w : World) (b0 bs n : Nat) (cs0 : List Value) (S : Nat → Bool) (wr : World) : Prop where
  g : Grow w wr
  bx : Blk wr b0 TX8 cs0
  bl : Blk wr bs 4 (boolsL n S)
theorem SS.grow {w wr w' : World} {b0 bs n : Nat} {cs0 : List Value} {S : Nat → Bool} (h : SS w b0 bs n cs0 S wr) (hg : Grow wr w') : SS w b0 bs n cs0 S w' := ⟨h.g.trans hg, h.bx.grow hg, h.bl.grow hg⟩
theorem SS.mark {w wr : World} {b0 bs n k : Nat} {cs0 : List Value} {S : Nat → Bool} (h : SS w b0 bs n cs0 S wr) (hb : w.heap.size ≤ bs) (hne : b0 ≠ bs) : SS w b0 bs n cs0 (fun j => S j || j == k) (wr.setCell ⟨bs, k, none⟩ (.bool true)) :=
  ⟨Grow.set_ h.g (p := ⟨bs, k, none⟩) hb _, h.bx.far (p := ⟨bs, k, none⟩) hne _, by rw [← boolsL_set]; exact h.bl.set_ k _⟩
set_option maxHeartbeats 1000000 in
theorem ref_near (w : World) (M : Int) (v : Value) (L : List (Nat × Nat)) (hv : RefV w v L) (hL : L.length ≤ 1000000) (i j : Int) :
    Calls Try.prog 47 #[.agg #[.int .i64 M, v], .int .i64 i, .int .i64 j] w fun e w' => e = .returned (.bool (nearI (leadB L) i j)) ∧ Grow w w' := by
  have HV := Lib.hid hv
  obtain ⟨A, c, rfl, -⟩ := hv
  obtain ⟨l, hl⟩ : ∃ l, l = L.length := ⟨_, rfl⟩
  rw [← hl] at HV ⊢
  obtain ⟨W1, hW1⟩ : ∃ W, W = w.alloc (.cells #[.int .i64 M, .slice A l c] TX8) := ⟨_, rfl⟩
  obtain ⟨b0, hb0⟩ : ∃ b, b = w.heap.size := ⟨_, rfl⟩
  have hg1 : Grow w W1 := by rw [hW1]; exact Grow.alloc _ _
  have hbx : Blk W1 b0 TX8 [.int .i64 M, .slice A l c] := by rw [hW1]; exact Blk.new w _ _ _ rfl hb0
  have HBX := Lib.hid hbx
  obtain ⟨a, ha⟩ : ∃ a, a = leadI (leadB L) i j := ⟨_, rfl⟩
  obtain ⟨b, hb⟩ : ∃ a, a = leadI (leadB L) j i := ⟨_, rfl⟩
  have HA := Lib.hid (ref_hasr W1 M _ L (HV.out.grow hg1) hL i j)
  have HB : Hid (∀ w', Grow W1 w' → Calls Try.prog 46 #[.agg #[.int .i64 M, .slice A l c], .int .i64 j, .int .i64 i] w' fun e w2 => e = .returned (.bool b) ∧ Grow w' w2) := Lib.hid fun w' hg => by
    rw [hb]; exact ref_hasr w' M _ L (HV.out.grow (hg1.trans hg)) hL j i
  rw [← ha] at HA
  unfold nearI
  rw [← ha, ← hb]
  have HG1 := Lib.hid hg1
  have HW1 := Lib.hid hW1
  have HB0 := Lib.hid hb0
  clear hl hW1 hb0 hg1 hL ha hb HV
  cases a
  · go_enter Try.func47, Try.ntmps47
    go_wp2_with fail
    rw [← HW1.out, ← HB0.out]
    go_wp2_with (refine load_blk rfl _ _ rfl b0 rfl _ _ _ hbx und8 rfl (by rw [size8]; rfl) ?_)
    refine HA.out.mono ?_
    rintro e w2 ⟨rfl, hg2⟩
    have hbx2 := HBX.out.grow hg2
    have HB2 := Lib.hid (HB.out w2 hg2)
    have HG2 := Lib.hid (HG1.out.trans hg2)
    clear hg2
    go_wp2_with (refine load_blk rfl _ _ rfl b0 rfl _ _ _ hbx2 und8 rfl (by rw [size8]; rfl) ?_)
    refine HB2.out.mono ?_
    rintro e w3 ⟨rfl, hg3⟩
    have HG3 := Lib.hid (HG2.out.trans hg3)
    clear hg3
    go_wp2_with fail
    go_ret
    exact ⟨by cases b <;> rfl, HG3.out⟩
  · go_enter Try.func47, Try.ntmps47
    go_wp2_with fail
    rw [← HW1.out, ← HB0.out]
    go_wp2_with (refine load_blk rfl _ _ rfl b0 rfl _ _ _ hbx und8 rfl (by rw [size8]; rfl) ?_)
    refine HA.out.mono ?_
    rintro e w2 ⟨rfl, hg2⟩
    have HG2 := Lib.hid (HG1.out.trans hg2)
    clear hg2
    go_wp2_with fail
    go_ret
    exact ⟨rfl, HG2.out⟩
set_option maxRecDepth 100000 in
set_option maxHeartbeats 1000000 in
theorem ref_cut (w : World) (M : Int) (v : Value) (L : List (Nat × Nat)) (hv : RefV w v L) (hL : L.length ≤ 1000000) (A : Option Addr) (len c : Nat) (l : List Int) (hl : Nums w A len c l) (i : Nat) (hi : i ≤ len) :
    Calls Try.prog 29 #[.agg #[.int .i64 M, v], .slice A len c, .int .i64 (i : Int)] w fun e w' => e = .returned (.bool (cutB (aheadI (leadB L)) l i)) ∧ Grow w w' := by
  have HV := Lib.hid hv
  obtain ⟨A0, c0, rfl, -⟩ := hv
  obtain ⟨l0, hl0⟩ : ∃ l, l = L.length := ⟨_, rfl⟩
  rw [← hl0] at HV ⊢
  obtain ⟨W1, hW1⟩ : ∃ W, W = w.alloc (.cells #[.int .i64 M, .slice A0 l0 c0] TX8) := ⟨_, rfl⟩
  obtain ⟨b0, hb0⟩ : ∃ b, b = w.heap.size := ⟨_, rfl⟩
  have hg1 : Grow w W1 := by rw [hW1]; exact Grow.alloc _ _
  have hbx : Blk W1 b0 TX8 [.int .i64 M, .slice A0 l0 c0] := by rw [hW1]; exact Blk.new w _ _ _ rfl hb0
  obtain ⟨B, hB⟩ : ∃ B, B = aheadI (leadB L) := ⟨_, rfl⟩
  have HBE : Hid (∀ w' x y, Grow w w' → Calls Try.prog 41 #[.agg #[.int .i64 M, .slice A0 l0 c0], .int .i64 x, .int .i64 y] w' fun e w2 => e = .returned (.bool (B x y)) ∧ Grow w' w2) := Lib.hid fun w' x y hg => by
    rw [hB]; exact ref_before w' M _ L (HV.out.grow hg) hL x y
  rw [← hB]
  obtain ⟨r, hr⟩ : ∃ r, r = cutB B l i := ⟨_, rfl⟩
  rw [← hr]
  have hc := hl.nc
  have hm := hl.cm
  unfold maxLen at hm
  have hlen9 : len ≤ 9223372036854775807 := by omega
  have HR := Lib.hid hr
  have HL := Lib.hid hl
  have HI := Lib.hid hi
  have HBX := Lib.hid hbx
  have HG1 := Lib.hid hg1
  have HW1 := Lib.hid hW1
  have HB0 := Lib.hid hb0
  have hi9 : i ≤ 9223372036854775807 := by omega
  clear hl0 hW1 hb0 hg1 hL hB hr hl hi hbx HV hc hm
  go_enter Try.func29, Try.ntmps29
  go_wp2_with fail
  rw [← HW1.out, ← HB0.out]
  go_loopw [7] (fun k' wr => ∃ k : Nat, k ≤ i ∧ k' = .int .i64 (k : Int) ∧ Grow W1 wr ∧ ∀ (k' : Nat) (x : Int), k' < k → l[k']? = some x → ∀ (m : Nat) (y : Int), (l.drop i)[m]? = some y → B x y = true) (fun k' _ => i - (intOf k').toNat)
  case atStart => exact ⟨0, by omega, rfl, Grow.refl _, fun k' x h => absurd h (by omega)⟩
  case round =>
    obtain ⟨wa, rfl⟩ : ∃ wa, wa = wr := ⟨_, rfl⟩
    obtain ⟨k, hk, rfl, hg, hal⟩ := hrel
    have HG := Lib.hid hg
    have HAL := Lib.hid hal
    clear hg hal
    by_cases hlt : k < i
    · have t1 : decide (k < i) = true := decide_eq_true hlt
      have t1' : decide ((k : Int) < (i : Int)) = true := decide_eq_true (by omega)
      have HLT := Lib.hid hlt
      have hkk : k < i := hlt
      clear hk hlt
      go_wp2_with fail
      go_loopw [8] (fun m' wr => ∃ m : Nat, i ≤ m ∧ m ≤ len ∧ m' = .int .i64 (m : Int) ∧ Grow W1 wr ∧ ∀ (x : Int), l[k]? = some x → ∀ (m' : Nat) (y : Int), i + m' < m → (l.drop i)[m']? = some y → B x y = true) (fun m' _ => len - (intOf m').toNat)
      case atStart => exact ⟨i, Nat.le_refl _, HI.out, rfl, HG.out, fun x _ m' y h => absurd h (by omega)⟩
      case round =>
        obtain ⟨m, him, hm, rfl, hg, ham⟩ := hrel
        have HAM := Lib.hid ham
        clear ham
        by_cases hlm : m < len
        · have t2 : decide (m < len) = true := decide_eq_true hlm
          have t2' : decide ((m : Int) < (len : Int)) = true := decide_eq_true (by omega)
          have hkl : k < len := by have := HLT.out; omega
          obtain ⟨bl, offl, x, y, rfl, hx, hy, cx, cy, -, -⟩ := HL.out.at2 hkl hlm
          have HGm := Lib.hid hg
          have hgw := HG1.out.trans hg
          have HCX := Lib.hid (hgw.cell cx)
          have HCY := Lib.hid (hgw.cell cy)
          have HBX2 := Lib.hid (HBX.out.grow hg)
          have HC := Lib.hid (fun (w' : World) (hR : Grow wr w') => HBE.out w' x y (hgw.trans hR))
          obtain ⟨q, hq⟩ : ∃ q, q = B x y := ⟨_, rfl⟩
          rw [← hq] at HC
          have HQ := Lib.hid hq
          have HX := Lib.hid hx
          have HY := Lib.hid hy
          have HLM := Lib.hid (And.intro hkl hlm)
          have HIM := Lib.hid him
          have hm9 : m < len := hlm
          clear hx hy cx cy hg hgw hq him hm hlm hkl
          go_wp2_with fail
          apply (fun (v0 v1 v2 v3 v4 v5 v6 v7 v8 v9 v10 : Value) mono obl tail => wp_region_par (R := Grow) (Φ := phi [veq v0, veq v1, veq v2, veq v3, veq v4, veq v5, veq v6, veq v7, veq v8, veq v9, veq v10]) (m := 11) (dls := [[], [], [], [(22, 1), (23, 2)], [(24, 3)], [], [], [(26, 5), (27, 6)], [(28, 7)], [(21, 0), (25, 4), (29, 8)], [(30, 9)]]) (ds := [21, 22, 23, 24, 25, 26, 27, 28, 29, 30, 31]) (by kernel_rfl) (by kernel_rfl) (by decide) rfl (Grow.drew _) (fun _ _ _ => Grow.trans) (mono_phi mono) obl tail)
          case obl =>
            refine obls_frame (fun a1 ha => ?_)
            have hsz := rd_size (n := 32) ha rfl
            have e3 := rd_slot 3 ha rfl
            have e1 := rd_slot 1 ha rfl
            have e7 := rd_slot 7 ha rfl
            have e8 := rd_slot 8 ha rfl
            clear ha
            refine obls_cons (fun f w' hR hH Q0 hQ0 => ?_) ?_
            · skip
              have s3 := sv_off f [] e3 rfl
              refine small_v hsz [(3, _)] ⟨some 1, (Op.load 28 (.tmp 0)), 28, "", #[], none⟩ [_, undef] 1 rfl rfl ⟨s3, trivial⟩ rfl rfl hQ0 ?_
              clear hQ0 hH s3
              intro Q hQ
              have y0 := (HBX2.out.grow hR).cell (i := 0) rfl
              have y1 := (HBX2.out.grow hR).cell (i := 1) rfl
              repeat go_step
              exact hQ _ _ (Grow.refl _) rfl rfl
            refine obls_cons (fun f w' hR hH Q0 hQ0 => ?_) ?_
            · skip
              have s1 := sv_off f [] e1 rfl
              refine small_v hsz [(1, _)] ⟨some 1, (Op.move (.tmp 0)), 23, "", #[], none⟩ [_, undef] 1 rfl rfl ⟨s1, trivial⟩ rfl rfl hQ0 ?_
              clear hQ0 hH s1
              intro Q hQ
              repeat go_step
              exact hQ _ _ (Grow.refl _) rfl rfl
            refine obls_cons (fun f w' hR hH Q0 hQ0 => ?_) ?_
            · skip
              have s7 := sv_off f [] e7 rfl
              refine small_v hsz [(7, _)] ⟨some 1, (Op.move (.tmp 0)), 3, "", #[], none⟩ [_, undef] 1 rfl rfl ⟨s7, trivial⟩ rfl rfl hQ0 ?_
              clear hQ0 hH s7
              intro Q hQ
              repeat go_step
              exact hQ _ _ (Grow.refl _) rfl rfl
            refine obls_cons (fun f w' hR hH Q0 hQ0 => ?_) ?_
            · skip
              have s22 := (sv_at 22 1 hsz f [(22, 1), (23, 2)] rfl).trans (show f 1 = _ from hH.get 0 (22, 1) rfl)
              have s23 := (sv_at 23 2 hsz f [(22, 1), (23, 2)] rfl).trans (show f 2 = _ from hH.get 1 (23, 2) rfl)
              refine small_v hsz [(22, _), (23, _)] ⟨some 2, (Op.indexAddr 23 (.tmp 0) (.tmp 1)), 0, "", #[], none⟩ [_, _, undef] 2 rfl rfl ⟨s22, s23, trivial⟩ rfl rfl hQ0 ?_
              clear hQ0 hH s22 s23
              intro Q hQ
              have hkl := HLM.out.1
              repeat go_step
              exact hQ _ _ (Grow.refl _) rfl rfl
            refine obls_cons (fun f w' hR hH Q0 hQ0 => ?_) ?_
            · skip
              have s24 := (sv_at 24 3 hsz f [(24, 3)] rfl).trans (show f 3 = _ from hH.get 0 (24, 3) rfl)
              refine small_v hsz [(24, _)] ⟨some 1, (Op.load 3 (.tmp 0)), 3, "", #[], none⟩ [_, undef] 1 rfl rfl ⟨s24, trivial⟩ rfl rfl hQ0 ?_
              clear hQ0 hH s24
              intro Q hQ
              have y0 := hR.cell HCX.out
              repeat go_step
              exact hQ _ _ (Grow.refl _) rfl rfl
            refine obls_cons (fun f w' hR hH Q0 hQ0 => ?_) ?_
            · skip
              have s1 := sv_off f [] e1 rfl
              refine small_v hsz [(1, _)] ⟨some 1, (Op.move (.tmp 0)), 23, "", #[], none⟩ [_, undef] 1 rfl rfl ⟨s1, trivial⟩ rfl rfl hQ0 ?_
              clear hQ0 hH s1
              intro Q hQ
              repeat go_step
              exact hQ _ _ (Grow.refl _) rfl rfl
            refine obls_cons (fun f w' hR hH Q0 hQ0 => ?_) ?_
            · skip
              have s8 := sv_off f [] e8 rfl
              refine small_v hsz [(8, _)] ⟨some 1, (Op.move (.tmp 0)), 3, "", #[], none⟩ [_, undef] 1 rfl rfl ⟨s8, trivial⟩ rfl rfl hQ0 ?_
              clear hQ0 hH s8
              intro Q hQ
              repeat go_step
              exact hQ _ _ (Grow.refl _) rfl rfl
            refine obls_cons (fun f w' hR hH Q0 hQ0 => ?_) ?_
            · skip
              have s26 := (sv_at 26 5 hsz f [(26, 5), (27, 6)] rfl).trans (show f 5 = _ from hH.get 0 (26, 5) rfl)
              have s27 := (sv_at 27 6 hsz f [(26, 5), (27, 6)] rfl).trans (show f 6 = _ from hH.get 1 (27, 6) rfl)
              refine small_v hsz [(26, _), (27, _)] ⟨some 2, (Op.indexAddr 23 (.tmp 0) (.tmp 1)), 0, "", #[], none⟩ [_, _, undef] 2 rfl rfl ⟨s26, s27, trivial⟩ rfl rfl hQ0 ?_
              clear hQ0 hH s26 s27
              intro Q hQ
              have hml := HLM.out.2
              repeat go_step
              exact hQ _ _ (Grow.refl _) rfl rfl
            refine obls_cons (fun f w' hR hH Q0 hQ0 => ?_) ?_
            · skip
              have s28 := (sv_at 28 7 hsz f [(28, 7)] rfl).trans (show f 7 = _ from hH.get 0 (28, 7) rfl)
              refine small_v hsz [(28, _)] ⟨some 1, (Op.load 3 (.tmp 0)), 3, "", #[], none⟩ [_, undef] 1 rfl rfl ⟨s28, trivial⟩ rfl rfl hQ0 ?_
              clear hQ0 hH s28
              intro Q hQ
              have y0 := hR.cell HCY.out
              repeat go_step
              exact hQ _ _ (Grow.refl _) rfl rfl
            refine obls_cons (fun f w' hR hH Q0 hQ0 => ?_) ?_
            · skip
              have s21 := (sv_at 21 0 hsz f [(21, 0), (25, 4), (29, 8)] rfl).trans (show f 0 = _ from hH.get 0 (21, 0) rfl)
              have s25 := (sv_at 25 4 hsz f [(21, 0), (25, 4), (29, 8)] rfl).trans (show f 4 = _ from hH.get 1 (25, 4) rfl)
              have s29 := (sv_at 29 8 hsz f [(21, 0), (25, 4), (29, 8)] rfl).trans (show f 8 = _ from hH.get 2 (29, 8) rfl)
              refine small_v hsz [(21, _), (25, _), (29, _)] ⟨some 3, (Op.call (Call.mk (Callee.value (Operand.func 41)) #[(.tmp 0), (.tmp 1), (.tmp 2)] #[28, 3, 3])), 4, "", #[], none⟩ [_, _, _, undef] 3 rfl rfl ⟨s21, s25, s29, trivial⟩ rfl (ren_call rfl rfl) hQ0 ?_
              clear hQ0 hH s21 s25 s29
              intro Q hQ
              go_wp2_with (go_at_call 41; refine ((HC.out w' hR)).mono ?_; rintro e w1 ⟨rfl, hg1⟩)
              exact hQ _ _ hg1 rfl rfl
            refine obls_cons (fun f w' hR hH Q0 hQ0 => ?_) ?_
            · skip
              have s30 := (sv_at 30 9 hsz f [(30, 9)] rfl).trans (show f 9 = _ from hH.get 0 (30, 9) rfl)
              refine small_v hsz [(30, _)] ⟨some 1, (Op.unOp UnOp.not 4 (.tmp 0)), 4, "", #[], none⟩ [_, undef] 1 rfl rfl ⟨s30, trivial⟩ rfl rfl hQ0 ?_
              clear hQ0 hH s30
              intro Q hQ
              repeat go_step
              exact hQ _ _ (Grow.refl _) rfl rfl
            exact obls_nil
          case mono => exact ⟨Mono.veq _, Mono.veq _, Mono.veq _, Mono.veq _, Mono.veq _, Mono.veq _, Mono.veq _, Mono.veq _, Mono.veq _, Mono.veq _, Mono.veq _, trivial⟩
          case tail =>
            intro f w' hR hH
            have q10 := hH.get 10 (31, 10) rfl
            clear hH
            refine wpList_merge (idx := [none, none, none, none, none, none, none, none, none, none, none, none, none, none, none, none, none, none, none, none, none, some 0, some 1, some 2, some 3, some 4, some 5, some 6, some 7, some 8, some 9, some 10]) (by kernel_rfl) ?_; show wpList _ _ _ [] ⟨#[_, _, _, _, _, _, _, _, _, _, _, _, _, _, _, _, _, _, _, _, _, f 0, f 1, f 2, f 3, f 4, f 5, f 6, f 7, f 8, f 9, f 10], _⟩ _
            rw [show f 10 = _ from q10]
            clear q10
            have HG9 := Lib.hid (HGm.out.trans hR)
            clear hR
            cases q
            · go_wp2_with fail
              go_ret
              rw [show r = false from HR.out.trans (cutB_no (m := m - i) HLT.out HX.out (by rw [List.getElem?_drop, show i + (m - i) = m by have := HIM.out; omega]; exact HY.out) HQ.out.symm)]
              exact ⟨rfl, HG1.out.trans HG9.out⟩
            · go_wp2_with fail
              go_roundw
              case rel =>
                refine ⟨m + 1, by have := HIM.out; omega, by have := HLM.out.2; omega, by go_num, HG9.out, fun x' hx' m' y' hm' hy' => ?_⟩
                rcases Nat.lt_or_ge (i + m') m with h3 | h3
                · exact HAM.out x' hx' m' y' h3 hy'
                · have e : i + m' = m := by omega
                  rw [HX.out] at hx'
                  injection hx' with hx'
                  subst hx'
                  rw [List.getElem?_drop, e, HY.out] at hy'
                  injection hy' with hy'
                  rw [← hy']; exact HQ.out.symm
              case measure => have := HLM.out.2; simp [intOf] <;> omega
        · obtain rfl : m = len := by omega
          have t2 : decide (m < m) = false := decide_eq_false hlm
          have HGm := Lib.hid hg
          clear hg him hm hlm
          go_wp2_with fail
          go_roundw
          case rel =>
            refine ⟨k + 1, by have := HLT.out; omega, by go_num, HGm.out, fun k' x' hk' hx' m' y hy => ?_⟩
            rcases Nat.lt_or_ge k' k with h3 | h3
            · exact HAL.out k' x' h3 hx' m' y hy
            · obtain rfl : k' = k := by omega
              refine HAM.out x' hx' m' y ?_ hy
              have h4 := (List.getElem?_eq_some_iff.1 hy).1
              rw [List.length_drop, HL.out.len] at h4
              omega
          case measure => have := HLT.out; simp [intOf] <;> omega
    · obtain rfl : k = i := by omega
      have t1 : decide (k < k) = false := decide_eq_false hlt
      clear hk hlt
      go_wp2_with fail
      go_ret
      rw [show r = true from HR.out.trans (cutB_yes HAL.out)]
      exact ⟨rfl, HG1.out.trans HG.out⟩
end Go.Proofs.Ytbcifodifadoiaa.bk
