/- The walk of NetNil. -/
import Derived.Test.YtmekdhlcflielaaNtS
namespace Go.Proofs.Ytmekdhlcflielaa.ntL
open Go Go.RowKit Go.Par Go.Kit Go.Proofs.Ytmekdhlcflielaa.mpA Go.Proofs.Ytmekdhlcflielaa.cl Go.Proofs.Ytmekdhlcflielaa.nt

theorem BV.keep1 {w w' : World} {v : Value} {l : List UInt8} {B : Nat} {K : Nat → Prop} (h : BV w v l) (hk : Keep B K w w') (hK : ∀ j, v.ownBlock = some j → K j) : BV w' v l := by
  obtain ⟨A, c, e, h1, h2, h3, h4⟩ := h
  have hK' : ∀ ad, A = some ad → K ad.block := fun ad had => hK _ (by rw [e, had]; rfl)
  refine ⟨A, c, e, h1, h2, ⟨h3.1, fun h0 => ?_⟩, fun h0 ad had => ?_⟩
  · obtain ⟨b, off, eA, hc⟩ := h3.2 h0
    obtain ⟨cs, hb⟩ := h4 h0 _ eA
    refine ⟨b, off, eA, fun j u hu => ?_⟩
    have h9 := hc j u hu
    have hb' := hk.blk hb (hK' _ eA)
    unfold Blk at hb hb'
    simp only [World.cell?, hb, hb'] at h9 ⊢
    exact h9
  · obtain ⟨cs, hb⟩ := h4 h0 ad had
    exact ⟨cs, hk.blk hb (hK' _ had)⟩
theorem BV.lt1 {w : World} {v : Value} {l : List UInt8} (h : BV w v l) (h0 : 0 < l.length) {j : Nat} (hj : v.ownBlock = some j) : j < w.heap.size := by
  obtain ⟨A, c, e, h1, h2, h3, h4⟩ := h
  rw [e] at hj
  cases A with
  | none => cases hj
  | some ad =>
    obtain ⟨cs, hb⟩ := h4 h0 ad rfl
    injection hj with hj
    subst hj
    unfold Blk at hb
    exact (Array.getElem?_eq_some_iff.1 hb).1
theorem NetI.keep1 {w w' : World} {B g bm n cnt : Nat} {lv : Value} {ps : List PkR} {C : Nat → Nat → Bool} {K : Nat → Prop} (h : NetI w B g bm n cnt lv ps C) (hk : Keep B K w w') (hg : K g) (hb : K bm) (hl : ∀ j, lv.ownBlock = some j → K j) (hu : ∀ p ∈ ps, ∀ j, p.v.ownBlock = some j → K j) : NetI w' B g bm n cnt lv ps C :=
  ⟨hk.blk h.bx hg, hk.own h.own hl, h.mp.keep hk hb, fun p hp => let ⟨a, b, c, d⟩ := h.ok p hp; ⟨BV.keep1 a hk (hu p hp), b, c, d⟩, h.gB, h.bB, h.n64, h.len⟩
/-- a block of bytes that is no packet's is written: the net stays -/
theorem NetI.far {w : World} {B g bm n cnt : Nat} {lv : Value} {ps : List PkR} {C : Nat → Nat → Bool} (h : NetI w B g bm n cnt lv ps C) {b : Nat} {cs : List Value} (hb : Blk w b 5 cs) (hB : B ≤ b) (hu : ∀ p ∈ ps, p.v.ownBlock ≠ some b) (i : Nat) (u : Value) : NetI (w.setCell ⟨b, i, none⟩ u) B g bm n cnt lv ps C := by
  have hk : Keep B (fun j => j ≠ b) w (w.setCell ⟨b, i, none⟩ u) := Keep.setCell (K := fun j => j ≠ b) (Keep.refl w) (p := ⟨b, i, none⟩) hB (fun hn => hn rfl) _
  have ho := h.off hb (by decide) (by decide)
  exact NetI.keep1 h hk (fun e => ho.1 e.symm) (fun e => ho.2.1 e.symm) (fun j hj e => ho.2.2 (e ▸ hj)) fun p hp j hj e => hu p hp (e ▸ hj)
/-- a row of bytes of the call's own, one of them written -/
theorem own_set1 {w : World} {base b n c i : Nat} {e : TypeId} {xs : List Value} (h : w.ownsRow base e 1 (.slice (some ⟨b, 0, none⟩) n c) n xs) (hn : 0 < n) (u : Value) : (w.setCell ⟨b, i, none⟩ u).ownsRow base e 1 (.slice (some ⟨b, 0, none⟩) n c) n (xs.set i u) := by
  obtain ⟨g', cap, cur, e1, hB, hblk, hnc, hcm, hcl, hct⟩ := own_open h hn
  injection e1 with e1 _ e2
  injection e1 with e1
  injection e1 with e1 _ _
  subst e1; subst e2
  exact own_shut hB (hblk.set_ i u) hnc hcm (by rw [List.length_set]; exact hcl) (by rw [List.take_set, hct])
/-- bytes of the call's own, whatever they are -/
def Zs (w : World) (base : Nat) (v : Value) (n : Nat) : Prop := ∃ zs : List Int, w.ownsRow base 5 1 v n (zs.map (Value.int .u8))
theorem Zs.of {w : World} {base : Nat} {v : Value} {n : Nat} {l : List UInt8} (h : w.ownsRow base 5 1 v n (u8s l)) : Zs w base v n := by
  refine ⟨l.map fun x : UInt8 => (x.toNat : Int), ?_⟩
  have e : (l.map fun x : UInt8 => (x.toNat : Int)).map (Value.int .u8) = u8s l := by unfold u8s; rw [List.map_map]; rfl
  rw [e]
  exact h
theorem Zs.grow {w w' : World} {base : Nat} {v : Value} {n : Nat} (h : Zs w base v n) (hg : Grow w w') : Zs w' base v n :=
  let ⟨zs, h⟩ := h; ⟨zs, own_grow h hg⟩
theorem Zs.at_ {w : World} {base n i : Nat} {v : Value} (h : Zs w base v n) (hi : i < n) : ∃ b c z cs, v = .slice (some ⟨b, 0, none⟩) n c ∧ base ≤ b ∧ Blk w b 5 cs ∧ w.cell? ⟨b, i, none⟩ = some (.int .u8 z) := by
  obtain ⟨zs, h⟩ := h
  obtain ⟨g', cap, cur, e1, hB, hblk, hnc, hcm, hcl, hct⟩ := own_open h (by omega)
  have hl : (zs.map (Value.int .u8)).length = n := by rw [h.1, Nat.mul_one]
  rw [List.length_map] at hl
  obtain ⟨z, hz0⟩ : ∃ z, zs[i]? = some z := ⟨_, List.getElem?_eq_getElem (by omega)⟩
  have hz : (zs.map (Value.int .u8))[i]? = some (.int .u8 z) := by
    rw [List.getElem?_map, hz0]; rfl
  refine ⟨g', cap, z, cur, e1, hB, hblk, hblk.cell ?_⟩
  rw [← hct, List.getElem?_take_of_lt (by omega)] at hz
  exact hz
theorem Zs.set {w : World} {base b n c i : Nat} (h : Zs w base (.slice (some ⟨b, 0, none⟩) n c) n) (hn : 0 < n) (z : Int) : Zs (w.setCell ⟨b, i, none⟩ (.int .u8 z)) base (.slice (some ⟨b, 0, none⟩) n c) n := by
  obtain ⟨zs, h⟩ := h
  exact ⟨zs.set i z, by rw [List.map_set]; exact own_set1 h hn _⟩
theorem zero_same (w : World) : Calls Try.prog 18 #[zval, qv 0 0 [] false] w fun e w' => e = .returned (.bool true) ∧ Grow w w' := same_any w 0 0 0 0 (.slice none 0 0) [] [] false false (Sl.none_ w)
theorem own_blk8 {w : World} {base : Nat} {v : Value} {n : Nat} {xs : List Value} (h : w.ownsRow base 5 1 v n xs) {k : Nat} (hk : v.ownBlock = some k) : ∃ cs, Blk w k 5 cs := by
  rcases h.2 with ⟨e, -⟩ | ⟨g', cap, cur, e, -, h5, -⟩
  · rw [e] at hk; cases hk
  · rw [e] at hk
    injection hk with hk
    subst hk
    exact ⟨cur.toList, by unfold Blk; rw [h5]⟩
set_option maxRecDepth 100000 in
set_option maxHeartbeats 8000000 in
theorem nil_walk (a b : Nat) (A : Option Addr) (n c : Nat) (l : List UInt8) (w : World) (hb : Bytes w A n l) (hnm : n ≤ maxLen) :
    Calls Try.prog 6 #[.int .u8 (a : Int), .int .u8 (b : Int), .slice A n c] w fun e w' => e = .returned (.bool true) ∧ Grow w w' := by
  unfold maxLen at hnm
  by_cases h1 : 100 < n
  · have t1 : decide (100 < n) = true := decide_eq_true h1
    have t1' : decide ((100 : Int) < (n : Int)) = true := decide_eq_true (by omega)
    have HWK := Lib.hid (works_any w)
    clear h1 hb
    go_enter Try.func6, Try.ntmps6
    go_wp2_with fail
    refine HWK.out.mono ?_
    rintro e w1 ⟨rfl, hg1⟩
    go_wp2_with fail
    go_ret
    exact ⟨rfl, hg1⟩
  · have t1 : decide (100 < n) = false := decide_eq_false h1
    have t1' : decide ((100 : Int) < (n : Int)) = false := decide_eq_false (by omega)
    have hn100 : n ≤ 100 := by omega
    have HB := Lib.hid hb
    clear h1 hb
    go_enter Try.func6, Try.ntmps6
    go_wp2_with fail
    refine (heal_nil w).mono ?_
    rintro e w' ⟨⟨v, rfl⟩, rfl⟩
    go_wp2_with fail
    refine (at_nil w 0).mono ?_
    rintro e w1 ⟨rfl, hg1⟩
    have HG1 := Lib.hid hg1
    clear hg1
    unfold zval zk
    go_wp2_with fail
    obtain ⟨b8, hb8⟩ : ∃ b, b = w1.heap.size := ⟨_, rfl⟩
    obtain ⟨W2, hW2⟩ : ∃ W, W = w1.alloc (.cells #[.int .u8 0, .int .u8 0, .slice none 0 0, .bool false] TK) := ⟨_, rfl⟩
    rw [← hW2, ← hb8]
    have hg2 : Grow w W2 := by rw [hW2]; exact HG1.out.trans (Grow.alloc _ _)
    have hbx : Blk W2 b8 TK zk := by rw [hW2]; exact Blk.new _ _ _ _ rfl hb8
    have HG2 := Lib.hid hg2
    have HB8 := Lib.hid hbx
    clear hW2 hb8 hg2 hbx HG1
    refine (take_nil W2 0).mono ?_
    rintro e w3 ⟨rfl, hg3⟩
    have HG3 := Lib.hid hg3
    clear hg3
    unfold zval zk
    dsimp only
    repeat (first | with_reducible (refine wp_region_cut (k := 7) ?_) | go_values | go_guarded | go_step | go_upon | go_back)
    obtain ⟨b10, hb10⟩ : ∃ b, b = w3.heap.size := ⟨_, rfl⟩
    obtain ⟨W4, hW4⟩ : ∃ W, W = w3.alloc (.cells #[.int .u8 0, .int .u8 0, .slice none 0 0, .bool false] TK) := ⟨_, rfl⟩
    rw [← hW4, ← hb10]
    have hg4 : Grow W2 W4 := by rw [hW4]; exact HG3.out.trans (Grow.alloc _ _)
    have hbx10 : Blk W4 b10 TK zk := by rw [hW4]; exact Blk.new _ _ _ _ rfl hb10
    have hbx8 := HB8.out.grow hg4
    have HG4 := Lib.hid (HG2.out.trans hg4)
    have HB10 := Lib.hid hbx10
    have HB8' := Lib.hid hbx8
    clear hW4 hb10 hg4 hbx10 hbx8 HB8 HG2 HG3
    unfold Cut
    go_wp2_with (refine load_blk rfl _ _ rfl b8 rfl _ _ _ HB8'.out undK rfl (by rw [sizeK]; rfl) ?_)
    refine (zero_same W4).mono ?_
    rintro e w5 ⟨rfl, hg5⟩
    have HB10' := Lib.hid (HB10.out.grow hg5)
    have HG5 := Lib.hid (HG4.out.trans hg5)
    clear hg5
    go_wp2_with (refine load_blk rfl _ _ rfl b10 rfl _ _ _ HB10'.out undK rfl (by rw [sizeK]; rfl) ?_)
    refine (zero_same w5).mono ?_
    rintro e w6 ⟨rfl, hg6⟩
    have HG6 := Lib.hid (HG5.out.trans hg6)
    clear hg6
    go_wp2_with fail
    refine (len_nil w6).mono ?_
    rintro e w' ⟨rfl, rfl⟩
    go_wp2_with fail
    refine (send_nil w6 a b (.slice A n c)).mono ?_
    rintro e w7 ⟨rfl, hg7⟩
    have HG7 := Lib.hid (HG6.out.trans hg7)
    clear hg7
    go_wp2_with fail
    refine (drop_nil w7 0).mono ?_
    rintro e w' ⟨rfl, rfl⟩
    go_wp2_with fail
    refine (twice_nil w7 0).mono ?_
    rintro e w' ⟨rfl, rfl⟩
    go_wp2_with fail
    refine (spoil_nil w7 0 0 1).mono ?_
    rintro e w' ⟨rfl, rfl⟩
    go_wp2_with fail
    refine (cut_nil w7 a b).mono ?_
    rintro e w' ⟨rfl, rfl⟩
    go_wp2_with fail
    refine (whole_nil w7 a b).mono ?_
    rintro e w8 ⟨rfl, hg8⟩
    have HG8 := Lib.hid (HG7.out.trans hg8)
    clear hg8
    go_wp2_with fail
    refine (new2 w8).mono ?_
    rintro e w9 ⟨g, bm, rfl, hn9, hg9⟩
    have HN9 := Lib.hid hn9
    have HG9 := Lib.hid (HG8.out.trans hg9)
    have HG89 := Lib.hid hg9
    clear hn9 hg9
    go_wp2_with (at_builtin; refine append_bytes Try.underlying26 i8 i8z i8s i8b rfl _ _ rfl w9.heap.size _ 0 [] (own_zero w9 _ rfl (Nat.le_refl _)) rfl A n c l (HB.out.grow (HG9.out.trans (Grow.alloc w9 _))) rfl ?_ ?_ ?_; omega; (simp); intro v1 w10 hown1 hgb1 hh1; obtain ⟨A1, c1, rfl, hc1, hc2, hc3⟩ := own_form hown1)
    have hg910 : Grow w9 w10 := grow_by (Grow.alloc w9 _) hgb1 (own_base (own_zero w9 5 rfl (Nat.le_refl _)))
    have hg10 : Grow w8 w10 := HG89.out.trans hg910
    rw [Nat.zero_add] at hown1 hc3
    rw [List.nil_append] at hown1 hc3
    rw [Nat.mul_one] at hc3
    obtain ⟨V, hV⟩ : ∃ V, V = Value.slice A1 n c1 := ⟨_, rfl⟩
    have hln : l.length = n := HB.out.len
    have hn10 := HN9.out.grow hg910
    have HS := Lib.hid (send_any w10 _ _ _ _ _ _ _ _ hn10 1 2 (by decide) (by decide) (.slice A1 n c1) l (Sl.mk (show Bytes w10 A1 n l from hc3) (by omega) hc2) (by omega) (by decide) (by decide))
    have HN10 := Lib.hid hn10
    have HO10 := Lib.hid hown1
    have HG10 := Lib.hid hg10
    have HLN := Lib.hid hln
    have HV := Lib.hid hV
    clear hg910 hg10 hn10 hown1 hgb1 hh1 hc1 hc2 hc3 hln hV
    refine HS.out.mono ?_
    rintro e w11 ⟨rfl, ⟨u1, hu1, lv1, hn11, -⟩, hk11⟩
    clear HS
    have ho11 := hk11.own HO10.out fun j hj => by obtain ⟨cs, hb⟩ := own_blk8 HO10.out hj; exact NetI.off HN10.out hb (by decide) (by decide)
    have HG11 := Lib.hid (hk11.grow HG10.out rfl)
    have HN11 := Lib.hid hn11
    have HO11 := Lib.hid ho11
    have HU1 := Lib.hid hu1
    have HT := Lib.hid (twice_any w11 _ _ _ _ _ _ _ _ hn11 0 ⟨1, 2, u1, l, false⟩ rfl)
    clear hk11 ho11 hn11 hu1 HN10
    go_wp2_with fail
    refine HT.out.mono ?_
    rintro e w12 hh
    rcases hh with ⟨h9, -⟩ | ⟨-, rfl, ⟨u2, hu2, lv2, hn12, -⟩, hk12⟩
    · exact absurd (show 4096 ≤ 1 from h9) (by decide)
    clear HT
    have ho12 := hk12.own HO11.out fun j hj => by obtain ⟨cs, hb⟩ := own_blk8 HO11.out hj; exact NetI.off HN11.out hb (by decide) (by decide)
    obtain ⟨ps, hps⟩ : ∃ ps : List PkR, ps = ([] ++ [⟨1, 2, u1, l, false⟩]) ++ [⟨1, 2, u2, l, false⟩] := ⟨_, rfl⟩
    have hfar : ∀ p ∈ ps, ∀ j, (Value.slice A1 n c1).ownBlock = some j → p.v.ownBlock ≠ some j := by
      intro p hp j hj he
      have hlt := (HO10.out.lt j hj).2
      have hlt2 := (HO11.out.lt j hj).2
      rw [hps] at hp
      rcases List.mem_append.1 hp with hp | hp
      · rcases List.mem_append.1 hp with hp | hp
        · cases hp
        · rw [List.mem_singleton] at hp
          subst hp
          have := HU1.out j he
          omega
      · rw [List.mem_singleton] at hp
        subst hp
        have := hu2 j he
        omega
    rw [← hps] at hn12
    have HN12 := Lib.hid hn12
    have HO12 := Lib.hid (Zs.of ho12)
    have HPS := Lib.hid hps
    have HFAR := Lib.hid hfar
    have HG12 := Lib.hid (hk12.grow HG11.out rfl)
    clear hn12 ho12 hk12 hps hfar hu2 HU1 HN11 HO11 HG11
    obtain ⟨b9, hb9⟩ : ∃ b, b = w9.heap.size := ⟨_, rfl⟩
    rw [← hb9] at HO12
    have HB9 := Lib.hid (show w8.heap.size ≤ b9 by rw [hb9]; exact HG89.out.size)
    clear hb9 HO10
    go_wp2_with fail
    go_loopw [105] (fun i' wr => ∃ k : Nat, k ≤ n ∧ i' = .int .i64 (k : Int) ∧ Zs wr b9 (.slice A1 n c1) n ∧ NetI wr w8.heap.size g bm 2 0 lv2 ps (fun _ _ => false) ∧ Grow w8 wr) (fun i' _ => n - (intOf i').toNat)
    case atStart => exact ⟨0, by omega, rfl, HO12.out, HN12.out, HG12.out⟩
    case round =>
      clear HO12 HN12 HG12
      obtain ⟨k, hkl, rfl, hz, hn, hg⟩ := hrel
      by_cases hlt : k < n
      · obtain ⟨b, c', z, cs, e1, hB, hblk, hcell⟩ := hz.at_ hlt
        injection e1 with e1 e2 e3
        clear e2
        subst e1; subst e3
        have hub : ∀ p ∈ ps, p.v.ownBlock ≠ some b := fun p hp => HFAR.out p hp b rfl
        have HZ := Lib.hid (fun z' => hz.set (i := k) (by omega) z')
        have HN := Lib.hid (fun z' => NetI.far hn hblk (Nat.le_trans HB9.out hB) hub k z')
        have HG := Lib.hid (fun z' => Grow.set_ hg (p := ⟨b, k, none⟩) (Nat.le_trans HB9.out hB) z')
        have HLT := Lib.hid hlt
        have t3 : decide (k < n) = true := decide_eq_true hlt
        have t4 : decide ((k : Int) < (n : Int)) = true := decide_eq_true (by omega)
        have hfz := hblk.free k
        clear hz hn hg hlt hub hblk hB
        go_wp2_with fail
        go_roundw
        case rel => exact ⟨k + 1, by have := HLT.out; omega, by go_num, HZ.out _, HN.out _, HG.out _⟩
        case measure => have := HLT.out; simp [intOf] <;> omega
      · have t3 : decide (k < n) = false := decide_eq_false hlt
        have t4 : decide ((k : Int) < (n : Int)) = false := decide_eq_false (by omega)
        have HAT := Lib.hid (at_yes wr _ _ _ _ _ _ _ _ hn 0 ⟨1, 2, u1, l, false⟩ (by rw [HPS.out]; rfl))
        have HN := Lib.hid hn
        have HG := Lib.hid hg
        clear hz hn hg hlt hkl HFAR HV HB9
        go_wp2_with fail
        refine HAT.out.mono ?_
        rintro e w13 ⟨v, rfl, hown, hg13⟩
        rw [show (⟨1, 2, u1, l, false⟩ : PkR).b.length = n from HLN.out] at hown
        obtain ⟨A2, c2, rfl, -⟩ := own_form hown
        have HO := Lib.hid (Zs.of hown)
        have HN13 := Lib.hid (HN.out.grow hg13)
        have HG13 := Lib.hid (HG.out.trans hg13)
        have HS := Lib.hid (show w8.heap.size ≤ wr.heap.size from HG.out.size)
        have HPF := Lib.hid (show 0 < n → ∀ p ∈ ps, ∀ j, p.v.ownBlock = some j → j < wr.heap.size from fun h0 p hp j hj => BV.lt1 (HN.out.ok p hp).b (by rw [show p.b = l by rw [HPS.out] at hp; rcases List.mem_append.1 hp with hp | hp <;> simp at hp <;> rw [hp], HLN.out]; exact h0) hj)
        clear hown hg13 HN HG HAT t3 t4
        go_wp2_with fail
        obtain ⟨b15, hb15⟩ : ∃ b, b = w13.heap.size := ⟨_, rfl⟩
        obtain ⟨W14, hW14⟩ : ∃ W, W = w13.alloc (.cells #[.int .u8 1, .int .u8 2, .slice A2 n c2, .bool false] TK) := ⟨_, rfl⟩
        obtain ⟨bs, hbs⟩ : ∃ b, b = wr.heap.size := ⟨_, rfl⟩
        have hg14 : Grow w13 W14 := by rw [hW14]; exact Grow.alloc _ _
        have hbx : Blk W14 b15 TK [.int .u8 1, .int .u8 2, .slice A2 n c2, .bool false] := by rw [hW14]; exact Blk.new _ _ _ _ rfl hb15
        rw [← hW14, ← hb15]
        rw [← hbs] at HO HS HPF
        have HO14 := Lib.hid (Zs.grow HO.out hg14)
        have HN14 := Lib.hid (HN13.out.grow hg14)
        have HG14 := Lib.hid (HG13.out.trans hg14)
        have HBX := Lib.hid hbx
        clear hW14 hb15 hbs hg14 hbx HO HN13 HG13
        go_loopw [123] (fun i' wx => ∃ k : Nat, k ≤ n ∧ i' = .int .i64 (k : Int) ∧ Zs wx bs (.slice A2 n c2) n ∧ Blk wx b15 TK [.int .u8 1, .int .u8 2, .slice A2 n c2, .bool false] ∧ NetI wx w8.heap.size g bm 2 0 lv2 ps (fun _ _ => false) ∧ Grow w8 wx) (fun i' _ => n - (intOf i').toNat)
        case atStart => exact ⟨0, by omega, rfl, HO14.out, HBX.out, HN14.out, HG14.out⟩
        case round =>
          clear HO14 HN14 HG14 HBX
          obtain ⟨k, hkl, rfl, hz, hx, hn, hg⟩ := hrel
          have HXC := hx.cell (i := 2) rfl
          by_cases hlt : k < n
          · obtain ⟨bq, c', z, cs, e1, hB, hblk, hcell⟩ := hz.at_ hlt
            injection e1 with e1 e2 e3
            clear e2
            subst e1; subst e3
            have hub : ∀ p ∈ ps, p.v.ownBlock ≠ some bq := fun p hp he => by have := HPF.out (by omega) p hp bq he; omega
            have hne : b15 ≠ bq := fun e => absurd (Blk.ty_eq hblk (e ▸ hx)) (by decide)
            have HZ := Lib.hid (fun z' => hz.set (i := k) (by omega) z')
            have HX := Lib.hid (fun z' => (Keep.setCell (K := fun j => j ≠ bq) (Keep.refl (B := 0) _) (p := ⟨bq, k, none⟩) (Nat.zero_le _) (fun hn => hn rfl) z').blk hx hne)
            have HN := Lib.hid (fun z' => NetI.far hn hblk (Nat.le_trans HS.out hB) hub k z')
            have HG := Lib.hid (fun z' => Grow.set_ hg (p := ⟨bq, k, none⟩) (Nat.le_trans HS.out hB) z')
            have HLT := Lib.hid hlt
            have t3 : decide (k < n) = true := decide_eq_true hlt
            have t4 : decide ((k : Int) < (n : Int)) = true := decide_eq_true (by omega)
            have hfz := hblk.free k
            clear hz hn hg hlt hub hblk hB hx hne
            go_wp2_with fail
            go_roundw
            case rel => exact ⟨k + 1, by have := HLT.out; omega, by go_num, HZ.out _, HX.out _, HN.out _, HG.out _⟩
            case measure => have := HLT.out; simp [intOf] <;> omega
          · have t3 : decide (k < n) = false := decide_eq_false hlt
            have t4 : decide ((k : Int) < (n : Int)) = false := decide_eq_false (by omega)
            have HSP := Lib.hid (spoil_any _ _ _ _ _ _ _ _ _ hn 1 ⟨1, 2, u2, l, false⟩ (by rw [HPS.out]; rfl) rfl 0 2147483648#32)
            have HG := Lib.hid hg
            clear hz hn hg hx hlt hkl HPF HS HXC
            go_wp2_with fail
            refine HSP.out.mono ?_
            rintro e w15 ⟨rfl, ⟨u3, hn15⟩, hk15⟩
            have HT := Lib.hid (take_any w15 _ _ _ _ _ _ _ _ hn15 0 ⟨1, 2, u1, l, false⟩ (by rw [HPS.out]; rfl))
            have HG15 := Lib.hid (hk15.grow HG.out rfl)
            clear hn15 hk15 HSP HG t3 t4
            go_wp2_with fail
            refine HT.out.mono ?_
            rintro e w16 ⟨hres, -, hk16⟩
            rcases hres with ⟨h9, -⟩ | ⟨-, v1, rfl, hbv1⟩
            · rw [whole12] at h9; cases h9
            obtain ⟨A3, c3, rfl, -, -, hb3⟩ := hbv1.bytes
            have HG16 := Lib.hid (HG8.out.trans (hk16.grow HG15.out rfl))
            have HB3 : Hid (Bytes w16 A3 n l) := Lib.hid (by rw [← HLN.out]; exact hb3)
            rw [show (⟨1, 2, u1, l, false⟩ : PkR).b.length = n from HLN.out]
            clear hbv1 hb3 hk16 HT HG15
            have hga : Grow w16 (w16.alloc (.cells #[.int .u8 1, .int .u8 2, .slice A3 n c3, .bool false] TK)) := Grow.alloc _ _
            have cs1 := conv_str (P := Try.prog) Try.underlying26 Try.underlying5 Try.underlying9 (HB3.out.grow hga) c3
            have cs2 := conv_str (P := Try.prog) Try.underlying26 Try.underlying5 Try.underlying9 (HB.out.grow (HG16.out.trans hga)) c
            have teq : ((str l).toList == (str l).toList) = true := beq_self_eq_true _
            have HWK := Lib.hid (works_any (w16.alloc (.cells #[.int .u8 1, .int .u8 2, .slice A3 n c3, .bool false] TK)))
            have HG17 := Lib.hid (HG16.out.trans hga)
            clear hga HG16 HB3
            go_wp2_with fail
            refine HWK.out.mono ?_
            rintro e w18 ⟨rfl, hg18⟩
            have HG18 := Lib.hid (HG17.out.trans hg18)
            clear hg18
            go_wp2_with fail
            go_ret
            exact ⟨rfl, HG18.out⟩
theorem nil_walkI (z y : Int) (hz0 : 0 ≤ z) (hz1 : 0 ≤ y) (A : Option Addr) (n c : Nat) (l : List UInt8) (w : World) (hb : Bytes w A n l) (hnm : n ≤ maxLen) :
    Calls Try.prog 6 #[.int .u8 z, .int .u8 y, .slice A n c] w fun e w' => e = .returned (.bool true) ∧ Grow w w' := by
  obtain ⟨a, rfl⟩ : ∃ a : Nat, z = (a : Int) := ⟨z.toNat, by omega⟩
  obtain ⟨b, rfl⟩ : ∃ a : Nat, y = (a : Int) := ⟨y.toNat, by omega⟩
  exact nil_walk a b A n c l w hb hnm
end Go.Proofs.Ytmekdhlcflielaa.ntL
