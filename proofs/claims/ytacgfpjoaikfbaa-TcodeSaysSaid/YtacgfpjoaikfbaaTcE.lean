/- The walk of the closure that reads one file. -/
import Derived.Test.YtacgfpjoaikfbaaTcD
namespace Go.Proofs.Ytacgfpjoaikfbaa.tc
open Go Go.RowKit Go.Par Go.Kit Vi Go.Proofs.Ytacgfpjoaikfbaa.bfW
open Go.Proofs.Ytacgfpjoaikfbaa.viW hiding i8 i8s i8z i8b info8

/-- texts that are kept, whatever their array's mark -/
def SO (w : World) (v : Value) (l : List (List UInt8)) : Prop := ∃ A c, v = .slice A l.length c ∧ l.length ≤ c ∧ c ≤ maxLen ∧ Row w A l.length (strs l) ∧ (0 < l.length → ∀ ad, A = some ad → ∃ cs fz, w.heap[ad.block]? = some (Obj.cells cs TS fz))
theorem SO.sl {w : World} {v : Value} {l : List (List UInt8)} (h : SO w v l) : SlS w v l := let ⟨A, c, e, h1, h2, h3, _⟩ := h; ⟨A, c, e, h1, h2, h3⟩
theorem SO.keep {w w' : World} {v : Value} {l : List (List UInt8)} (h : SO w v l) {B : Nat} {K : Nat → Prop} (hk : Keep B K w w') (hK : ∀ j cs fz, w.heap[j]? = some (Obj.cells cs TS fz) → K j) : SO w' v l := by
  obtain ⟨A, c, e, h1, h2, h3, h4⟩ := h
  have key : ∀ j cs fz, w.heap[j]? = some (Obj.cells cs TS fz) → w'.heap[j]? = w.heap[j]? := fun j cs fz hj => hk.2 j (hK j cs fz hj) (Array.getElem?_eq_some_iff.1 hj).1
  refine ⟨A, c, e, h1, h2, ⟨h3.1, fun h0 => ?_⟩, fun h0 ad had => ?_⟩
  · obtain ⟨b, off, eA, hc⟩ := h3.2 h0
    obtain ⟨cs, fz, hb⟩ := h4 h0 _ eA
    refine ⟨b, off, eA, fun j u hu => ?_⟩
    have h9 := hc j u hu
    have h8 := key _ _ _ hb
    unfold World.cell? at h9 ⊢
    dsimp only at h8 h9 ⊢
    rw [h8]
    exact h9
  · obtain ⟨cs, fz, hb⟩ := h4 h0 ad had
    exact ⟨cs, fz, (key _ _ _ hb).trans hb⟩
theorem SO.grow {w w' : World} {v : Value} {l : List (List UInt8)} (h : SO w v l) (hg : Grow w w') : SO w' v l := by
  obtain ⟨A, c, e, h1, h2, h3, h4⟩ := h
  exact ⟨A, c, e, h1, h2, h3.grow hg, fun h0 ad had => let ⟨cs, fz, hb⟩ := h4 h0 ad had; ⟨cs, fz, (Below.block hg _ (Array.getElem?_eq_some_iff.1 hb).1).trans hb⟩⟩
theorem own_so {w : World} {base : Nat} {v : Value} {l : List (List UInt8)} (h : w.ownsRow base TS 1 v l.length (strs l)) : SO w v l := by
  obtain ⟨A, c, e, h1, h2, h3⟩ := own_form h
  rw [Nat.mul_one] at h3
  refine ⟨A, c, e, h1, h2, h3, fun h0 ad had => ?_⟩
  rcases h.2 with ⟨e2, hn⟩ | ⟨g', cap, cur, e2, -, h5, -⟩
  · rw [e] at e2
    injection e2 with e2
    rw [e2] at had
    cases had
  · rw [e] at e2
    injection e2 with e2
    rw [e2] at had
    injection had with had
    subst had
    exact ⟨cur, _, h5⟩
theorem rtext_len (L : List UInt8) (e : Nat) (m : Int) : (rtext L e m).2.1.length ≤ L.length := by
  unfold rtext
  split
  · exact Nat.le_refl _
  · split
    · exact Nat.le_refl _
    · split
      · exact Nat.le_refl _
      · split
        · exact Nat.le_refl _
        · dsimp only; rw [List.length_drop]; omega
theorem rnum_len (L : List UInt8) (e m : Nat) : (rnum L e m).2.1.length ≤ L.length := by
  unfold rnum
  split
  · exact Nat.le_refl _
  · split
    · exact Nat.le_refl _
    · split
      · exact Nat.le_refl _
      · dsimp only; rw [List.length_drop]; omega
theorem decX_len : ∀ (n : Nat) (L : List UInt8) (e : Nat), (decX n L e).2.1.length ≤ L.length
  | 0, L, e => Nat.le_refl _
  | n + 1, L, e => by
    rw [decX]
    split
    · exact Nat.le_trans (decX_len n _ _) (rtext_len L 0 131072)
    · exact Nat.le_refl _
theorem rdTxs_len (L : List UInt8) (e : Nat) : (rdTxs L e).2.1.length ≤ L.length := Nat.le_trans (decX_len _ _ _) (rnum_len L e L.length)
theorem rdFil_len (L : List UInt8) (e : Nat) : (rdFil L e).2.1.length ≤ L.length := Nat.le_trans (rdTxs_len _ _) (Nat.le_trans (rdTxs_len _ _) (rtext_len L e 131072))
def ptr (g : Nat) : Value := .pointer (some ⟨g, 0, none⟩)
theorem rdr_ne {w : World} {B g : Nat} {K : Nat → Prop} {L : List UInt8} {e : Nat} (h : Rdr TR w B K g L e) {b : Nat} {t : TypeId} {cs : List Value} (hb : Blk w b t cs) (ht : TR ≠ t) : b ≠ g := fun e9 => by
  subst e9
  obtain ⟨_, _, _, hb9, -⟩ := h
  exact ht (blk_ty hb9 hb)
theorem undF : Try.prog.underlying TF = some (.struct (Try.prog.fieldsOf TF)) := by kernel_rfl
theorem sizeF : (Try.prog.info? TF).map (·.size) = some 3 := by kernel_rfl
theorem Keep.setRow {B : Nat} {K : Nat → Prop} {w w' : World} (h : Keep B K w w') {g : Nat} (hB : B ≤ g) (hK : ¬ K g) (l : Array Value) : Keep B K w (w'.setRow g l) :=
  ⟨below_setRow h.1 hB l, fun k hk hl => (setRow_other w' g k l (fun e => hK (e ▸ hk))).trans (h.2 k hk hl)⟩
set_option maxRecDepth 100000 in
set_option maxHeartbeats 4000000 in
theorem filc_any (w : World) (B g : Nat) (L : List UInt8) (e : Nat) (h : Rdr TR w B (fun i => i ≠ g) g L e) (hLL : L.length ≤ 131072) (b : Nat) (hb : Blk w b 53 [.pointer (some ⟨g, 0, none⟩)])
    (b5 : Nat) (hb5 : Blk w b5 56 [.func (.func 22) #[] #[.pointer (some ⟨b, 0, none⟩)]]) :
    Calls Try.prog 25 #[.pointer (some ⟨b5, 0, none⟩), .pointer (some ⟨b, 0, none⟩)] w fun r w' =>
      ∃ u v, r = .returned (.agg #[.string (str (rdFil L e).1.name), u, v]) ∧ SO w' u (rdFil L e).1.also ∧ SO w' v (rdFil L e).1.lines ∧ Rdr TR w' B (fun i => i ≠ g) g (rdFil L e).2.1 (rdFil L e).2.2 ∧ Keep B (fun i => i ≠ g) w w' := by
  obtain ⟨⟨t, L1, e1⟩, ht⟩ : ∃ r, r = rtext L e 131072 := ⟨_, rfl⟩
  obtain ⟨⟨al, L2, e2⟩, ha⟩ : ∃ r, r = rdTxs L1 e1 := ⟨_, rfl⟩
  obtain ⟨⟨li, L3, e3⟩, hl⟩ : ∃ r, r = rdTxs L2 e2 := ⟨_, rfl⟩
  have hres : rdFil L e = (⟨t, al, li⟩, L3, e3) := by
    unfold rdFil
    rw [← ht]
    dsimp only
    rw [← ha]
    dsimp only
    rw [← hl]
  rw [hres]
  dsimp only
  have hl1 : L1.length ≤ 131072 := by have := rtext_len L e 131072; rw [← ht] at this; exact Nat.le_trans this hLL
  have hl2 : L2.length ≤ 131072 := by have := rdTxs_len L1 e1; rw [← ha] at this; exact Nat.le_trans this hl1
  obtain ⟨W1, hW1⟩ : ∃ W, W = w.alloc (.cells #[.string ⟨#[]⟩, .slice none 0 0, .slice none 0 0] TF) := ⟨_, rfl⟩
  obtain ⟨b2, hb2⟩ : ∃ b2, b2 = w.heap.size := ⟨_, rfl⟩
  have hg1 : Grow w W1 := by rw [hW1]; exact Grow.alloc _ _
  have hbx : Blk W1 b2 TF [.string ⟨#[]⟩, .slice none 0 0, .slice none 0 0] := by rw [hW1]; exact Blk.new _ _ _ _ rfl hb2
  have hgl := h.lt
  have hBw : B ≤ w.heap.size := by omega
  have htc := textc_any W1 B (fun i => i ≠ g) g L e (h.grow hg1) b ((hb.grow hg1).cell (i := 0) rfl)
  rw [← ht] at htc
  have z5 := (hb5.grow hg1).cell (i := 0) rfl
  have HTC := Lib.hid htc
  have HK1 := Lib.hid (Keep.of (B := B) (K := fun i => i ≠ g) hg1 hBw)
  have HBX := Lib.hid hbx
  have HB2 := Lib.hid hb2
  have HW1 := Lib.hid hW1
  have HBB := Lib.hid (hb.grow hg1)
  have HB5 := Lib.hid (hb5.grow hg1)
  have HN2 : Hid (b2 ≠ g) := Lib.hid (by omega)
  have HN := Lib.hid (rdr_ne h hb (by decide))
  have HN5 := Lib.hid (rdr_ne h hb5 (by decide))
  have HBW := Lib.hid hBw
  have HL1 := Lib.hid hl1
  have HL2 := Lib.hid hl2
  have HA := Lib.hid ha
  have HL := Lib.hid hl
  clear h hLL hb hb5 ht ha hl hres hl1 hl2 hW1 hb2 hg1 hbx hgl hBw htc
  go_enter Try.func25, Try.ntmps25
  try dsimp only
  repeat (first | with_reducible (refine wp_region_cut (k := 1) ?_) | go_values | go_guarded | go_step | go_upon | go_back)
  rw [← HW1.out, ← HB2.out]
  unfold Cut
  go_wp2_with fail
  refine HTC.out.mono ?_
  rintro r w2 ⟨rfl, hr2, hk2⟩
  obtain ⟨W3, hW3⟩ : ∃ W, W = w2.alloc (.cells #[.string (str t), .slice none 0 0, .slice none 0 0] TF) := ⟨_, rfl⟩
  obtain ⟨b3, hb3⟩ : ∃ b3, b3 = w2.heap.size := ⟨_, rfl⟩
  have hg3 : Grow w2 W3 := by rw [hW3]; exact Grow.alloc _ _
  have hsz2 : B ≤ w2.heap.size := Nat.le_trans HBW.out (Nat.le_trans HK1.out.size hk2.size)
  have HB3B : Hid (B ≤ b3) := Lib.hid (by rw [hb3]; exact hsz2)
  have HW3B : Hid (w.heap.size ≤ b3) := Lib.hid (by rw [hb3]; exact Nat.le_trans HK1.out.size hk2.size)
  have hk3 : Keep B (fun i => i ≠ g) W1 W3 := hk2.trans (Keep.of hg3 hsz2)
  have hbx3 : Blk W3 b3 TF [.string (str t), .slice none 0 0, .slice none 0 0] := by rw [hW3]; exact Blk.new _ _ _ _ rfl hb3
  have hr3 := hr2.grow hg3
  have hgl3 := hr2.lt
  have HN3 : Hid (b3 ≠ g) := Lib.hid (by omega)
  have hn23 : Hid (b2 ≠ b3) := Lib.hid (by have := (hk2.blk HBX.out HN2.out).lt; omega)
  have HBX3 := Lib.hid hbx3
  have HBX2 := Lib.hid (hk3.blk HBX.out HN2.out)
  have HBB3 := Lib.hid (hk3.blk HBB.out HN.out)
  have HB53 := Lib.hid (hk3.blk HB5.out HN5.out)
  have HK3 := Lib.hid hk3
  have y5 := HB53.out.cell (i := 0) rfl
  have y0 := HBB3.out.cell (i := 0) rfl
  have hla := list_any W3 B g L1 e1 hr3 HL1.out b HBB3.out
  rw [← HA.out] at hla
  have HLA := Lib.hid hla
  have HW3 := Lib.hid hW3
  have HB3 := Lib.hid hb3
  have HS3 : Hid (B ≤ W3.heap.size) := Lib.hid (Nat.le_trans hsz2 hg3.size)
  clear hr2 hk2 hW3 hb3 hg3 hsz2 hk3 hbx3 hr3 hgl3 hla z5 HTC
  try dsimp only
  repeat (first | with_reducible (refine wp_region_cut (k := 2) ?_) | go_values | go_guarded | go_step | go_upon | go_back)
  rw [← HW3.out, ← HB3.out]
  unfold Cut
  go_wp2_with fail
  refine HLA.out.mono ?_
  rintro r w4 ⟨v4, rfl, ho4, hr4, hk4⟩
  have hv4 := own_so ho4
  obtain ⟨A4, c4, rfl, hv41, hv42, hv43, hv44⟩ := hv4
  have hso : SO w4 (.slice A4 al.length c4) al := ⟨A4, c4, rfl, hv41, hv42, hv43, hv44⟩
  obtain ⟨na, hna⟩ : ∃ na, na = al.length := ⟨_, rfl⟩
  rw [← hna] at hso ⊢
  have hbx4 := hk4.blk HBX3.out HN3.out
  have f1 := hbx4.free 1
  have q1 := hbx4.cell (i := 1) rfl
  obtain ⟨W5, hW5⟩ : ∃ W, W = w4.setCell ⟨b3, 1, none⟩ (.slice A4 na c4) := ⟨_, rfl⟩
  have hkS : Keep B (fun i => i ≠ b3) w4 W5 := by rw [hW5]; exact (Keep.refl w4).setCell HB3B.out (fun hn => hn rfl) _
  have hbx5 : Blk W5 b3 TF [.string (str t), .slice A4 na c4, .slice none 0 0] := by rw [hW5]; exact hbx4.set_ 1 _
  have hk04 : Keep B (fun i => i ≠ g ∧ i ≠ b3) W1 W5 := ((HK3.out.trans hk4).less fun i hi => hi.1).trans (hkS.less fun i hi => hi.2)
  have hr5 := hr4.keep hkS (fun e9 => HN3.out e9.symm)
  have hT3 : ∀ j cs fz, w4.heap[j]? = some (Obj.cells cs TS fz) → j ≠ b3 := fun j cs fz hj e9 => by
    subst e9
    exact absurd (blk_ty hbx4 hj) (by decide)
  have hso5 := hso.keep hkS hT3
  have hn53 : b5 ≠ b3 := fun e9 => by
    have h1 := hk4.blk HB53.out HN5.out
    rw [e9] at h1
    exact absurd (blk_ty h1 hbx4) (by decide)
  have hnb3 : b ≠ b3 := fun e9 => by
    have h1 := hk4.blk HBB3.out HN.out
    rw [e9] at h1
    exact absurd (blk_ty h1 hbx4) (by decide)
  have hbb5 := hk04.blk HBB.out ⟨HN.out, hnb3⟩
  have hb55 := hk04.blk HB5.out ⟨HN5.out, hn53⟩
  have hbx25 := hk04.blk HBX.out ⟨HN2.out, hn23.out⟩
  have x5 := hb55.cell (i := 0) rfl
  have x0 := hbb5.cell (i := 0) rfl
  have hla2 := list_any W5 B g L2 e2 hr5 HL2.out b hbb5
  rw [← HL.out] at hla2
  have HLA2 := Lib.hid hla2
  have HR5 := Lib.hid hr5
  have HW5 := Lib.hid hW5
  have HBX5 := Lib.hid hbx5
  have HBX25 := Lib.hid hbx25
  have HK04 := Lib.hid hk04
  have HSO5 := Lib.hid hso5
  clear hv41 hv42 hv43 hv44 hso hna hW5 hkS hbx5 hk04 hr5 hT3 hso5 hn53 hnb3 hbb5 hb55 hbx25 hla2 hr4 hk4 ho4 hbx4 y5 y0 HLA
  dsimp only
  repeat (first | with_reducible (refine wp_region_cut (k := 3) ?_) | go_values | go_guarded | go_step | go_upon | go_back)
  rw [← HW5.out]
  clear f1 q1
  unfold Cut
  go_wp2_with fail
  refine HLA2.out.mono ?_
  rintro r w6 ⟨v6, rfl, ho6, hr6, hk6⟩
  obtain ⟨A6, c6, rfl, hv61, hv62, hv63, hv64⟩ := own_so ho6
  have hso6 : SO w6 (.slice A6 li.length c6) li := ⟨A6, c6, rfl, hv61, hv62, hv63, hv64⟩
  obtain ⟨nl, hnl⟩ : ∃ nl, nl = li.length := ⟨_, rfl⟩
  rw [← hnl] at hso6 ⊢
  have hbx6 := hk6.blk HBX5.out HN3.out
  have hbx26 := hk6.blk HBX25.out HN2.out
  have hT5 : ∀ j cs fz, W5.heap[j]? = some (Obj.cells cs TS fz) → j ≠ g := fun j cs fz hj e9 => by
    obtain ⟨_, _, _, hb9, -⟩ := HR5.out
    subst e9
    exact absurd (blk_ty hb9 hj) (by decide)
  have hso46 := HSO5.out.keep hk6 hT5
  have f2 := hbx6.free 2
  have q2 := hbx6.cell (i := 2) rfl
  obtain ⟨W7, hW7⟩ : ∃ W, W = w6.setCell ⟨b3, 2, none⟩ (.slice A6 nl c6) := ⟨_, rfl⟩
  have hkS : Keep B (fun i => i ≠ b3) w6 W7 := by rw [hW7]; exact (Keep.refl w6).setCell HB3B.out (fun hn => hn rfl) _
  have hbx7 : Blk W7 b3 TF [.string (str t), .slice A4 na c4, .slice A6 nl c6] := by rw [hW7]; exact hbx6.set_ 2 _
  have hT7 : ∀ j cs fz, w6.heap[j]? = some (Obj.cells cs TS fz) → j ≠ b3 := fun j cs fz hj e9 => by
    subst e9
    exact absurd (blk_ty hbx6 hj) (by decide)
  have hk07 : Keep B (fun i => i ≠ g ∧ i ≠ b3) W1 W7 := (HK04.out.trans (hk6.less fun i hi => hi.1)).trans (hkS.less fun i hi => hi.2)
  have hr7 := hr6.keep hkS (fun e9 => HN3.out e9.symm)
  have hbx27 := hkS.blk hbx26 hn23.out
  have HW7 := Lib.hid hW7
  have HBX7 := Lib.hid hbx7
  have HBX27 := Lib.hid hbx27
  have HR7 := Lib.hid hr7
  have HK07 := Lib.hid hk07
  have HSA := Lib.hid (hso46.keep hkS hT7)
  have HSL := Lib.hid (hso6.keep hkS hT7)
  clear hv61 hv62 hv63 hv64 hso6 hnl hbx6 hbx26 hT5 hso46 hW7 hkS hbx7 hT7 hk07 hr7 hbx27 hr6 hk6 ho6 HLA2 x5 x0
  dsimp only
  repeat (first | with_reducible (refine wp_region_cut (k := 4) ?_) | go_values | go_guarded | go_step | go_upon | go_back)
  rw [← HW7.out]
  clear f2 q2
  unfold Cut
  go_wp2_with (first | (refine load_blk rfl _ _ rfl b3 rfl _ _ _ HBX7.out undF rfl (by rw [sizeF]; rfl) ?_) | (refine store_blk rfl _ _ _ rfl b2 [.string (str t), .slice A4 na c4, .slice A6 nl c6] rfl rfl _ _ HBX27.out (by rw [sizeF]; rfl) rfl rfl ?_))
  have hkL : Keep B (fun i => i ≠ b2) W7 (W7.setRow b2 [.string (str t), .slice A4 na c4, .slice A6 nl c6].toArray) := Keep.setRow (Keep.refl W7) (by rw [HB2.out]; exact HBW.out) (fun hn => hn rfl) _
  have hT9 : ∀ j cs fz, W7.heap[j]? = some (Obj.cells cs TS fz) → j ≠ b2 := fun j cs fz hj e9 => by
    subst e9
    exact absurd (blk_ty HBX27.out hj) (by decide)
  refine ret_blk rfl b2 _ [.string (str t), .slice A4 na c4, .slice A6 nl c6] _ rfl (HBX27.out.setRow _) undF rfl (by rw [sizeF]; rfl) rfl ⟨_, _, rfl, HSA.out.keep hkL hT9, HSL.out.keep hkL hT9, HR7.out.keep hkL (fun e9 => HN2.out e9.symm), ?_⟩
  have hw1 : Keep B (fun i => i ≠ g ∧ i ≠ b2 ∧ i ≠ b3) w W1 := HK1.out.less fun i hi => hi.1
  have hw7 := (hw1.trans (HK07.out.less fun i hi => ⟨hi.1, hi.2.2⟩)).trans (hkL.less fun i hi => hi.2.1)
  exact hw7.of_more fun i hi hlt => ⟨hi, fun e9 => by have := HB2.out; omega, fun e9 => by have := HW3B.out; omega⟩
end Go.Proofs.Ytacgfpjoaikfbaa.tc
