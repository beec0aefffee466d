/- The walk of tcode.Encode. -/
import Derived.Test.YtacgfpjoaikfbaaTcW
import Derived.Test.YtacgfpjoaikfbaaCut
namespace Go.Proofs.Ytacgfpjoaikfbaa.tc
open Go Go.RowKit Go.Par Go.Kit Vi Go.Proofs.Ytacgfpjoaikfbaa.bfW
open Go.Proofs.Ytacgfpjoaikfbaa.viW hiding i8 i8s i8z i8b info8

abbrev TF : TypeId := 39
/-- a slice of texts that is read -/
def SlS (w : World) (v : Value) (l : List (List UInt8)) : Prop := ∃ A c, v = .slice A l.length c ∧ l.length ≤ c ∧ c ≤ maxLen ∧ Row w A l.length (strs l)
theorem SlS.grow {w w' : World} {v : Value} {l : List (List UInt8)} (h : SlS w v l) (hg : Grow w w') : SlS w' v l := let ⟨A, c, e, h1, h2, h3⟩ := h; ⟨A, c, e, h1, h2, h3.grow hg⟩
theorem SlS.nil (w : World) : SlS w (.slice none 0 0) [] := ⟨none, 0, rfl, Nat.le_refl _, by decide, Row.nil w none⟩
def filRow (u v : Value) (f : Fil) : List Value := [.string (str f.name), u, v]
/-- a tree that is read -/
def Fils (w : World) (A : Option Addr) (n : Nat) (fs : List Fil) : Prop := fs.length = n ∧ ∃ rows : List (List Value), Row w A (n * 3) rows.flatten ∧ rows.length = n ∧ ∀ (j : Nat) (r : List Value) (f : Fil), rows[j]? = some r → fs[j]? = some f → ∃ u v, r = filRow u v f ∧ SlS w u f.also ∧ SlS w v f.lines
theorem Fils.grow {w w' : World} {A : Option Addr} {n : Nat} {fs : List Fil} (h : Fils w A n fs) (hg : Grow w w') : Fils w' A n fs := by
  obtain ⟨h1, rows, h2, h3, h4⟩ := h
  exact ⟨h1, rows, h2.grow hg, h3, fun j r e hr he => let ⟨u, v, hv, h5, h6⟩ := h4 j r e hr he; ⟨u, v, hv, h5.grow hg, h6.grow hg⟩⟩
theorem Fils.at_ {w : World} {A : Option Addr} {n : Nat} {fs : List Fil} (h : Fils w A n fs) {k : Nat} (hk : k < n) :
    ∃ b off f A1 c1 A2 c2, A = some ⟨b, off, none⟩ ∧ fs[k]? = some f ∧ w.cell? ⟨b, off + k * 3, none⟩ = some (.string (str f.name)) ∧ w.cell? ⟨b, off + k * 3 + 1, none⟩ = some (.slice A1 f.also.length c1) ∧ w.cell? ⟨b, off + k * 3 + 2, none⟩ = some (.slice A2 f.lines.length c2) ∧
      (f.also.length ≤ c1 ∧ c1 ≤ maxLen ∧ Row w A1 f.also.length (strs f.also)) ∧ (f.lines.length ≤ c2 ∧ c2 ≤ maxLen ∧ Row w A2 f.lines.length (strs f.lines)) := by
  obtain ⟨hl, rows, hr, hrl, hok⟩ := h
  have hka : k < fs.length := by omega
  have hkr : k < rows.length := by omega
  obtain ⟨u, v, hv, ⟨A1, c1, rfl, a1, a2, a3⟩, ⟨A2, c2, rfl, b1, b2, b3⟩⟩ := hok k _ _ (List.getElem?_eq_getElem hkr) (List.getElem?_eq_getElem hka)
  obtain ⟨b, off, e, hc⟩ := hr.2 (by omega)
  have h3' : ∀ r ∈ rows, r.length = 3 := by
    intro r hr
    obtain ⟨j, hj, rfl⟩ := List.getElem_of_mem hr
    obtain ⟨_, _, hv, _⟩ := hok j _ _ (List.getElem?_eq_getElem hj) (List.getElem?_eq_getElem (by omega))
    rw [hv]; rfl
  have hcell : ∀ i x, i < 3 → (filRow (.slice A1 (fs[k].also.length) c1) (.slice A2 (fs[k].lines.length) c2) fs[k])[i]? = some x → w.cell? ⟨b, off + k * 3 + i, none⟩ = some x := by
    intro i x hi hx
    rw [Nat.add_assoc]
    refine hc (k * 3 + i) _ ?_
    rw [flatten_at (by decide) _ _ h3', show (k * 3 + i) / 3 = k by omega, show (k * 3 + i) % 3 = i by omega, List.getElem?_eq_getElem hkr, hv]
    exact hx
  exact ⟨b, off, fs[k], A1, c1, A2, c2, e, List.getElem?_eq_getElem hka, hcell 0 _ (by decide) rfl, hcell 1 _ (by decide) rfl, hcell 2 _ (by decide) rfl, ⟨a1, a2, a3⟩, ⟨b1, b2, b3⟩⟩
theorem Row.ltB {w : World} {A : Option Addr} {n : Nat} {xs : List Value} (h : Row w A n xs) (hn : 0 < n) : ∀ ad, A = some ad → ad.block < w.heap.size := by
  intro ad e
  obtain ⟨b, off, e2, hc⟩ := h.2 hn
  rw [e2] at e
  injection e with e
  subst e
  have h1 := hc 0 _ (List.getElem?_eq_getElem (by rw [h.1]; exact hn))
  rcases Nat.lt_or_ge b w.heap.size with h2 | h2
  · exact h2
  · unfold World.cell? at h1
    rw [Array.getElem?_eq_none h2] at h1
    cases h1
theorem filf_take {fs : List Fil} {k : Nat} {f : Fil} (h : fs[k]? = some f) : filf (fs.take (k + 1)) = filf (fs.take k) ++ filb f := by
  unfold filf
  rw [List.take_add_one, h]
  simp
theorem filf_take_le (fs : List Fil) (k : Nat) : (filf (fs.take k)).length ≤ (filf fs).length := by
  have e : filf fs = filf (fs.take k) ++ filf (fs.drop k) := by unfold filf; rw [← List.flatten_append, ← List.map_append, List.take_append_drop]
  rw [e, List.length_append]; omega
theorem fil_le (fs : List Fil) (k : Nat) (f : Fil) (h : fs[k]? = some f) : (filf (fs.take k)).length + (tx f.name).length + (txs f.also).length + (txs f.lines).length ≤ (filf fs).length := by
  have h1 := filf_take_le fs (k + 1)
  rw [filf_take h, List.length_append] at h1
  unfold filb at h1
  rw [List.length_append, List.length_append] at h1
  omega
theorem wr_new (w : World) (B : Nat) (K : Nat → Prop) (hB : B ≤ w.heap.size) (hK : ∀ k, K k → k < w.heap.size) {g : Nat} (hg : g = w.heap.size) : Wb (w.alloc (.cells #[.slice none 0 0] TW)) B K g [] := by
  subst hg
  exact ⟨.slice none 0 0, Blk.new _ _ _ _ rfl rfl, World.ownsRow_nil _ _ _ _, hB, fun h => by have := hK _ h; omega, fun k hk => by cases hk⟩
/-- bytes that are handed back -/
def HasB (w : World) (v : Value) (l : List UInt8) : Prop := ∃ A c, v = .slice A l.length c ∧ l.length ≤ c ∧ c ≤ maxLen ∧ Bytes w A l.length l
theorem HasB.grow {w w' : World} {v : Value} {l : List UInt8} (h : HasB w v l) (hg : Grow w w') : HasB w' v l := let ⟨A, c, e, h1, h2, h3⟩ := h; ⟨A, c, e, h1, h2, h3.grow hg⟩
theorem HasB.nil (w : World) : HasB w (.slice none 0 0) [] := ⟨none, 0, rfl, Nat.le_refl _, by decide, Row.nil w none⟩
set_option maxRecDepth 100000 in
set_option maxHeartbeats 4000000 in
theorem encode_any (w : World) (A : Option Addr) (n c : Nat) (fs : List Fil) (he : Fils w A n fs) (hn : n ≤ 140737488355328) (hbl : (treb fs).length ≤ 100000000000000) :
    Calls Try.prog 9 #[.slice A n c] w fun r w' => (∃ v, r = .returned (.tuple #[v, .int .i64 ((encT fs).2 : Int)]) ∧ HasB w' v (encT fs).1) ∧ Grow w w' := by
  obtain ⟨g, hg⟩ : ∃ g, g = w.heap.size := ⟨_, rfl⟩
  obtain ⟨W1, hW1⟩ : ∃ W, W = w.alloc (.cells #[.slice none 0 0] TW) := ⟨_, rfl⟩
  have hw1 : Wb W1 w.heap.size (fun _ => False) g [] := by rw [hW1]; exact wr_new w w.heap.size (fun _ => False) (Nat.le_refl _) (fun _ h => h.elim) hg
  have hg1 : Grow w W1 := by rw [hW1]; exact Grow.alloc _ _
  have hl := he.1
  have HNUM := Lib.hid (num_wn W1 w.heap.size (fun _ => False) (fun _ h => h.elim) g [] hw1 [n] 1 rfl #[.int .u64 (n : Int)] rfl (fun y hy => by rw [List.mem_singleton.1 hy]; omega) (by simp))
  have HE := Lib.hid he
  have HBL := Lib.hid hbl
  have HL := Lib.hid hl
  have HG := Lib.hid hg
  have HW1 := Lib.hid hW1
  have HG1 := Lib.hid hg1
  obtain ⟨es9, hes9⟩ : ∃ r, r = encT fs := ⟨_, rfl⟩
  rw [← hes9]
  have HR := Lib.hid hes9
  clear he hbl hl hg hW1 hw1 hg1 hes9
  go_enter Try.func9, Try.ntmps9
  try dsimp only
  repeat (first | with_reducible (refine wp_region_cut (k := 2) ?_) | go_values | go_guarded | go_step | go_upon | go_back)
  rw [← HW1.out, ← HG.out]
  unfold Cut
  go_wp2_with fail
  refine HNUM.out.mono ?_
  rintro r w2 ⟨rfl, hw2, hk2⟩
  have hw2' : Wb w2 w.heap.size (fun _ => False) g (vb n ++ filf (fs.take 0)) := by
    have e : ([] : List UInt8) ++ vbs [n] = vb n ++ filf (fs.take 0) := by simp [vbs, filf]
    rw [← e]; exact hw2
  have HW2 := Lib.hid hw2'
  have HG2 := Lib.hid (hk2.grow HG1.out rfl)
  clear hw2 hw2' hk2 HNUM
  go_wp2_with fail
  go_loopw [14] (fun i' wr => ∃ k : Nat, k ≤ n ∧ i' = .int .i64 (k : Int) ∧ Wb wr w.heap.size (fun _ => False) g (vb n ++ filf (fs.take k)) ∧ Grow w wr) (fun i' _ => n - (intOf i').toNat)
  case atStart => exact ⟨0, by omega, rfl, HW2.out, HG2.out⟩
  case round =>
    clear HW2 HG2
    obtain ⟨k, hk, rfl, hwb, hgr⟩ := hrel
    by_cases hlt : k < n
    · obtain ⟨b, off, f, A1, c1, A2, c2, rfl, hx, d0, d1, d2, ⟨a1, a2, a3⟩, ⟨b1, b2, b3⟩⟩ := HE.out.at_ hlt
      have t1 : decide (k < n) = true := decide_eq_true hlt
      have t2 : decide ((k : Int) < (n : Int)) = true := decide_eq_true (by omega)
      have z0 := hgr.cell d0
      have z1 := hgr.cell d1
      have z2 := hgr.cell d2
      have hle := fil_le fs k f hx
      have hlen : (vb n ++ filf (fs.take k)).length + (tx f.name).length + (txs f.also).length + (txs f.lines).length + 100 ≤ 140737488355328 := by
        have h1 := vb_len_le n
        have h2 := HBL.out
        unfold treb at h2
        rw [List.length_append] at h2 ⊢
        omega
      have htx : (tx f.name).length = (vb f.name.length).length + f.name.length := by unfold tx; rw [List.length_append]
      have hal := txf_len f.also
      have hli := txf_len f.lines
      have hal2 : f.also.length ≤ 140737488355328 := by
        have : (txs f.also).length = (vb f.also.length).length + (txf f.also).length := by unfold txs; rw [List.length_append]
        omega
      have hli2 : f.lines.length ≤ 140737488355328 := by
        have : (txs f.lines).length = (vb f.lines.length).length + (txf f.lines).length := by unfold txs; rw [List.length_append]
        omega
      obtain ⟨Q, hQ⟩ : ∃ Q, Q = vb n ++ filf (fs.take k) := ⟨_, rfl⟩
      rw [← hQ] at hlen hwb
      obtain ⟨nm, hnm⟩ : ∃ nm, nm = f.name := ⟨_, rfl⟩
      obtain ⟨al, hal3⟩ : ∃ al, al = f.also := ⟨_, rfl⟩
      obtain ⟨li, hli3⟩ : ∃ li, li = f.lines := ⟨_, rfl⟩
      obtain ⟨na, hna⟩ : ∃ na, na = al.length := ⟨_, rfl⟩
      obtain ⟨nl, hnl⟩ : ∃ nl, nl = li.length := ⟨_, rfl⟩
      rw [← hnm] at z0 hlen htx
      rw [← hal3, ← hna] at z1 a1 a3 hal2
      rw [← hli3, ← hnl] at z2 b1 b3 hli2
      rw [← hal3, ← hli3] at hlen
      have HX := Lib.hid hx
      have HLEN := Lib.hid hlen
      have HTX := Lib.hid htx
      have HQ := Lib.hid hQ
      have HF := Lib.hid (And.intro hnm (And.intro hal3 hli3))
      have HNA := Lib.hid hna
      have HNL := Lib.hid hnl
      have HRA := Lib.hid a3
      have HRB := Lib.hid b3
      have HA2 := Lib.hid hal2
      have HL2 := Lib.hid hli2
      have HLT := Lib.hid hlt
      have HWB := Lib.hid hwb
      have HGR := Lib.hid hgr
      clear hx d0 d1 d2 a1 a2 a3 b1 b2 b3 hle hlen htx hal hli hal2 hli2 hQ hnm hal3 hli3 hna hnl hwb hgr hk
      obtain ⟨W5, hW5⟩ : ∃ W, W = wr.alloc (.cells #[.string (str nm), .slice A1 na c1, .slice A2 nl c2] TF) := ⟨_, rfl⟩
      obtain ⟨b6, hb6⟩ : ∃ b, b = wr.heap.size := ⟨_, rfl⟩
      have hg5 : Grow wr W5 := by rw [hW5]; exact Grow.alloc _ _
      have hbx : Blk W5 b6 TF [.string (str nm), .slice A1 na c1, .slice A2 nl c2] := by rw [hW5]; exact Blk.new _ _ _ _ rfl hb6
      have hsz5 : b6 < W5.heap.size := hbx.lt
      have hwb5 : Wb W5 w.heap.size (fun i => i = b6) g Q := (HWB.out.more (fun i hi hlt => by subst hi; omega)).grow hg5
      have HWT := Lib.hid (text_w W5 w.heap.size (fun i => i = b6) (fun i hi => by subst hi; exact hsz5) g Q hwb5 nm (by have := HLEN.out; have := HTX.out; omega))
      have HG5 := Lib.hid (HGR.out.trans hg5)
      have HBX := Lib.hid hbx
      have HW5 := Lib.hid hW5
      have HB6 := Lib.hid hb6
      have HS5 := Lib.hid hsz5
      clear hW5 hb6 hg5 hbx hwb5 hsz5
      go_wp2_with fail
      rw [← HB6.out, ← HW5.out]
      refine HWT.out.mono ?_
      rintro r w6 ⟨rfl, hw6, hk6⟩
      obtain ⟨Q1, hQ1⟩ : ∃ Q1, Q1 = Q ++ tx nm := ⟨_, rfl⟩
      have hw6' : Wb w6 w.heap.size (fun i => i = b6) g Q1 := by rw [hQ1]; exact hw6
      have hg6 := hk6.grow HG5.out rfl
      have hb6 := hk6.blk HBX.out rfl
      have y1 := hb6.cell (i := 1) rfl
      have HWA := Lib.hid (put_any w6 w.heap.size (fun i => i = b6) (fun i hi => by subst hi; exact hb6.lt) g Q1 hw6' A1 na c1 al HNA.out.symm (HRA.out.grow hg6) (fun h0 ad had => .inl (Row.ltB HRA.out h0 ad had)) HA2.out (by rw [hQ1, List.length_append]; have := HLEN.out; omega))
      have HB9 := Lib.hid hb6
      have HG6 := Lib.hid hg6
      have HQ1 := Lib.hid hQ1
      clear hw6 hk6 hQ1 hw6' hg6 hb6 HWT z0 z1 z2
      go_wp2_with fail
      refine HWA.out.mono ?_
      rintro r w7 ⟨rfl, hw7, hk7⟩
      obtain ⟨Q2, hQ2⟩ : ∃ Q2, Q2 = Q1 ++ txs al := ⟨_, rfl⟩
      rw [← hQ2] at hw7
      have hg7 := hk7.grow HG6.out rfl
      have hb7 := hk7.blk HB9.out rfl
      have y2 := hb7.cell (i := 2) rfl
      have HWL := Lib.hid (put_any w7 w.heap.size (fun i => i = b6) (fun i hi => by subst hi; exact hb7.lt) g Q2 hw7 A2 nl c2 li HNL.out.symm (HRB.out.grow hg7) (fun h0 ad had => .inl (Row.ltB HRB.out h0 ad had)) HL2.out (by rw [hQ2, HQ1.out, List.length_append, List.length_append]; have := HLEN.out; omega))
      have HG7 := Lib.hid hg7
      have HQ2 := Lib.hid hQ2
      clear hw7 hk7 hQ2 hg7 hb7 HWA y1
      go_wp2_with fail
      refine HWL.out.mono ?_
      rintro r w8 ⟨rfl, hw8, hk8⟩
      have hw8' : Wb w8 w.heap.size (fun _ => False) g (vb n ++ filf (fs.take (k + 1))) := by
        have e : vb n ++ filf (fs.take (k + 1)) = Q2 ++ txs li := by
          rw [filf_take HX.out, HQ2.out, HQ1.out, HQ.out, HF.out.1, HF.out.2.1, HF.out.2.2]
          unfold filb
          simp only [List.append_assoc]
        rw [e]
        exact hw8.more fun _ h _ => h.elim
      have HW8 := Lib.hid hw8'
      have HG8 := Lib.hid (hk8.grow HG7.out rfl)
      clear hw8 hw8' hk8 HWL y2
      go_wp2_with fail
      go_roundw
      case rel => exact ⟨k + 1, by have := HLT.out; omega, by go_num, HW8.out, HG8.out⟩
      case measure => have := HLT.out; simp [intOf] <;> omega
    · obtain rfl : k = n := by omega
      have htk : fs.take k = fs := List.take_of_length_le (by rw [HL.out]; exact Nat.le_refl _)
      rw [htk] at hwb
      have t1 : decide (k < k) = false := decide_eq_false hlt
      obtain ⟨Z, hZ⟩ : ∃ Z, Z = vb k ++ filf fs := ⟨_, rfl⟩
      have hlen : Z.length ≤ 100000000000000 := by
        have h2 := HBL.out
        unfold treb at h2
        rw [HL.out, ← hZ] at h2
        exact h2
      rw [← hZ] at hwb
      have hR : es9 = if 131072 < Z.length then ([], 3) else (Z, 0) := by
        rw [HR.out]
        unfold encT treb
        rw [HL.out, ← hZ]
      have HR2 := Lib.hid hR
      have HBW := Lib.hid (bytes_w wr _ _ g _ hwb (by omega))
      have HLW := Lib.hid (len_w wr _ _ g _ hwb)
      have HGR := Lib.hid hgr
      obtain ⟨zl, hzl⟩ : ∃ zl, zl = Z.length := ⟨_, rfl⟩
      rw [← hzl] at HLW HR2 HBW hlen
      have HZL := Lib.hid hzl
      clear hwb hgr hlt hk htk hZ hR hzl HR
      go_wp2_with fail
      refine HLW.out.mono ?_
      rintro r w9 ⟨rfl, rfl⟩
      by_cases h1 : 131072 < zl
      · have t3 : decide (131072 < zl) = true := decide_eq_true h1
        have t3' : decide ((131072 : Int) < (zl : Int)) = true := decide_eq_true (by omega)
        have hr9 := HR2.out
        rw [if_pos h1] at hr9
        subst hr9
        clear h1
        go_wp2_with fail
        go_ret2
        exact ⟨⟨_, rfl, HasB.nil _⟩, HGR.out⟩
      · have t3 : decide (131072 < zl) = false := decide_eq_false h1
        have t3' : decide ((131072 : Int) < (zl : Int)) = false := decide_eq_false (by omega)
        have hr9 := HR2.out
        rw [if_neg h1] at hr9
        subst hr9
        clear h1
        go_wp2_with fail
        refine HBW.out.mono ?_
        rintro r w9 ⟨v9, rfl, ho9, hg9⟩
        obtain ⟨A9, c9, rfl, a1, a2, a3⟩ := own_form ho9
        rw [Nat.mul_one] at a3
        rw [HZL.out] at a1 a3
        have HEND := Lib.hid (And.intro (show HasB w9 (.slice A9 Z.length c9) Z from ⟨A9, c9, rfl, a1, a2, a3⟩) (HGR.out.trans hg9))
        rw [← HZL.out] at HEND
        clear ho9 a1 a2 a3 hg9
        go_wp2_with fail
        go_ret2
        exact ⟨⟨_, rfl, HEND.out.1⟩, HEND.out.2⟩
end Go.Proofs.Ytacgfpjoaikfbaa.tc
