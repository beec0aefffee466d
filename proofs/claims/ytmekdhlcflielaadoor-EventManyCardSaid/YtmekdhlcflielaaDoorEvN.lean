/- The walk of event.Encode. -/
import Derived.Test.YtmekdhlcflielaaDoorEvW
import Derived.Test.YtmekdhlcflielaaDoorLdC
import Derived.Test.YtmekdhlcflielaaDoorOpen2
namespace Go.Proofs.YtmekdhlcflielaaDoor.ev
open Go Go.RowKit Go.Par Go.Kit Vi Go.Proofs.YtmekdhlcflielaaDoor.bfW
open Go.Proofs.YtmekdhlcflielaaDoor.viW hiding i8 i8s i8z i8b info8

/-- a list of events that is read -/
def Evs (w : World) (A : Option Addr) (n : Nat) (es : List Ev) : Prop := es.length = n ∧ ∃ rows : List (List Value), Row w A (n * 8) rows.flatten ∧ rows.length = n ∧ ∀ (j : Nat) (r : List Value) (e : Ev), rows[j]? = some r → es[j]? = some e → (∃ v, r = evRow v e ∧ Sl w v e.b) ∧ e.ok
theorem Evs.grow {w w' : World} {A : Option Addr} {n : Nat} {es : List Ev} (h : Evs w A n es) (hg : Grow w w') : Evs w' A n es := by
  obtain ⟨h1, rows, h2, h3, h4⟩ := h
  exact ⟨h1, rows, h2.grow hg, h3, fun j r e hr he => let ⟨⟨v, hv, hs⟩, ho⟩ := h4 j r e hr he; ⟨⟨v, hv, hs.grow hg⟩, ho⟩⟩
theorem Evs.at_ {w w' : World} {A : Option Addr} {n : Nat} {es : List Ev} (h : Evs w A n es) (hg : Grow w w') {k : Nat} (hk : k < n) :
    ∃ b off e A' n' c', A = some ⟨b, off, none⟩ ∧ es[k]? = some e ∧ (∀ i u, (evRow (.slice A' n' c') e)[i]? = some u → w'.cell? ⟨b, off + k * 8 + i, none⟩ = some u) ∧ n' ≤ c' ∧ c' ≤ maxLen ∧ Bytes w' A' n' e.b ∧ e.ok := by
  obtain ⟨hl, rows, hr, hrl, hok⟩ := h
  have hka : k < es.length := by omega
  have hkr : k < rows.length := by omega
  obtain ⟨⟨v, hv, hs⟩, h2⟩ := hok k _ _ (List.getElem?_eq_getElem hkr) (List.getElem?_eq_getElem hka)
  obtain ⟨A', n', c', rfl, b1, b2, b3⟩ := hs
  obtain ⟨b, off, e, hc⟩ := (hr.grow hg).2 (by omega)
  have h3' : ∀ r ∈ rows, r.length = 8 := by
    intro r hr
    obtain ⟨j, hj, rfl⟩ := List.getElem_of_mem hr
    obtain ⟨⟨v, hv, _⟩, _⟩ := hok j _ _ (List.getElem?_eq_getElem hj) (List.getElem?_eq_getElem (by omega))
    rw [hv]; rfl
  refine ⟨b, off, es[k], A', n', c', e, List.getElem?_eq_getElem hka, fun i u hu => ?_, b1, b2, b3.grow hg, h2⟩
  have hi : i < 8 := by have := (List.getElem?_eq_some_iff.1 hu).1; exact this
  rw [Nat.add_assoc]
  refine hc (k * 8 + i) _ ?_
  rw [flatten_at (by decide) _ _ h3', show (k * 8 + i) / 8 = k by omega, show (k * 8 + i) % 8 = i by omega, List.getElem?_eq_getElem hkr, hv]
  exact hu
theorem Row.ltB {w : World} {A : Option Addr} {n : Nat} {xs : List Value} (h : Row w A n xs) (hn : 0 < n) : ∀ ad, A = some ad → ad.block < w.heap.size := by
  intro ad e
  obtain ⟨b, off, e2, hc⟩ := h.2 hn
  rw [e2] at e
  injection e with e
  subst e
  have h1 := hc 0 _ (List.getElem?_eq_getElem (by rw [h.1]; exact hn))
  rcases Nat.lt_or_ge b w.heap.size with h2 | h2
  · exact h2
  · unfold World.cell? at h1
    rw [Array.getElem?_eq_none h2] at h1
    cases h1
def evbs (es : List Ev) : List UInt8 := (es.map evb).flatten
theorem evbs_take {es : List Ev} {k : Nat} {e : Ev} (h : es[k]? = some e) : evbs (es.take (k + 1)) = evbs (es.take k) ++ evb e := by
  unfold evbs
  rw [List.take_add_one, h]
  simp
theorem evbs_len : ∀ (es : List Ev), (∀ e ∈ es, e.b.length ≤ 5000) → (evbs es).length ≤ 5063 * es.length
  | [], _ => by simp [evbs]
  | e :: es, h => by
    have h1 := evbs_len es fun x hx => h x (List.mem_cons_of_mem _ hx)
    have h2 := evb_len e
    have h3 := h e List.mem_cons_self
    have h4 : evbs (e :: es) = evb e ++ evbs es := by simp [evbs]
    rw [h4, List.length_append, List.length_cons]
    omega
/-- what Encode hands back -/
def encS (es : List Ev) : List UInt8 × Nat := if es.all goodB then (if 1024 < es.length then ([], 3) else (vb es.length ++ evbs es, 0)) else ([], 1)
theorem good_low {e : Ev} (h : goodB e = true) : 0 ≤ e.K ∧ e.K ≤ 1048576 ∧ 0 ≤ e.at_ ∧ e.at_ ≤ 1048576 := by
  unfold goodB bad7 bad9 lowB at h
  simp only [Bool.not_eq_true', Bool.or_eq_false_iff, Bool.not_eq_false', Bool.and_eq_true, decide_eq_true_eq] at h
  omega
theorem wr_new (w : World) (B : Nat) (K : Nat → Prop) (hB : B ≤ w.heap.size) (hK : ∀ k, K k → k < w.heap.size) {g : Nat} (hg : g = w.heap.size) : Wb (w.alloc (.cells #[.slice none 0 0] TW)) B K g [] := by
  subst hg
  exact ⟨.slice none 0 0, Blk.new _ _ _ _ rfl rfl, World.ownsRow_nil _ _ _ _, hB, fun h => by have := hK _ h; omega, fun k hk => by cases hk⟩
/-- bytes that are handed back -/
def HasB (w : World) (v : Value) (l : List UInt8) : Prop := ∃ A c, v = .slice A l.length c ∧ l.length ≤ c ∧ c ≤ maxLen ∧ Bytes w A l.length l
theorem HasB.grow {w w' : World} {v : Value} {l : List UInt8} (h : HasB w v l) (hg : Grow w w') : HasB w' v l := let ⟨A, c, e, h1, h2, h3⟩ := h; ⟨A, c, e, h1, h2, h3.grow hg⟩
theorem HasB.nil (w : World) : HasB w (.slice none 0 0) [] := ⟨none, 0, rfl, Nat.le_refl _, by decide, Row.nil w none⟩
set_option maxRecDepth 100000 in
set_option maxHeartbeats 8000000 in
theorem encode_any (w : World) (A : Option Addr) (n c : Nat) (es : List Ev) (he : Evs w A n es) (hn : n ≤ 2000) (hbl : ∀ e ∈ es, e.b.length ≤ 5000) (ht : Tab w) :
    Calls Tryd.prog 9 #[.slice A n c] w fun r w' => (∃ v, r = .returned (.tuple #[v, .int .i64 ((encS es).2 : Int)]) ∧ HasB w' v (encS es).1) ∧ Grow w w' := by
  obtain ⟨g, hg⟩ : ∃ g, g = w.heap.size := ⟨_, rfl⟩
  obtain ⟨W1, hW1⟩ : ∃ W, W = w.alloc (.cells #[.slice none 0 0] TW) := ⟨_, rfl⟩
  have hw1 : Wb W1 w.heap.size (fun _ => False) g [] := by rw [hW1]; exact wr_new w w.heap.size (fun _ => False) (Nat.le_refl _) (fun _ h => h.elim) hg
  have hg1 : Grow w W1 := by rw [hW1]; exact Grow.alloc _ _
  have hl := he.1
  have HNUM := Lib.hid (num_wn W1 w.heap.size (fun _ => False) (fun _ h => h.elim) g [] hw1 [n] 1 rfl #[.int .u64 (n : Int)] rfl (fun y hy => by rw [List.mem_singleton.1 hy]; omega) (by simp))
  have HE := Lib.hid he
  have HBL := Lib.hid hbl
  have HT := Lib.hid ht
  have HL := Lib.hid hl
  have HG := Lib.hid hg
  have HW1 := Lib.hid hW1
  have HG1 := Lib.hid hg1
  obtain ⟨es9, hes9⟩ : ∃ r, r = encS es := ⟨_, rfl⟩
  rw [← hes9]
  have HR := Lib.hid hes9
  clear he hbl ht hl hg hW1 hw1 hg1 hes9
  go_enter Tryd.func9, Tryd.ntmps9
  try dsimp only
  repeat (first | with_reducible (refine wp_region_cut (k := 2) ?_) | go_values | go_guarded | go_step | go_upon | go_back)
  rw [← HW1.out, ← HG.out]
  unfold Cut
  go_wp2_with fail
  refine HNUM.out.mono ?_
  rintro r w2 ⟨rfl, hw2, hk2⟩
  have hw2' : Wb w2 w.heap.size (fun _ => False) g (vb n ++ evbs (es.take 0)) := by
    have e : ([] : List UInt8) ++ vbs [n] = vb n ++ evbs (es.take 0) := by simp [vbs, evbs]
    rw [← e]; exact hw2
  have HW2 := Lib.hid hw2'
  have HG2 := Lib.hid (hk2.grow HG1.out rfl)
  clear hw2 hw2' hk2 HNUM
  go_wp2_with fail
  go_loopw [14] (fun i' wr => ∃ k : Nat, k ≤ n ∧ i' = .int .i64 (k : Int) ∧ Wb wr w.heap.size (fun _ => False) g (vb n ++ evbs (es.take k)) ∧ (∀ e ∈ es.take k, goodB e = true) ∧ Grow w wr) (fun i' _ => n - (intOf i').toNat)
  case atStart => exact ⟨0, by omega, rfl, HW2.out, (by intro e he; rw [List.take_zero] at he; cases he), HG2.out⟩
  case round =>
    clear HW2 HG2
    obtain ⟨k, hk, rfl, hwb, hgd, hgr⟩ := hrel
    by_cases hlt : k < n
    · obtain ⟨b, off, e, A', n', c', rfl, hx, hc, b1, b2, b3, b4⟩ := HE.out.at_ hgr hlt
      have t1 : decide (k < n) = true := decide_eq_true hlt
      have t2 : decide ((k : Int) < (n : Int)) = true := decide_eq_true (by omega)
      have hel : e.b.length ≤ 5000 := HBL.out e (List.mem_of_getElem? hx)
      have hn' := b3.len
      have hlen : (vb n ++ evbs (es.take k)).length + n' ≤ 100000000000000 := by
        have h1 := vb_len_le n
        have h2 := evbs_len (es.take k) fun x hx => HBL.out x (List.mem_of_mem_take hx)
        have h3 : (es.take k).length ≤ 2000 := by rw [List.length_take]; omega
        rw [List.length_append]
        omega
      obtain ⟨W5, hW5⟩ : ∃ W, W = wr.alloc (.cells #[.int .u8 (e.k : Int), .int .u8 (e.node : Int), .int .u8 (e.peer : Int), .int .i64 e.K, .int .i64 e.at_, .int .u32 (e.mask : Int), .int .u64 (e.draw : Int), .slice A' n' c'] TE) := ⟨_, rfl⟩
      obtain ⟨b6, hb6⟩ : ∃ b, b = wr.heap.size := ⟨_, rfl⟩
      have hg5 : Grow wr W5 := by rw [hW5]; exact Grow.alloc _ _
      have hbx : Blk W5 b6 TE [.int .u8 (e.k : Int), .int .u8 (e.node : Int), .int .u8 (e.peer : Int), .int .i64 e.K, .int .i64 e.at_, .int .u32 (e.mask : Int), .int .u64 (e.draw : Int), .slice A' n' c'] := by rw [hW5]; exact Blk.new _ _ _ _ rfl hb6
      obtain ⟨q, hq⟩ : ∃ q, q = goodB e := ⟨_, rfl⟩
      have hgo := good_any W5 e b4 A' n' c' hn'.symm (HT.out.grow (hgr.trans hg5))
      rw [← hq] at hgo
      have HGO := Lib.hid hgo
      have HC := Lib.hid hc
      have HX := Lib.hid hx
      have HB3 := Lib.hid (b3.grow hg5)
      have HOK := Lib.hid b4
      have HLEN := Lib.hid hlen
      have HN' := Lib.hid hn'
      have HWB := Lib.hid (hwb.grow hg5)
      have HGD := Lib.hid hgd
      have HGR := Lib.hid (hgr.trans hg5)
      have HBX := Lib.hid hbx
      have HW5 := Lib.hid hW5
      have HB6 := Lib.hid hb6
      have HQ := Lib.hid hq
      have HLT := Lib.hid hlt
      have HAB : Hid (0 < n' → ∀ ad, A' = some ad → ad.block < w.heap.size) := Lib.hid fun h0 => by
        obtain ⟨b0, off0, e0, A0, n0, c0, e1, h1, h2, -, -, h3, -⟩ := HE.out.at_ (Grow.refl w) hlt
        have h4 := h2 7 _ rfl
        have h5 := hc 7 _ rfl
        injection e1 with e1
        injection e1 with e1 e2 _
        subst e1; subst e2
        rw [hgr.cell h4] at h5
        injection h5 with h5
        injection h5 with h5 h6 h7
        subst h5; subst h6
        exact Row.ltB (show Row w A0 n0 _ from h3) h0
      clear hx hc b1 b2 b3 b4 hel hn' hlen hW5 hb6 hg5 hbx hq hgo hwb hgd hgr hk
      go_wp2_with (refine load_cells rfl _ _ rfl b (off + k * 8) rfl [.int .u8 (e.k : Int), .int .u8 (e.node : Int), .int .u8 (e.peer : Int), .int .i64 e.K, .int .i64 e.at_, .int .u32 (e.mask : Int), .int .u64 (e.draw : Int), .slice A' n' c'] _ HC.out undE rfl (by rw [sizeE]; rfl) ?_)
      rw [← HB6.out, ← HW5.out]
      refine HGO.out.mono ?_
      rintro r w6 ⟨rfl, hg6⟩
      have hb6 := HBX.out.grow hg6
      have z0 := hb6.cell (i := 0) rfl
      have z1 := hb6.cell (i := 1) rfl
      have z2 := hb6.cell (i := 2) rfl
      have z3 := hb6.cell (i := 3) rfl
      have z4 := hb6.cell (i := 4) rfl
      have z5 := hb6.cell (i := 5) rfl
      have z6 := hb6.cell (i := 6) rfl
      have z7 := hb6.cell (i := 7) rfl
      have HG6 := Lib.hid (HGR.out.trans hg6)
      have HWB6 := Lib.hid (HWB.out.grow hg6)
      have HBY6 := Lib.hid (HB3.out.grow hg6)
      clear hg6 hb6 HGO
      cases q
      · have hr9 : es9 = ([], 1) := by
          rw [HR.out]
          unfold encS
          rw [if_neg (by
            intro h
            have := List.all_eq_true.1 h e (List.mem_of_getElem? HX.out)
            rw [← HQ.out] at this
            cases this)]
        subst hr9
        go_wp2_with fail
        go_ret2
        exact ⟨⟨_, rfl, HasB.nil _⟩, HG6.out⟩
      · obtain ⟨h1, h2, h3, h4⟩ := good_low HQ.out.symm
        obtain ⟨k0, node, peer, K, at_, mask, draw, bs⟩ := e
        dsimp only at h1 h2 h3 h4 z0 z1 z2 z3 z4 z5 z6
        obtain ⟨Kn, rfl⟩ := Int.eq_ofNat_of_zero_le h1
        obtain ⟨an, rfl⟩ := Int.eq_ofNat_of_zero_le h3
        have HWR := Lib.hid (write_nat w6 w.heap.size (fun _ => False) (fun _ h => h.elim) g _ HWB6.out k0 node peer Kn an mask draw bs A' n' c' HBY6.out (fun h0 ad had => .inl (HAB.out h0 ad had)) HOK.out.k HOK.out.node HOK.out.peer (by omega) (by omega) HOK.out.mask HOK.out.draw HLEN.out (HT.out.grow HG6.out))
        clear h1 h2 h3 h4
        go_wp2_with fail
        refine HWR.out.mono ?_
        rintro r w7 ⟨rfl, hw7, hk7⟩
        have hw7' : Wb w7 w.heap.size (fun _ => False) g (vb n ++ evbs (es.take (k + 1))) := by
          rw [evbs_take HX.out, ← List.append_assoc]; exact hw7
        have HW7 := Lib.hid hw7'
        have HG7 := Lib.hid (hk7.grow HG6.out rfl)
        have HGD' : Hid (∀ e ∈ es.take (k + 1), goodB e = true) := Lib.hid (by
          intro e he
          rw [List.take_add_one, HX.out] at he
          rcases List.mem_append.1 he with he | he
          · exact HGD.out e he
          · rw [Option.toList_some, List.mem_singleton] at he; subst he; exact HQ.out.symm)
        clear hw7 hw7' hk7 HWR z0 z1 z2 z3 z4 z5 z6 z7
        go_wp2_with fail
        go_roundw
        case rel => exact ⟨k + 1, by have := HLT.out; omega, by go_num, HW7.out, HGD'.out, HG7.out⟩
        case measure => have := HLT.out; simp [intOf] <;> omega
    · obtain rfl : k = n := by omega
      have htk : es.take k = es := List.take_of_length_le (by rw [HL.out]; exact Nat.le_refl _)
      rw [htk] at hwb hgd
      have t1 : decide (k < k) = false := decide_eq_false hlt
      have hall : es.all goodB = true := List.all_eq_true.2 hgd
      have hlen : (vb k ++ evbs es).length ≤ 140737488355328 := by
        have h1 := vb_len_le k
        have h2 := evbs_len es HBL.out
        have := HL.out
        rw [List.length_append]
        omega
      obtain ⟨Z, hZ⟩ : ∃ Z, Z = vb k ++ evbs es := ⟨_, rfl⟩
      rw [← hZ] at hwb hlen
      have HZ := Lib.hid hZ
      have HBW := Lib.hid (bytes_w wr _ _ g _ hwb hlen)
      have HGR := Lib.hid hgr
      have HALL := Lib.hid hall
      clear hwb hgd hgr hall hlen hlt hk htk hZ
      by_cases h1 : 1024 < k
      · have t3 : decide (1024 < k) = true := decide_eq_true h1
        have t3' : decide ((1024 : Int) < (k : Int)) = true := decide_eq_true (by omega)
        have hr9 : es9 = ([], 3) := by
          rw [HR.out]
          unfold encS
          rw [if_pos HALL.out, if_pos (by rw [HL.out]; exact h1)]
        subst hr9
        clear h1
        go_wp2_with fail
        go_ret2
        exact ⟨⟨_, rfl, HasB.nil _⟩, HGR.out⟩
      · have t3 : decide (1024 < k) = false := decide_eq_false h1
        have t3' : decide ((1024 : Int) < (k : Int)) = false := decide_eq_false (by omega)
        have hr9 : es9 = (Z, 0) := by
          rw [HR.out]
          unfold encS
          rw [if_pos HALL.out, if_neg (by rw [HL.out]; exact h1), HL.out, HZ.out]
        subst hr9
        clear h1
        go_wp2_with fail
        refine HBW.out.mono ?_
        rintro r w9 ⟨v9, rfl, ho9, hg9⟩
        obtain ⟨A9, c9, rfl, a1, a2, a3⟩ := own_form ho9
        rw [Nat.mul_one] at a3
        have HEND := Lib.hid (And.intro (show HasB w9 (.slice A9 Z.length c9) Z from ⟨A9, c9, rfl, a1, a2, a3⟩) (HGR.out.trans hg9))
        clear ho9 a1 a2 a3 hg9
        go_wp2_with fail
        go_ret2
        exact ⟨⟨_, rfl, HEND.out.1⟩, HEND.out.2⟩
end Go.Proofs.YtmekdhlcflielaaDoor.ev
