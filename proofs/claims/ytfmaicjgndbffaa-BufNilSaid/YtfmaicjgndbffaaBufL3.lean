/- The statement BufWrites. -/
import Derived.Test.YtfmaicjgndbffaaBufL2
namespace Go.Proofs.Ytfmaicjgndbffaa.bfL
open Go Go.RowKit Go.Par Go.Kit Vi Go.Proofs.Ytfmaicjgndbffaa.cl Go.Proofs.Ytfmaicjgndbffaa.bfW
open Go.Proofs.Ytfmaicjgndbffaa.viW hiding i8 i8s i8z i8b info8

theorem sl_bytes {w : World} {A : Option Addr} {n c : Nat} {l : List UInt8} (h : Sl w (.slice A n c) l) : Bytes w A n l := by
  obtain ⟨A', n', c', e, _, _, hb⟩ := h
  injection e with e1 e2 e3
  subst e1; subst e2
  exact hb
def its (xs : List Item) : List UInt8 := (xs.map it).flatten
theorem its_snoc (xs : List Item) (k : Nat) (x : Item) (h : xs[k]? = some x) : its (xs.take (k + 1)) = its (xs.take k) ++ it x := by
  unfold its; rw [List.take_add_one, h]; simp
theorem its_len : ∀ (xs : List Item), (∀ x ∈ xs, x.t.length ≤ 300) → (its xs).length ≤ 310 * xs.length
  | [], _ => by simp [its]
  | x :: xs, h => by
    have h1 := its_len xs fun y hy => h y (List.mem_cons_of_mem _ hy)
    have h2 := it_len x (h x List.mem_cons_self)
    simp only [its, List.map_cons, List.flatten_cons, List.length_append, List.length_cons] at h1 ⊢
    omega
/-- what the first loop keeps -/
structure Out (w : World) (B g1 g2 : Nat) (v : Value) (L : List UInt8) (wr : World) : Prop where
  own : wr.ownsRow B 5 1 v L.length (u8s L)
  w1 : Wb wr B (fun i => i = g2 ∨ v.ownBlock = some i) g1 L
  z2 : Blk wr g2 TW [.slice none 0 0]
  ne : ∀ i, v.ownBlock = some i → i ≠ g2
  g : Grow w wr
/-- behind a write and its append -/
theorem Out.step {w w1 w2 wr : World} {B g1 g2 n : Nat} {v v2 : Value} {L l : List UInt8} (h : Out w B g1 g2 v L wr) (hB : B = w.heap.size) (h1 : Wb w1 B (fun i => i = g2 ∨ v.ownBlock = some i) g1 (L ++ l)) (hk : Keep B (fun i => i = g2 ∨ v.ownBlock = some i) wr w1)
    (ho : w2.ownsRow B 5 1 v2 n (u8s (L ++ l))) (hg : w1.grownBy w2 v.ownBlock) (hv : v2.ownBlock = v.ownBlock ∨ v2.ownBlock = some w1.heap.size) : Out w B g1 g2 v2 (L ++ l) w2 := by
  have hz1 := hk.blk h.z2 (.inl rfl)
  have hw2 : Wb w2 B (fun i => (i = g2 ∨ v.ownBlock = some i) ∨ i = w1.heap.size) g1 (L ++ l) :=
    (h1.more (K2 := fun i => (i = g2 ∨ v.ownBlock = some i) ∨ i = w1.heap.size) (fun i hi hlt => by
      rcases hi with hi | hi
      · exact hi
      · omega)).by_ hg (fun k hk => ⟨own_base h.own k hk, .inl (.inr hk)⟩)
  have hl : (L ++ l).length = n := by have := ho.1; simpa [u8s] using this
  refine ⟨by rw [hl]; exact ho, hw2.more (fun i hi _ => ?_), (hg.block g2 hz1.lt (fun e => h.ne g2 e.symm rfl)).trans hz1, fun i hi => ?_, Below.grown (hk.grow h.g hB) hg (by rw [← hB]; exact h1.size) (fun k hk => by rw [← hB]; exact own_base h.own k hk)⟩
  · rcases hi with hi | hi
    · exact .inl (.inl hi)
    · rcases hv with hh | hh
      · exact .inl (.inr (hh ▸ hi))
      · rw [hh] at hi
        injection hi with hi
        exact .inr hi.symm
  · rcases hv with hh | hh
    · exact h.ne i (hh ▸ hi)
    · rw [hh] at hi
      injection hi with hi
      have := hz1.lt
      omega

set_option maxRecDepth 100000 in
set_option maxHeartbeats 2000000 in
theorem writes_walk (A : Option Addr) (n c : Nat) (xs : List Item) (A2 : Option Addr) (n2 c2 : Nat) (ns : List Nat) (A3 : Option Addr) (n3 c3 : Nat) (l : List UInt8) (w : World) (ha : Items w A n xs) (hn : n ≤ maxLen)
    (hb : Row w A2 n2 (ns.map u64v)) (hns : ∀ x ∈ ns, x < 18446744073709551616) (hl : Bytes w A3 n3 l) :
    Calls Try.prog 7 #[.slice A n c, .slice A2 n2 c2, .slice A3 n3 c3] w fun e w' => e = .returned (.bool true) ∧ Grow w w' := by
  have HF := Lib.hid (few_any A n c xs w ha hn)
  have HW0 := Lib.hid (works_any w)
  have HA := Lib.hid ha
  have HN := Lib.hid hb
  have HNS := Lib.hid hns
  have HLB := Lib.hid hl
  clear ha hb hns hl
  by_cases hf : fewB xs = true
  · rw [hf] at HF
    by_cases h50 : n2 ≤ 50
    · by_cases h300 : n3 ≤ 300
      · obtain ⟨hf1, hf2⟩ := few_get hf
        have hxl := HA.out.1.1
        have hnl : ns.length = n2 := by have := HN.out.1; simpa using this
        have h60 : n ≤ 60 := by omega
        have HF2 := Lib.hid hf2
        have HXL := Lib.hid hxl
        have HNL := Lib.hid hnl
        obtain ⟨B, hB⟩ : ∃ B, B = w.heap.size := ⟨_, rfl⟩
        have HB := Lib.hid hB
        clear hf hf1 hf2 hxl hnl hn hB
        go_enter Try.func7, Try.ntmps7
        go_wp2_with fail
        refine HF.out.mono ?_
        rintro e w' ⟨rfl, rfl⟩
        go_wp2_with fail
        rw [← HB.out]
        obtain ⟨W2, hW2⟩ : ∃ W2, W2 = (w.alloc (.cells #[.slice none 0 0] TW)).alloc (.cells #[.slice none 0 0] TW) := ⟨_, rfl⟩
        rw [← hW2]
        have H0 : Hid (Out w B B (B + 1) (.slice none 0 0) [] W2) := Lib.hid (by
          rw [hW2]
          have hz := ((wr_new w B (fun i => i < B) (Nat.le_of_eq HB.out) (fun i h => by rw [← HB.out]; exact h) HB.out).more (K2 := fun i => i = B + 1 ∨ (Value.slice none 0 0).ownBlock = some i) (fun i hi hlt => by
            rcases hi with hi | hi
            · simp [HB.out] at hlt hi; omega
            · cases hi)).grow (Grow.alloc _ (.cells #[.slice none 0 0] TW))
          refine ⟨own_none _ _ _, hz, Blk.new _ _ _ _ rfl (by simp [HB.out]), (fun i hi => by cases hi), (Grow.alloc _ _).trans (Grow.alloc _ _)⟩)
        clear hW2
        go_loopw [9, 11] (fun v0 i wr => ∃ (k : Nat) (v : Value), k ≤ n ∧ i = .int .i64 (k : Int) ∧ v = v0 ∧ Out w B B (B + 1) v (its (xs.take k)) wr) (fun _ i _ => n - (intOf i).toNat)
        case atStart => exact ⟨0, _, by omega, rfl, rfl, H0.out⟩
        case round =>
          obtain ⟨k, v, hk, rfl, rfl, ho⟩ := hrel
          clear H0
          by_cases hlt : k < n
          · obtain ⟨b, off, x, rfl, hx, ok, d0, d1, d2, d3⟩ := (HA.out.grow ho.g).at_ hlt
            have hxt := HF2.out x (List.mem_of_getElem? hx)
            have hsn := its_snoc xs k x hx
            have hil := it_len x hxt
            have hLl : (its (xs.take k)).length ≤ 310 * k := by
              have := its_len (xs.take k) (fun y hy => HF2.out y (List.mem_of_mem_take hy))
              rw [List.length_take] at this
              have := HXL.out
              omega
            have HSN := Lib.hid hsn
            generalize its (xs.take k) = Lk at ho hLl HSN
            have hlt1 := ho.w1.lt
            have HO := Lib.hid ho
            have HWR := Lib.hid (write_any wr B (fun i => i = B + 1 ∨ v.ownBlock = some i) (fun i hi => by
              rcases hi with hi | hi
              · rw [hi]; exact HO.out.z2.lt
              · exact (HO.out.own.lt i hi).2) B Lk HO.out.w1 x ok hxt (by omega))
            clear hx hsn ho ok hxt
            go_wp2_with fail
            refine HWR.out.mono ?_
            rintro e w1 ⟨u, rfl, hs1, hw1, hk1⟩
            obtain ⟨A4, n4, c4, rfl, -, -, hb4⟩ := hs1
            have hown1 := hk1.own HO.out.own (fun k hk => .inr hk)
            have HW1 := Lib.hid hw1
            have HK1 := Lib.hid hk1
            have hn4 := hb4.len
            have hsz1 := hw1.size
            have hlim : Lk.length + n4 ≤ 140737488355328 := by omega
            clear hw1 hk1 HWR hn4
            go_wp2_with (at_builtin; refine append_bytes Try.underlying23 i8 i8z i8s i8b rfl _ _ rfl B v Lk.length Lk hown1 rfl A4 n4 c4 (it x) hb4 rfl hlim hsz1 ?_; intro v2 w2 hown2 hgb2 hh2)
            have hst := HO.out.step HB.out HW1.out HK1.out hown2 hgb2 hh2
            obtain ⟨A5, c5, rfl, -, -, -⟩ := own_form hown2
            have HST := Lib.hid hst
            clear hst hown1 hown2 hgb2 hh2 hb4
            go_roundw
            case rel => exact ⟨k + 1, _, by omega, by go_num, rfl, by rw [HSN.out]; exact HST.out⟩
            case measure => simp [intOf] <;> omega
          · obtain rfl : k = n := by omega
            have e : xs.take k = xs := List.take_of_length_le (by have := HXL.out; omega)
            rw [e] at ho
            have hLl : (its xs).length ≤ 310 * k := by have := its_len xs HF2.out; have := HXL.out; omega
            generalize its xs = Lx at ho hLl
            have HO := Lib.hid ho
            have hz2 : Wb wr B (fun i => i < wr.heap.size ∧ i ≠ B + 1) (B + 1) [] := ⟨.slice none 0 0, HO.out.z2, own_none _ _ _, by omega, fun h => h.2 rfl, fun k hk => by cases hk⟩
            have hnlen := HNL.out
            have hN2 := num_w wr B (fun i => i < wr.heap.size ∧ i ≠ B + 1) (fun i hi => hi.1) (B + 1) [] hz2 A2 n2 c2 ns (HN.out.grow HO.out.g) (fun h0 ad had => .inl (by rw [HB.out]; exact Row.block HN.out h0 ad had)) HNS.out (by simp; omega)
            rw [List.nil_append] at hN2
            have hvl := vbs_len ns
            have HN2 := Lib.hid hN2
            obtain ⟨V, hV⟩ : ∃ V, V = vbs ns := ⟨_, rfl⟩
            rw [← hV] at HN2 hvl
            have HVV := Lib.hid hV
            clear e ho hz2 hN2 hV hnlen
            go_wp2_with fail
            refine HN2.out.mono ?_
            rintro e w3 ⟨rfl, hw3, hk3⟩
            have HW3 := Lib.hid hw3
            have HK3 := Lib.hid hk3
            have HG3 : Hid (Grow w w3) := Lib.hid (hk3.grow HO.out.g HB.out)
            have HB4 := Lib.hid (byte_w w3 B (fun i => i < wr.heap.size ∧ i ≠ B + 1) (fun i hi => Nat.lt_of_lt_of_le hi.1 HK3.out.size) (B + 1) V HW3.out A3 n3 c3 l (HLB.out.grow HG3.out) (by have := HNL.out; omega))
            clear hw3 hk3 HN2
            go_wp2_with fail
            refine HB4.out.mono ?_
            rintro e w4 ⟨rfl, hw4, hk4⟩
            have hk := HK3.out.trans hk4
            have HW4 := Lib.hid hw4
            have HG4 : Hid (Grow w w4) := Lib.hid (hk.grow HO.out.g HB.out)
            have HV4 : Hid (w4.ownsRow B 5 1 v Lx.length (u8s Lx)) := Lib.hid (hk.own HO.out.own (fun i hi => ⟨(HO.out.own.lt i hi).2, HO.out.ne i hi⟩))
            have HX4 : Hid (Wb w4 B (fun i => i = B + 1 ∨ v.ownBlock = some i) B Lx) := Lib.hid (HO.out.w1.keep hk (fun i hi => ⟨(HO.out.w1.its_lt i hi).2, fun e => HO.out.w1.apart i hi (.inl e)⟩))
            clear hw4 hk4 hk HB4 HW3 HK3 HO
            go_wp2_with fail
            go_loopw [10, 12] (fun u i wr => ∃ k : Nat, k ≤ n2 ∧ i = .int .i64 (k : Int) ∧ wr.ownsRow w4.heap.size 5 1 u (vbs (ns.take k)).length (u8s (vbs (ns.take k))) ∧ Grow w4 wr) (fun _ i _ => n2 - (intOf i).toNat)
            case atStart => exact ⟨0, by omega, rfl, by simpa [vbs] using own_none _ _ _, Grow.refl _⟩
            case round =>
              obtain ⟨j, hj, rfl, hu, hgq⟩ := hrel
              by_cases hjl : j < n2
              · have hrow := (HN.out.grow HG4.out).grow hgq
                obtain ⟨b, off, y, rfl, hy, hcell⟩ := hrow.at_ hjl
                obtain ⟨x, hx, rfl⟩ : ∃ x, ns[j]? = some x ∧ u64v x = y := by simpa [List.getElem?_map] using hy
                have hx64 := HNS.out x (List.mem_of_getElem? hx)
                have HSN := Lib.hid (vbs_snoc ns j x hx)
                have hL1 := vbs_len (ns.take j)
                have hL2 := vb_len_le x
                rw [List.length_take] at hL1
                have hub : u64v x = .int .u64 (x : Int) := rfl
                rw [hub] at hcell
                have hLj : (vbs (ns.take j)).length ≤ 10 * j := by have := HNL.out; omega
                generalize vbs (ns.take j) = Lj at hu hLj HSN
                have HR := Lib.hid (ref_bytes_any x hx64 wr)
                generalize vb x = X at HR hL2 HSN
                have HU := Lib.hid hu
                have HGQ := Lib.hid hgq
                clear hrow hy hx hL1 hub hu hgq
                go_wp2_with fail
                refine HR.out.mono ?_
                rintro e w6 ⟨A6, c6, rfl, -, -, hb6, hg6⟩
                have hown6 := own_grow HU.out hg6
                have hsz6 : w4.heap.size ≤ w6.heap.size := (HGQ.out.trans hg6).size
                have HG6 := Lib.hid (HGQ.out.trans hg6)
                have hlim : Lj.length + X.length ≤ 140737488355328 := by omega
                clear hg6 HR
                go_wp2_with (at_builtin; refine append_bytes Try.underlying23 i8 i8z i8s i8b rfl _ _ rfl w4.heap.size _ Lj.length Lj hown6 rfl A6 X.length c6 X hb6 rfl hlim hsz6 ?_; intro v7 w7 hown7 hgb7 hh7)
                have HG7 := Lib.hid (grow_by HG6.out hgb7 (own_base hown6))
                obtain ⟨A7, c7, rfl, -, -, -⟩ := own_form hown7
                have HO7 := Lib.hid hown7
                clear hown6 hown7 hgb7 hh7 hb6
                go_roundw
                case rel => exact ⟨j + 1, by omega, by go_num, by rw [HSN.out, List.length_append]; exact HO7.out, HG7.out⟩
                case measure => simp [intOf] <;> omega
              · obtain rfl : j = n2 := by omega
                have e : ns.take j = ns := List.take_of_length_le (by have := HNL.out; omega)
                rw [e, ← HVV.out] at hu
                have HU := Lib.hid hu
                have HGQ := Lib.hid hgq
                have HX5 := Lib.hid (HX4.out.grow hgq)
                have HW5 := Lib.hid (HW4.out.grow hgq)
                have hv5 := own_grow HV4.out hgq
                obtain ⟨A5, c5, rfl, -, -, -⟩ := own_form hv5
                obtain ⟨A6, c6, rfl, -, -, -⟩ := own_form HU.out
                have HB5 : Hid (Bytes wr A5 Lx.length Lx) := Lib.hid (sl_bytes (own_sl hv5))
                have HB6 : Hid (Bytes wr A6 V.length V) := Lib.hid (sl_bytes (own_sl HU.out))
                have HB3 : Hid (Bytes wr A3 n3 l) := Lib.hid ((HLB.out.grow HG4.out).grow hgq)
                have hll : l.length = n3 := HB3.out.len
                have HLL := Lib.hid hll
                have hap := str_append V l
                have HAP := Lib.hid hap
                have hvn : V.length ≤ 500 := by have := HNL.out; omega
                clear e hu hgq hv5 HX4 HW4 HV4 hll hap
                go_wp2_with fail
                apply (fun (v1 v2 v3 v4 v5 v6 v7 v8 v9 v10 v11 v13 v14 v15 v16 v17 v18 v19 v20 v21 v22 v23 v24 : Value) mono obl tail => wp_region_par (R := Grow) (Φ := phi [(IsSl Lx), veq v1, veq v2, veq v3, veq v4, veq v5, veq v6, veq v7, veq v8, veq v9, veq v10, veq v11, (IsSl (V ++ l)), veq v13, veq v14, veq v15, veq v16, veq v17, veq v18, veq v19, veq v20, veq v21, veq v22, veq v23, veq v24]) (m := 25) (dls := [[], [(57, 0)], [], [(59, 2)], [(58, 1), (60, 3)], [(61, 4)], [(62, 5)], [(62, 5)], [(64, 7), (62, 5)], [(63, 6), (65, 8), (62, 5)], [(62, 5), (66, 9)], [(67, 10)], [(68, 11)], [(69, 12), (68, 11)], [(68, 11)], [(71, 14), (68, 11)], [(68, 11)], [(73, 16), (68, 11)], [(72, 15), (74, 17), (68, 11)], [(70, 13), (75, 18), (68, 11)], [(68, 11), (76, 19)], [(77, 20)], [(78, 21)], [(78, 21), (79, 22)], [(80, 23)]]) (ds := [57, 58, 59, 60, 61, 62, 63, 64, 65, 66, 67, 68, 69, 70, 71, 72, 73, 74, 75, 76, 77, 78, 79, 80, 6]) (by kernel_rfl) (by kernel_rfl) (by decide) rfl (Grow.drew _) (fun _ _ _ => Grow.trans) (mono_phi mono) obl tail)
                case obl =>
                  refine obls_cons (fun f w' hR hH Q hQ => ?_) ?_
                  · skip
                    simp only [view, List.foldl]
                    go_wp2_with (go_at_call 25; refine (bytes_w w' _ _ B Lx (HX5.out.grow hR) (by omega)).mono ?_; rintro e w1 ⟨v1, rfl, ho1, hg1⟩)
                    exact hQ _ _ hg1 (own_sl ho1) rfl
                  refine obls_cons (fun f w' hR hH Q hQ => ?_) ?_
                  · skip
                    obtain ⟨h0, -⟩ := hH
                    simp only [view, List.foldl, Act.put, List.setIfInBounds_toArray, List.set_cons_zero, List.set_cons_succ]
                    generalize f 0 = u0 at h0 ⊢
                    replace h0 : (IsSl Lx) u0 w' := h0
                    obtain ⟨A1, n1, c1, rfl, -, -, hb1⟩ := h0
                    have hcs := conv_str (P := Try.prog) Try.underlying23 Try.underlying5 Try.underlying9 hb1 c1
                    clear hb1
                    go_wp2_with fail
                    exact hQ _ _ (Grow.refl _) rfl rfl
                  refine obls_cons (fun f w' hR hH Q hQ => ?_) ?_
                  · skip
                    simp only [view, List.foldl]
                    repeat (first | go_guarded | go_step)
                    exact hQ _ _ (Grow.refl _) rfl rfl
                  refine obls_cons (fun f w' hR hH Q hQ => ?_) ?_
                  · skip
                    obtain ⟨h2, -⟩ := hH
                    simp only [view, List.foldl, Act.put, List.setIfInBounds_toArray, List.set_cons_zero, List.set_cons_succ]
                    rw [show f 2 = _ from h2]
                    clear h2
                    have hcs := fun c => conv_str (P := Try.prog) Try.underlying23 Try.underlying5 Try.underlying9 ((HB5.out).grow hR) c
                    go_wp2_with fail
                    exact hQ _ _ (Grow.refl _) rfl rfl
                  refine obls_cons (fun f w' hR hH Q hQ => ?_) ?_
                  · skip
                    obtain ⟨h1, h3, -⟩ := hH
                    simp only [view, List.foldl, Act.put, List.setIfInBounds_toArray, List.set_cons_zero, List.set_cons_succ]
                    rw [show f 1 = _ from h1]
                    rw [show f 3 = _ from h3]
                    clear h1 h3
                    repeat (first | go_guarded | go_step)
                    exact hQ _ _ (Grow.refl _) rfl rfl
                  refine obls_cons (fun f w' hR hH Q hQ => ?_) ?_
                  · skip
                    obtain ⟨h4, -⟩ := hH
                    simp only [view, List.foldl, Act.put, List.setIfInBounds_toArray, List.set_cons_zero, List.set_cons_succ]
                    rw [show f 4 = _ from h4]
                    clear h4
                    repeat (first | go_guarded | go_step)
                    exact hQ _ _ (Grow.refl _) rfl rfl
                  refine obls_cons (fun f w' hR hH Q hQ => ?_) ?_
                  · skip
                    obtain ⟨h5, -⟩ := hH
                    simp only [view, List.foldl, Act.put, List.setIfInBounds_toArray, List.set_cons_zero, List.set_cons_succ]
                    rw [show f 5 = _ from h5]
                    clear h5
                    go_wp2_with (go_at_call 26; refine (len_w w' _ _ B Lx (HX5.out.grow hR)).mono ?_; rintro e w1 ⟨rfl, rfl⟩)
                    exact hQ _ _ (Grow.refl _) rfl rfl
                  refine obls_cons (fun f w' hR hH Q hQ => ?_) ?_
                  · skip
                    obtain ⟨h5, -⟩ := hH
                    simp only [view, List.foldl, Act.put, List.setIfInBounds_toArray, List.set_cons_zero, List.set_cons_succ]
                    rw [show f 5 = _ from h5]
                    clear h5
                    repeat (first | go_guarded | go_step)
                    exact hQ _ _ (Grow.refl _) rfl rfl
                  refine obls_cons (fun f w' hR hH Q hQ => ?_) ?_
                  · skip
                    obtain ⟨h7, h5, -⟩ := hH
                    simp only [view, List.foldl, Act.put, List.setIfInBounds_toArray, List.set_cons_zero, List.set_cons_succ]
                    rw [show f 7 = _ from h7]
                    rw [show f 5 = _ from h5]
                    clear h7 h5
                    repeat (first | go_guarded | go_step)
                    exact hQ _ _ (Grow.refl _) rfl rfl
                  refine obls_cons (fun f w' hR hH Q hQ => ?_) ?_
                  · skip
                    obtain ⟨h6, h8, h5, -⟩ := hH
                    simp only [view, List.foldl, Act.put, List.setIfInBounds_toArray, List.set_cons_zero, List.set_cons_succ]
                    rw [show f 6 = _ from h6]
                    rw [show f 8 = _ from h8]
                    rw [show f 5 = _ from h5]
                    clear h6 h8 h5
                    repeat (first | go_guarded | go_step)
                    exact hQ _ _ (Grow.refl _) rfl rfl
                  refine obls_cons (fun f w' hR hH Q hQ => ?_) ?_
                  · skip
                    obtain ⟨h5, h9, -⟩ := hH
                    simp only [view, List.foldl, Act.put, List.setIfInBounds_toArray, List.set_cons_zero, List.set_cons_succ]
                    rw [show f 5 = _ from h5]
                    rw [show f 9 = _ from h9]
                    clear h5 h9
                    repeat (first | go_guarded | go_step)
                    exact hQ _ _ (Grow.refl _) rfl rfl
                  refine obls_cons (fun f w' hR hH Q hQ => ?_) ?_
                  · skip
                    obtain ⟨h10, -⟩ := hH
                    simp only [view, List.foldl, Act.put, List.setIfInBounds_toArray, List.set_cons_zero, List.set_cons_succ]
                    rw [show f 10 = _ from h10]
                    clear h10
                    repeat (first | go_guarded | go_step)
                    exact hQ _ _ (Grow.refl _) rfl rfl
                  refine obls_cons (fun f w' hR hH Q hQ => ?_) ?_
                  · skip
                    obtain ⟨h11, -⟩ := hH
                    simp only [view, List.foldl, Act.put, List.setIfInBounds_toArray, List.set_cons_zero, List.set_cons_succ]
                    rw [show f 11 = _ from h11]
                    clear h11
                    go_wp2_with (go_at_call 25; refine (bytes_w w' _ _ (B + 1) (V ++ l) (HW5.out.grow hR) (by rw [List.length_append, HLL.out]; omega)).mono ?_; rintro e w1 ⟨v1, rfl, ho1, hg1⟩)
                    exact hQ _ _ hg1 (own_sl ho1) rfl
                  refine obls_cons (fun f w' hR hH Q hQ => ?_) ?_
                  · skip
                    obtain ⟨h12, h11, -⟩ := hH
                    simp only [view, List.foldl, Act.put, List.setIfInBounds_toArray, List.set_cons_zero, List.set_cons_succ]
                    generalize f 12 = u12 at h12 ⊢
                    replace h12 : (IsSl (V ++ l)) u12 w' := h12
                    rw [show f 11 = _ from h11]
                    clear h11
                    obtain ⟨A1, n1, c1, rfl, -, -, hb1⟩ := h12
                    have hcs := conv_str (P := Try.prog) Try.underlying23 Try.underlying5 Try.underlying9 hb1 c1
                    clear hb1
                    go_wp2_with fail
                    exact hQ _ _ (Grow.refl _) rfl rfl
                  refine obls_cons (fun f w' hR hH Q hQ => ?_) ?_
                  · skip
                    obtain ⟨h11, -⟩ := hH
                    simp only [view, List.foldl, Act.put, List.setIfInBounds_toArray, List.set_cons_zero, List.set_cons_succ]
                    rw [show f 11 = _ from h11]
                    clear h11
                    repeat (first | go_guarded | go_step)
                    exact hQ _ _ (Grow.refl _) rfl rfl
                  refine obls_cons (fun f w' hR hH Q hQ => ?_) ?_
                  · skip
                    obtain ⟨h14, h11, -⟩ := hH
                    simp only [view, List.foldl, Act.put, List.setIfInBounds_toArray, List.set_cons_zero, List.set_cons_succ]
                    rw [show f 14 = _ from h14]
                    rw [show f 11 = _ from h11]
                    clear h14 h11
                    have hcs := fun c => conv_str (P := Try.prog) Try.underlying23 Try.underlying5 Try.underlying9 ((HB6.out).grow hR) c
                    go_wp2_with fail
                    exact hQ _ _ (Grow.refl _) rfl rfl
                  refine obls_cons (fun f w' hR hH Q hQ => ?_) ?_
                  · skip
                    obtain ⟨h11, -⟩ := hH
                    simp only [view, List.foldl, Act.put, List.setIfInBounds_toArray, List.set_cons_zero, List.set_cons_succ]
                    rw [show f 11 = _ from h11]
                    clear h11
                    repeat (first | go_guarded | go_step)
                    exact hQ _ _ (Grow.refl _) rfl rfl
                  refine obls_cons (fun f w' hR hH Q hQ => ?_) ?_
                  · skip
                    obtain ⟨h16, h11, -⟩ := hH
                    simp only [view, List.foldl, Act.put, List.setIfInBounds_toArray, List.set_cons_zero, List.set_cons_succ]
                    rw [show f 16 = _ from h16]
                    rw [show f 11 = _ from h11]
                    clear h16 h11
                    have hcs := fun c => conv_str (P := Try.prog) Try.underlying23 Try.underlying5 Try.underlying9 ((HB3.out).grow hR) c
                    go_wp2_with fail
                    exact hQ _ _ (Grow.refl _) rfl rfl
                  refine obls_cons (fun f w' hR hH Q hQ => ?_) ?_
                  · skip
                    obtain ⟨h15, h17, h11, -⟩ := hH
                    simp only [view, List.foldl, Act.put, List.setIfInBounds_toArray, List.set_cons_zero, List.set_cons_succ]
                    rw [show f 15 = _ from h15]
                    rw [show f 17 = _ from h17]
                    rw [show f 11 = _ from h11]
                    clear h15 h17 h11
                    have hl3 : l.length ≤ 300 := by have := HLL.out; omega
                    have hs1 := str_size V
                    have hs2 := str_size l
                    have hap := HAP.out
                    repeat (first | go_guarded | go_step)
                    exact hQ _ _ (Grow.refl _) rfl rfl
                  refine obls_cons (fun f w' hR hH Q hQ => ?_) ?_
                  · skip
                    obtain ⟨h13, h18, h11, -⟩ := hH
                    simp only [view, List.foldl, Act.put, List.setIfInBounds_toArray, List.set_cons_zero, List.set_cons_succ]
                    rw [show f 13 = _ from h13]
                    rw [show f 18 = _ from h18]
                    rw [show f 11 = _ from h11]
                    clear h13 h18 h11
                    repeat (first | go_guarded | go_step)
                    exact hQ _ _ (Grow.refl _) rfl rfl
                  refine obls_cons (fun f w' hR hH Q hQ => ?_) ?_
                  · skip
                    obtain ⟨h11, h19, -⟩ := hH
                    simp only [view, List.foldl, Act.put, List.setIfInBounds_toArray, List.set_cons_zero, List.set_cons_succ]
                    rw [show f 11 = _ from h11]
                    rw [show f 19 = _ from h19]
                    clear h11 h19
                    repeat (first | go_guarded | go_step)
                    exact hQ _ _ (Grow.refl _) rfl rfl
                  refine obls_cons (fun f w' hR hH Q hQ => ?_) ?_
                  · skip
                    obtain ⟨h20, -⟩ := hH
                    simp only [view, List.foldl, Act.put, List.setIfInBounds_toArray, List.set_cons_zero, List.set_cons_succ]
                    rw [show f 20 = _ from h20]
                    clear h20
                    repeat (first | go_guarded | go_step)
                    exact hQ _ _ (Grow.refl _) rfl rfl
                  refine obls_cons (fun f w' hR hH Q hQ => ?_) ?_
                  · skip
                    obtain ⟨h21, -⟩ := hH
                    simp only [view, List.foldl, Act.put, List.setIfInBounds_toArray, List.set_cons_zero, List.set_cons_succ]
                    rw [show f 21 = _ from h21]
                    clear h21
                    go_wp2_with (go_at_call 21; refine (works_any w').mono ?_; rintro e w1 ⟨rfl, hg1⟩)
                    exact hQ _ _ hg1 rfl rfl
                  refine obls_cons (fun f w' hR hH Q hQ => ?_) ?_
                  · skip
                    obtain ⟨h21, h22, -⟩ := hH
                    simp only [view, List.foldl, Act.put, List.setIfInBounds_toArray, List.set_cons_zero, List.set_cons_succ]
                    rw [show f 21 = _ from h21]
                    rw [show f 22 = _ from h22]
                    clear h21 h22
                    repeat (first | go_guarded | go_step)
                    exact hQ _ _ (Grow.refl _) rfl rfl
                  refine obls_cons (fun f w' hR hH Q hQ => ?_) ?_
                  · skip
                    obtain ⟨h23, -⟩ := hH
                    simp only [view, List.foldl, Act.put, List.setIfInBounds_toArray, List.set_cons_zero, List.set_cons_succ]
                    rw [show f 23 = _ from h23]
                    clear h23
                    repeat (first | go_guarded | go_step)
                    exact hQ _ _ (Grow.refl _) rfl rfl
                  exact obls_nil
                case mono => exact ⟨IsSl.mono, Mono.veq _, Mono.veq _, Mono.veq _, Mono.veq _, Mono.veq _, Mono.veq _, Mono.veq _, Mono.veq _, Mono.veq _, Mono.veq _, Mono.veq _, IsSl.mono, Mono.veq _, Mono.veq _, Mono.veq _, Mono.veq _, Mono.veq _, Mono.veq _, Mono.veq _, Mono.veq _, Mono.veq _, Mono.veq _, Mono.veq _, Mono.veq _, trivial⟩
                case tail =>
                  intro f w' hR hH
                  simp only [view, List.zipIdx, List.foldl, Act.put, List.setIfInBounds_toArray, List.set_cons_zero, List.set_cons_succ, List.drop_succ_cons, List.drop_zero]
                  obtain ⟨-, -, -, -, -, -, -, -, -, -, -, -, -, -, -, -, -, -, -, -, -, -, -, -, q24, -⟩ := hH
                  rw [show f 24 = _ from q24]
                  clear q24
                  generalize f 0 = x0
                  generalize f 1 = x1
                  generalize f 2 = x2
                  generalize f 3 = x3
                  generalize f 4 = x4
                  generalize f 5 = x5
                  generalize f 6 = x6
                  generalize f 7 = x7
                  generalize f 8 = x8
                  generalize f 9 = x9
                  generalize f 10 = x10
                  generalize f 11 = x11
                  generalize f 12 = x12
                  generalize f 13 = x13
                  generalize f 14 = x14
                  generalize f 15 = x15
                  generalize f 16 = x16
                  generalize f 17 = x17
                  generalize f 18 = x18
                  generalize f 19 = x19
                  generalize f 20 = x20
                  generalize f 21 = x21
                  generalize f 22 = x22
                  generalize f 23 = x23
                  go_wp2_with fail
                  go_ret
                  exact ⟨rfl, (HG4.out.trans HGQ.out).trans hR⟩
      · have d1 : decide ((300 : Int) < (n3 : Int)) = true := decide_eq_true (by omega)
        go_enter Try.func7, Try.ntmps7
        go_wp2_with fail
        refine HF.out.mono ?_
        rintro e w' ⟨rfl, rfl⟩
        go_wp2_with fail
        refine HW0.out.mono ?_
        rintro e w' ⟨rfl, hg⟩
        go_wp2_with fail
        go_ret
        exact ⟨rfl, hg⟩
    · have d1 : decide ((50 : Int) < (n2 : Int)) = true := decide_eq_true (by omega)
      go_enter Try.func7, Try.ntmps7
      go_wp2_with fail
      refine HF.out.mono ?_
      rintro e w' ⟨rfl, rfl⟩
      go_wp2_with fail
      refine HW0.out.mono ?_
      rintro e w' ⟨rfl, hg⟩
      go_wp2_with fail
      go_ret
      exact ⟨rfl, hg⟩
  · rw [show fewB xs = false by simpa using hf] at HF
    clear hf
    go_enter Try.func7, Try.ntmps7
    go_wp2_with fail
    refine HF.out.mono ?_
    rintro e w' ⟨rfl, rfl⟩
    go_wp2_with fail
    refine HW0.out.mono ?_
    rintro e w' ⟨rfl, hg⟩
    go_wp2_with fail
    go_ret
    exact ⟨rfl, hg⟩
end Go.Proofs.Ytfmaicjgndbffaa.bfL
