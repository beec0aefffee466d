/- The walks of the document's sets: Next, Put. -/
import Derived.Test.YtjfohglkpbgkaaaMkR
namespace Go.Proofs.Ytjfohglkpbgkaaa.mkR
open Go Go.RowKit Go.Par Go.Kit Go.Proofs.Ytjfohglkpbgkaaa.Mk Go.Proofs.Ytjfohglkpbgkaaa.mkW

theorem ret_blk_tmp {P : Program} {a : Act} {w : World} {fn : Func} {R : Ending → World → Prop} {p q : Tmp} {ty : TypeId} (hf : fn.results = #[.cell p ty, .tmp q]) (g : Nat) (t : TypeId) (cs : List Value) (d : TypeDesc) (u : Value)
    (hp : a.tmps.getD p undef = .pointer (some ⟨g, 0, none⟩)) (hg : Blk w g t cs) (hu : P.underlying ty = some d) (hd : (match d with | .struct _ | .array _ _ => true | _ => false) = true) (hi : (P.info? ty).map (·.size) = some cs.length)
    (hq : a.tmps.getD q undef = u) (hde : a.defers = []) (hR : R (.returned (.tuple #[.agg cs.toArray, u])) w) : bodyPost P fn R .ret a w := by
  subst hq
  exact bodyPost_ret (results_cell_tmp hf a.tmps w g t cs.toArray (0, 0) d hp hg hu hd (by simpa using hi)) hde hR
theorem own_farRow {w : World} {base e size n g : Nat} {v : Value} {xs : List Value} (h : w.ownsRow base e size v n xs) (hb : ∀ k, v.ownBlock = some k → k ≠ g) (l : Array Value) : (w.setRow g l).ownsRow base e size v n xs := by
  obtain ⟨h1, h2⟩ := h
  refine ⟨h1, ?_⟩
  rcases h2 with h2 | ⟨g', cap, cur, rfl, h3, h4, h5⟩
  · exact .inl h2
  · exact .inr ⟨g', cap, cur, rfl, h3, (setRow_other w g g' l (hb g' rfl)).trans h4, h5⟩
theorem fil_yes {L : List Nat} {p : Nat → Bool} {k x : Nat} (h : L[k]? = some x) (hp : p x = true) : (L.take (k + 1)).filter p = (L.take k).filter p ++ [x] := by
  rw [List.take_add_one, h, List.filter_append]; simp [hp]
theorem fil_no {L : List Nat} {p : Nat → Bool} {k x : Nat} (h : L[k]? = some x) (hp : p x = false) : (L.take (k + 1)).filter p = (L.take k).filter p := by
  rw [List.take_add_one, h, List.filter_append]; simp [hp]
theorem fil_len {L : List Nat} {p : Nat → Bool} (k : Nat) : ((L.take k).filter p).length ≤ k := by
  have h1 := List.length_filter_le p (L.take k)
  rw [List.length_take] at h1
  omega
/-- the first one no less than a number -/
def nextL (L : List Nat) (a : Int) : Int := match L.find? (fun (x : Nat) => decide (a ≤ (x : Int))) with
  | none => -1
  | some x => (x : Int)
theorem nextL_yes {L : List Nat} {a : Int} {k x : Nat} (h : L[k]? = some x) (ha : a ≤ (x : Int)) (h0 : ∀ (j y : Nat), j < k → L[j]? = some y → ¬ a ≤ (y : Int)) : nextL L a = (x : Int) := by
  unfold nextL
  have : L.find? (fun (x : Nat) => decide (a ≤ (x : Int))) = some x := by
    rw [List.find?_eq_some_iff_getElem]
    obtain ⟨hk, hx⟩ := List.getElem?_eq_some_iff.1 h
    refine ⟨decide_eq_true ha, k, hk, hx, fun j hj => ?_⟩
    simp only [Bool.not_eq_true', decide_eq_false_iff_not]
    exact h0 j _ hj (List.getElem?_eq_getElem (by omega))
  rw [this]
theorem nextL_no {L : List Nat} {a : Int} (h0 : ∀ (j y : Nat), L[j]? = some y → ¬ a ≤ (y : Int)) : nextL L a = -1 := by
  unfold nextL
  have : L.find? (fun (x : Nat) => decide (a ≤ (x : Int))) = none := by
    rw [List.find?_eq_none]
    intro x hx
    obtain ⟨k, hk, rfl⟩ := List.getElem_of_mem hx
    simpa using h0 k _ (List.getElem?_eq_getElem hk)
  rw [this]
set_option maxHeartbeats 400000 in
theorem ref_next (w : World) (N : Int) (v : Value) (L : List Nat) (hv : IntsV w v L) (i : Int) :
    Calls Try.prog 31 #[.agg #[.int .i64 N, v], .int .i64 i] w fun e w' => e = .returned (.int .i64 (nextL L i)) ∧ Grow w w' := by
  obtain ⟨A, c, rfl, h1, h2, h3, -⟩ := hv
  unfold maxLen at h2
  obtain ⟨r, hr⟩ : ∃ r, r = nextL L i := ⟨_, rfl⟩
  rw [← hr]
  have HR := Lib.hid hr
  obtain ⟨n, hn⟩ : ∃ n, n = L.length := ⟨_, rfl⟩
  have HN := Lib.hid hn
  rw [← hn] at h1 h3 ⊢
  obtain ⟨W, hW⟩ : ∃ W, W = w.alloc (.cells #[.int .i64 N, .slice A n c] TX) := ⟨_, rfl⟩
  obtain ⟨b0, hb0⟩ : ∃ b0, b0 = w.heap.size := ⟨_, rfl⟩
  have hgW : Grow w W := by rw [hW]; exact Grow.alloc w _
  have hbx : Blk W b0 TX [.int .i64 N, .slice A n c] := by rw [hW]; exact Blk.new w _ _ _ rfl hb0
  have HROW := Lib.hid (h3.grow hgW)
  have HW := Lib.hid hW
  have HB0 := Lib.hid hb0
  have HGW := Lib.hid hgW
  have x0 := hbx.cell (i := 0) rfl
  have x1 := hbx.cell (i := 1) rfl
  clear hr h3 hn hW hb0 hgW hbx
  go_enter Try.func31, Try.ntmps31
  go_wp2_with fail
  rw [← HW.out, ← HB0.out]
  go_loop [5] (fun i' => ∃ k : Nat, k ≤ n ∧ i' = .int .i64 (k : Int) ∧ Hid (∀ (j x : Nat), j < k → L[j]? = some x → ¬ i ≤ (x : Int))) (fun i => n - (intOf i).toNat)
  case atStart => exact ⟨0, by omega, rfl, Lib.hid fun j x h => absurd h (by omega)⟩
  case round =>
    obtain ⟨k, hk, rfl, HI⟩ := hrel
    by_cases hlt : k < n
    · have hrow := HROW.out
      rw [HN.out] at hrow
      obtain ⟨b, off, x, rfl, hx, hcell⟩ := Row.nat_at hrow (k := k) (by have := HN.out; omega)
      by_cases hxi : i ≤ (x : Int)
      · have hr1 : r = (x : Int) := by rw [HR.out]; exact nextL_yes hx hxi HI.out
        have HR1 := Lib.hid hr1
        have t1 : decide (i ≤ (x : Int)) = true := decide_eq_true hxi
        clear hr1 hxi hx hrow HI
        go_wp2_with fail
        go_ret
        exact ⟨by rw [HR1.out]; rfl, HGW.out⟩
      · have t1 : decide (i ≤ (x : Int)) = false := decide_eq_false hxi
        have HI2 : Hid (∀ (j x : Nat), j < k + 1 → L[j]? = some x → ¬ i ≤ (x : Int)) := Lib.hid fun j y hj hy => by
          by_cases hjk : j < k
          · exact HI.out j y hjk hy
          · obtain rfl : j = k := by omega
            rw [hx] at hy
            obtain rfl := Option.some.inj hy
            exact hxi
        clear hxi hx hrow HI
        go_wp2_with fail
        go_round
        case rel => exact ⟨k + 1, by omega, by go_num, HI2⟩
        case measure => simp [intOf] <;> omega
    · obtain rfl : k = n := by omega
      have hr1 : r = -1 := by
        rw [HR.out]
        exact nextL_no (fun j x hx => HI.out j x (by have := (List.getElem?_eq_some_iff.1 hx).1; have := HN.out; omega) hx)
      have HR1 := Lib.hid hr1
      clear hr1 HI
      go_wp2_with fail
      go_ret
      exact ⟨by rw [HR1.out]; rfl, HGW.out⟩

def badP (N : Nat) (L : List Nat) (i : Int) : Bool := decide (i < 0) || decide ((N : Int) ≤ i) || hasB L i
def putL (N : Nat) (L : List Nat) (i : Int) : List Nat := if badP N L i then L else L.filter (fun (x : Nat) => decide ((x : Int) < i)) ++ [i.toNat] ++ L.filter (fun (x : Nat) => decide (i < (x : Int)))
set_option maxRecDepth 100000 in
set_option maxHeartbeats 1000000 in
theorem ref_put (w : World) (N : Nat) (v : Value) (L : List Nat) (hv : IntsV w v L) (i : Int) (hL : L.length ≤ 1000000) (hN : N ≤ 65536) :
    Calls Try.prog 23 #[.agg #[.int .i64 (N : Int), v], .int .i64 i] w fun e w' => ∃ v', e = .returned (.tuple #[.agg #[.int .i64 (N : Int), v'], .bool (!badP N L i)]) ∧ IntsV w' v' (putL N L i) ∧ Grow w w' := by
  have HV := Lib.hid hv
  obtain ⟨A, c, rfl, h1, h2, h3, -⟩ := hv
  unfold maxLen at h2
  obtain ⟨n, hn⟩ : ∃ n, n = L.length := ⟨_, rfl⟩
  have HN := Lib.hid hn
  rw [← hn] at h1 h3 HV hL ⊢
  obtain ⟨W, hW⟩ : ∃ W, W = (w.alloc (.cells #[.int .i64 (N : Int), .slice A n c] TX)).alloc (.cells #[.int .i64 0, .slice none 0 0] TX) := ⟨_, rfl⟩
  obtain ⟨b0, hb0⟩ : ∃ b0, b0 = w.heap.size := ⟨_, rfl⟩
  have hgW : Grow w W := by rw [hW]; exact (Grow.alloc w _).trans (Grow.alloc _ _)
  have hbx : Blk W b0 TX [.int .i64 (N : Int), .slice A n c] := by rw [hW]; exact (Blk.new w _ _ _ rfl hb0).grow (Grow.alloc _ _)
  have hby : Blk W (b0 + 1) TX [.int .i64 0, .slice none 0 0] := by rw [hW]; exact Blk.new _ _ _ _ rfl (by simp [hb0])
  have hWs : W.heap.size = b0 + 2 := by rw [hW]; simp [hb0]
  have HROW := Lib.hid (h3.grow hgW)
  have HBX := Lib.hid hbx
  have HBY := Lib.hid hby
  have HW := Lib.hid hW
  have HB0 := Lib.hid hb0
  have HGW := Lib.hid hgW
  have HWS := Lib.hid hWs
  have x0 := hbx.cell (i := 0) rfl
  have x1 := hbx.cell (i := 1) rfl
  clear h3 hn hW hb0 hgW hbx hby hWs
  by_cases hi0 : i < 0
  · have hb : badP N L i = true := by unfold badP; rw [decide_eq_true hi0]; rfl
    have hp : putL N L i = L := by unfold putL; rw [if_pos hb]
    rw [hb, hp]
    have t1 : decide (i < 0) = true := decide_eq_true hi0
    clear hb hp hi0
    go_enter Try.func23, Try.ntmps23
    go_wp2_with fail
    exact ret_blk_tmp rfl (w.heap.size + 1) _ [.int .i64 (N : Int), .slice A n c] _ _ rfl (Blk.new _ _ _ _ rfl (by simp)) undX rfl (by rw [sizeX]; rfl) rfl rfl ⟨_, rfl, HV.out.grow ((Grow.alloc w _).trans (Grow.alloc _ _)), (Grow.alloc w _).trans (Grow.alloc _ _)⟩
  · have t1 : decide (i < 0) = false := decide_eq_false hi0
    by_cases hiN : (N : Int) ≤ i
    · have hb : badP N L i = true := by unfold badP; rw [decide_eq_true hiN, Bool.or_true]; rfl
      have hp : putL N L i = L := by unfold putL; rw [if_pos hb]
      rw [hb, hp]
      have t2 : decide ((N : Int) ≤ i) = true := decide_eq_true hiN
      clear hb hp hi0 hiN
      go_enter Try.func23, Try.ntmps23
      go_wp2_with fail
      exact ret_blk_tmp rfl (w.heap.size + 1) _ [.int .i64 (N : Int), .slice A n c] _ _ rfl (Blk.new _ _ _ _ rfl (by simp)) undX rfl (by rw [sizeX]; rfl) rfl rfl ⟨_, rfl, HV.out.grow ((Grow.alloc w _).trans (Grow.alloc _ _)), (Grow.alloc w _).trans (Grow.alloc _ _)⟩
    · have t2 : decide ((N : Int) ≤ i) = false := decide_eq_false hiN
      have HH := Lib.hid (ref_has W (N : Int) (.slice A n c) L (HV.out.grow HGW.out) i)
      cases hhas : hasB L i
      · have hb : badP N L i = false := by unfold badP; rw [t1, t2, hhas]; rfl
        have hp : putL N L i = L.filter (fun (x : Nat) => decide ((x : Int) < i)) ++ [i.toNat] ++ L.filter (fun (x : Nat) => decide (i < (x : Int))) := by unfold putL; rw [if_neg (by rw [hb]; decide)]
        rw [hb, hp]
        rw [hhas] at HH
        obtain ⟨m, hm⟩ : ∃ m : Nat, i = (m : Int) := ⟨i.toNat, by omega⟩
        subst hm
        rw [Int.toNat_natCast]
        obtain ⟨p1, hp1⟩ : ∃ p : Nat → Bool, p = fun (x : Nat) => decide ((x : Int) < (m : Int)) := ⟨_, rfl⟩
        obtain ⟨p2, hp2⟩ : ∃ p : Nat → Bool, p = fun (x : Nat) => decide ((m : Int) < (x : Int)) := ⟨_, rfl⟩
        rw [← hp1, ← hp2]
        have HP1 : Hid (∀ x : Nat, p1 x = decide ((x : Int) < (m : Int))) := Lib.hid fun x => by rw [hp1]
        have HP2 : Hid (∀ x : Nat, p2 x = decide ((m : Int) < (x : Int))) := Lib.hid fun x => by rw [hp2]
        have hm6 : m ≤ 65536 := by omega
        have t2n : decide (N ≤ m) = false := decide_eq_false (by omega)
        clear hb hp hi0 hiN hhas hp1 hp2
        go_enter Try.func23, Try.ntmps23
        go_wp2_with fail
        rw [← HW.out]
        refine HH.out.mono ?_
        rintro e w2 ⟨rfl, hg2⟩
        have HG2 := Lib.hid hg2
        clear hg2 HH
        go_wp2_with fail
        rw [← HB0.out]
        go_loopw [6, 7] (fun v0 i' wr => ∃ (k : Nat) (vo : Value), k ≤ n ∧ i' = .int .i64 (k : Int) ∧ vo = v0 ∧ wr.ownsRow W.heap.size 3 1 vo ((L.take k).filter p1).length (((L.take k).filter p1).map nv) ∧ Grow W wr) (fun _ i' _ => n - (intOf i').toNat)
        case atStart => exact ⟨0, _, by omega, rfl, rfl, World.ownsRow_nil _ _ _ _, HG2.out⟩
        case round =>
          obtain ⟨k, vo, hk, rfl, rfl, ho, hg⟩ := hrel
          have y1 := (HBX.out.grow hg).cell (i := 1) rfl
          have y0 := (HBX.out.grow hg).cell (i := 0) rfl
          by_cases hlt : k < n
          · have hrow := HROW.out.grow hg
            rw [HN.out] at hrow
            obtain ⟨b, off, x, rfl, hx, hcell⟩ := Row.nat_at hrow (k := k) (by have := HN.out; omega)
            have hfl := fil_len (L := L) (p := p1) k
            by_cases hxi : (x : Int) < (m : Int)
            · have HFY := Lib.hid (fil_yes (p := p1) hx (by rw [HP1.out]; exact decide_eq_true hxi))
              have t3 : decide ((x : Int) < (m : Int)) = true := decide_eq_true hxi
              have t4 : decide (x < m) = true := decide_eq_true (by omega)
              obtain ⟨F, hF⟩ : ∃ F, F = (L.take k).filter p1 := ⟨_, rfl⟩
              rw [← hF] at ho hfl HFY
              have hown := ho
              have hsz : W.heap.size ≤ wr.heap.size := hg.size
              have HG := Lib.hid hg
              have hl1 : F.length + 1 ≤ maxLen := by unfold maxLen; omega
              have hl2 : (F.length + 1) * 8 ≤ 140737488355328 := by omega
              clear hxi hx hrow ho hg hF
              go_wp2_with (at_builtin; refine append_fresh 8 Try.underlying22 iI iIz iIs iIb rfl rfl _ _ rfl W.heap.size _ _ _ hown rfl rfl rfl hl1 hl2 hsz ?_; intro v1 w3 hown1 hgb1 hh1)
              have hg3 := grow_by (HG.out.trans (Grow.alloc wr _)) hgb1 (own_base hown)
              have ho3 : w3.ownsRow W.heap.size 3 1 v1 ((L.take (k + 1)).filter p1).length (((L.take (k + 1)).filter p1).map nv) := by rw [HFY.out]; simpa [nv] using hown1
              have HO3 := Lib.hid ho3
              have HG3 := Lib.hid hg3
              obtain ⟨A5, c5, rfl, -, -, -⟩ := own_form hown1
              clear hown1 hgb1 hh1 hg3 ho3 hown
              go_roundw
              case rel => exact ⟨k + 1, _, by omega, by go_num, rfl, HO3.out, HG3.out⟩
              case measure => simp [intOf] <;> omega
            · have HFN := Lib.hid (fil_no (p := p1) hx (by rw [HP1.out]; exact decide_eq_false hxi))
              have t3 : decide ((x : Int) < (m : Int)) = false := decide_eq_false hxi
              have t4 : decide (x < m) = false := decide_eq_false (by omega)
              have HO := Lib.hid ho
              have HG := Lib.hid hg
              clear hxi hx hrow ho hg
              go_wp2_with fail
              go_roundw
              case rel => exact ⟨k + 1, _, by omega, by go_num, rfl, by rw [HFN.out]; exact HO.out, HG.out⟩
              case measure => simp [intOf] <;> omega
          · obtain rfl : k = n := by omega
            have e : L.take k = L := List.take_of_length_le (by have := HN.out; omega)
            rw [e] at ho
            have hfl : (L.filter p1).length ≤ 1000000 := by have := List.length_filter_le p1 L; have := HN.out; omega
            obtain ⟨F1, hF1⟩ : ∃ F1, F1 = L.filter p1 := ⟨_, rfl⟩
            rw [← hF1] at ho hfl
            have HF1 := Lib.hid hF1
            have hown := ho
            have hsz : W.heap.size ≤ wr.heap.size := hg.size
            have HG := Lib.hid hg
            have hl1 : F1.length + 1 ≤ maxLen := by unfold maxLen; omega
            have hl2 : (F1.length + 1) * 8 ≤ 140737488355328 := by omega
            clear e ho hg hF1
            go_wp2_with (at_builtin; refine append_fresh 8 Try.underlying22 iI iIz iIs iIb rfl rfl _ _ rfl W.heap.size _ _ _ hown rfl rfl rfl hl1 hl2 hsz ?_; intro v1 w3 hown1 hgb1 hh1)
            have hg3 := grow_by (HG.out.trans (Grow.alloc wr _)) hgb1 (own_base hown)
            have ho3 : w3.ownsRow W.heap.size 3 1 v1 (F1 ++ [m]).length ((F1 ++ [m]).map nv) := by simpa [nv] using hown1
            obtain ⟨G1, hG1⟩ : ∃ G1, G1 = F1 ++ [m] := ⟨_, rfl⟩
            have hgl : G1.length ≤ 1000001 := by rw [hG1]; simp; omega
            rw [← hG1] at ho3
            have HGG := Lib.hid hG1
            have HO3 := Lib.hid ho3
            have HG3 := Lib.hid hg3
            obtain ⟨A5, c5, rfl, -, -, -⟩ := own_form hown1
            clear hown1 hgb1 hh1 hg3 ho3 hown hG1
            go_loopw [6, 8] (fun v0 i' wr => ∃ (j : Nat) (vo : Value), j ≤ k ∧ i' = .int .i64 (j : Int) ∧ vo = v0 ∧ wr.ownsRow W.heap.size 3 1 vo (G1 ++ (L.take j).filter p2).length ((G1 ++ (L.take j).filter p2).map nv) ∧ Grow W wr) (fun _ i' _ => k - (intOf i').toNat)
            case atStart => exact ⟨0, _, by omega, rfl, rfl, by simpa using HO3.out, HG3.out⟩
            case round =>
              obtain ⟨j, vo, hj, rfl, rfl, ho, hg⟩ := hrel
              have y1 := (HBX.out.grow hg).cell (i := 1) rfl
              have y0 := (HBX.out.grow hg).cell (i := 0) rfl
              by_cases hjl : j < k
              · have hrow := HROW.out.grow hg
                rw [HN.out] at hrow
                obtain ⟨b, off, x, rfl, hx, hcell⟩ := Row.nat_at hrow (k := j) (by have := HN.out; omega)
                have hfl2 := fil_len (L := L) (p := p2) j
                by_cases hxi : (m : Int) < (x : Int)
                · have HFY := Lib.hid (fil_yes (p := p2) hx (by rw [HP2.out]; exact decide_eq_true hxi))
                  have t3 : decide ((m : Int) < (x : Int)) = true := decide_eq_true hxi
                  have t4 : decide (m < x) = true := decide_eq_true (by omega)
                  obtain ⟨F, hF⟩ : ∃ F, F = G1 ++ (L.take j).filter p2 := ⟨_, rfl⟩
                  have HFE : Hid (G1 ++ (L.take (j + 1)).filter p2 = F ++ [x]) := Lib.hid (by rw [HFY.out, hF, List.append_assoc])
                  have hFl : F.length ≤ 2000010 := by rw [hF, List.length_append]; omega
                  rw [← hF] at ho
                  have hown := ho
                  have hsz : W.heap.size ≤ wr.heap.size := hg.size
                  have HG := Lib.hid hg
                  have hl1 : F.length + 1 ≤ maxLen := by unfold maxLen; omega
                  have hl2 : (F.length + 1) * 8 ≤ 140737488355328 := by omega
                  clear hxi hx hrow ho hg hF HFY
                  go_wp2_with (at_builtin; refine append_fresh 8 Try.underlying22 iI iIz iIs iIb rfl rfl _ _ rfl W.heap.size _ _ _ hown rfl rfl rfl hl1 hl2 hsz ?_; intro v1 w3 hown1 hgb1 hh1)
                  have hg3 := grow_by (HG.out.trans (Grow.alloc wr _)) hgb1 (own_base hown)
                  have ho3 : w3.ownsRow W.heap.size 3 1 v1 (G1 ++ (L.take (j + 1)).filter p2).length ((G1 ++ (L.take (j + 1)).filter p2).map nv) := by rw [HFE.out]; simpa [nv] using hown1
                  have HO4 := Lib.hid ho3
                  have HG4 := Lib.hid hg3
                  obtain ⟨A6, c6, rfl, -, -, -⟩ := own_form hown1
                  clear hown1 hgb1 hh1 hg3 ho3 hown
                  go_roundw
                  case rel => exact ⟨j + 1, _, by omega, by go_num, rfl, HO4.out, HG4.out⟩
                  case measure => simp [intOf] <;> omega
                · have HFN := Lib.hid (fil_no (p := p2) hx (by rw [HP2.out]; exact decide_eq_false hxi))
                  have t3 : decide ((m : Int) < (x : Int)) = false := decide_eq_false hxi
                  have t4 : decide (m < x) = false := decide_eq_false (by omega)
                  have HO := Lib.hid ho
                  have HG := Lib.hid hg
                  clear hxi hx hrow ho hg
                  go_wp2_with fail
                  go_roundw
                  case rel => exact ⟨j + 1, _, by omega, by go_num, rfl, by rw [HFN.out]; exact HO.out, HG.out⟩
                  case measure => simp [intOf] <;> omega
              · obtain rfl : j = k := by omega
                have e : L.take j = L := List.take_of_length_le (by have := HN.out; omega)
                rw [e] at ho
                have hres : G1 ++ L.filter p2 = F1 ++ [m] ++ L.filter p2 := by rw [HGG.out]
                rw [hres, HF1.out] at ho
                obtain ⟨Z, hZ⟩ : ∃ Z, Z = L.filter p1 ++ [m] ++ L.filter p2 := ⟨_, rfl⟩
                rw [← hZ] at ho
                have HZ := Lib.hid hZ
                clear hZ
                have hob := own_base ho
                obtain ⟨A6, c6, rfl, -, -, -⟩ := own_form ho
                have HBY2 := Lib.hid (HBY.out.grow hg)
                have HIV : Hid (∀ l, IntsV (wr.setRow (b0 + 1) l) (.slice A6 Z.length c6) Z) := Lib.hid fun l => IntsV.own (own_farRow ho (fun q hq => by have := hob q hq; have := HWS.out; omega) l)
                have HG := Lib.hid hg
                have HOB := Lib.hid hob
                clear e ho hg hres hob
                go_wp2_with (refine store_blk rfl _ _ _ rfl (b0 + 1) [.int .i64 (N : Int), .slice A6 Z.length c6] rfl rfl _ _ HBY2.out (by rw [sizeX]; rfl) rfl rfl ?_)
                exact ret_blk_tmp rfl (b0 + 1) _ [.int .i64 (N : Int), .slice A6 Z.length c6] _ _ rfl (HBY2.out.setRow _) undX rfl (by rw [sizeX]; rfl) rfl rfl ⟨_, rfl, by rw [← HZ.out]; exact HIV.out _, Grow.setRow (HGW.out.trans HG.out) (by have := HB0.out; omega) _⟩
      · have hb : badP N L i = true := by unfold badP; rw [hhas, Bool.or_true]
        have hp : putL N L i = L := by unfold putL; rw [if_pos hb]
        rw [hb, hp]
        rw [hhas] at HH
        clear hb hp hi0 hiN hhas
        go_enter Try.func23, Try.ntmps23
        go_wp2_with fail
        rw [← HW.out]
        refine HH.out.mono ?_
        rintro e w2 ⟨rfl, hg2⟩
        have y1 := (HBX.out.grow hg2).cell (i := 1) rfl
        have y0 := (HBX.out.grow hg2).cell (i := 0) rfl
        have HBY2 := Lib.hid (HBY.out.grow hg2)
        have HG2 := Lib.hid (HGW.out.trans hg2)
        clear hg2 HH
        rw [← HB0.out]
        go_wp2_with (refine store_blk rfl _ _ _ rfl (b0 + 1) [.int .i64 (N : Int), .slice A n c] rfl rfl _ _ HBY2.out (by rw [sizeX]; rfl) rfl rfl ?_)
        exact ret_blk_tmp rfl (b0 + 1) _ [.int .i64 (N : Int), .slice A n c] _ _ rfl (HBY2.out.setRow _) undX rfl (by rw [sizeX]; rfl) rfl rfl ⟨_, rfl, (HV.out.grow HG2.out).far HBY2.out _, Grow.setRow HG2.out (by have := HB0.out; omega) _⟩
end Go.Proofs.Ytjfohglkpbgkaaa.mkR
