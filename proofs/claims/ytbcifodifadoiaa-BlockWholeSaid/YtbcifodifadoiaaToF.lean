/- The walk of Fits. -/
import Derived.Test.YtbcifodifadoiaaToO
namespace Go.Proofs.Ytbcifodifadoiaa.toW
open Go Go.RowKit Go.Par Go.Kit Go.Proofs.Ytbcifodifadoiaa.Mk Go.Proofs.Ytbcifodifadoiaa.mkW Go.Proofs.Ytbcifodifadoiaa.Re Go.Proofs.Ytbcifodifadoiaa.reW Go.Proofs.Ytbcifodifadoiaa.mkR Go.Proofs.Ytbcifodifadoiaa.To

def iv (z : Int) : Value := .int .i64 z
/-- is the k-th of a list a thing, not ahead of one before it, and not one of these? -/
def okK (n : Nat) (R : Nat → Nat → Bool) (l : List Int) (k : Nat) : Bool := match l[k]? with
  | some z => fitB n z && ((l.take k).all fun j => !(j == z) && !aheadI R z j)
  | none => true
def fitsB (n : Nat) (R : Nat → Nat → Bool) (l : List Int) : Bool := (List.range l.length).all (okK n R l)
theorem fits_yes {n : Nat} {R : Nat → Nat → Bool} {l : List Int} (h : ∀ k, k < l.length → okK n R l k = true) : fitsB n R l = true :=
  List.all_eq_true.2 fun k hk => h k (List.mem_range.1 hk)
theorem fits_no {n : Nat} {R : Nat → Nat → Bool} {l : List Int} {k : Nat} (hk : k < l.length) (h : okK n R l k = false) : fitsB n R l = false := by
  unfold fitsB
  rw [List.all_eq_false]
  exact ⟨k, List.mem_range.2 hk, by rw [h]; decide⟩
theorem okK_yes {n : Nat} {R : Nat → Nat → Bool} {l : List Int} {k : Nat} {z : Int} (hz : l[k]? = some z) (h1 : fitB n z = true) (h2 : ∀ j x, j < k → l[j]? = some x → x ≠ z ∧ aheadI R z x = false) : okK n R l k = true := by
  unfold okK
  rw [hz]
  show (fitB n z && _) = true
  rw [h1, Bool.true_and, List.all_eq_true]
  intro x hx
  obtain ⟨j, hj, e⟩ := List.getElem_of_mem hx
  rw [List.length_take] at hj
  obtain ⟨a, b⟩ := h2 j x (by omega) (by rw [← e, List.getElem_take]; exact List.getElem?_eq_getElem (by omega))
  rw [beq_false_of_ne a, b]; rfl
theorem okK_no {n : Nat} {R : Nat → Nat → Bool} {l : List Int} {k : Nat} {z : Int} (hz : l[k]? = some z) (h : fitB n z = false ∨ ∃ j x, j < k ∧ l[j]? = some x ∧ (x = z ∨ aheadI R z x = true)) : okK n R l k = false := by
  unfold okK
  rw [hz]
  show (fitB n z && _) = false
  rcases h with h | ⟨j, x, hj, hx, h⟩
  · rw [h]; rfl
  · rw [Bool.and_eq_false_iff]
    refine .inr ?_
    rw [List.all_eq_false]
    refine ⟨x, List.mem_of_getElem? (by rw [List.getElem?_take_of_lt hj]; exact hx), ?_⟩
    rcases h with h | h
    · rw [h]; simp
    · rw [h]; simp
/-- the set of what stood so far -/
def seenS (l : List Int) (k : Nat) : Nat → Bool := fun j => (l.take k).contains (j : Int)
theorem seen_mem {n : Nat} {l : List Int} {k : Nat} {z : Int} (h : fitB n z = true) : memI (seenS l k) z = (l.take k).contains z := by
  unfold fitB at h
  simp only [Bool.and_eq_true, decide_eq_true_eq] at h
  unfold memI seenS
  rw [decide_eq_true h.1, Bool.true_and, Int.toNat_of_nonneg h.1]
theorem seen_put {n : Nat} {l : List Int} {k : Nat} {z : Int} (hz : l[k]? = some z) (h : fitB n z = true) : putS n (seenS l k) z = seenS l (k + 1) := by
  funext j
  unfold putS
  rw [if_pos h]
  unfold fitB at h
  simp only [Bool.and_eq_true, decide_eq_true_eq] at h
  unfold ins seenS
  rw [List.take_add_one, hz, Bool.eq_iff_iff]
  simp
  constructor
  · rintro (a | a)
    · exact .inl a
    · exact .inr (by omega)
  · rintro (a | a)
    · exact .inl a
    · exact .inr (by omega)
theorem Row.iv_at {w : World} {A : Option Addr} {n : Nat} {l : List Int} (h : Row w A n (l.map iv)) {k : Nat} (hk : k < n) : ∃ b off z, A = some ⟨b, off, none⟩ ∧ l[k]? = some z ∧ w.cell? ⟨b, off + k, none⟩ = some (.int .i64 z) := by
  obtain ⟨b, off, u, e, hu, hc⟩ := h.at_ hk
  rw [List.getElem?_map, Option.map_eq_some_iff] at hu
  obtain ⟨z, hz, rfl⟩ := hu
  exact ⟨b, off, z, e, hz, hc⟩
set_option maxRecDepth 100000 in
set_option maxHeartbeats 8000000 in
theorem fits_any (w : World) (gr n : Nat) (R : Nat → Nat → Bool) (h : RelP w gr n R) (A : Option Addr) (len c : Nat) (l : List Int) (hr : Row w A len (l.map iv)) (hc : len ≤ c) (hm : c ≤ maxLen) (hok : ∀ z ∈ l, i64ok z) :
    Calls Try.prog 20 #[.pointer (some ⟨gr, 0, none⟩), .slice A len c] w fun e w' => e = .returned (.bool (fitsB n R l)) ∧ Grow w w' := by
  unfold maxLen at hm
  have hn : n ≤ 65536 := h.1
  have hlen : l.length = len := by have := hr.1; simpa using this
  obtain ⟨r, hre⟩ : ∃ r, r = fitsB n R l := ⟨_, rfl⟩
  rw [← hre]
  have HRE := Lib.hid hre
  have HR := Lib.hid h
  have HROW := Lib.hid hr
  have HLEN := Lib.hid hlen
  have HOK := Lib.hid hok
  have HL := Lib.hid (reW.len_any w gr n R h)
  have HNW := Lib.hid (mkW.new_any (n : Int) w (by omega) (by omega))
  clear h hr hok hlen hre
  go_enter Try.func20, Try.ntmps20
  go_wp2_with fail
  refine HL.out.mono ?_
  rintro e w' ⟨rfl, rfl⟩
  go_wp2_with fail
  refine HNW.out.mono ?_
  rintro e w2 ⟨rfl, ms, hg2⟩
  rw [show clampN (n : Int) = n by unfold clampN; omega] at ms
  obtain ⟨gt, hgt⟩ : ∃ g, g = w.heap.size + 1 := ⟨_, rfl⟩
  obtain ⟨ht, hht⟩ : ∃ g, g = w.heap.size := ⟨_, rfl⟩
  rw [← hgt, ← hht] at ms
  rw [← hgt]
  have HMS := Lib.hid ms
  have HG2 := Lib.hid hg2
  have HFR : Hid (Free w.heap.size (fun _ => False) gt (some ht)) := Lib.hid (mkL.free_of (by omega) (fun h => h) (fun k hk => by injection hk with hk; subst hk; exact ⟨by omega, fun h => h⟩))
  clear ms hg2 hgt hht HL HNW
  go_wp2_with fail
  go_loopw [15] (fun i' wr => ∃ (k : Nat), k ≤ len ∧ i' = .int .i64 (k : Int) ∧ Grow w wr ∧ MS wr gt (some ht) n (seenS l k) ∧ ∀ x, x < k → okK n R l x = true) (fun i' _ => len - (intOf i').toNat)
  case atStart => exact ⟨0, by omega, rfl, HG2.out, HMS.out.ext fun j => rfl, fun x hx => absurd hx (by omega)⟩
  case round =>
    obtain ⟨k, hkl, rfl, hg, ms, hall⟩ := hrel
    have HG := Lib.hid hg
    have HMS1 := Lib.hid ms
    have HALL := Lib.hid hall
    by_cases hlt : k < len
    · obtain ⟨b, off, z, rfl, hz, hcell⟩ := Row.iv_at HROW.out hlt
      have hcl := hg.cell hcell
      have HZ := Lib.hid hz
      have hzo := HOK.out z (List.mem_of_getElem? hz)
      have HZO := Lib.hid hzo
      have hput := mkW.put_any wr w.heap.size (fun _ => False) gt (some ht) n _ ms HFR.out z
      obtain ⟨q, hq⟩ : ∃ q, q = (fitB n z && !memI (seenS l k) z) := ⟨_, rfl⟩
      rw [← hq] at hput
      have HPUT := Lib.hid hput
      have HQ := Lib.hid hq
      have HLTk := Lib.hid hlt
      have HCELL := Lib.hid hcell
      clear hg ms hall hcell hput hq hz hzo
      cases q
      · have HF : Hid (r = false) := Lib.hid (by
          rw [HRE.out]
          refine fits_no (k := k) (by rw [HLEN.out]; exact HLTk.out) (okK_no HZ.out ?_)
          cases hf : fitB n z with
          | false => exact .inl rfl
          | true =>
            right
            have hq := HQ.out
            rw [hf, seen_mem hf, Bool.true_and] at hq
            have hm : z ∈ l.take k := by
              have : (l.take k).contains z = true := by
                cases hc : (l.take k).contains z with
                | true => rfl
                | false => rw [hc] at hq; cases hq
              simpa using this
            obtain ⟨j, hj, e⟩ := List.getElem_of_mem hm
            rw [List.length_take] at hj
            exact ⟨j, z, by omega, by rw [← e, List.getElem_take]; exact List.getElem?_eq_getElem (by omega), .inl rfl⟩)
        go_wp2_with fail
        refine HPUT.out.mono ?_
        rintro e w3 ⟨rfl, -, hkp⟩
        have HG3 := Lib.hid (hkp.grow HG.out rfl)
        clear hkp
        go_wp2_with fail
        go_ret
        exact ⟨by rw [HF.out]; rfl, HG3.out⟩
      · have HFT : Hid (fitB n z = true ∧ z ∉ l.take k) := Lib.hid (by
          have hq := HQ.out
          cases hf : fitB n z with
          | false => rw [hf] at hq; cases hq
          | true =>
            refine ⟨rfl, fun hm => ?_⟩
            rw [hf, seen_mem hf, show (l.take k).contains z = true by simpa using hm] at hq
            cases hq)
        have hsl := slice_hi (P := Try.prog) Try.underlying23 iI (some ⟨b, off, none⟩) len c k (by omega)
        go_wp2_with fail
        refine HPUT.out.mono ?_
        rintro e w3 ⟨rfl, ms, hkp⟩
        rw [seen_put HZ.out HFT.out.1] at ms
        have HMS3 := Lib.hid ms
        have HG3 := Lib.hid (hkp.grow HG.out rfl)
        clear ms hkp hcl
        go_wp2_with fail
        clear hsl
        obtain ⟨Wb, hWb⟩ : ∃ W, W = w3 := ⟨_, rfl⟩
        rw [← hWb] at HMS3 HG3
        go_loopw [28] (fun i' wr => ∃ (m : Nat), m ≤ k ∧ i' = .int .i64 (m : Int) ∧ Wb = wr ∧ ∀ j x, j < m → l[j]? = some x → aheadI R z x = false) (fun i' _ => k - (intOf i').toNat)
        case atStart => exact ⟨0, by omega, rfl, hWb, fun j x hj => absurd hj (by omega)⟩
        case round =>
          clear hWb
          obtain ⟨m, hmk, rfl, rfl, hno⟩ := hrel
          have HNO := Lib.hid hno
          by_cases hlt2 : m < k
          · have hrow := HROW.out
            obtain ⟨b', off', x, e, hx, hcell⟩ := Row.iv_at hrow (k := m) (by omega)
            injection e with e
            injection e with e1 e2
            subst e1; subst e2
            have hcl := HG3.out.cell hcell
            have HX := Lib.hid hx
            have hxo := HOK.out x (List.mem_of_getElem? hx)
            have hbf := before_any Wb gr n R (HR.out.grow HG3.out) z x HZO.out.1 HZO.out.2 hxo.1 hxo.2
            obtain ⟨q, hq⟩ : ∃ q, q = aheadI R z x := ⟨_, rfl⟩
            rw [← hq] at hbf
            have HBF := Lib.hid hbf
            have HQ2 := Lib.hid hq
            have HLTm := Lib.hid hlt2
            have hlm : m < len := by omega
            clear hno hrow hcell hx hxo hbf hq
            cases q
            · go_wp2_with fail
              refine HBF.out.mono ?_
              rintro e w' ⟨rfl, rfl⟩
              go_wp2_with fail
              go_roundw
              case rel => exact ⟨m + 1, by have := HLTm.out; omega, by go_num, trivial, fun j y hj hy => by
                by_cases hjm : j < m
                · exact HNO.out j y hjm hy
                · obtain rfl : j = m := by omega
                  rw [HX.out] at hy
                  obtain rfl := Option.some.inj hy
                  exact HQ2.out.symm⟩
              case measure => have := HLTm.out; simp [intOf] <;> omega
            · have HF : Hid (r = false) := Lib.hid (by
                rw [HRE.out]
                exact fits_no (k := k) (by rw [HLEN.out]; exact HLTk.out) (okK_no HZ.out (.inr ⟨m, x, HLTm.out, HX.out, .inr HQ2.out.symm⟩)))
              go_wp2_with fail
              refine HBF.out.mono ?_
              rintro e w' ⟨rfl, rfl⟩
              go_wp2_with fail
              go_ret
              exact ⟨by rw [HF.out]; rfl, HG3.out⟩
          · obtain rfl : m = k := by omega
            have HNEW : Hid (∀ x, x < m + 1 → okK n R l x = true) := Lib.hid fun x hx => by
              by_cases hxm : x < m
              · exact HALL.out x hxm
              · obtain rfl : x = m := by omega
                refine okK_yes HZ.out HFT.out.1 fun j y hj hy => ⟨fun e => HFT.out.2 (List.mem_of_getElem? (by rw [List.getElem?_take_of_lt hj, hy, e])), HNO.out j y hj hy⟩
            clear hno
            go_wp2_with fail
            go_roundw
            case rel => exact ⟨m + 1, by have := HLTk.out; omega, by go_num, HG3.out, HMS3.out, HNEW.out⟩
            case measure => have := HLTk.out; simp [intOf] <;> omega
    · obtain rfl : k = len := by omega
      have HF : Hid (r = true) := Lib.hid (by rw [HRE.out]; exact fits_yes fun x hx => hall x (by rw [← HLEN.out]; exact hx))
      clear hg ms hall
      go_wp2_with fail
      go_ret
      exact ⟨by rw [HF.out]; rfl, HG.out⟩
end Go.Proofs.Ytbcifodifadoiaa.toW
