/- The walk of ahead: of each thing the set of all that is ahead of it. -/
import Derived.Test.YtbcifodifadoiaaReS
import Derived.Test.YtbcifodifadoiaaTo
import Derived.Test.YtbcifodifadoiaaMkL
import Derived.Test.YtbcifodifadoiaaReL
namespace Go.Proofs.Ytbcifodifadoiaa.toW
open Go Go.RowKit Go.Par Go.Kit Go.Proofs.Ytbcifodifadoiaa.Mk Go.Proofs.Ytbcifodifadoiaa.mkW Go.Proofs.Ytbcifodifadoiaa.Re Go.Proofs.Ytbcifodifadoiaa.reW Go.Proofs.Ytbcifodifadoiaa.mkR Go.Proofs.Ytbcifodifadoiaa.To

abbrev TP : TypeId := 54
theorem infoP : (Try.prog.info? TP).isSome = true := by kernel_rfl
theorem iP : Try.prog.info? TP = some ((Try.prog.info? TP).get infoP) := by simp
theorem iPs : ((Try.prog.info? TP).get infoP).size = 1 := by kernel_rfl
theorem iPz : ((Try.prog.info? TP).get infoP).zero = some (.pointer none) := by kernel_rfl
theorem iPb : ((Try.prog.info? TP).get infoP).bytes = 8 := by kernel_rfl
/-- both ends of each step are things -/
def Bd (n : Nat) (R : Nat → Nat → Bool) : Prop := ∀ i j, R i j = true → i < n ∧ j < n
theorem aheadI_nat {R : Nat → Nat → Bool} {i j : Nat} : aheadI R (i : Int) (j : Int) = ahN R i j := by simp [aheadI, leadI, ahN]
def ptrs (n c : Nat) (gk : Nat → Nat) : List Value := (List.range n).map fun i => if i < c then pv (some (gk i)) else pv none
theorem ptrs_at {n c i : Nat} {gk : Nat → Nat} (hi : i < n) : (ptrs n c gk)[i]? = some (if i < c then pv (some (gk i)) else pv none) := by
  simp [ptrs, hi]
theorem ptrs_set {n c g : Nat} {gk : Nat → Nat} : (ptrs n c gk).set c (pv (some g)) = ptrs n (c + 1) fun i => if i = c then g else gk i := by
  apply List.ext_getElem?
  intro i
  by_cases hi : i < n
  · rw [ptrs_at hi, List.getElem?_set]
    by_cases e : c = i
    · subst e
      rw [if_pos rfl, if_pos (by simp [ptrs]; exact hi), if_pos (by omega), if_pos rfl]
    · rw [if_neg e, ptrs_at hi]
      by_cases h : i < c
      · rw [if_pos h, if_pos (by omega), if_neg (by omega)]
      · rw [if_neg h, if_neg (by omega)]
  · rw [List.getElem?_eq_none (by simp [ptrs]; omega), List.getElem?_eq_none (by simp [ptrs]; omega)]
/-- the rows made so far: c of them are whole, the next one up to m -/
def RB (R : Nat → Nat → Bool) (k m : Nat) : Nat → Nat → Bool := fun i j => if i < k then ahN R j i else if i = k then decide (j < m) && ahN R j i else false
theorem RB_next {n : Nat} {R : Nat → Nat → Bool} (hb : Bd n R) (k : Nat) : RB R k n = RB R (k + 1) 0 := by
  funext i j
  unfold RB
  by_cases h1 : i < k
  · rw [if_pos h1, if_pos (by omega)]
  · rw [if_neg h1]
    by_cases h2 : i = k
    · rw [if_pos h2, if_pos (by omega)]
      cases ha : ahN R j i with
      | false => simp
      | true => have := (hb _ _ (ah_iff.1 ha).1).1; simp [this]
    · rw [if_neg h2, if_neg (by omega)]
      split <;> simp
theorem RB_no {R : Nat → Nat → Bool} {k m : Nat} (h : ahN R m k = false) : RB R k (m + 1) = RB R k m := by
  funext i j
  unfold RB
  by_cases h1 : i < k
  · rw [if_pos h1, if_pos h1]
  · rw [if_neg h1, if_neg h1]
    by_cases h2 : i = k
    · rw [if_pos h2, if_pos h2]
      subst h2
      by_cases h3 : j = m
      · subst h3; rw [h]; simp
      · rw [show decide (j < m + 1) = decide (j < m) by rw [decide_eq_decide]; omega]
    · rw [if_neg h2, if_neg h2]
theorem RB_yes {n : Nat} {R : Nat → Nat → Bool} {k m : Nat} (hm : m < n) (h : ahN R m k = true) : upd (RB R k m) k (putS n (RB R k m k) (m : Int)) = RB R k (m + 1) := by
  funext i j
  unfold upd putS
  rw [fitB_of ⟨by omega, by omega⟩, if_pos rfl, Int.toNat_natCast]
  by_cases h2 : i = k
  · subst h2
    rw [if_pos rfl]
    unfold ins RB
    rw [if_neg (by omega), if_pos rfl, if_neg (by omega), if_pos rfl]
    by_cases h3 : j = m
    · subst h3; rw [h]; simp
    · rw [show decide (j < m + 1) = decide (j < m) by rw [decide_eq_decide]; omega]; simp [h3]
  · rw [if_neg h2]
    unfold RB
    by_cases h1 : i < k
    · rw [if_pos h1, if_pos h1]
    · rw [if_neg h1, if_neg h1, if_neg h2, if_neg h2]
/-- what ahead keeps -/
structure PA (w0 : World) (b n c : Nat) (R' : Nat → Nat → Bool) (gk hk : Nat → Nat) (w : World) : Prop where
  g : Grow w0 w
  bx : Blk w b TP (ptrs n c gk)
  st : ∃ F, SetsO w w0.heap.size n (List.range c) F R' gk hk
section
variable {w0 w w' : World} {b n c : Nat} {R' : Nat → Nat → Bool} {gk hk : Nat → Nat}
theorem PA.grow (h : PA w0 b n c R' gk hk w) (hg : Grow w w') : PA w0 b n c R' gk hk w' :=
  ⟨h.g.trans hg, h.bx.grow hg, let ⟨F, h1⟩ := h.st; ⟨F, h1.grow hg⟩⟩
theorem PA.ms (h : PA w0 b n c R' gk hk w) {i : Nat} (hi : i < c) : w0.heap.size ≤ gk i ∧ w0.heap.size ≤ hk i ∧ MS w (gk i) (some (hk i)) n (R' i) := by
  obtain ⟨F, h1⟩ := h.st
  obtain ⟨-, a⟩ := h1.at_ i (List.mem_range.2 hi)
  exact a
theorem PA.turn {i : Nat} {S : Nat → Bool} (h : PA w0 b n c R' gk hk w) (hi : i < c) (hk' : Keep w0.heap.size (fun j => j ≠ gk i ∧ j ≠ hk i) w w') (m : MS w' (gk i) (some (hk i)) n S) : PA w0 b n c (upd R' i S) gk hk w' := by
  obtain ⟨-, -, m0⟩ := h.ms hi
  obtain ⟨F, h1⟩ := h.st
  obtain ⟨c1, c2, hb1, hb2⟩ := msBox m0
  exact ⟨hk'.grow h.g rfl, hk'.blk h.bx ⟨fun e => absurd (Blk.ty_eq h.bx (e ▸ hb1)) (by decide), fun e => absurd (Blk.ty_eq h.bx (e ▸ hb2)) (by decide)⟩, F, h1.turn (List.mem_range.2 hi) hk' m⟩
theorem PA.add {g k : Nat} (h : PA w0 b n c R' gk hk w) (hb : w0.heap.size ≤ b) (hg : Grow w w') (hge : w.heap.size ≤ g) (hke : w.heap.size ≤ k) (m : MS w' g (some k) n (fun _ => false)) :
    PA w0 b n (c + 1) R' (fun i => if i = c then g else gk i) (fun i => if i = c then k else hk i) (w'.setCell ⟨b, c, none⟩ (.pointer (some ⟨g, 0, none⟩))) := by
  have h' := h.grow hg
  obtain ⟨F, h1⟩ := h.st
  have h2 := h1.grow hg
  have hK : Keep w0.heap.size (fun j => j ≠ b) w' (w'.setCell ⟨b, c, none⟩ (.pointer (some ⟨g, 0, none⟩))) := (Keep.refl w').setCell hb (fun h => h rfl) _
  have nb : ∀ {j : Nat} {t : TypeId} {cs : List Value}, Blk w' j t cs → t ≠ TP → j ≠ b := fun hbl ht e => ht (Blk.ty_eq hbl (e ▸ h'.bx))
  obtain ⟨c1, c2, hb1, hb2⟩ := msBox m
  have m2 := m.keep hK (.inr (nb hb1 (by decide))) (fun k' hk' => by injection hk' with hk'; subst hk'; exact .inr (nb hb2 (by decide)))
  refine ⟨Grow.set_ h'.g hb _, ?_, ?_⟩
  · have := h'.bx.set_ c (pv (some g))
    rw [ptrs_set] at this
    exact this
  · have h3 := h2.keep hK (fun j t cs hbl ht => nb hbl (by rcases ht with e | e <;> (rw [e]; decide)))
    rw [List.range_succ]
    exact ⟨_, h1.add (fun hm => by have := List.mem_range.1 hm; omega) h.g.size hge hke h3 m2⟩
end
set_option maxRecDepth 100000 in
set_option maxHeartbeats 4000000 in
theorem ahead_any (w : World) (gr n : Nat) (R : Nat → Nat → Bool) (h : RelP w gr n R) (hb : Bd n R) :
    Calls Try.prog 32 #[.pointer (some ⟨gr, 0, none⟩)] w fun e w' => ∃ b gk hk, e = .returned (.slice (some ⟨b, 0, none⟩) n n) ∧ w.heap.size ≤ b ∧ PA w b n n (RB R n 0) gk hk w' := by
  have hn : n ≤ 65536 := h.1
  have HR := Lib.hid h
  have HL := Lib.hid (reW.len_any w gr n R h)
  have HBD := Lib.hid hb
  have hmk := make_row (P := Try.prog) (z := .pointer none) Try.underlying64 iP iPz iPs rfl n (by rw [iPb]; omega) (by omega)
  obtain ⟨b, hbe⟩ : ∃ b, b = w.heap.size := ⟨_, rfl⟩
  obtain ⟨W1, hW1⟩ : ∃ W, W = w.alloc (.cells (Array.replicate n (.pointer none)) TP) := ⟨_, rfl⟩
  have HPA : Hid (PA w b n 0 (RB R 0 0) (fun _ => 0) (fun _ => 0) W1) := Lib.hid ⟨by rw [hW1]; exact Grow.alloc _ _, by rw [hW1]; exact Blk.new _ _ _ _ (by rw [← List.toArray_replicate]; congr 1; apply List.ext_getElem?; intro i; by_cases hi : i < n <;> simp [ptrs, hi, pv]) hbe,
    fun _ => none, ⟨fun i hi => (by cases hi), fun i hi => (by cases hi), fun _ _ => rfl, fun i _ j => by unfold RB; split <;> first | omega | (split <;> simp)⟩⟩
  have HB : Hid (w.heap.size ≤ b) := Lib.hid (by omega)
  have HW1 := Lib.hid hW1
  have HBE := Lib.hid hbe
  clear h hb hbe hW1
  go_enter Try.func32, Try.ntmps32
  go_wp2_with fail
  refine HL.out.mono ?_
  rintro e w' ⟨rfl, rfl⟩
  go_wp2_with fail
  rw [← HBE.out]
  clear hmk
  go_loopw [11] (fun i' wr => ∃ (k : Nat) (gk hk : Nat → Nat), k ≤ n ∧ i' = .int .i64 (k : Int) ∧ PA w b n k (RB R k 0) gk hk wr) (fun i' _ => n - (intOf i').toNat)
  case atStart => exact ⟨0, _, _, by omega, rfl, by rw [← HW1.out]; exact HPA.out⟩
  case round =>
    obtain ⟨k, gk, hk, hkn, rfl, pa⟩ := hrel
    by_cases hlt : k < n
    · have HPA1 := Lib.hid pa
      have HL1 := Lib.hid (reW.len_any wr gr n R (HR.out.grow pa.g))
      have HNW := Lib.hid (mkW.new_any (n : Int) wr (by omega) (by omega))
      clear pa
      go_wp2_with fail
      refine HL1.out.mono ?_
      rintro e w' ⟨rfl, rfl⟩
      go_wp2_with fail
      refine HNW.out.mono ?_
      rintro e w5 ⟨rfl, ms, hg5⟩
      rw [show clampN (n : Int) = n by unfold clampN; omega] at ms
      have pa5 := HPA1.out.grow hg5
      have c5 := pa5.bx.cell (ptrs_at hlt)
      have f5 := pa5.bx.free k
      have HPA2 := Lib.hid (HPA1.out.add HB.out hg5 (by omega) (Nat.le_refl _) ms)
      clear ms hg5 pa5
      go_wp2_with fail
      obtain ⟨gk2, hgk2⟩ : ∃ f, f = fun i => if i = k then wr.heap.size + 1 else gk i := ⟨_, rfl⟩
      obtain ⟨hk2, hhk2⟩ : ∃ f, f = fun i => if i = k then wr.heap.size else hk i := ⟨_, rfl⟩
      rw [← hgk2, ← hhk2] at HPA2
      have HLTk := Lib.hid hlt
      clear hgk2 hhk2 c5 f5 HPA1 HL1 HNW
      go_loopw [22] (fun i' wr => ∃ (m : Nat), m ≤ n ∧ i' = .int .i64 (m : Int) ∧ PA w b n (k + 1) (RB R k m) gk2 hk2 wr) (fun i' _ => n - (intOf i').toNat)
      case atStart => exact ⟨0, by omega, rfl, HPA2.out⟩
      case round =>
        obtain ⟨m, hmn, rfl, pa⟩ := hrel
        by_cases hlt2 : m < n
        · have HLTm := Lib.hid hlt2
          have HPA3 := Lib.hid pa
          have hbf := before_any wr gr n R (HR.out.grow pa.g) (m : Int) (k : Int) (by omega) (by omega) (by omega) (by omega)
          rw [aheadI_nat] at hbf
          have HBF := Lib.hid hbf
          obtain ⟨-, -, ms⟩ := pa.ms (i := k) (by omega)
          have c6 := pa.bx.cell (ptrs_at HLTk.out)
          rw [if_pos (by omega)] at c6
          obtain ⟨b1, b2, -⟩ := pa.ms (i := k) (by omega)
          have HPT := Lib.hid (mkW.put_any wr w.heap.size (fun j => j ≠ gk2 k ∧ j ≠ hk2 k) (gk2 k) (some (hk2 k)) n _ ms (mkL.free_of b1 (fun h => h.1 rfl) (fun k hk => by injection hk with hk; subst hk; exact ⟨b2, fun h => h.2 rfl⟩)) (m : Int))
          obtain ⟨q, hq⟩ : ∃ q, q = ahN R m k := ⟨_, rfl⟩
          rw [← hq] at HBF
          have HQ := Lib.hid hq
          simp only [pv] at c6
          clear pa hbf ms hq b1 b2
          cases q
          · go_wp2_with fail
            refine HBF.out.mono ?_
            rintro e w' ⟨rfl, rfl⟩
            go_wp2_with fail
            go_roundw
            case rel => exact ⟨m + 1, by have := HLTm.out; omega, by go_num, by rw [RB_no HQ.out.symm]; exact HPA3.out⟩
            case measure => have := HLTm.out; simp [intOf] <;> omega
          · go_wp2_with fail
            refine HBF.out.mono ?_
            rintro e w' ⟨rfl, rfl⟩
            go_wp2_with fail
            refine HPT.out.mono ?_
            rintro e w' ⟨rfl, ms, hkp⟩
            have HPA4 := Lib.hid (HPA3.out.turn (by omega) hkp ms)
            clear ms hkp
            go_wp2_with fail
            go_roundw
            case rel => exact ⟨m + 1, by have := HLTm.out; omega, by go_num, by rw [← RB_yes HLTm.out HQ.out.symm]; exact HPA4.out⟩
            case measure => have := HLTm.out; simp [intOf] <;> omega
        · obtain rfl : m = n := by omega
          have HPA3 := Lib.hid pa
          clear pa
          go_wp2_with fail
          go_roundw
          case rel => exact ⟨k + 1, gk2, hk2, by have := HLTk.out; omega, by go_num, by rw [← RB_next HBD.out]; exact HPA3.out⟩
          case measure => have := HLTk.out; simp [intOf] <;> omega
    · obtain rfl : k = n := by omega
      have HPA1 := Lib.hid pa
      clear pa
      go_wp2_with fail
      go_ret
      exact ⟨b, gk, hk, rfl, HB.out, HPA1.out⟩
end Go.Proofs.Ytbcifodifadoiaa.toW
