/- The walks of the document's in, free, Order. -/
import Derived.Test.YtjfohglkpbgkaaaToF
import Derived.Test.YtjfohglkpbgkaaaReR5
namespace Go.Proofs.Ytjfohglkpbgkaaa.toW
open Go Go.RowKit Go.Par Go.Kit Go.Proofs.Ytjfohglkpbgkaaa.Mk Go.Proofs.Ytjfohglkpbgkaaa.mkW Go.Proofs.Ytjfohglkpbgkaaa.Re Go.Proofs.Ytjfohglkpbgkaaa.reW Go.Proofs.Ytjfohglkpbgkaaa.mkR Go.Proofs.Ytjfohglkpbgkaaa.To

set_option maxHeartbeats 400000 in
theorem in_any (w : World) (v : Value) (L : List Nat) (hv : IntsV w v L) (i : Nat) :
    Calls Try.prog 64 #[v, .int .i64 (i : Int)] w fun e w' => e = .returned (.bool (L.contains i)) ∧ w = w' := by
  obtain ⟨A, c, rfl, hc, hm, hrow, -⟩ := hv
  obtain ⟨n, hn⟩ : ∃ n, n = L.length := ⟨_, rfl⟩
  rw [← hn] at hc ⊢
  unfold maxLen at hm
  rw [← reW.hasB_contains]
  obtain ⟨r, hr⟩ : ∃ r, r = hasB L (i : Int) := ⟨_, rfl⟩
  rw [← hr]
  have HR := Lib.hid hr
  have HN := Lib.hid hn
  have HROW := Lib.hid hrow
  clear hr hn hrow
  go_enter Try.func64, Try.ntmps64
  go_wp2_with fail
  go_loop [5] (fun i' => ∃ k : Nat, k ≤ n ∧ i' = .int .i64 (k : Int) ∧ Hid (∀ (j x : Nat), j < k → L[j]? = some x → (x : Int) ≠ (i : Int))) (fun i => n - (intOf i).toNat)
  case atStart => exact ⟨0, by omega, rfl, Lib.hid fun j x h => absurd h (by omega)⟩
  case round =>
    obtain ⟨k, hk, rfl, HI⟩ := hrel
    by_cases hlt : k < n
    · have hrow := HROW.out
      obtain ⟨b, off, x, rfl, hx, hcell⟩ := Row.nat_at hrow (k := k) (by have := HN.out; omega)
      by_cases hxi : x = i
      · have hr1 : r = true := by rw [HR.out]; exact hasB_yes hx (by omega)
        have HR1 := Lib.hid hr1
        have t1 : ((x : Int) == (i : Int)) = true := beq_iff_eq.2 (by omega)
        have t2 : (x == i) = true := beq_iff_eq.2 hxi
        clear hr1 hxi hx hrow HI
        go_wp2_with fail
        go_ret
        exact ⟨by rw [HR1.out]; rfl, rfl⟩
      · have t1 : ((x : Int) == (i : Int)) = false := beq_false_of_ne (by omega)
        have t2 : (x == i) = false := beq_false_of_ne hxi
        have HI2 : Hid (∀ (j x : Nat), j < k + 1 → L[j]? = some x → (x : Int) ≠ (i : Int)) := Lib.hid fun j y hj hy => by
          by_cases hjk : j < k
          · exact HI.out j y hjk hy
          · obtain rfl : j = k := by omega
            rw [hx] at hy
            obtain rfl := Option.some.inj hy
            omega
        clear hxi hx hrow HI
        go_wp2_with fail
        go_round
        case rel => exact ⟨k + 1, by omega, by go_num, HI2⟩
        case measure => simp [intOf] <;> omega
    · obtain rfl : k = n := by omega
      have hr1 : r = false := by rw [HR.out]; exact hasB_no fun j x hx => HI.out j x (by have := (List.getElem?_eq_some_iff.1 hx).1; have := HN.out; omega) hx
      have HR1 := Lib.hid hr1
      clear hr1
      go_wp2_with fail
      go_ret
      exact ⟨by rw [HR1.out]; rfl, rfl⟩
theorem free_no {n : Nat} {R : Nat → Nat → Bool} {o : List Nat} {g j : Nat} (hj : j < n) (h1 : ahN R j g = true) (h2 : o.contains j = false) : freeB n R o g = false := by
  cases h : freeB n R o g with
  | false => rfl
  | true =>
    have := free_iff.1 h j hj h1
    rw [contains_iff.2 this] at h2
    cases h2
set_option maxRecDepth 100000 in
set_option maxHeartbeats 2000000 in
theorem free_any (w : World) (n : Nat) (v : Value) (L : List (Nat × Nat)) (hv : RefV w v L) (hL : L.length ≤ 1000000) (hn : n ≤ 65536) (u : Value) (o : List Nat) (hu : IntsV w u o) (g : Nat) :
    Calls Try.prog 65 #[.agg #[.int .i64 (n : Int), v], u, .int .i64 (g : Int)] w fun e w' => e = .returned (.bool (freeB n (leadB L) o g)) ∧ Grow w w' := by
  have HV := Lib.hid hv
  have HU := Lib.hid hu
  obtain ⟨A, c, rfl, -⟩ := hv
  obtain ⟨l, hl⟩ : ∃ l, l = L.length := ⟨_, rfl⟩
  rw [← hl] at HV ⊢
  obtain ⟨A2, c2, e2, -⟩ := hu
  obtain ⟨l2, hl2⟩ : ∃ l, l = o.length := ⟨_, rfl⟩
  rw [← hl2] at e2
  subst e2
  obtain ⟨W1, hW1⟩ : ∃ W, W = w.alloc (.cells #[.int .i64 (n : Int), .slice A l c] TX8) := ⟨_, rfl⟩
  obtain ⟨b0, hb0⟩ : ∃ b, b = w.heap.size := ⟨_, rfl⟩
  have hg1 : Grow w W1 := by rw [hW1]; exact Grow.alloc _ _
  have hbx : Blk W1 b0 TX8 [.int .i64 (n : Int), .slice A l c] := by rw [hW1]; exact Blk.new w _ _ _ rfl hb0
  obtain ⟨R, hR⟩ : ∃ R, R = leadB L := ⟨_, rfl⟩
  obtain ⟨r, hr⟩ : ∃ r, r = freeB n R o g := ⟨_, rfl⟩
  rw [← hR, ← hr]
  have HRE := Lib.hid hr
  have HRR := Lib.hid hR
  have HBX := Lib.hid hbx
  have HVW := Lib.hid (HV.out.grow hg1)
  have HUW := Lib.hid (HU.out.grow hg1)
  have HG1 := Lib.hid hg1
  have HW1 := Lib.hid hW1
  have HB0 := Lib.hid hb0
  have HLL := Lib.hid hL
  clear hl hl2 hW1 hb0 hg1 hL hbx hR hr HV HU
  go_enter Try.func65, Try.ntmps65
  go_wp2_with fail
  rw [← HW1.out, ← HB0.out]
  go_loopw [7] (fun i' wr => ∃ (k : Nat), k ≤ n ∧ i' = .int .i64 (k : Int) ∧ Grow W1 wr ∧ ∀ j, j < k → ahN R j g = true → j ∈ o) (fun i' _ => n - (intOf i').toNat)
  case atStart => exact ⟨0, by omega, rfl, Grow.refl _, fun j hj => absurd hj (by omega)⟩
  case round =>
    obtain ⟨k, hkn, rfl, hg2, hall⟩ := hrel
    have z0 := (HBX.out.grow hg2).cell (i := 0) rfl
    have HBK := Lib.hid (HBX.out.grow hg2)
    have HG2 := Lib.hid hg2
    have HALL := Lib.hid hall
    by_cases hlt : k < n
    · have hbf := ref_before wr n _ L (HVW.out.grow hg2) HLL.out (k : Int) (g : Int)
      rw [← HRR.out, aheadI_nat] at hbf
      obtain ⟨q, hq⟩ : ∃ q, q = ahN R k g := ⟨_, rfl⟩
      rw [← hq] at hbf
      have HBF := Lib.hid hbf
      have HQ := Lib.hid hq
      have HLTk := Lib.hid hlt
      clear hg2 hall hbf hq
      cases q
      · go_wp2_with (refine load_blk rfl _ _ rfl b0 rfl _ _ _ HBK.out und8 rfl (by rw [size8]; rfl) ?_)
        refine HBF.out.mono ?_
        rintro e w3 ⟨rfl, hg3⟩
        have HG3 := Lib.hid (HG2.out.trans hg3)
        clear hg3
        go_wp2_with fail
        go_roundw
        case rel => exact ⟨k + 1, by have := HLTk.out; omega, by go_num, HG3.out, fun j hj ha => by
          by_cases hjk : j < k
          · exact HALL.out j hjk ha
          · obtain rfl : j = k := by omega
            rw [← HQ.out] at ha
            cases ha⟩
        case measure => have := HLTk.out; simp [intOf] <;> omega
      · go_wp2_with (refine load_blk rfl _ _ rfl b0 rfl _ _ _ HBK.out und8 rfl (by rw [size8]; rfl) ?_)
        refine HBF.out.mono ?_
        rintro e w3 ⟨rfl, hg3⟩
        have HIN := Lib.hid (in_any w3 _ o (HUW.out.grow (HG2.out.trans hg3)) k)
        have HG3 := Lib.hid (HG2.out.trans hg3)
        obtain ⟨p, hp⟩ : ∃ p, p = o.contains k := ⟨_, rfl⟩
        rw [← hp] at HIN
        have HP := Lib.hid hp
        clear hg3 hp
        cases p
        · have HF : Hid (r = false) := Lib.hid (by rw [HRE.out]; exact free_no HLTk.out HQ.out.symm HP.out.symm)
          go_wp2_with fail
          refine HIN.out.mono ?_
          rintro e w' ⟨rfl, rfl⟩
          go_wp2_with fail
          go_ret
          exact ⟨by rw [HF.out]; rfl, HG1.out.trans HG3.out⟩
        · go_wp2_with fail
          refine HIN.out.mono ?_
          rintro e w' ⟨rfl, rfl⟩
          go_wp2_with fail
          go_roundw
          case rel => exact ⟨k + 1, by have := HLTk.out; omega, by go_num, HG3.out, fun j hj ha => by
            by_cases hjk : j < k
            · exact HALL.out j hjk ha
            · obtain rfl : j = k := by omega
              exact contains_iff.1 HP.out.symm⟩
          case measure => have := HLTk.out; simp [intOf] <;> omega
    · obtain rfl : n = k := by omega
      have HF : Hid (r = true) := Lib.hid (by rw [HRE.out]; exact free_iff.2 hall)
      clear hg2 hall
      go_wp2_with fail
      go_ret
      exact ⟨by rw [HF.out]; rfl, HG1.out.trans HG2.out⟩
end Go.Proofs.Ytjfohglkpbgkaaa.toW
