/- The walks of sets: New, Put, Drop. -/
import Derived.Test.YtbcifodifadoiaaMkW
namespace Go.Proofs.Ytbcifodifadoiaa.mkW
open Go Go.RowKit Go.Par Go.Kit Go.Proofs.Ytbcifodifadoiaa.Mk

theorem info64 : (Try.prog.info? 73).isSome = true := by kernel_rfl
theorem i64 : Try.prog.info? 73 = some ((Try.prog.info? 73).get info64) := by simp
theorem i64s : ((Try.prog.info? 73).get info64).size = 1 := by kernel_rfl
theorem i64z : ((Try.prog.info? 73).get info64).zero = some (.int .u64 0) := by kernel_rfl
theorem i64b : ((Try.prog.info? 73).get info64).bytes = 8 := by kernel_rfl
theorem has_nil (w : World) (i : Int) :
    Calls Try.prog 25 #[.pointer none, .int .i64 i] w fun e w' => e = .returned (.bool false) ∧ w = w' := by
  go_enter Try.func25, Try.ntmps25
  go_wp2_with fail
  refine (fits_nil w i).mono ?_
  rintro e w' ⟨rfl, rfl⟩
  go_wp2_with fail
  go_ret
  exact ⟨rfl, rfl⟩
/-- the room of New -/
def clampN (n : Int) : Nat := (min (max n 0) 65536).toNat
theorem clampN_le (n : Int) : clampN n ≤ 65536 := by unfold clampN; omega
theorem new_any (n : Int) (w : World) (hn0 : -9223372036854775808 ≤ n) (hn1 : n ≤ 9223372036854775807) :
    Calls Try.prog 23 #[.int .i64 n] w fun e w' => e = .returned (.pointer (some ⟨w.heap.size + 1, 0, none⟩)) ∧ MS w' (w.heap.size + 1) (some w.heap.size) (clampN n) (fun _ => false) ∧ Grow w w' := by
  obtain ⟨m, hm⟩ : ∃ m, m = clampN n := ⟨_, rfl⟩
  rw [← hm]
  have hml : m ≤ 65536 := by rw [hm]; exact clampN_le n
  have hmax := fun ts t W => run_max2i (P := Try.prog) ts t n 0 (max n 0) rfl W
  have hmin := fun ts t W => run_min2i (P := Try.prog) ts t (max n 0) 65536 (m : Int) (by rw [hm]; unfold clampN; omega) W
  obtain ⟨k, hk⟩ : ∃ k, k = (m + 63) / 64 := ⟨_, rfl⟩
  have hdiv : ((m : Int) + 63) / 64 = (k : Int) := by omega
  have hmk := make_row (P := Try.prog) (z := .int .u64 0) Try.underlying70 i64 i64z i64s rfl k (by rw [i64b]; omega) (by omega)
  have HG := Lib.hid (GoodW.empty m hml)
  rw [← hk] at HG
  have hkl : k ≤ 1025 := by omega
  generalize max n 0 = n' at hmax hmin
  clear hm hk
  go_enter Try.func23, Try.ntmps23
  go_wp2_with fail
  go_ret
  have hb : Blk (w.alloc (.cells (Array.replicate k (.int .u64 0)) 73)) w.heap.size 73 ((List.replicate k 0#64).map b64) := Blk.new w _ _ _ (by simp [b64]) rfl
  refine ⟨rfl, ⟨some ⟨w.heap.size, 0, none⟩, k, List.replicate k 0#64, ?_, ?_, rfl, (fun j hj => by injection hj with hj; omega), HG.out⟩, (Grow.alloc _ _).trans (Grow.alloc _ _)⟩
  · rw [List.length_replicate]; exact Blk.new _ _ _ _ rfl (by simp)
  · rw [List.length_replicate]
    exact own_grow (own_lit hb (Nat.zero_le _) (by simp) (by unfold maxLen; omega)) (Grow.alloc _ _)

/-- behind Put, behind Drop -/
def putS (n : Nat) (S : Nat → Bool) (i : Int) : Nat → Bool := if fitB n i then ins S i.toNat else S
def delS (S : Nat → Bool) (i : Int) : Nat → Bool := if memI S i then del S i.toNat else S
theorem ins_same {S : Nat → Bool} {i : Nat} (h : S i = true) : ins S i = S := by
  funext j
  unfold ins
  by_cases e : j = i
  · subst e; simp [h]
  · simp [e]
theorem fitB_of {n : Nat} {i : Int} (h : 0 ≤ i ∧ i < (n : Int)) : fitB n i = true := by unfold fitB; rw [decide_eq_true h.1, decide_eq_true h.2]; rfl
theorem fitB_not {n : Nat} {i : Int} (h : ¬ (0 ≤ i ∧ i < (n : Int))) : fitB n i = false := by
  unfold fitB
  by_cases h0 : 0 ≤ i
  · rw [decide_eq_false (p := i < (n : Int)) (fun h1 => h ⟨h0, h1⟩), Bool.and_false]
  · rw [decide_eq_false h0, Bool.false_and]
theorem wrap_two (b : Nat) : IntKind.u64.wrap (2 ^ b) = ((1#64 <<< b).toNat : Int) := by rw [btW.wrap_u64, shl64]; simp
theorem or64_at (x : BitVec 64) (b : Nat) : bits .or .u64 (x.toNat : Int) (IntKind.u64.wrap (2 ^ b)) = ((x ||| 1#64 <<< b).toNat : Int) := or64 rfl (wrap_two b)
theorem ofInt_toNat64 (x : BitVec 64) : BitVec.ofInt 64 (x.toNat : Int) = x := by
  apply BitVec.eq_of_toNat_eq
  rw [BitVec.toNat_ofInt]
  have := x.isLt
  omega
theorem andNot64_at (x : BitVec 64) (b : Nat) : bits .andNot .u64 (x.toNat : Int) (IntKind.u64.wrap (2 ^ b)) = ((x &&& ~~~(1#64 <<< b)).toNat : Int) := by
  rw [wrap_two]
  show IntKind.u64.wrap ((BitVec.ofInt 64 (x.toNat : Int) &&& ~~~ BitVec.ofInt 64 ((1#64 <<< b).toNat : Int)).toNat : Int) = _
  rw [ofInt_toNat64, ofInt_toNat64, btW.wrap_u64]
  have := (x &&& ~~~(1#64 <<< b)).isLt
  omega

set_option maxHeartbeats 400000 in
theorem put_any (w : World) (B : Nat) (K : Nat → Prop) (g : Nat) (h : Option Nat) (n : Nat) (S : Nat → Bool) (m : MS w g h n S) (hf : Free B K g h) (i : Int) :
    Calls Try.prog 24 #[.pointer (some ⟨g, 0, none⟩), .int .i64 i] w fun e w' => e = .returned (.bool (fitB n i && !memI S i)) ∧ MS w' g h n (putS n S i) ∧ Keep B K w w' := by
  have HF := Lib.hid (fits_any w g h n S m i)
  have HH := Lib.hid (has_any w g h n S m i)
  have HM := Lib.hid m
  unfold putS
  by_cases hfi : 0 ≤ i ∧ i < (n : Int)
  · rw [fitB_of hfi] at HF ⊢
    rw [if_pos rfl, Bool.true_and]
    cases hmem : memI S i
    · obtain ⟨k, rfl⟩ : ∃ k : Nat, i = k := ⟨i.toNat, by omega⟩
      rw [hmem] at HH
      have hkn : k < n := by omega
      obtain ⟨A, c, ws, h1, h2, h3, h4, h5⟩ := m
      have hl := h5.lt hkn
      have hx : ws[k / 64]? = some ws[k / 64] := List.getElem?_eq_getElem hl
      have hp := h5.put hkn hx
      obtain ⟨gw, rfl, hob, hcell, hfr, hcap⟩ := own64_at h2 hx
      generalize ws[k / 64] = x at hx hp hcell
      have c0 := h1.cell (i := 0) rfl
      have c1 := h1.cell (i := 1) rfl
      have e63 := i64_and63 k
      obtain ⟨b, hbk⟩ : ∃ b, b = k % 64 := ⟨_, rfl⟩
      rw [← hbk] at e63 hp
      have hb64 : b < 64 := by omega
      have hmin : min b 64 = b := by omega
      have hor := or64_at x b
      obtain ⟨y, hy⟩ : ∃ y, y = x ||| 1#64 <<< b := ⟨_, rfl⟩
      rw [← hy] at hor hp
      have HP := Lib.hid hp
      have H1 := Lib.hid h1
      have H2 := Lib.hid h2
      have H3 := Lib.hid h3
      have H4 := Lib.hid h4
      have hfree : B ≤ gw ∧ ¬ K gw := hf.h gw (h3.symm.trans hob)
      have hne : gw ≠ g := h4 gw (h3.symm.trans hob)
      have hylt := y.isLt
      clear h1 h2 h3 h4 h5 hx hp hfi hob hbk hy hmem
      go_enter Try.func24, Try.ntmps24
      go_wp2_with fail
      refine HF.out.mono ?_
      rintro e w' ⟨rfl, rfl⟩
      go_wp2_with fail
      refine HH.out.mono ?_
      rintro e w' ⟨rfl, rfl⟩
      go_wp2_with fail
      go_ret
      refine ⟨rfl, ⟨some ⟨gw, 0, none⟩, c, ws.set (k / 64) y, ?_, ?_, by rw [List.length_set]; exact H3.out, H4.out, HP.out⟩, Keep.setCell (Keep.refl w) hfree.1 hfree.2 _⟩
      · rw [List.length_set]; exact H1.out.far hne.symm _
      · rw [List.length_set, List.map_set]
        exact (H2.out.stored (k / 64) _).1
    · rw [hmem] at HH
      have hS : S i.toNat = true := by unfold memI at hmem; simp only [Bool.and_eq_true] at hmem; exact hmem.2
      rw [ins_same hS]
      clear hmem hS hfi m
      go_enter Try.func24, Try.ntmps24
      go_wp2_with fail
      refine HF.out.mono ?_
      rintro e w' ⟨rfl, rfl⟩
      go_wp2_with fail
      refine HH.out.mono ?_
      rintro e w' ⟨rfl, rfl⟩
      go_wp2_with fail
      go_ret
      exact ⟨rfl, HM.out, Keep.refl _⟩
  · rw [fitB_not hfi] at HF ⊢
    rw [if_neg (by decide), Bool.false_and]
    clear hfi m
    go_enter Try.func24, Try.ntmps24
    go_wp2_with fail
    refine HF.out.mono ?_
    rintro e w' ⟨rfl, rfl⟩
    go_wp2_with fail
    go_ret
    exact ⟨rfl, HM.out, Keep.refl _⟩

end Go.Proofs.Ytbcifodifadoiaa.mkW
