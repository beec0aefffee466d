/- The statements of what is written and read: things, few, works, write. -/
import Derived.Test.YtfmaicjgndbffaaRec
import Derived.Test.YtfmaicjgndbffaaWrW
namespace Go.Proofs.Ytfmaicjgndbffaa.bfL
open Go Go.RowKit Go.Par Go.Kit Vi Go.Proofs.Ytfmaicjgndbffaa.cl Go.Proofs.Ytfmaicjgndbffaa.bfW

structure Item where
  k : Nat
  num : Nat
  b : Nat
  t : List UInt8
def itemRow (x : Item) : List Value := [.int .u8 (x.k : Int), .int .u64 (x.num : Int), .int .u8 (x.b : Int), .string (str x.t)]
structure ItemOk (x : Item) : Prop where
  k : x.k < 256
  num : x.num < 18446744073709551616
  b : x.b < 256
def Items (w : World) (A : Option Addr) (n : Nat) (xs : List Item) : Prop := Recs 4 itemRow w A n xs ∧ ∀ x ∈ xs, ItemOk x
theorem Items.at_ {w : World} {A : Option Addr} {n : Nat} {xs : List Item} (h : Items w A n xs) {k : Nat} (hk : k < n) :
    ∃ b off x, A = some ⟨b, off, none⟩ ∧ xs[k]? = some x ∧ ItemOk x ∧ w.cell? ⟨b, off + k * 4, none⟩ = some (.int .u8 (x.k : Int)) ∧ w.cell? ⟨b, off + k * 4 + 1, none⟩ = some (.int .u64 (x.num : Int)) ∧ w.cell? ⟨b, off + k * 4 + 2, none⟩ = some (.int .u8 (x.b : Int)) ∧ w.cell? ⟨b, off + k * 4 + 3, none⟩ = some (.string (str x.t)) := by
  obtain ⟨b, off, x, e, hx, hc⟩ := h.1.at_ (by decide) hk
  exact ⟨b, off, x, e, hx, h.2 x (List.mem_of_getElem? hx), hc 0 _ rfl, hc 1 _ rfl, hc 2 _ rfl, hc 3 _ rfl⟩
theorem Items.below {w w' : World} {B : Nat} {A : Option Addr} {n : Nat} {xs : List Item} (h : Items w A n xs) (hb : Below B w w') (hA : 0 < n → ∀ ad, A = some ad → ad.block < B) : Items w' A n xs := ⟨h.1.below hb hA, h.2⟩
theorem Items.grow {w w' : World} {A : Option Addr} {n : Nat} {xs : List Item} (h : Items w A n xs) (hg : Grow w w') : Items w' A n xs := ⟨h.1.grow hg, h.2⟩

def fewB (xs : List Item) : Bool := decide (xs.length ≤ 60) && xs.all fun a => decide (a.t.length ≤ 300)
theorem few_get {xs : List Item} (h : fewB xs = true) : xs.length ≤ 60 ∧ ∀ a ∈ xs, a.t.length ≤ 300 := by
  unfold fewB at h
  simp only [Bool.and_eq_true, decide_eq_true_eq, List.all_eq_true] at h
  exact h

set_option maxHeartbeats 400000 in
theorem few_any (A : Option Addr) (n c : Nat) (xs : List Item) (w : World) (ha : Items w A n xs) (hn : n ≤ maxLen) :
    Calls Try.prog 20 #[.slice A n c] w fun e w' => e = .returned (.bool (fewB xs)) ∧ w = w' := by
  unfold maxLen at hn
  have hlen := ha.1.1
  by_cases h60 : 60 < n
  · have hf : fewB xs = false := by
      unfold fewB
      rw [decide_eq_false (by omega), Bool.false_and]
    rw [hf]
    clear hf hlen ha
    go_enter Try.func20, Try.ntmps20
    go_wp2_with fail
    go_ret
    exact ⟨rfl, rfl⟩
  · have HL := Lib.hid hlen
    have HA := Lib.hid ha
    clear hlen ha
    go_enter Try.func20, Try.ntmps20
    go_wp2_with fail
    go_loop [3] (fun i => ∃ k : Nat, k ≤ n ∧ i = .int .i64 (k : Int) ∧ Hid (∀ (j : Nat) (a : Item), j < k → xs[j]? = some a → a.t.length ≤ 300)) (fun i => n - (intOf i).toNat)
    case atStart => exact ⟨0, by omega, rfl, Lib.hid fun j a h => absurd h (by omega)⟩
    case round =>
      obtain ⟨k, hk, rfl, HK⟩ := hrel
      by_cases hlt : k < n
      · obtain ⟨b, off, x, rfl, hx, -, -, -, -, c3⟩ := HA.out.at_ hlt
        have hsz := str_size x.t
        by_cases h3 : 300 < x.t.length
        · have hf : fewB xs = false := by
            rcases h : fewB xs with _ | _
            · rfl
            · have := (few_get h).2 x (List.mem_of_getElem? hx)
              omega
          have HF := Lib.hid hf
          have d1 : decide ((300 : Int) < (x.t.length : Int)) = true := decide_eq_true (by omega)
          have d2 : decide (300 < x.t.length) = true := decide_eq_true h3
          clear hx hf
          go_wp2_with fail
          go_ret
          exact ⟨by rw [HF.out]; rfl, rfl⟩
        · have HK' : Hid (∀ (j : Nat) (a : Item), j < k + 1 → xs[j]? = some a → a.t.length ≤ 300) := Lib.hid fun j a' hj ha' => by
            by_cases hjk : j < k
            · exact HK.out j a' hjk ha'
            · obtain rfl : j = k := by omega
              rw [hx] at ha'
              obtain rfl := Option.some.inj ha'
              omega
          have d1 : decide ((300 : Int) < (x.t.length : Int)) = false := decide_eq_false (by omega)
          have d2 : decide (300 < x.t.length) = false := decide_eq_false h3
          clear hx
          go_wp2_with fail
          go_round
          case rel => exact ⟨k + 1, by omega, by go_num, HK'⟩
          case measure => simp [intOf] <;> omega
      · obtain rfl : k = n := by omega
        have hf : fewB xs = true := by
          unfold fewB
          rw [decide_eq_true (by have := HL.out; omega), Bool.true_and, List.all_eq_true]
          intro a hmem
          obtain ⟨j, hj, rfl⟩ := List.getElem_of_mem hmem
          exact decide_eq_true (HK.out j _ (by have := HL.out; omega) (List.getElem?_eq_getElem hj))
        have HF := Lib.hid hf
        clear hf
        go_wp2_with fail
        go_ret
        exact ⟨by rw [HF.out]; rfl, rfl⟩

theorem wr_new (w : World) (B : Nat) (K : Nat → Prop) (hB : B ≤ w.heap.size) (hK : ∀ k, K k → k < w.heap.size) {g : Nat} (hg : g = w.heap.size) : Wb (w.alloc (.cells #[.slice none 0 0] TW)) B K g [] := by
  subst hg
  exact ⟨.slice none 0 0, Blk.new _ _ _ _ rfl rfl, World.ownsRow_nil _ _ _ _, hB, fun h => by have := hK _ h; omega, fun k hk => by cases hk⟩
theorem ab_bytes : ([] : List UInt8) ++ (vb ([97, 98] : List UInt8).length ++ [97, 98]) = [2, 97, 98] := by decide +kernel
theorem ab_text : rtext [2, 97, 98] 0 9 = ([97, 98], [], 0) := by decide +kernel
theorem str_tl (l : List UInt8) : ((str l).toList == l) = true := by rw [show (str l).toList = l from ByteArray.toList_mk _]; exact beq_self_eq_true _

set_option maxRecDepth 100000 in
set_option maxHeartbeats 1000000 in
theorem works_any (w : World) : Calls Try.prog 21 #[] w fun e w' => e = .returned (.bool true) ∧ Grow w w' := by
  obtain ⟨g, hg⟩ : ∃ g, g = w.heap.size := ⟨_, rfl⟩
  have HG := Lib.hid hg
  have hT := text_w (w.alloc (.cells #[.slice none 0 0] TW)) w.heap.size (fun _ => False) (fun _ h => h.elim) g [] (wr_new w w.heap.size (fun _ => False) (Nat.le_refl _) (fun _ h => h.elim) hg) [97, 98] (by decide)
  rw [ab_bytes] at hT
  have HT := Lib.hid hT
  clear hg hT
  go_enter Try.func21, Try.ntmps21
  go_wp2_with fail
  rw [← HG.out]
  refine HT.out.mono ?_
  rintro e w1 ⟨rfl, hw1, hk1⟩
  have HW1 := Lib.hid hw1
  have HG1 : Hid (Grow w w1) := Lib.hid (hk1.grow (Grow.alloc w _) rfl)
  have HB1 := Lib.hid (bytes_w w1 _ _ g _ HW1.out (by decide))
  clear hw1 hk1 HT
  go_wp2_with fail
  refine HB1.out.mono ?_
  rintro e w2 ⟨v2, rfl, ho2, hg2⟩
  replace ho2 : w2.ownsRow w1.heap.size 5 1 v2 3 (u8s [2, 97, 98]) := ho2
  obtain ⟨A2, c2, rfl, a1, a2, a3⟩ := own_form ho2
  rw [Nat.mul_one] at a3
  have HO := Lib.hid (open_any w2 w2.heap.size (fun _ => False) (Nat.le_refl _) (fun _ h => h.elim) A2 3 c2 [2, 97, 98] a3 a1 a2 (fun _ ad had => (own_addr ho2 ad had).2))
  have HG2 := Lib.hid (HG1.out.trans hg2)
  have HW2 := Lib.hid (HW1.out.grow hg2)
  clear ho2 a3 hg2 HB1 HW1 HG1
  go_wp2_with fail
  refine HO.out.mono ?_
  rintro e w3 ⟨rfl, hr3, hg3⟩
  obtain ⟨g3, hg3'⟩ : ∃ g3, g3 = w2.heap.size := ⟨_, rfl⟩
  rw [← hg3'] at hr3 ⊢
  have HR3 := Lib.hid hr3
  have HW3 := Lib.hid (HW2.out.grow hg3)
  have HG3 := Lib.hid hg3
  have HE3 := Lib.hid hg3'
  have HB3 := Lib.hid (bytes_w w3 _ _ g _ HW3.out (by decide))
  clear hr3 hg3 hg3' HO HW2
  go_wp2_with fail
  refine HB3.out.mono ?_
  rintro e w4 ⟨v4, rfl, ho4, hg4⟩
  replace ho4 : w4.ownsRow w3.heap.size 5 1 v4 3 (u8s [2, 97, 98]) := ho4
  obtain ⟨A4, c4, rfl, b1, b2, b3⟩ := own_form ho4
  rw [Nat.mul_one] at b3
  have HG4 := Lib.hid (HG3.out.trans hg4)
  have HR4 := Lib.hid (HR3.out.grow hg4)
  have HL4 := Lib.hid (len_w w4 _ _ g _ (HW3.out.grow hg4))
  have hx := text_any w4 _ _ g3 _ _ HR4.out 9 (by decide)
  rw [ab_text] at hx
  have HX := Lib.hid hx
  have cs := conv_str (P := Try.prog) Try.underlying23 Try.underlying5 Try.underlying9 (show Bytes w4 A4 3 [2, 97, 98] from b3) c4
  have t1 := str_tl [2, 97, 98]
  have t2 := str_tl [97, 98]
  clear ho4 b3 hg4 hx HB3 HR3
  go_wp2_with fail
  refine HL4.out.mono ?_
  rintro e w5 ⟨rfl, rfl⟩
  go_wp2_with fail
  refine HX.out.mono ?_
  rintro e w5 ⟨rfl, hr5, hk5⟩
  have HN := Lib.hid (end_any w5 _ _ g3 [] 0 hr5)
  have HG5 : Hid (Grow w w5) := Lib.hid (HG2.out.trans (hk5.grow HG4.out HE3.out))
  clear hr5 hk5 HX HL4
  go_wp2_with fail
  refine HN.out.mono ?_
  rintro e w6 ⟨rfl, rfl⟩
  go_wp2_with fail
  go_ret
  exact ⟨rfl, HG5.out⟩
end Go.Proofs.Ytfmaicjgndbffaa.bfL
