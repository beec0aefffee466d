/- Names. -/
import Derived.Test.YthclgmpjmhacdaaTgV
import Derived.Test.YthclgmpjmhacdaaStr
import Derived.Laws.RangeAny
namespace Go.Proofs.Ythclgmpjmhacdaa.tg
open Go Go.RowKit Go.Par Go.Kit

def letB (c : Nat) : Bool := decide ((97 ≤ c ∧ c ≤ 122) ∨ (48 ≤ c ∧ c ≤ 57) ∨ c = 46 ∨ c = 95 ∨ c = 45)
def nameB (l : List UInt8) : Bool := l.all (fun c => letB c.toNat) && (decide (1 ≤ l.length) && decide (l.length ≤ 16))
set_option maxRecDepth 100000 in
set_option maxHeartbeats 1000000 in
theorem letter_any (w : World) (c : Nat) (hc : c ≤ 2147483647) : Calls Try.prog 63 #[.int .i32 (c : Int)] w fun e w' => e = .returned (.bool (letB c)) ∧ w = w' := by
  obtain ⟨r, hr⟩ : ∃ r, r = letB c := ⟨_, rfl⟩
  rw [← hr]
  have HR := Lib.hid hr
  clear hr
  go_enter Try.func63, Try.ntmps63
  go_wp2_with fail
  all_goals
    go_ret
    first
      | (rw [show r = true from HR.out.trans (decide_eq_true (by simp_all; omega))]; exact ⟨rfl, rfl⟩)
      | (rw [show r = false from HR.out.trans (decide_eq_false (by simp_all; omega))]; exact ⟨rfl, rfl⟩)
theorem name_yes {l : List UInt8} (h : ∀ (i : Nat) (c : UInt8), i < l.length → l[i]? = some c → letB c.toNat = true) : nameB l = (decide (1 ≤ l.length) && decide (l.length ≤ 16)) := by
  unfold nameB
  have : (l.all fun c => letB c.toNat) = true := by
    rw [List.all_eq_true]
    intro c hc
    obtain ⟨i, hi, rfl⟩ := List.getElem_of_mem hc
    exact h i _ hi (List.getElem?_eq_getElem hi)
  rw [this, Bool.true_and]
theorem name_no {l : List UInt8} {i : Nat} {c : UInt8} (hc : l[i]? = some c) (h : letB c.toNat = false) : nameB l = false := by
  unfold nameB
  have : (l.all fun c => letB c.toNat) = false := by
    rw [List.all_eq_false]
    exact ⟨c, List.mem_of_getElem? hc, by rw [h]; decide⟩
  rw [this, Bool.false_and]
theorem str_get (l : List UInt8) (i : Nat) (h : i < (str l).size) (h2 : i < l.length) : (str l)[i]'h = l[i] := by
  show (str l).data[i] = _
  simp [str]
theorem let_high {c : Nat} (h : 128 ≤ c) : letB c = false := decide_eq_false (by omega)
set_option maxRecDepth 100000 in
set_option maxHeartbeats 1000000 in
theorem name_any (w : World) (l : List UInt8) (hl : l.length ≤ maxLen) : Calls Try.prog 43 #[.string (str l)] w fun e w' => e = .returned (.bool (nameB l)) ∧ Grow w w' := by
  unfold maxLen at hl
  obtain ⟨r, hr⟩ : ∃ r, r = nameB l := ⟨_, rfl⟩
  rw [← hr]
  have HR := Lib.hid hr
  obtain ⟨s, hs⟩ : ∃ s, s = str l := ⟨_, rfl⟩
  have hsz : s.size = l.length := by rw [hs]; exact str_size l
  obtain ⟨n, hn⟩ : ∃ n, n = l.length := ⟨_, rfl⟩
  rw [← hn] at hsz hl
  rw [← hs]
  have HS := Lib.hid hs
  have HSZ := Lib.hid hsz
  have HN := Lib.hid hn
  have HG : Hid (∀ p, Grow w (w.iter s p)) := Lib.hid fun p => Grow.alloc w _
  clear hr hs hsz hn
  go_enter Try.func43, Try.ntmps43
  go_wp2_with fail
  go_loopw [4] (fun _ wr => ∃ i : Nat, i ≤ n ∧ wr = w.iter s i ∧ ∀ (j : Nat) (c : UInt8), j < i → l[j]? = some c → letB c.toNat = true) (fun _ wr => n - wr.iterPos w.heap.size)
  case atStart => exact ⟨0, by omega, rfl, fun j c h => absurd h (by omega)⟩
  case round =>
    obtain ⟨i, hi, rfl, hal⟩ := hrel
    have HAL := Lib.hid hal
    clear hal
    by_cases hlt : i < n
    · have hisz : i < s.size := by rw [HSZ.out]; exact hlt
      have hil : i < l.length := by rw [← HN.out]; exact hlt
      have hx : l[i]? = some l[i] := List.getElem?_eq_getElem hil
      have hget : s[i]'hisz = l[i] := by
        have := HS.out
        subst this
        exact str_get l i hisz hil
      obtain ⟨c, hc⟩ : ∃ c, c = l[i] := ⟨_, rfl⟩
      rw [← hc] at hx hget
      have HX := Lib.hid hx
      have HLT := Lib.hid hlt
      have HI := Lib.hid (show i + 1 ≤ n by omega)
      by_cases ha : c.toNat < 128
      · have hnx := fun ty => run_next_ascii (P := Try.prog) w s i ty hisz (by rw [hget]; exact ha)
        rw [hget] at hnx
        have HLE := Lib.hid (letter_any (w.iter s (i + 1)) c.toNat (by omega))
        obtain ⟨q, hq⟩ : ∃ q, q = letB c.toNat := ⟨_, rfl⟩
        rw [← hq] at HLE
        have HQ := Lib.hid hq
        obtain ⟨m, hm⟩ : ∃ m, m = c.toNat := ⟨_, rfl⟩
        rw [← hm] at HLE hnx
        clear hi hlt hisz hil hx hget hc ha hq hm
        go_wp2_with fail
        clear hnx
        refine HLE.out.mono ?_
        rintro e w' ⟨rfl, rfl⟩
        cases q
        · go_wp2_with fail
          go_ret
          rw [show r = false from HR.out.trans (name_no HX.out HQ.out.symm)]
          exact ⟨rfl, HG.out _⟩
        · go_wp2_with fail
          go_roundw
          case rel =>
            refine ⟨i + 1, HI.out, rfl, fun j c' hj hc' => ?_⟩
            rcases Nat.lt_or_ge j i with h3 | h3
            · exact HAL.out j c' h3 hc'
            · obtain rfl : j = i := by omega
              rw [HX.out] at hc'
              injection hc' with hc'
              rw [← hc']; exact HQ.out.symm
          case measure => have := HLT.out; simp; omega
      · have hh := decode_high s i hisz (by rw [hget]; omega)
        have hnx := fun ty => run_next_any (P := Try.prog) w s i ty hisz
        obtain ⟨m, hm⟩ : ∃ m, m = (Utf8.decode s i).1 := ⟨_, rfl⟩
        obtain ⟨d, hd⟩ : ∃ d, d = (Utf8.decode s i).2 := ⟨_, rfl⟩
        have hm2 : m ≤ 2147483647 := by rw [hm]; exact decode_le s i
        rw [← hm, ← hd] at hnx
        rw [← hm] at hh
        have HLE := Lib.hid (letter_any (w.iter s (i + d)) m hm2)
        rw [let_high hh.1] at HLE
        have HQ : Hid (letB c.toNat = false) := Lib.hid (let_high (by omega))
        clear hi hlt hisz hil hx hget hc ha hm hd hh hm2
        go_wp2_with fail
        clear hnx
        refine HLE.out.mono ?_
        rintro e w' ⟨rfl, rfl⟩
        go_wp2_with fail
        go_ret
        rw [show r = false from HR.out.trans (name_no HX.out HQ.out)]
        exact ⟨rfl, HG.out _⟩
    · obtain rfl : i = n := by omega
      have hnx := fun ty => run_next_end (P := Try.prog) w s i ty (by rw [HSZ.out]; omega)
      have hr := HR.out.trans (name_yes fun j c hj hc => HAL.out j c (by rw [HN.out]; exact hj) hc)
      rw [← HN.out] at hr
      have HR2 := Lib.hid hr
      have hsz := HSZ.out
      have HI0 := Lib.hid (HG.out i)
      clear hi hlt hr
      by_cases h0 : i = 0
      · subst h0
        have he : l = [] := List.eq_nil_of_length_eq_zero HN.out.symm
        have hse : s = ⟨#[]⟩ := by rw [HS.out, he]; rfl
        have hr3 : r = false := HR2.out
        subst hr3
        clear hsz
        subst hse
        go_wp2_with fail
        go_ret
        exact ⟨rfl, HI0.out⟩
      · have hne : (s.toList == (ByteArray.mk #[]).toList) = false := beq_false_of_ne fun e => h0 (by
          have h1 := congrArg List.length e
          rw [HS.out, show (str l).toList = l from ByteArray.toList_mk _, show (ByteArray.mk #[]).toList = [] from ByteArray.toList_mk []] at h1
          rw [HN.out]
          exact h1)
        have hne2 : (s.toList != (ByteArray.mk #[]).toList) = true := by unfold bne; rw [hne]; rfl
        have hne3 : (s.toList != []) = true := by rw [← show (ByteArray.mk #[]).toList = [] from ByteArray.toList_mk []]; exact hne2
        have hne4 : (s.toList == []) = false := by rw [← show (ByteArray.mk #[]).toList = [] from ByteArray.toList_mk []]; exact hne
        obtain ⟨q, hq⟩ : ∃ q, q = decide (i ≤ 16) := ⟨_, rfl⟩
        have t5 : decide ((i : Int) ≤ 16) = q := by rw [hq]; exact decide_eq_decide.2 (by omega)
        have t6 := hq.symm
        have hr3 : r = q := by rw [HR2.out, decide_eq_true (show 1 ≤ i by omega), Bool.true_and, hq]
        subst hr3
        clear h0 hq
        go_wp2_with fail
        go_ret
        exact ⟨rfl, HI0.out⟩
end Go.Proofs.Ythclgmpjmhacdaa.tg
