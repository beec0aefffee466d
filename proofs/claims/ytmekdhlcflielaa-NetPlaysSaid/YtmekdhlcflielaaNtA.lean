/- The law's acts: what they are, opened; few; in. -/
import Derived.Test.YtmekdhlcflielaaNtS
import Derived.Test.YtmekdhlcflielaaOpen2
namespace Go.Proofs.Ytmekdhlcflielaa.ntL
open Go Go.RowKit Go.Par Go.Kit Go.Proofs.Ytmekdhlcflielaa.mpA Go.Proofs.Ytmekdhlcflielaa.cl Go.Proofs.Ytmekdhlcflielaa.nt Go.ChangeShapes Go.WideShapes Go.ChangeAt Go.Deep

structure Act where
  k : Nat
  a : Nat
  b : Nat
  K : Int
  at_ : Int
  m : BitVec 32
  l : List UInt8
def actRow (v : Value) (x : Act) : List Value := [.int .u8 (x.k : Int), .int .u8 (x.a : Int), .int .u8 (x.b : Int), .int .i64 x.K, .int .i64 x.at_, .int .u32 (x.m.toNat : Int), v]
structure Act.ok (x : Act) : Prop where
  k : x.k ≤ 255
  a : x.a ≤ 255
  b : x.b ≤ 255
  lo : -9223372036854775808 ≤ x.K
  hi : x.K ≤ 9223372036854775807
  lo2 : -9223372036854775808 ≤ x.at_
  hi2 : x.at_ ≤ 9223372036854775807
structure ActOk (w : World) (r : List Value) (x : Act) : Prop where
  ex : ∃ v, r = actRow v x ∧ Sl w v x.l
  ok : x.ok
def Acts (w : World) (A : Option Addr) (n : Nat) (ac : List Act) : Prop := ac.length = n ∧ ∃ rows : List (List Value), Row w A (n * 7) rows.flatten ∧ rows.length = n ∧ ∀ (j : Nat) (r : List Value) (x : Act), rows[j]? = some r → ac[j]? = some x → ActOk w r x
theorem Acts.at_ {w w' : World} {A : Option Addr} {n : Nat} {ac : List Act} (h : Acts w A n ac) (hg : Grow w w') {k : Nat} (hk : k < n) :
    ∃ b off x A' n' c', A = some ⟨b, off, none⟩ ∧ ac[k]? = some x ∧ (∀ i u, (actRow (.slice A' n' c') x)[i]? = some u → w'.cell? ⟨b, off + k * 7 + i, none⟩ = some u) ∧
      n' ≤ c' ∧ c' ≤ maxLen ∧ Bytes w' A' n' x.l ∧ x.ok := by
  obtain ⟨hl, rows, hr, hrl, hok⟩ := h
  have hka : k < ac.length := by omega
  have hkr : k < rows.length := by omega
  have h1 := hok k _ _ (List.getElem?_eq_getElem hkr) (List.getElem?_eq_getElem hka)
  obtain ⟨⟨v, hv, hs⟩, h2⟩ := h1
  obtain ⟨A', n', c', rfl, b1, b2, b3⟩ := hs
  have hr' := hr.grow hg
  obtain ⟨b, off, e, hc⟩ := hr'.2 (by omega)
  have h3' : ∀ r ∈ rows, r.length = 7 := by
    intro r hr
    obtain ⟨j, hj, rfl⟩ := List.getElem_of_mem hr
    obtain ⟨⟨v, hv, _⟩, _⟩ := hok j _ _ (List.getElem?_eq_getElem hj) (List.getElem?_eq_getElem (by omega))
    rw [hv]; rfl
  refine ⟨b, off, ac[k], A', n', c', e, List.getElem?_eq_getElem hka, fun i u hu => ?_, b1, b2, b3.grow hg, h2⟩
  have hi : i < 7 := by have := (List.getElem?_eq_some_iff.1 hu).1; exact this
  rw [Nat.add_assoc]
  refine hc (k * 7 + i) _ ?_
  rw [flatten_at (by decide) _ _ h3', show (k * 7 + i) / 7 = k by omega, show (k * 7 + i) % 7 = i by omega, List.getElem?_eq_getElem hkr, hv]
  exact hu
def fewB (ac : List Act) : Bool := decide (ac.length ≤ 60) && ac.all fun a => decide (a.l.length ≤ 100)
theorem few_get {ac : List Act} (h : fewB ac = true) : ac.length ≤ 60 ∧ ∀ a ∈ ac, a.l.length ≤ 100 := by
  unfold fewB at h
  simp only [Bool.and_eq_true, decide_eq_true_eq, List.all_eq_true] at h
  exact h
set_option maxHeartbeats 1000000 in
theorem few_any (A : Option Addr) (n c : Nat) (ac : List Act) (w0 w : World) (ha : Acts w0 A n ac) (hg : Grow w0 w) (hn : n ≤ maxLen) :
    Calls Try.prog 14 #[.slice A n c] w fun e w' => e = .returned (.bool (fewB ac)) ∧ w = w' := by
  unfold maxLen at hn
  have hlen := ha.1
  by_cases h60 : 60 < n
  · have hf : fewB ac = false := by
      unfold fewB
      rw [decide_eq_false (by omega), Bool.false_and]
    rw [hf]
    have t1 : decide (60 < n) = true := decide_eq_true h60
    have t1' : decide ((60 : Int) < (n : Int)) = true := decide_eq_true (by omega)
    clear hf hlen h60
    go_enter Try.func14, Try.ntmps14
    go_wp2_with fail
    go_ret
    exact ⟨rfl, rfl⟩
  · have HL := Lib.hid hlen
    have t1 : decide (60 < n) = false := decide_eq_false h60
    have t1' : decide ((60 : Int) < (n : Int)) = false := decide_eq_false (by omega)
    have HN := Lib.hid h60
    clear hlen h60
    go_enter Try.func14, Try.ntmps14
    go_wp2_with fail
    clear t1 t1'
    go_loop [3] (fun i => ∃ k : Nat, k ≤ n ∧ i = .int .i64 (k : Int) ∧ Hid (∀ (j : Nat) (a : Act), j < k → ac[j]? = some a → a.l.length ≤ 100)) (fun i => n - (intOf i).toNat)
    case atStart => exact ⟨0, by omega, rfl, Lib.hid fun j a h => absurd h (by omega)⟩
    case round =>
      obtain ⟨k, hk, rfl, HK⟩ := hrel
      by_cases hlt : k < n
      · obtain ⟨b, off, a, A', n', c', rfl, hx, hc, b1, b2, b3, b4⟩ := ha.at_ hg hlt
        have c6 := hc 6 _ rfl
        have hl := b3.len
        by_cases h3 : 100 < n'
        · have hf : fewB ac = false := by
            rcases h : fewB ac with _ | _
            · rfl
            · have := (few_get h).2 a (List.mem_of_getElem? hx)
              omega
          have HF := Lib.hid hf
          have d1 : decide ((100 : Int) < (n' : Int)) = true := decide_eq_true (by omega)
          clear hx hl hf b3 hc b4
          go_wp2_with fail
          go_ret
          exact ⟨by rw [HF.out]; rfl, rfl⟩
        · have HK' : Hid (∀ (j : Nat) (a : Act), j < k + 1 → ac[j]? = some a → a.l.length ≤ 100) := Lib.hid fun j a' hj ha' => by
            by_cases hjk : j < k
            · exact HK.out j a' hjk ha'
            · obtain rfl : j = k := by omega
              rw [hx] at ha'
              obtain rfl := Option.some.inj ha'
              omega
          clear hx hl b3 hc b4
          go_wp2_with fail
          go_round
          case rel => exact ⟨k + 1, by omega, by go_num, HK'⟩
          case measure => simp [intOf] <;> omega
      · obtain rfl : k = n := by omega
        have hf : fewB ac = true := by
          unfold fewB
          rw [decide_eq_true (by have := HL.out; have := HN.out; omega), Bool.true_and, List.all_eq_true]
          intro a hmem
          obtain ⟨j, hj, rfl⟩ := List.getElem_of_mem hmem
          exact decide_eq_true (HK.out j _ (by have := HL.out; omega) (List.getElem?_eq_getElem hj))
        have HF := Lib.hid hf
        clear hf
        go_wp2_with fail
        go_ret
        exact ⟨by rw [HF.out]; rfl, rfl⟩
/-- texts -/
def strs (l : List (List UInt8)) : List Value := l.map fun x => .string (str x)
theorem strs_len (l : List (List UInt8)) : (strs l).length = l.length := List.length_map _
theorem str_inj {a b : List UInt8} : ((str a).toList == (str b).toList) = decide (a = b) := by
  have el : ∀ l, (str l).toList = l := fun l => ByteArray.toList_mk l
  rw [el, el]
  by_cases h : a = b
  · rw [decide_eq_true h]; exact beq_iff_eq.2 h
  · rw [decide_eq_false h]; exact beq_false_of_ne h
set_option maxHeartbeats 1000000 in
theorem in_any (A : Option Addr) (n c : Nat) (l : List (List UInt8)) (s : List UInt8) (w : World) (hr : Row w A n (strs l)) (hn : n ≤ maxLen) :
    Calls Try.prog 22 #[.slice A n c, .string (str s)] w fun e w' => e = .returned (.bool (decide (s ∈ l))) ∧ w = w' := by
  unfold maxLen at hn
  have hlen : l.length = n := by rw [← strs_len]; exact hr.1
  have HL := Lib.hid hlen
  clear hlen
  go_enter Try.func22, Try.ntmps22
  go_wp2_with fail
  go_loop [5] (fun i => ∃ k : Nat, k ≤ n ∧ i = .int .i64 (k : Int) ∧ Hid (∀ (j : Nat) (a : List UInt8), j < k → l[j]? = some a → a ≠ s)) (fun i => n - (intOf i).toNat)
  case atStart => exact ⟨0, by omega, rfl, Lib.hid fun j a h => absurd h (by omega)⟩
  case round =>
    obtain ⟨k, hk, rfl, HK⟩ := hrel
    by_cases hlt : k < n
    · obtain ⟨x, hx⟩ : ∃ x, l[k]? = some x := ⟨_, List.getElem?_eq_getElem (by have := HL.out; omega)⟩
      obtain ⟨b, off, rfl, hc⟩ := hr.2 (by omega)
      have c0 := hc k (.string (str x)) (by unfold strs; rw [List.getElem?_map, hx]; rfl)
      have te := str_inj (a := x) (b := s)
      by_cases hxs : x = s
      · rw [decide_eq_true hxs] at te
        have HF : Hid (decide (s ∈ l) = true) := Lib.hid (decide_eq_true (hxs ▸ List.mem_of_getElem? hx))
        clear hc hx hxs
        go_wp2_with fail
        go_ret
        exact ⟨by rw [HF.out]; rfl, rfl⟩
      · rw [decide_eq_false hxs] at te
        have HK' : Hid (∀ (j : Nat) (a : List UInt8), j < k + 1 → l[j]? = some a → a ≠ s) := Lib.hid fun j a' hj ha' => by
          by_cases hjk : j < k
          · exact HK.out j a' hjk ha'
          · obtain rfl : j = k := by omega
            rw [hx] at ha'
            obtain rfl := Option.some.inj ha'
            exact hxs
        clear hc hx hxs
        go_wp2_with fail
        go_round
        case rel => exact ⟨k + 1, by omega, by go_num, HK'⟩
        case measure => simp [intOf] <;> omega
    · obtain rfl : k = n := by omega
      have HF : Hid (decide (s ∈ l) = false) := Lib.hid (decide_eq_false fun hm => by
        obtain ⟨j, hj, he⟩ := List.getElem_of_mem hm
        exact HK.out j _ (by have := HL.out; omega) (List.getElem?_eq_getElem hj) he)
      go_wp2_with fail
      go_ret
      exact ⟨by rw [HF.out]; rfl, rfl⟩
end Go.Proofs.Ytmekdhlcflielaa.ntL
