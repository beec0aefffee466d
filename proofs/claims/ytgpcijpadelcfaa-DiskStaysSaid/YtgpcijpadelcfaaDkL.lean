/- The statements of the disk: acts, few, do, works. -/
import Derived.Test.YtgpcijpadelcfaaDkR
import Derived.Test.YtgpcijpadelcfaaOpen2
namespace Go.Proofs.Ytgpcijpadelcfaa.dkL
open Go Go.RowKit Go.Par Go.Kit Go.Proofs.Ytgpcijpadelcfaa.cl Go.Proofs.Ytgpcijpadelcfaa.dkW

structure Act where
  k : Nat
  n : Int
  l : List UInt8
def actRow (v : Value) (a : Act) : List Value := [.int .u8 (a.k : Int), .int .i64 a.n, v]
structure ActOk (w : World) (r : List Value) (a : Act) : Prop where
  ex : ∃ v, r = actRow v a ∧ Sl w v a.l
  k : a.k < 256
  lo : -9223372036854775808 ≤ a.n
  hi : a.n ≤ 9223372036854775807
def Acts (w : World) (A : Option Addr) (n : Nat) (ac : List Act) : Prop := ac.length = n ∧ ∃ rows : List (List Value), Row w A (n * 3) rows.flatten ∧ rows.length = n ∧ ∀ (j : Nat) (r : List Value) (a : Act), rows[j]? = some r → ac[j]? = some a → ActOk w r a
theorem Acts.at_ {w w' : World} {A : Option Addr} {n : Nat} {ac : List Act} (h : Acts w A n ac) (hg : Grow w w') {k : Nat} (hk : k < n) :
    ∃ b off a A' n' c', A = some ⟨b, off, none⟩ ∧ ac[k]? = some a ∧ w'.cell? ⟨b, off + k * 3, none⟩ = some (.int .u8 (a.k : Int)) ∧ w'.cell? ⟨b, off + k * 3 + 1, none⟩ = some (.int .i64 a.n) ∧ w'.cell? ⟨b, off + k * 3 + 2, none⟩ = some (.slice A' n' c') ∧
      n' ≤ c' ∧ c' ≤ maxLen ∧ Bytes w' A' n' a.l ∧ a.k < 256 ∧ -9223372036854775808 ≤ a.n ∧ a.n ≤ 9223372036854775807 := by
  obtain ⟨hl, rows, hr, hrl, hok⟩ := h
  have hka : k < ac.length := by omega
  have hkr : k < rows.length := by omega
  have h1 := hok k _ _ (List.getElem?_eq_getElem hkr) (List.getElem?_eq_getElem hka)
  obtain ⟨⟨v, hv, hs⟩, h2, h3, h4⟩ := h1
  obtain ⟨A', n', c', rfl, b1, b2, b3⟩ := hs
  have hr' := hr.grow hg
  obtain ⟨b, off, e, hc⟩ := hr'.2 (by omega)
  have h3' : ∀ r ∈ rows, r.length = 3 := by
    intro r hr
    obtain ⟨j, hj, rfl⟩ := List.getElem_of_mem hr
    obtain ⟨⟨v, hv, _⟩, _⟩ := hok j _ _ (List.getElem?_eq_getElem hj) (List.getElem?_eq_getElem (by omega))
    rw [hv]; rfl
  have hat : ∀ i, i < 3 → rows.flatten[k * 3 + i]? = (actRow (.slice A' n' c') ac[k])[i]? := by
    intro i hi
    rw [flatten_at (by decide) _ _ h3', show (k * 3 + i) / 3 = k by omega, show (k * 3 + i) % 3 = i by omega, List.getElem?_eq_getElem hkr, hv]
    rfl
  refine ⟨b, off, ac[k], A', n', c', e, List.getElem?_eq_getElem hka, ?_, ?_, ?_, b1, b2, b3.grow hg, h2, h3, h4⟩
  · have := hc (k * 3 + 0) _ (hat 0 (by decide)); simpa using this
  · have := hc (k * 3 + 1) _ (hat 1 (by decide)); simpa [Nat.add_assoc] using this
  · have := hc (k * 3 + 2) _ (hat 2 (by decide)); simpa [Nat.add_assoc] using this

def fewB (ac : List Act) : Bool := decide (ac.length ≤ 40) && ac.all fun a => decide (a.l.length ≤ 300)
theorem few_get {ac : List Act} (h : fewB ac = true) : ac.length ≤ 40 ∧ ∀ a ∈ ac, a.l.length ≤ 300 := by
  unfold fewB at h
  simp only [Bool.and_eq_true, decide_eq_true_eq, List.all_eq_true] at h
  exact h

set_option maxHeartbeats 400000 in
theorem few_any (A : Option Addr) (n c : Nat) (ac : List Act) (w0 w : World) (ha : Acts w0 A n ac) (hg : Grow w0 w) (hn : n ≤ maxLen) :
    Calls Try.prog 44 #[.slice A n c] w fun e w' => e = .returned (.bool (fewB ac)) ∧ w = w' := by
  unfold maxLen at hn
  have hlen := ha.1
  by_cases h40 : 40 < n
  · have hf : fewB ac = false := by
      unfold fewB
      rw [decide_eq_false (by omega), Bool.false_and]
    rw [hf]
    clear hf hlen
    go_enter Try.func44, Try.ntmps44
    go_wp2_with fail
    go_ret
    exact ⟨rfl, rfl⟩
  · have HL := Lib.hid hlen
    clear hlen
    go_enter Try.func44, Try.ntmps44
    go_wp2_with fail
    go_loop [3] (fun i => ∃ k : Nat, k ≤ n ∧ i = .int .i64 (k : Int) ∧ Hid (∀ (j : Nat) (a : Act), j < k → ac[j]? = some a → a.l.length ≤ 300)) (fun i => n - (intOf i).toNat)
    case atStart => exact ⟨0, by omega, rfl, Lib.hid fun j a h => absurd h (by omega)⟩
    case round =>
      obtain ⟨k, hk, rfl, HK⟩ := hrel
      by_cases hlt : k < n
      · obtain ⟨b, off, a, A', n', c', rfl, hx, c0, c1, c2, b1, b2, b3, b4, b5, b6⟩ := ha.at_ hg hlt
        have hl := b3.len
        by_cases h3 : 300 < n'
        · have hf : fewB ac = false := by
            rcases h : fewB ac with _ | _
            · rfl
            · have := (few_get h).2 a (List.mem_of_getElem? hx)
              omega
          have HF := Lib.hid hf
          have d1 : decide ((300 : Int) < (n' : Int)) = true := decide_eq_true (by omega)
          clear hx hl hf b3
          go_wp2_with fail
          go_ret
          exact ⟨by rw [HF.out]; rfl, rfl⟩
        · have HK' : Hid (∀ (j : Nat) (a : Act), j < k + 1 → ac[j]? = some a → a.l.length ≤ 300) := Lib.hid fun j a' hj ha' => by
            by_cases hjk : j < k
            · exact HK.out j a' hjk ha'
            · obtain rfl : j = k := by omega
              rw [hx] at ha'
              obtain rfl := Option.some.inj ha'
              omega
          clear hx hl b3
          go_wp2_with fail
          go_round
          case rel => exact ⟨k + 1, by omega, by go_num, HK'⟩
          case measure => simp [intOf] <;> omega
      · obtain rfl : k = n := by omega
        have hf : fewB ac = true := by
          unfold fewB
          rw [decide_eq_true (by have := HL.out; omega), Bool.true_and, List.all_eq_true]
          intro a hmem
          obtain ⟨j, hj, rfl⟩ := List.getElem_of_mem hmem
          exact decide_eq_true (HK.out j _ (by have := HL.out; omega) (List.getElem?_eq_getElem hj))
        have HF := Lib.hid hf
        clear hf
        go_wp2_with fail
        go_ret
        exact ⟨by rw [HF.out]; rfl, rfl⟩

/-- an act: the bytes, how many are sure, the error's number -/
def step (L : List UInt8) (s : Nat) (a : Act) : List UInt8 × Nat × Nat :=
  if a.k = 0 then (L ++ a.l, s, 0) else if a.k = 1 then (L, L.length, 0) else
  if a.k = 2 then (if a.n < 0 ∨ (L.length : Int) < a.n then (L, s, 1) else (L.take a.n.toNat, a.n.toNat, 0)) else
  if a.k = 3 then (L.take (left L s a.n), left L s a.n, 0) else (L, s, 0)
theorem step_le {L : List UInt8} {s : Nat} (a : Act) (h : s ≤ L.length) : (step L s a).2.1 ≤ (step L s a).1.length := by
  have hl := left_le (L := L) a.n h
  unfold step
  split
  · simp; omega
  · split
    · simp
    · split
      · split
        · exact h
        · simp; omega
      · split
        · simp; omega
        · exact h
theorem step_len {L : List UInt8} {s : Nat} (a : Act) : (step L s a).1.length ≤ L.length + a.l.length := by
  unfold step
  split
  · simp
  · split
    · simp
    · split
      · split
        · simp
        · simp; omega
      · split
        · simp; omega
        · simp

set_option maxRecDepth 100000 in
set_option maxHeartbeats 1000000 in
theorem do_any (w : World) (B : Nat) (K : Nat → Prop) (hB : B ≤ w.heap.size) (hK : ∀ k, K k → k < w.heap.size) (g : Nat) (L : List UInt8) (s : Nat) (h : Disk w B K g L s) (a : Act) (ha : a.k < 256) (A' : Option Addr) (n' c' : Nat) (hb : Bytes w A' n' a.l) (hn : L.length + n' ≤ 140737488355328) :
    Calls Try.prog 51 #[.pointer (some ⟨g, 0, none⟩), .agg #[.int .u8 (a.k : Int), .int .i64 a.n, .slice A' n' c']] w
      fun e w' => e = .returned (.int .i64 ((step L s a).2.2 : Int)) ∧ Disk w' B K g (step L s a).1 (step L s a).2.1 ∧ Keep B K w w' := by
  obtain ⟨k, n, l⟩ := a
  dsimp only at *
  have hgw := fun o => Grow.alloc w o
  have HD := Lib.hid (fun o => h.grow (hgw o))
  have HBY := Lib.hid (fun o => hb.grow (hgw o))
  have hsz : ∀ o, B ≤ (w.alloc o).heap.size := fun o => by simp; omega
  have hsk : ∀ o k, K k → k < (w.alloc o).heap.size := fun o k hk => by have := hK k hk; simp; omega
  have HS := Lib.hid hsz
  have HK := Lib.hid hsk
  have hke : Hid (∀ o, Keep B K w (w.alloc o)) := Lib.hid fun o => Keep.of (hgw o) hB
  clear hgw hsz hsk h hb hK
  by_cases h0 : k = 0
  · have e : step L s ⟨k, n, l⟩ = (L ++ l, s, 0) := by unfold step; rw [if_pos h0]
    rw [e]
    have t0 : ((k : Int) == 0) = true := beq_iff_eq.2 (by omega)
    clear e h0
    go_enter Try.func51, Try.ntmps51
    go_wp2_with (go_at_call 58; refine (append_any _ B K (HS.out _) (HK.out _) g L s (HD.out _) A' n' c' l (HBY.out _) hn).mono ?_; rintro e w1 ⟨rfl, hd, hk⟩)
    go_ret
    exact ⟨rfl, hd, (hke.out _).trans hk⟩
  · have t0 : ((k : Int) == 0) = false := beq_false_of_ne (by omega)
    by_cases h1 : k = 1
    · have e : step L s ⟨k, n, l⟩ = (L, L.length, 0) := by unfold step; rw [if_neg h0, if_pos h1]
      rw [e]
      have t1 : ((k : Int) == 1) = true := beq_iff_eq.2 (by omega)
      clear e h0 h1
      go_enter Try.func51, Try.ntmps51
      go_wp2_with (go_at_call 57; refine (sync_any _ B K g L s (HD.out _)).mono ?_; rintro e w1 ⟨rfl, hd, hk⟩)
      go_ret
      exact ⟨rfl, hd, (hke.out _).trans hk⟩
    · have t1 : ((k : Int) == 1) = false := beq_false_of_ne (by omega)
      by_cases h2 : k = 2
      · have t2 : ((k : Int) == 2) = true := beq_iff_eq.2 (by omega)
        by_cases hbad : n < 0 ∨ (L.length : Int) < n
        · have e : step L s ⟨k, n, l⟩ = (L, s, 1) := by unfold step; rw [if_neg h0, if_neg h1, if_pos h2, if_pos hbad]
          rw [e]
          clear e h0 h1 h2
          go_enter Try.func51, Try.ntmps51
          go_wp2_with (go_at_call 59; refine (cut_bad _ B K g L s (HD.out _) n hbad).mono ?_; rintro e w1 ⟨rfl, rfl⟩)
          go_ret
          exact ⟨rfl, HD.out _, hke.out _⟩
        · have e : step L s ⟨k, n, l⟩ = (L.take n.toNat, n.toNat, 0) := by unfold step; rw [if_neg h0, if_neg h1, if_pos h2, if_neg hbad]
          rw [e]
          obtain ⟨m, rfl⟩ : ∃ m : Nat, n = m := ⟨n.toNat, by omega⟩
          have hm : m ≤ L.length := by omega
          rw [Int.toNat_natCast]
          clear e h0 h1 h2 hbad
          go_enter Try.func51, Try.ntmps51
          go_wp2_with (go_at_call 59; refine (cut_any _ B K g L s (HD.out _) m hm).mono ?_; rintro e w1 ⟨rfl, hd, hk⟩)
          go_ret
          exact ⟨rfl, hd, (hke.out _).trans hk⟩
      · have t2 : ((k : Int) == 2) = false := beq_false_of_ne (by omega)
        by_cases h3 : k = 3
        · have e : step L s ⟨k, n, l⟩ = (L.take (left L s n), left L s n, 0) := by unfold step; rw [if_neg h0, if_neg h1, if_neg h2, if_pos h3]
          rw [e]
          have t3 : ((k : Int) == 3) = true := beq_iff_eq.2 (by omega)
          have hL : L.length ≤ 140737488355328 := by omega
          clear e h0 h1 h2 h3
          go_enter Try.func51, Try.ntmps51
          go_wp2_with (go_at_call 56; refine (crash_any _ B K (HS.out _) g L s (HD.out _) hL n).mono ?_; rintro e w1 ⟨rfl, hd, hk⟩)
          go_ret
          exact ⟨rfl, hd, (hke.out _).trans hk⟩
        · have e : step L s ⟨k, n, l⟩ = (L, s, 0) := by unfold step; rw [if_neg h0, if_neg h1, if_neg h2, if_neg h3]
          rw [e]
          have t3 : ((k : Int) == 3) = false := beq_false_of_ne (by omega)
          clear e h0 h1 h2 h3
          go_enter Try.func51, Try.ntmps51
          go_wp2_with fail
          go_ret
          exact ⟨rfl, HD.out _, hke.out _⟩
end Go.Proofs.Ytgpcijpadelcfaa.dkL
