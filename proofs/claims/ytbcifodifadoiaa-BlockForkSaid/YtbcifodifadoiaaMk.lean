/- Sets of numbers: the plain law. -/
import Derived.Test.YtbcifodifadoiaaBt
namespace Go.Proofs.Ytbcifodifadoiaa.Mk
open Go Go.Proofs.Ytbcifodifadoiaa

/-- is j's bit in the words? -/
def bit (ws : List (BitVec 64)) (j : Nat) : Bool := ((ws[j / 64]?).map fun x => x.getLsbD (j % 64)).getD false
theorem bit_at {ws : List (BitVec 64)} {j : Nat} {x : BitVec 64} (h : ws[j / 64]? = some x) : bit ws j = x.getLsbD (j % 64) := by unfold bit; rw [h]; rfl
theorem bit_out {ws : List (BitVec 64)} {j : Nat} (h : ws.length ≤ j / 64) : bit ws j = false := by unfold bit; rw [List.getElem?_eq_none h]; rfl
def GoodW (n : Nat) (ws : List (BitVec 64)) (S : Nat → Bool) : Prop := n ≤ 65536 ∧ ws.length = (n + 63) / 64 ∧ (∀ j, bit ws j = S j) ∧ ∀ j, S j = true → j < n
theorem bit_set {ws : List (BitVec 64)} {k j : Nat} {y : BitVec 64} (hk : k < ws.length) : bit (ws.set k y) j = if j / 64 = k then y.getLsbD (j % 64) else bit ws j := by
  unfold bit
  rw [List.getElem?_set]
  by_cases h : k = j / 64
  · subst h; simp [hk]
  · rw [if_neg h, if_neg (fun e => h e.symm)]
theorem one64 (k i : Nat) (hk : k < 64) (hi : i < 64) : (1#64 <<< k).getLsbD i = decide (i = k) := by
  rw [BitVec.getLsbD_shiftLeft, BitVec.getLsbD_one]
  by_cases h : i = k
  · subst h; simp [hi]
  · by_cases h2 : i < k
    · simp [h2, h]
    · simp [h, h2]; omega
theorem GoodW.empty (n : Nat) (hn : n ≤ 65536) : GoodW n (List.replicate ((n + 63) / 64) 0#64) (fun _ => false) := by
  refine ⟨hn, by simp, fun j => ?_, fun j h => by cases h⟩
  unfold bit
  rw [List.getElem?_replicate]
  split <;> simp
theorem GoodW.lt {n : Nat} {ws : List (BitVec 64)} {S : Nat → Bool} (h : GoodW n ws S) {i : Nat} (hi : i < n) : i / 64 < ws.length := by rw [h.2.1]; omega
/-- one more -/
def ins (S : Nat → Bool) (i : Nat) : Nat → Bool := fun j => S j || j == i
def del (S : Nat → Bool) (i : Nat) : Nat → Bool := fun j => S j && j != i
theorem GoodW.put {n : Nat} {ws : List (BitVec 64)} {S : Nat → Bool} (h : GoodW n ws S) {i : Nat} (hi : i < n) {x : BitVec 64} (hx : ws[i / 64]? = some x) : GoodW n (ws.set (i / 64) (x ||| 1#64 <<< (i % 64))) (ins S i) := by
  have hl := h.lt hi
  obtain ⟨h1, h2, h3, h4⟩ := h
  refine ⟨h1, by rw [List.length_set, h2], fun j => ?_, fun j hj => ?_⟩
  · rw [bit_set hl]
    unfold ins
    by_cases hji : j / 64 = i / 64
    · rw [if_pos hji, BitVec.getLsbD_or, one64 _ _ (Nat.mod_lt _ (by decide)) (Nat.mod_lt _ (by decide)), ← h3 j, bit_at (j := j) (by rw [hji]; exact hx)]
      congr 1
      rw [Bool.eq_iff_iff]; simp; omega
    · rw [if_neg hji, h3]
      have : (j == i) = false := beq_false_of_ne (by rintro rfl; exact hji rfl)
      rw [this, Bool.or_false]
  · unfold ins at hj
    simp only [Bool.or_eq_true, beq_iff_eq] at hj
    rcases hj with hj | rfl
    · exact h4 j hj
    · exact hi
theorem GoodW.drop {n : Nat} {ws : List (BitVec 64)} {S : Nat → Bool} (h : GoodW n ws S) {i : Nat} (hi : i < n) {x : BitVec 64} (hx : ws[i / 64]? = some x) : GoodW n (ws.set (i / 64) (x &&& ~~~(1#64 <<< (i % 64)))) (del S i) := by
  have hl := h.lt hi
  obtain ⟨h1, h2, h3, h4⟩ := h
  refine ⟨h1, by rw [List.length_set, h2], fun j => ?_, fun j hj => ?_⟩
  · rw [bit_set hl]
    unfold del
    by_cases hji : j / 64 = i / 64
    · rw [if_pos hji, BitVec.getLsbD_and, BitVec.getLsbD_not, one64 _ _ (Nat.mod_lt _ (by decide)) (Nat.mod_lt _ (by decide)), ← h3 j, bit_at (j := j) (by rw [hji]; exact hx)]
      have h64 : j % 64 < 64 := Nat.mod_lt _ (by decide)
      rw [decide_eq_true h64, Bool.true_and]
      congr 1
      rw [Bool.eq_iff_iff]; simp; omega
    · rw [if_neg hji, h3]
      have : (j != i) = true := bne_iff_ne.2 (by rintro rfl; exact hji rfl)
      rw [this, Bool.and_true]
  · unfold del at hj
    simp only [Bool.and_eq_true] at hj
    exact h4 j hj.1

/-! the other one's words, as far as there is room -/
/-- word k of T (of room m), within room n -/
def wordOf (ts : List (BitVec 64)) (k n : Nat) : BitVec 64 := match ts[k]? with
  | none => 0#64
  | some x => Bt.low x ((n : Int) - 64 * k)
theorem wordOf_at {m n k j : Nat} {ts : List (BitVec 64)} {T : Nat → Bool} (h : GoodW m ts T) (hj : j / 64 = k) : (wordOf ts k n).getLsbD (j % 64) = (T j && decide (j < n)) := by
  have hb := h.2.2.1 j
  unfold wordOf
  cases hx : ts[k]? with
  | none =>
    have : bit ts j = false := by unfold bit; rw [hj, hx]; rfl
    rw [this] at hb
    rw [← hb]; simp
  | some x =>
    have : bit ts j = x.getLsbD (j % 64) := bit_at (by rw [hj]; exact hx)
    simp only
    rw [Bt.low_at _ _ _ (Nat.mod_lt _ (by decide)), ← this, hb]
    congr 1
    rw [Bool.eq_iff_iff]; simp; omega
/-- the first k words done -/
def orTo (ws ts : List (BitVec 64)) (n k : Nat) : List (BitVec 64) := ws.mapIdx fun i x => if i < k then x ||| wordOf ts i n else x
def andTo (ws ts : List (BitVec 64)) (n k : Nat) : List (BitVec 64) := ws.mapIdx fun i x => if i < k then x &&& wordOf ts i n else x
theorem orTo_zero (ws ts : List (BitVec 64)) (n : Nat) : orTo ws ts n 0 = ws := by unfold orTo; apply List.ext_getElem? ; intro i; simp
theorem andTo_zero (ws ts : List (BitVec 64)) (n : Nat) : andTo ws ts n 0 = ws := by unfold andTo; apply List.ext_getElem? ; intro i; simp
theorem orTo_len (ws ts : List (BitVec 64)) (n k : Nat) : (orTo ws ts n k).length = ws.length := by simp [orTo]
theorem andTo_len (ws ts : List (BitVec 64)) (n k : Nat) : (andTo ws ts n k).length = ws.length := by simp [andTo]
theorem orTo_at {ws ts : List (BitVec 64)} {n k : Nat} {x : BitVec 64} (h : ws[k]? = some x) : (orTo ws ts n k)[k]? = some x ∧ orTo ws ts n (k + 1) = (orTo ws ts n k).set k (x ||| wordOf ts k n) := by
  obtain ⟨hl, rfl⟩ := List.getElem?_eq_some_iff.1 h
  refine ⟨by simp [orTo, h], ?_⟩
  apply List.ext_getElem?
  intro i
  simp only [orTo, List.getElem?_mapIdx, List.getElem?_set, List.length_mapIdx]
  by_cases hi : k = i
  · subst hi; simp [hl]
  · rw [if_neg hi]
    cases ws[i]? with
    | none => rfl
    | some y =>
      simp only [Option.map_some]
      congr 1
      by_cases h1 : i < k
      · rw [if_pos (by omega), if_pos h1]
      · rw [if_neg (by omega), if_neg h1]
theorem andTo_at {ws ts : List (BitVec 64)} {n k : Nat} {x : BitVec 64} (h : ws[k]? = some x) : (andTo ws ts n k)[k]? = some x ∧ andTo ws ts n (k + 1) = (andTo ws ts n k).set k (x &&& wordOf ts k n) := by
  obtain ⟨hl, rfl⟩ := List.getElem?_eq_some_iff.1 h
  refine ⟨by simp [andTo, h], ?_⟩
  apply List.ext_getElem?
  intro i
  simp only [andTo, List.getElem?_mapIdx, List.getElem?_set, List.length_mapIdx]
  by_cases hi : k = i
  · subst hi; simp [hl]
  · rw [if_neg hi]
    cases ws[i]? with
    | none => rfl
    | some y =>
      simp only [Option.map_some]
      congr 1
      by_cases h1 : i < k
      · rw [if_pos (by omega), if_pos h1]
      · rw [if_neg (by omega), if_neg h1]
def uni (S T : Nat → Bool) (n : Nat) : Nat → Bool := fun j => S j || (T j && decide (j < n))
def int (S T : Nat → Bool) : Nat → Bool := fun j => S j && T j
theorem GoodW.or_ {n m : Nat} {ws ts : List (BitVec 64)} {S T : Nat → Bool} (h : GoodW n ws S) (ht : GoodW m ts T) : GoodW n (orTo ws ts n ((n + 63) / 64)) (uni S T n) := by
  obtain ⟨h1, h2, h3, h4⟩ := h
  refine ⟨h1, by rw [orTo_len, h2], fun j => ?_, fun j hj => ?_⟩
  · unfold uni
    by_cases hj : j / 64 < ws.length
    · have hx : ws[j / 64]? = some ws[j / 64] := List.getElem?_eq_getElem hj
      rw [bit_at (x := ws[j / 64] ||| wordOf ts (j / 64) n) (by simp only [orTo, List.getElem?_mapIdx, hx, Option.map_some]; rw [if_pos (by omega)]), BitVec.getLsbD_or, wordOf_at ht rfl, ← h3 j, bit_at hx]
    · rw [bit_out (by rw [orTo_len]; omega), ← h3 j, bit_out (by omega)]
      have : decide (j < n) = false := decide_eq_false (by omega)
      rw [this]; simp
  · unfold uni at hj
    simp only [Bool.or_eq_true, Bool.and_eq_true, decide_eq_true_eq] at hj
    rcases hj with hj | hj
    · exact h4 j hj
    · exact hj.2
theorem GoodW.and_ {n m : Nat} {ws ts : List (BitVec 64)} {S T : Nat → Bool} (h : GoodW n ws S) (ht : GoodW m ts T) : GoodW n (andTo ws ts n ((n + 63) / 64)) (int S T) := by
  obtain ⟨h1, h2, h3, h4⟩ := h
  refine ⟨h1, by rw [andTo_len, h2], fun j => ?_, fun j hj => ?_⟩
  · unfold int
    by_cases hj : j / 64 < ws.length
    · have hx : ws[j / 64]? = some ws[j / 64] := List.getElem?_eq_getElem hj
      rw [bit_at (x := ws[j / 64] &&& wordOf ts (j / 64) n) (by simp only [andTo, List.getElem?_mapIdx, hx, Option.map_some]; rw [if_pos (by omega)]), BitVec.getLsbD_and, wordOf_at ht rfl, ← bit_at hx, h3 j]
      rcases hS : S j with _ | _
      · simp
      · rw [decide_eq_true (h4 j hS), Bool.and_true]
    · rw [bit_out (by rw [andTo_len]; omega), ← h3 j, bit_out (by omega)]
      simp
  · unfold int at hj
    simp only [Bool.and_eq_true] at hj
    exact h4 j hj.1
/-- is any of the first k words turned? -/
def anyTo (ws us : List (BitVec 64)) (k : Nat) : Bool := (List.range k).any fun i => ws[i]? != us[i]?
theorem anyTo_zero (ws us : List (BitVec 64)) : anyTo ws us 0 = false := rfl
theorem anyTo_succ {ws us : List (BitVec 64)} {k : Nat} {x y : BitVec 64} (hx : ws[k]? = some x) (hy : us[k]? = some y) : anyTo ws us (k + 1) = (anyTo ws us k || x != y) := by
  unfold anyTo
  rw [List.range_succ, List.any_append]
  simp only [List.any_cons, List.any_nil, Bool.or_false, hx, hy]
  congr 1
/-- some j below n is told otherwise -/
def diff (n : Nat) (S S' : Nat → Bool) : Bool := (List.range n).any fun j => S j != S' j
theorem anyTo_all {n : Nat} {ws us : List (BitVec 64)} {S S' : Nat → Bool} (h : GoodW n ws S) (h' : GoodW n us S') : anyTo ws us ((n + 63) / 64) = diff n S S' := by
  rw [Bool.eq_iff_iff]
  unfold anyTo diff
  rw [List.any_eq_true, List.any_eq_true]
  constructor
  · rintro ⟨i, hi, hne⟩
    rw [List.mem_range] at hi
    have h1 : i < ws.length := by rw [h.2.1]; exact hi
    have h2 : i < us.length := by rw [h'.2.1]; exact hi
    have hx : ws[i]? = some ws[i] := List.getElem?_eq_getElem h1
    have hy : us[i]? = some us[i] := List.getElem?_eq_getElem h2
    rw [hx, hy] at hne
    have hne2 : ws[i] ≠ us[i] := by simpa using hne
    obtain ⟨b, hb, hbb⟩ : ∃ b, b < 64 ∧ ws[i].getLsbD b ≠ us[i].getLsbD b := by
      refine Decidable.byContradiction fun hc => hne2 (BitVec.eq_of_getLsbD_eq fun b hb => ?_)
      exact Decidable.byContradiction fun hd => hc ⟨b, hb, hd⟩
    have e1 : (64 * i + b) / 64 = i := by omega
    have e2 : (64 * i + b) % 64 = b := by omega
    have b1 := bit_at (ws := ws) (j := 64 * i + b) (by rw [e1]; exact hx)
    have b2 := bit_at (ws := us) (j := 64 * i + b) (by rw [e1]; exact hy)
    rw [e2, h.2.2.1] at b1
    rw [e2, h'.2.2.1] at b2
    refine ⟨64 * i + b, ?_, ?_⟩
    · rw [List.mem_range]
      rcases hS : S (64 * i + b) with _ | _
      · rcases hS' : S' (64 * i + b) with _ | _
        · rw [hS] at b1; rw [hS'] at b2
          exact absurd (b1.symm.trans b2) hbb
        · exact h'.2.2.2 _ hS'
      · exact h.2.2.2 _ hS
    · rw [b1, b2]; simpa using hbb
  · rintro ⟨j, hj, hne⟩
    rw [List.mem_range] at hj
    refine ⟨j / 64, by rw [List.mem_range]; omega, ?_⟩
    have h1 : j / 64 < ws.length := by rw [h.2.1]; omega
    have h2 : j / 64 < us.length := by rw [h'.2.1]; omega
    rw [List.getElem?_eq_getElem h1, List.getElem?_eq_getElem h2]
    simp only [bne_iff_ne, ne_eq, Option.some.injEq]
    intro e
    have b1 := bit_at (ws := ws) (j := j) (List.getElem?_eq_getElem h1)
    have b2 := bit_at (ws := us) (j := j) (List.getElem?_eq_getElem h2)
    rw [h.2.2.1] at b1
    rw [h'.2.2.1] at b2
    rw [b1, b2, e] at hne
    simp at hne
/-! the numbers -/
def elems (n : Nat) (S : Nat → Bool) : List Nat := (List.range n).filter S
/-- the least one from 'a' on -/
def nextN (n : Nat) (S : Nat → Bool) (a : Int) : Int := match (List.range n).find? (fun (j : Nat) => decide (a ≤ (j : Int)) && S j) with
  | none => -1
  | some j => (j : Int)
theorem nextN_some {n : Nat} {S : Nat → Bool} {a : Int} {j : Nat} (hj : j < n) (h1 : a ≤ (j : Int)) (h2 : S j = true) (h0 : ∀ i, i < j → a ≤ (i : Int) → S i = false) : nextN n S a = (j : Int) := by
  unfold nextN
  have : (List.range n).find? (fun (j : Nat) => decide (a ≤ (j : Int)) && S j) = some j := by
    rw [List.find?_eq_some_iff_getElem]
    refine ⟨by rw [decide_eq_true h1, h2]; rfl, j, by simpa using hj, by simp, fun i hi => ?_⟩
    simp only [List.getElem_range]
    by_cases ha : a ≤ (i : Int)
    · rw [h0 i hi ha]; simp
    · simp [ha]
  rw [this]
theorem nextN_none {n : Nat} {S : Nat → Bool} {a : Int} (h0 : ∀ i, i < n → a ≤ (i : Int) → S i = false) : nextN n S a = -1 := by
  unfold nextN
  have : (List.range n).find? (fun (j : Nat) => decide (a ≤ (j : Int)) && S j) = none := by
    rw [List.find?_eq_none]
    intro i hi
    rw [List.mem_range] at hi
    by_cases ha : a ≤ (i : Int)
    · simp [h0 i hi ha]
    · simp [ha]
  rw [this]
theorem nextN_cases (n : Nat) (S : Nat → Bool) (a : Int) : (nextN n S a = -1 ∧ ∀ i, i < n → a ≤ (i : Int) → S i = false) ∨ ∃ j : Nat, nextN n S a = (j : Int) ∧ j < n ∧ a ≤ (j : Int) ∧ S j = true ∧ ∀ i, i < j → a ≤ (i : Int) → S i = false := by
  cases h : (List.range n).find? (fun (j : Nat) => decide (a ≤ (j : Int)) && S j) with
  | none =>
    left
    refine ⟨by unfold nextN; rw [h], fun i hi ha => ?_⟩
    rw [List.find?_eq_none] at h
    have := h i (List.mem_range.2 hi)
    simpa [ha] using this
  | some j =>
    right
    refine ⟨j, by unfold nextN; rw [h], ?_⟩
    rw [List.find?_eq_some_iff_getElem] at h
    obtain ⟨h1, i, hi, e, h2⟩ := h
    simp only [List.length_range] at hi
    simp only [List.getElem_range] at e
    subst e
    simp only [Bool.and_eq_true, decide_eq_true_eq] at h1
    refine ⟨hi, h1.1, h1.2, fun k hk ha => ?_⟩
    have := h2 k hk
    simpa [ha] using this
theorem nextN_max (n : Nat) (S : Nat → Bool) (a : Int) : nextN n S (max a 0) = nextN n S a := by
  unfold nextN
  have : (fun (j : Nat) => decide (max a 0 ≤ (j : Int)) && S j) = (fun (j : Nat) => decide (a ≤ (j : Int)) && S j) := by
    funext j
    congr 1
    rw [Bool.eq_iff_iff]; simp; omega
  rw [this]
end Go.Proofs.Ytbcifodifadoiaa.Mk
