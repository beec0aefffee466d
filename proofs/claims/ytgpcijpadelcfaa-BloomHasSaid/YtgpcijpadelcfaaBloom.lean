/- Plain law of the hints: places, bits of four words. -/
import Derived.Test.YtgpcijpadelcfaaBt
namespace Go.Proofs.Ytgpcijpadelcfaa.Blm
open Bt

def bit (ws : List (BitVec 64)) (i : Nat) : Bool := (ws.getD (i / 64) 0#64).getLsbD (i % 64)
def put1 (ws : List (BitVec 64)) (a : Nat) : List (BitVec 64) := ws.set (a / 64) (ws.getD (a / 64) 0#64 ||| 1#64 <<< (a % 64))
theorem put1_len (ws : List (BitVec 64)) (a : Nat) : (put1 ws a).length = ws.length := by simp [put1]
theorem one_shl_at (k i : Nat) (hk : k < 64) (hi : i < 64) : (1#64 <<< k).getLsbD i = decide (i = k) := by
  rw [BitVec.getLsbD_shiftLeft, BitVec.getLsbD_one]
  by_cases h : i = k
  · subst h; simp [hi]
  · by_cases h2 : i < k
    · simp [h2, h]
    · have : ¬ (0 = i - k) := by omega
      simp [h, h2]; omega
theorem bit_put1 {ws : List (BitVec 64)} (hl : ws.length = 4) {a : Nat} (ha : a < 256) (i : Nat) : bit (put1 ws a) i = (bit ws i || decide (i = a)) := by
  unfold bit put1
  by_cases h : a / 64 = i / 64
  · rw [← h]
    have : (ws.set (a / 64) (ws.getD (a / 64) 0#64 ||| 1#64 <<< (a % 64))).getD (a / 64) 0#64 = ws.getD (a / 64) 0#64 ||| 1#64 <<< (a % 64) := by
      rw [List.getD_eq_getElem?_getD, List.getElem?_set_self (by omega)]; rfl
    rw [this, BitVec.getLsbD_or, one_shl_at _ _ (by omega) (by omega)]
    congr 1
    apply decide_eq_decide.2
    omega
  · have : (ws.set (a / 64) (ws.getD (a / 64) 0#64 ||| 1#64 <<< (a % 64))).getD (i / 64) 0#64 = ws.getD (i / 64) 0#64 := by
      rw [List.getD_eq_getElem?_getD, List.getElem?_set_ne h, ← List.getD_eq_getElem?_getD]
    rw [this]
    have hne : i ≠ a := by intro e; subst e; exact h rfl
    simp [hne]
theorem ext4 {a b : List (BitVec 64)} (ha : a.length = 4) (hb : b.length = 4) (h : ∀ i, i < 256 → bit a i = bit b i) : a = b := by
  apply List.ext_getElem (by omega)
  intro k hk1 hk2
  apply BitVec.eq_of_getLsbD_eq
  intro j hj
  have := h (64 * k + j) (by omega)
  unfold bit at this
  rw [show (64 * k + j) / 64 = k by omega, show (64 * k + j) % 64 = j by omega] at this
  simpa [List.getD_eq_getElem?_getD, hk1, hk2] using this

/-- a patch's places -/
def pl (p : Nat × Nat) (k : Nat) : Nat := (mix (BitVec.ofNat 64 (k * 4294967296 + (p.1 * 65536 + p.2)))).toNat / 16777216 % 256
theorem pl_lt (p : Nat × Nat) (k : Nat) : pl p k < 256 := Nat.mod_lt _ (by decide)
def put (ws : List (BitVec 64)) (p : Nat × Nat) : List (BitVec 64) := put1 (put1 (put1 ws (pl p 1)) (pl p 2)) (pl p 3)
theorem put_len (ws : List (BitVec 64)) (p : Nat × Nat) : (put ws p).length = ws.length := by simp [put, put1_len]
def at_ (p : Nat × Nat) (i : Nat) : Bool := decide (i = pl p 1) || decide (i = pl p 2) || decide (i = pl p 3)
theorem bit_put {ws : List (BitVec 64)} (hl : ws.length = 4) (p : Nat × Nat) (i : Nat) : bit (put ws p) i = (bit ws i || at_ p i) := by
  unfold put
  rw [bit_put1 (by rw [put1_len, put1_len]; exact hl) (pl_lt _ _), bit_put1 (by rw [put1_len]; exact hl) (pl_lt _ _), bit_put1 hl (pl_lt _ _)]
  simp [at_, Bool.or_assoc]
def has (ws : List (BitVec 64)) (p : Nat × Nat) : Bool := bit ws (pl p 1) && bit ws (pl p 2) && bit ws (pl p 3)
theorem has_iff {ws : List (BitVec 64)} {p : Nat × Nat} : has ws p = true ↔ ∀ i, at_ p i = true → bit ws i = true := by
  unfold has at_
  simp only [Bool.and_eq_true, Bool.or_eq_true, decide_eq_true_eq]
  constructor
  · rintro ⟨⟨a, b⟩, c⟩ i ((rfl | rfl) | rfl) <;> assumption
  · intro h; exact ⟨⟨h _ (.inl (.inl rfl)), h _ (.inl (.inr rfl))⟩, h _ (.inr rfl)⟩
theorem put_has {ws : List (BitVec 64)} (hl : ws.length = 4) (p : Nat × Nat) : put ws p = ws ↔ has ws p = true := by
  rw [has_iff]
  constructor
  · intro h i hi
    have := bit_put hl p i
    rw [h, hi, Bool.or_true] at this
    exact this
  · intro h
    refine ext4 (by rw [put_len]; exact hl) hl fun i _ => ?_
    rw [bit_put hl]
    cases ha : at_ p i
    · simp
    · simp [h i ha]
def zero4 : List (BitVec 64) := List.replicate 4 0#64
theorem zero_bit (i : Nat) : bit zero4 i = false := by
  unfold bit zero4
  rw [List.getD_eq_getElem?_getD, List.getElem?_replicate]
  split <;> simp
def of (l : List (Nat × Nat)) : List (BitVec 64) := l.foldl put zero4
theorem fold_len (l : List (Nat × Nat)) (ws : List (BitVec 64)) : (l.foldl put ws).length = ws.length := by
  induction l generalizing ws with
  | nil => rfl
  | cons p l ih => rw [List.foldl_cons, ih, put_len]
theorem fold_bit (l : List (Nat × Nat)) {ws : List (BitVec 64)} (hl : ws.length = 4) (i : Nat) : bit (l.foldl put ws) i = (bit ws i || l.any (at_ · i)) := by
  induction l generalizing ws with
  | nil => simp
  | cons p l ih => rw [List.foldl_cons, ih (by rw [put_len]; exact hl), bit_put hl]; simp [Bool.or_assoc]
theorem of_len (l : List (Nat × Nat)) : (of l).length = 4 := fold_len l zero4
theorem of_bit (l : List (Nat × Nat)) (i : Nat) : bit (of l) i = l.any (at_ · i) := by
  unfold of
  rw [fold_bit l rfl, zero_bit, Bool.false_or]
theorem of_snoc (l : List (Nat × Nat)) (k : Nat) (p : Nat × Nat) (h : l[k]? = some p) : of (l.take (k + 1)) = put (of (l.take k)) p := by
  rw [List.take_succ_eq_append_getElem (List.getElem?_eq_some_iff.1 h).1, (List.getElem?_eq_some_iff.1 h).2]
  simp [of]
def orW (a b : List (BitVec 64)) : List (BitVec 64) := List.zipWith (· ||| ·) a b
theorem orW_len {a b : List (BitVec 64)} (ha : a.length = 4) (hb : b.length = 4) : (orW a b).length = 4 := by simp [orW, ha, hb]
theorem or_bit {a b : List (BitVec 64)} (ha : a.length = 4) (hb : b.length = 4) {i : Nat} (hi : i < 256) : bit (orW a b) i = (bit a i || bit b i) := by
  unfold bit orW
  have h1 : i / 64 < a.length := by omega
  have h2 : i / 64 < b.length := by omega
  simp [List.getD_eq_getElem?_getD, List.getElem?_zipWith, h1, h2]
theorem bit_out {ws : List (BitVec 64)} (hl : ws.length = 4) {i : Nat} (hi : 256 ≤ i) : bit ws i = false := by
  unfold bit
  rw [List.getD_eq_getElem?_getD, List.getElem?_eq_none (by omega)]; simp
theorem or_comm {a b : List (BitVec 64)} (ha : a.length = 4) (hb : b.length = 4) : orW a b = orW b a :=
  ext4 (orW_len ha hb) (orW_len hb ha) fun i hi => by rw [or_bit ha hb hi, or_bit hb ha hi, Bool.or_comm]
theorem of_split (l : List (Nat × Nat)) (n : Nat) : of l = orW (of (l.drop n)) (of (l.take n)) :=
  ext4 (of_len _) (orW_len (of_len _) (of_len _)) fun i hi => by
    rw [or_bit (of_len _) (of_len _) hi, of_bit, of_bit, of_bit, ← List.any_append]
    conv => lhs; rw [← List.take_append_drop n l]
    rw [List.any_append, List.any_append, Bool.or_comm]
theorem has_of {l : List (Nat × Nat)} {p : Nat × Nat} (h : p ∈ l) : has (of l) p = true := has_iff.2 fun i hi => by
  rw [of_bit, List.any_eq_true]; exact ⟨p, h, hi⟩
theorem has_or {b x : List (BitVec 64)} (hb : b.length = 4) (hx : x.length = 4) {p : Nat × Nat} (h : has x p = true) : has (orW b x) p = true := has_iff.2 fun i hi => by
  have h2 := has_iff.1 h i hi
  have : i < 256 := by
    rcases Nat.lt_or_ge i 256 with h3 | h3
    · exact h3
    · rw [bit_out hx h3] at h2; cases h2
  rw [or_bit hb hx this, h2, Bool.or_true]

/-! how many bits -/
def ones (ws : List (BitVec 64)) : Nat := (ws.map Bt.ones).sum
def all (ws : List (BitVec 64)) : List Bool := ws.flatMap bitsOf
theorem ones_bits (x : BitVec 64) : Bt.ones x = (bitsOf x).countP id := by
  unfold Bt.ones bitsOf
  rw [List.countP_map]; rfl
theorem ones_all (ws : List (BitVec 64)) : ones ws = (all ws).countP id := by
  unfold ones all
  induction ws with
  | nil => rfl
  | cons x ws ih => rw [List.map_cons, List.sum_cons, List.flatMap_cons, List.countP_append, ih, ones_bits]
theorem all_len (ws : List (BitVec 64)) : (all ws).length = 64 * ws.length := by
  unfold all
  induction ws with
  | nil => rfl
  | cons x ws ih => rw [List.flatMap_cons, List.length_append, ih, bitsOf_len, List.length_cons]; omega
theorem all_at : ∀ (ws : List (BitVec 64)) (i : Nat), i < 64 * ws.length → (all ws)[i]? = some (bit ws i)
  | [], i, h => by simp at h
  | x :: ws, i, h => by
    unfold all
    rw [List.flatMap_cons]
    by_cases hi : i < 64
    · rw [List.getElem?_append_left (by rw [bitsOf_len]; exact hi), bitsOf_at x i hi]
      unfold bit
      rw [show i / 64 = 0 by omega, show i % 64 = i by omega]; rfl
    · rw [List.getElem?_append_right (by rw [bitsOf_len]; omega), bitsOf_len]
      have := all_at ws (i - 64) (by simp at h; omega)
      unfold all at this
      rw [this]
      unfold bit
      rw [show i / 64 = (i - 64) / 64 + 1 by omega, show (i - 64) % 64 = i % 64 by omega]; rfl
theorem all_range {ws : List (BitVec 64)} (hl : ws.length = 4) : all ws = (List.range 256).map (bit ws) := by
  apply List.ext_getElem?
  intro i
  by_cases hi : i < 256
  · rw [all_at ws i (by omega)]; simp [hi]
  · rw [List.getElem?_eq_none (by rw [all_len]; omega), List.getElem?_eq_none (by simp; omega)]
theorem ones_range {ws : List (BitVec 64)} (hl : ws.length = 4) : ones ws = (List.range 256).countP (bit ws) := by
  rw [ones_all, all_range hl, List.countP_map]; rfl
def countTo (ws : List (BitVec 64)) (k : Nat) : Nat := (List.range k).countP (bit ws)
theorem countTo_succ (ws : List (BitVec 64)) (k : Nat) : countTo ws (k + 1) = countTo ws k + if bit ws k then 1 else 0 := by
  unfold countTo
  rw [List.range_succ, List.countP_append, List.countP_singleton]
theorem countTo_le (ws : List (BitVec 64)) (k : Nat) : countTo ws k ≤ k := by
  have := List.countP_le_length (p := bit ws) (l := List.range k)
  simpa [countTo] using this
theorem count_or (f g : Nat → Bool) : ∀ l : List Nat, l.countP (fun i => f i || g i) ≤ l.countP f + l.countP g
  | [] => by simp
  | x :: l => by
    have := count_or f g l
    simp only [List.countP_cons]
    cases f x <;> cases g x <;> simp <;> omega
theorem count_congr {f g : Nat → Bool} {n : Nat} (h : ∀ i, i < n → f i = g i) : (List.range n).countP f = (List.range n).countP g :=
  List.countP_congr fun i hi => by rw [h i (List.mem_range.1 hi)]
theorem ones_or {a b : List (BitVec 64)} (ha : a.length = 4) (hb : b.length = 4) : ones (orW a b) ≤ ones a + ones b := by
  rw [ones_range (orW_len ha hb), ones_range ha, ones_range hb, count_congr (g := fun i => bit a i || bit b i) fun i hi => or_bit ha hb hi]
  exact count_or _ _ _
theorem count_one (a n : Nat) : (List.range n).countP (fun i => decide (i = a)) ≤ 1 := by
  have h : ∀ n, (List.range n).countP (fun i => decide (i = a)) = if a < n then 1 else 0 := by
    intro n
    induction n with
    | zero => simp
    | succ n ih =>
      rw [List.range_succ, List.countP_append, ih, List.countP_singleton]
      by_cases h : n = a
      · subst h; simp
      · by_cases h2 : a < n
        · have : a < n + 1 := by omega
          simp [h, h2, this]
        · have : ¬ a < n + 1 := by omega
          simp [h, h2, this]
  rw [h]; split <;> omega
theorem ones_put {ws : List (BitVec 64)} (hl : ws.length = 4) (p : Nat × Nat) : ones (put ws p) ≤ ones ws + 3 := by
  rw [ones_range (by rw [put_len]; exact hl), ones_range hl, count_congr (g := fun i => bit ws i || at_ p i) fun i _ => bit_put hl p i]
  have h1 := count_or (bit ws) (at_ p) (List.range 256)
  have h2 := count_or (fun i => decide (i = pl p 1) || decide (i = pl p 2)) (fun i => decide (i = pl p 3)) (List.range 256)
  have h3 := count_or (fun i => decide (i = pl p 1)) (fun i => decide (i = pl p 2)) (List.range 256)
  have h4 := count_one (pl p 1) 256
  have h5 := count_one (pl p 2) 256
  have h6 := count_one (pl p 3) 256
  have h7 : (List.range 256).countP (at_ p) = (List.range 256).countP (fun i => (decide (i = pl p 1) || decide (i = pl p 2)) || decide (i = pl p 3)) := rfl
  omega
theorem ones_fold (l : List (Nat × Nat)) {ws : List (BitVec 64)} (hl : ws.length = 4) : ones (l.foldl put ws) ≤ ones ws + 3 * l.length := by
  induction l generalizing ws with
  | nil => simp
  | cons p l ih =>
    have h1 := ih (ws := put ws p) (by rw [put_len]; exact hl)
    have h2 := ones_put hl p
    simp only [List.foldl_cons, List.length_cons]; omega
theorem ones_of (l : List (Nat × Nat)) : ones (of l) ≤ 3 * l.length := by
  have h := ones_fold l (ws := zero4) rfl
  have h0 : ones zero4 = 0 := by
    rw [ones_range rfl]
    exact List.countP_eq_zero.2 fun i _ => by rw [zero_bit]; simp
  unfold of; omega
theorem ones_le {ws : List (BitVec 64)} (hl : ws.length = 4) : ones ws ≤ 256 := by
  rw [ones_range hl]; exact countTo_le ws 256
/-- the words of bits -/
def pack (l : List Bool) : List (BitVec 64) := (List.range 4).map fun i => num ((l.drop (64 * i)).take 64)
theorem pack_eq {l : List Bool} {ws : List (BitVec 64)} (hw : ws.length = 4) (hl : l.length = 256) (h : ∀ i, i < 256 → l[i]? = some (bit ws i)) : pack l = ws := by
  apply List.ext_getElem?
  intro k
  by_cases hk : k < 4
  · simp only [pack, List.getElem?_map, List.getElem?_range hk, Option.map_some]
    rw [List.getElem?_eq_getElem (by omega : k < ws.length), Option.some.injEq]
    refine num_eq (by simp; omega) fun j b hj => ?_
    rw [List.getElem?_take] at hj
    split at hj
    · rename_i hj64
      rw [List.getElem?_drop, h _ (by omega)] at hj
      injection hj with hj
      rw [← hj]
      unfold bit
      rw [show (64 * k + j) / 64 = k by omega, show (64 * k + j) % 64 = j by omega]
      simp [List.getD_eq_getElem?_getD, (by omega : k < ws.length)]
    · cases hj
  · rw [List.getElem?_eq_none (by simp [pack]; omega), List.getElem?_eq_none (by omega)]
end Go.Proofs.Ytgpcijpadelcfaa.Blm
