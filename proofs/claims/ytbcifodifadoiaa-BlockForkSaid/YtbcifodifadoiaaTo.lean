/- The plain law of order: groups, one behind another, each as soon as all that is ahead of it is taken. -/
import Derived.Test.YtbcifodifadoiaaRe
namespace Go.Proofs.Ytbcifodifadoiaa.To
open Go.Proofs.Ytbcifodifadoiaa.Re

def ahN (R : Nat → Nat → Bool) (i j : Nat) : Bool := R i j && !R j i
def members (n : Nat) (R : Nat → Nat → Bool) (g : Nat) : List Nat := (List.range n).filter fun i => groupN R i == g
def freeB (n : Nat) (R : Nat → Nat → Bool) (o : List Nat) (g : Nat) : Bool := (List.range n).all fun j => !ahN R j g || o.contains j
def okG (n : Nat) (R : Nat → Nat → Bool) (o : List Nat) (g : Nat) : Bool := groupN R g == g && (!o.contains g && freeB n R o g)
def pick (n : Nat) (R : Nat → Nat → Bool) (o : List Nat) : Option Nat := (List.range n).find? (okG n R o)
def orderF (n : Nat) (R : Nat → Nat → Bool) : Nat → List Nat → List Nat
  | 0, o => o
  | k + 1, o => if o.length < n then (match pick n R o with | some g => orderF n R k (o ++ members n R g) | none => o) else o
def orderN (n : Nat) (R : Nat → Nat → Bool) : List Nat := orderF n R n []
structure Inv (n : Nat) (R : Nat → Nat → Bool) (o : List Nat) : Prop where
  lt : ∀ i ∈ o, i < n
  nodup : o.Nodup
  closed : ∀ i ∈ o, ∀ j, j < n → alikeN R i j = true → j ∈ o
  ord : o.Pairwise fun a b => ahN R b a = false
  down : ∀ i ∈ o, ∀ j, j < n → ahN R j i = true → j ∈ o
theorem Inv.nil (n : Nat) (R : Nat → Nat → Bool) : Inv n R [] :=
  ⟨fun _ h => absurd h List.not_mem_nil, List.nodup_nil, fun _ h => absurd h List.not_mem_nil, List.Pairwise.nil, fun _ h => absurd h List.not_mem_nil⟩
theorem ah_iff {R : Nat → Nat → Bool} {i j : Nat} : ahN R i j = true ↔ R i j = true ∧ R j i = false := by simp [ahN]
theorem ah_alike {R : Nat → Nat → Bool} (ht : Tr R) {j g y : Nat} (h : ahN R j g = true) (ha : alikeN R g y = true) : ahN R j y = true := by
  rw [ah_iff] at h ⊢
  simp only [alikeN, Bool.or_eq_true, beq_iff_eq, Bool.and_eq_true] at ha
  rcases ha with rfl | ⟨h1, h2⟩
  · exact h
  · refine ⟨ht _ _ _ h.1 h1, ?_⟩
    cases hc : R y j with
    | false => rfl
    | true => rw [ht _ _ _ h1 hc] at h; exact absurd h.2 (by decide)
theorem alike_not_ah {R : Nat → Nat → Bool} {a b : Nat} (h : alikeN R a b = true) : ahN R b a = false := by
  simp only [alikeN, Bool.or_eq_true, beq_iff_eq, Bool.and_eq_true] at h
  unfold ahN
  rcases h with rfl | ⟨h1, h2⟩
  · cases R a a <;> rfl
  · rw [h1, h2]; rfl
theorem ah_irr (R : Nat → Nat → Bool) (a : Nat) : ahN R a a = false := alike_not_ah (alikeN_refl a)
theorem ah_trans {R : Nat → Nat → Bool} (ht : Tr R) {a b c : Nat} (h1 : ahN R a b = true) (h2 : ahN R b c = true) : ahN R a c = true := by
  rw [ah_iff] at h1 h2 ⊢
  refine ⟨ht _ _ _ h1.1 h2.1, ?_⟩
  cases hc : R c a with
  | false => rfl
  | true => rw [ht _ _ _ hc h1.1] at h2; exact absurd h2.2 (by decide)
theorem group_lt {n : Nat} {R : Nat → Nat → Bool} {i : Nat} (hi : i < n) : groupN R i < n := Nat.lt_of_le_of_lt (group_spec R i).1 hi
theorem group_idem {R : Nat → Nat → Bool} (ht : Tr R) (i : Nat) : groupN R (groupN R i) = groupN R i :=
  ((group_alike ht).1 (group_spec R i).2.1).symm
theorem mem_members {n : Nat} {R : Nat → Nat → Bool} {g i : Nat} : i ∈ members n R g ↔ i < n ∧ groupN R i = g := by
  simp [members]
theorem members_nil {n : Nat} {R : Nat → Nat → Bool} (ht : Tr R) {g : Nat} (hg : g < n) : (members n R g = []) ↔ groupN R g ≠ g := by
  constructor
  · intro h e
    have : g ∈ members n R g := mem_members.2 ⟨hg, e⟩
    rw [h] at this; cases this
  · intro h
    rw [List.eq_nil_iff_forall_not_mem]
    intro i hi
    obtain ⟨_, h2⟩ := mem_members.1 hi
    exact h (by rw [← h2]; exact group_idem ht i)
theorem contains_iff {o : List Nat} {j : Nat} : o.contains j = true ↔ j ∈ o := by simp
theorem free_iff {n : Nat} {R : Nat → Nat → Bool} {o : List Nat} {g : Nat} : freeB n R o g = true ↔ ∀ j, j < n → ahN R j g = true → j ∈ o := by
  unfold freeB
  rw [List.all_eq_true]
  constructor
  · intro h j hj ha
    have := h j (List.mem_range.2 hj)
    rw [ha] at this
    simpa using this
  · intro h j hj
    cases ha : ahN R j g with
    | false => rfl
    | true => simpa using h j (List.mem_range.1 hj) ha
theorem okG_iff {n : Nat} {R : Nat → Nat → Bool} {o : List Nat} {g : Nat} : okG n R o g = true ↔ groupN R g = g ∧ g ∉ o ∧ ∀ j, j < n → ahN R j g = true → j ∈ o := by
  unfold okG
  simp only [Bool.and_eq_true, beq_iff_eq, Bool.not_eq_true', free_iff]
  constructor
  · rintro ⟨h1, h2, h3⟩
    exact ⟨h1, fun h => (by rw [contains_iff.2 h] at h2; cases h2), h3⟩
  · rintro ⟨h1, h2, h3⟩
    refine ⟨h1, ?_, h3⟩
    cases hc : o.contains g with
    | false => rfl
    | true => exact absurd (contains_iff.1 hc) h2
theorem missing {n : Nat} {o : List Nat} (hl : o.length < n) : ∃ x, x < n ∧ x ∉ o := by
  refine Decidable.byContradiction fun h => ?_
  have := nodup_len (List.nodup_range (n := n)) o fun y hy => Decidable.byContradiction fun hn => h ⟨y, List.mem_range.1 hy, hn⟩
  simp at this
  omega
/-- how many are ahead -/
def cnt (n : Nat) (R : Nat → Nat → Bool) (x : Nat) : Nat := ((List.range n).filter fun j => ahN R j x).length
theorem cnt_lt {n : Nat} {R : Nat → Nat → Bool} (ht : Tr R) {j x : Nat} (hj : j < n) (h : ahN R j x = true) : cnt n R j < cnt n R x := by
  have hs : ∀ y ∈ j :: (List.range n).filter (fun i => ahN R i j), y ∈ (List.range n).filter fun i => ahN R i x := by
    intro y hy
    rcases List.mem_cons.1 hy with rfl | hy
    · exact List.mem_filter.2 ⟨List.mem_range.2 hj, h⟩
    · obtain ⟨h1, h2⟩ := List.mem_filter.1 hy
      exact List.mem_filter.2 ⟨h1, ah_trans ht h2 h⟩
  have := nodup_len (o := j :: (List.range n).filter (fun i => ahN R i j)) (List.nodup_cons.2 ⟨fun hm => absurd (List.mem_filter.1 hm).2 (by rw [ah_irr]; decide), (List.nodup_range (n := n)).filter _⟩) _ hs
  simp only [List.length_cons] at this
  unfold cnt
  omega
theorem lowest {n : Nat} {R : Nat → Nat → Bool} (ht : Tr R) {o : List Nat} : ∀ m x, x < n → x ∉ o → cnt n R x ≤ m → ∃ y, y < n ∧ y ∉ o ∧ ∀ j, j < n → ahN R j y = true → j ∈ o := by
  intro m
  induction m with
  | zero =>
    intro x hx ho hc
    refine ⟨x, hx, ho, fun j hj ha => ?_⟩
    have := cnt_lt ht hj ha
    omega
  | succ m ih =>
    intro x hx ho hc
    by_cases h : ∃ j, j < n ∧ ahN R j x = true ∧ j ∉ o
    · obtain ⟨j, hj, ha, hn⟩ := h
      have := cnt_lt ht hj ha
      exact ih j hj hn (by omega)
    · exact ⟨x, hx, ho, fun j hj ha => Decidable.byContradiction fun hn => h ⟨j, hj, ha, hn⟩⟩
theorem pick_some {n : Nat} {R : Nat → Nat → Bool} (ht : Tr R) {o : List Nat} (h : Inv n R o) (hl : o.length < n) : ∃ g, pick n R o = some g := by
  obtain ⟨x, hx, hn⟩ := missing hl
  obtain ⟨y, hy, hyn, hd⟩ := lowest ht _ x hx hn (Nat.le_refl _)
  have ha := (group_spec R y).2.1
  have hg : okG n R o (groupN R y) = true := okG_iff.2 ⟨group_idem ht y, fun hm => hyn (h.closed _ hm y hy (alikeN_symm ha)), fun j hj hj2 => hd j hj (ah_alike ht hj2 (alikeN_symm ha))⟩
  cases hp : pick n R o with
  | some g => exact ⟨g, rfl⟩
  | none =>
    have := List.find?_eq_none.1 hp (groupN R y) (List.mem_range.2 (group_lt hy))
    rw [hg] at this
    exact absurd rfl this
theorem pick_spec {n : Nat} {R : Nat → Nat → Bool} {o : List Nat} {g : Nat} (h : pick n R o = some g) : g < n ∧ okG n R o g = true ∧ ∀ x, x < g → okG n R o x = false := find_range h
theorem pick_at {n : Nat} {R : Nat → Nat → Bool} {o : List Nat} {g : Nat} (hg : g < n) (h : okG n R o g = true) (h0 : ∀ x, x < g → okG n R o x = false) : pick n R o = some g := by
  cases hp : pick n R o with
  | none =>
    have := List.find?_eq_none.1 hp g (List.mem_range.2 hg)
    rw [h] at this
    exact absurd rfl this
  | some g' =>
    obtain ⟨a, b, c⟩ := pick_spec hp
    rcases Nat.lt_trichotomy g g' with h1 | h1 | h1
    · rw [c _ h1] at h; cases h
    · rw [h1]
    · rw [h0 _ h1] at b; cases b
theorem Inv.step {n : Nat} {R : Nat → Nat → Bool} (ht : Tr R) {o : List Nat} {g : Nat} (h : Inv n R o) (hg : g < n) (hk : okG n R o g = true) : Inv n R (o ++ members n R g) ∧ o.length < (o ++ members n R g).length := by
  obtain ⟨e, hn, hf⟩ := okG_iff.1 hk
  have ga : ∀ i, i ∈ members n R g → alikeN R i g = true := fun i hi => by
    have := (group_spec R i).2.1
    rwa [(mem_members.1 hi).2] at this
  have dis : ∀ i, i ∈ o → i ∉ members n R g := fun i hi hm => hn (h.closed i hi g hg (ga i hm))
  refine ⟨⟨fun i hi => ?_, ?_, fun i hi j hj ha => ?_, ?_, fun i hi j hj ha => ?_⟩, ?_⟩
  · rcases List.mem_append.1 hi with hi | hi
    · exact h.lt i hi
    · exact (mem_members.1 hi).1
  · rw [List.nodup_append]
    exact ⟨h.nodup, (List.nodup_range (n := n)).filter _, fun a ha b hb e => dis a ha (e ▸ hb)⟩
  · rcases List.mem_append.1 hi with hi | hi
    · exact List.mem_append_left _ (h.closed i hi j hj ha)
    · refine List.mem_append_right _ (mem_members.2 ⟨hj, ?_⟩)
      rw [← (group_alike ht).1 ha]
      exact (mem_members.1 hi).2
  · rw [List.pairwise_append]
    refine ⟨h.ord, ?_, fun a ha b hb => ?_⟩
    · rw [List.pairwise_iff_getElem]
      intro i j hi hj _
      exact alike_not_ah (alikeN_trans ht (ga _ (List.getElem_mem hi)) (alikeN_symm (ga _ (List.getElem_mem hj))))
    · cases hc : ahN R b a with
      | false => rfl
      | true => exact absurd hb (dis b (h.down a ha b (mem_members.1 hb).1 hc))
  · rcases List.mem_append.1 hi with hi | hi
    · exact List.mem_append_left _ (h.down i hi j hj ha)
    · exact List.mem_append_left _ (hf j hj (ah_alike ht ha (ga i hi)))
  · have : g ∈ members n R g := mem_members.2 ⟨hg, e⟩
    have := List.length_pos_of_mem this
    rw [List.length_append]
    omega
/-- what is kept from round to round -/
structure Way (n : Nat) (R : Nat → Nat → Bool) (o : List Nat) : Prop where
  inv : Inv n R o
  way : ∃ k, n ≤ k + o.length ∧ orderF n R k o = orderN n R
theorem Way.nil (n : Nat) (R : Nat → Nat → Bool) : Way n R [] := ⟨Inv.nil n R, n, by simp, rfl⟩
theorem Way.step {n : Nat} {R : Nat → Nat → Bool} (ht : Tr R) {o : List Nat} {g : Nat} (h : Way n R o) (hl : o.length < n) (hp : pick n R o = some g) : Way n R (o ++ members n R g) := by
  obtain ⟨h1, k, hk, e⟩ := h
  obtain ⟨a, b, _⟩ := pick_spec hp
  obtain ⟨h2, h3⟩ := h1.step ht a b
  cases k with
  | zero => omega
  | succ k =>
    refine ⟨h2, k, by omega, ?_⟩
    rw [← e, orderF, if_pos hl, hp]
theorem Inv.len {n : Nat} {R : Nat → Nat → Bool} {o : List Nat} (h : Inv n R o) : o.length ≤ n := by
  have := nodup_len h.nodup (List.range n) fun y hy => List.mem_range.2 (h.lt y hy)
  simpa using this
theorem Way.end_ {n : Nat} {R : Nat → Nat → Bool} {o : List Nat} (h : Way n R o) (hl : n ≤ o.length) : o = orderN n R := by
  obtain ⟨_, k, _, e⟩ := h
  rw [← e]
  cases k with
  | zero => rfl
  | succ k => rw [orderF, if_neg (by omega)]
theorem order_way {n : Nat} {R : Nat → Nat → Bool} (ht : Tr R) : ∀ d (o : List Nat), Way n R o → n ≤ d + o.length → Way n R (orderN n R) ∧ (orderN n R).length = n := by
  intro d
  induction d with
  | zero =>
    intro o h hd
    have e := h.end_ (by omega)
    rw [← e]
    exact ⟨h, by have := h.inv.len; omega⟩
  | succ d ih =>
    intro o h hd
    by_cases hl : o.length < n
    · obtain ⟨g, hg⟩ := pick_some ht h.inv hl
      have := (h.inv.step ht (pick_spec hg).1 (pick_spec hg).2.1).2
      exact ih _ (h.step ht hl hg) (by omega)
    · have e := h.end_ (by omega)
      rw [← e]
      exact ⟨h, by have := h.inv.len; omega⟩
theorem order_inv {n : Nat} {R : Nat → Nat → Bool} (ht : Tr R) : Inv n R (orderN n R) ∧ (orderN n R).length = n := by
  obtain ⟨h, h2⟩ := order_way ht n [] (Way.nil n R) (by simp)
  exact ⟨h.inv, h2⟩
end Go.Proofs.Ytbcifodifadoiaa.To
