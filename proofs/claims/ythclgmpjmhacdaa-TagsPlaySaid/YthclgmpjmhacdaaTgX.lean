/- Tags: what is told as bytes is read as it was, and the other way round; the document's reading (plain). -/
import Derived.Test.YthclgmpjmhacdaaTgD
namespace Go.Proofs.Ythclgmpjmhacdaa.tg
open Go Go.RowKit Go.Par Go.Kit Vi Go.Proofs.Ythclgmpjmhacdaa.bfW

theorem fw_num {x m : Nat} (T : List UInt8) (h : x ≤ m) (h2 : x < 18446744073709551616) : rnum (vb x ++ T) 0 m = (x, T, 0) := by
  unfold rnum
  rw [if_neg (by decide), rd_vb x T h2]
  dsimp only
  rw [if_neg (by decide), if_neg (by omega), List.drop_left]
theorem fw_byte {x m : Nat} (T : List UInt8) (h : x ≤ m) (h2 : x < 256) : rbyte (u8 x :: T) 0 m = (x, T, 0) := by
  unfold rbyte
  rw [if_neg (by decide)]
  dsimp only
  rw [u8_toNat h2, if_neg (by omega)]
theorem fw_text {t : List UInt8} (T : List UInt8) (h : t.length ≤ 16) : rtext (vb t.length ++ (t ++ T)) 0 16 = (t, T, 0) := by
  unfold rtext
  rw [if_neg (by decide), rd_vb t.length (t ++ T) (by omega)]
  dsimp only
  rw [if_neg (by decide), if_neg (by omega), if_neg (by simp only [List.length_append]; omega), List.drop_left, List.take_left, ← List.append_assoc, ← List.length_append, List.drop_left]
theorem bw_num {L L' : List UInt8} {e m x : Nat} (h : rnum L e m = (x, L', 0)) : e = 0 ∧ L = vb x ++ L' ∧ x ≤ m := by
  obtain ⟨⟨a, b, d⟩, hr⟩ : ∃ r, r = rd L := ⟨_, rfl⟩
  unfold rnum at h
  rw [← hr] at h
  dsimp only at h
  by_cases he : e ≠ 0
  · rw [if_pos he] at h
    injection h with _ h
    injection h with _ h
    exact absurd h he
  · rw [if_neg he] at h
    by_cases hd : d ≠ 0
    · rw [if_pos hd] at h
      injection h with _ h
      injection h with _ h
      exact absurd h hd
    · rw [if_neg hd] at h
      split at h
      · injection h with _ h; injection h with _ h; cases h
      · injection h with h1 h
        injection h with h2 _
        subst h1; subst h2
        have hd0 : d = 0 := by omega
        subst hd0
        have := rd_once hr.symm
        exact ⟨by omega, by rw [this.1, List.take_append_drop], by omega⟩
theorem bw_byte {L L' : List UInt8} {e m x : Nat} (h : rbyte L e m = (x, L', 0)) : e = 0 ∧ L = u8 x :: L' ∧ x ≤ m := by
  unfold rbyte at h
  by_cases he : e ≠ 0
  · rw [if_pos he] at h
    injection h with _ h
    injection h with _ h
    exact absurd h he
  · rw [if_neg he] at h
    cases L with
    | nil => injection h with _ h; injection h with _ h; cases h
    | cons a r =>
      dsimp only at h
      split at h
      · injection h with _ h; injection h with _ h; cases h
      · rename_i hx
        injection h with h1 h
        injection h with h2 _
        subst h1; subst h2
        refine ⟨by omega, ?_, by omega⟩
        rw [show u8 a.toNat = a from UInt8.toNat_inj.1 (u8_toNat a.toNat_lt)]
theorem bw_text {L L' : List UInt8} {e : Nat} {x : List UInt8} (h : rtext L e 16 = (x, L', 0)) : e = 0 ∧ L = vb x.length ++ (x ++ L') ∧ x.length ≤ 16 := by
  have hx := rtext_len L e
  obtain ⟨⟨a, b, d⟩, hr⟩ : ∃ r, r = rd L := ⟨_, rfl⟩
  rw [h] at hx
  unfold rtext at h
  rw [← hr] at h
  dsimp only at h hx
  by_cases he : e ≠ 0
  · rw [if_pos he] at h
    injection h with _ h
    injection h with _ h
    exact absurd h he
  · rw [if_neg he] at h
    by_cases hd : d ≠ 0
    · rw [if_pos hd] at h
      injection h with _ h
      injection h with _ h
      exact absurd h hd
    · rw [if_neg hd] at h
      split at h
      · injection h with _ h; injection h with _ h; cases h
      · split at h
        · injection h with _ h; injection h with _ h; cases h
        · rename_i hlen
          injection h with h1 h
          injection h with h2 _
          subst h1; subst h2
          have hd0 : d = 0 := by omega
          subst hd0
          have h9 := rd_once hr.symm
          have hl : ((L.drop b).take a).length = a := by rw [List.length_take, List.length_drop]; omega
          refine ⟨by omega, ?_, hx⟩
          rw [hl, h9.1]
          rw [show L.drop (b + a) = (L.drop b).drop a by rw [List.drop_drop]]
          rw [List.take_append_drop, List.take_append_drop]
/-! the pairs of a vector -/
def posC (d : List Int) : Nat := (d.filter fun x => decide (0 < x)).length
def bodyL : Nat → List Int → List UInt8
  | _, [] => []
  | k, x :: r => (if 0 < x then u8 (k + 1) :: vb x.toNat else []) ++ bodyL (k + 1) r
theorem posC_pos {x : Int} {r : List Int} (h : 0 < x) : posC (x :: r) = posC r + 1 := by
  unfold posC; rw [List.filter_cons_of_pos (by simpa using h)]; rfl
theorem posC_neg {x : Int} {r : List Int} (h : ¬ 0 < x) : posC (x :: r) = posC r := by
  unfold posC; rw [List.filter_cons_of_neg (by simpa using h)]
theorem body_all (v : List Int) : ∀ k, k ≤ v.length → bodyV v k ++ bodyL k (v.drop k) = bodyL 0 v
  | 0, _ => by simp [bodyV]
  | k + 1, h => by
    have ih := body_all v k (by omega)
    have hk : v[k]? = some v[k] := List.getElem?_eq_getElem (by omega)
    rw [List.drop_eq_getElem_cons (by omega : k < v.length), bodyL, ← List.append_assoc] at ih
    rw [body_step hk]
    exact ih
theorem enc_vec {v : List Int} (h : v.length = 64) : encV v = vb (posC v) ++ bodyL 0 v := by
  unfold encV
  have h1 := body_all v 64 (by omega)
  rw [List.drop_of_length_le (by omega)] at h1
  rw [show bodyL 64 [] = [] from rfl, List.append_nil] at h1
  rw [h1]
  congr 2
  unfold cntV posC
  rw [List.take_of_length_le (by omega)]
theorem decV_body : ∀ (d : List Int) (k : Nat) (p : List Int) (la : Nat) (R : List UInt8) (f : Bool), k + d.length = 64 → p.length = k → la ≤ k → (∀ x ∈ d, 0 ≤ x ∧ x ≤ 60000) →
    decV (posC d) (bodyL k d ++ R) 0 (p ++ List.replicate d.length 0) f la = ((p ++ d, f), R, 0)
  | [], k, p, la, R, f, _, _, _, _ => by
    rw [show posC [] = 0 from rfl, show bodyL k [] ++ R = R from rfl, decV_stop (.inl rfl)]
    simp
  | x :: r, k, p, la, R, f, h1, h2, h3, h4 => by
    have hx := h4 x List.mem_cons_self
    have hr := fun y hy => h4 y (List.mem_cons_of_mem x hy)
    rw [List.length_cons] at h1
    have hrep : p ++ List.replicate (x :: r).length 0 = (p ++ [0]) ++ List.replicate r.length (0 : Int) := by
      rw [List.length_cons, List.replicate_succ]; simp
    by_cases h : 0 < x
    · obtain ⟨n, rfl⟩ := Int.eq_ofNat_of_zero_le hx.1
      rw [posC_pos h, bodyL, if_pos h]
      have e1 : rbyte (u8 (k + 1) :: (vb n ++ (bodyL (k + 1) r ++ R))) 0 64 = (k + 1, vb n ++ (bodyL (k + 1) r ++ R), 0) := fw_byte _ (by omega) (by omega)
      have e2 : rnum (vb n ++ (bodyL (k + 1) r ++ R)) 0 60000 = (n, bodyL (k + 1) r ++ R, 0) := fw_num _ (by omega) (by omega)
      rw [show (u8 (k + 1) :: vb (Int.toNat (n : Int)) ++ bodyL (k + 1) r) ++ R = u8 (k + 1) :: (vb n ++ (bodyL (k + 1) r ++ R)) by simp]
      rw [decV_step e1 e2, if_neg (by omega), if_neg (by omega), if_neg (by omega)]
      have hset : (p ++ List.replicate ((n : Int) :: r).length (0 : Int)).set (k + 1 - 1) ((n : Nat) : Int) = (p ++ [(n : Int)]) ++ List.replicate r.length (0 : Int) := by
        rw [List.length_cons, List.replicate_succ, List.set_append_right _ _ (by omega)]
        rw [show k + 1 - 1 - p.length = 0 by omega]
        simp
      rw [hset, decV_body r (k + 1) (p ++ [(n : Int)]) (k + 1) R f (by omega) (by simp; omega) (by omega) hr]
      simp
    · obtain rfl : x = 0 := by omega
      rw [posC_neg h, bodyL, if_neg h, List.nil_append, hrep, decV_body r (k + 1) (p ++ [0]) la R f (by omega) (by simp; omega) (by omega) hr]
      simp
theorem fw_vec {v : List Int} (hv : VecOk v) (hg : goodV v = true) (R : List UInt8) : rvec (encV v ++ R) 0 = ((v, true), R, 0) := by
  have hg2 : ∀ x ∈ v, x ≤ 60000 := fun x hx => by
    unfold goodV at hg
    rw [List.all_eq_true] at hg
    simpa using hg x hx
  have hp : posC v ≤ 64 := by rw [← hv.1]; exact List.length_filter_le _ _
  unfold rvec
  rw [enc_vec hv.1, List.append_assoc, fw_num _ hp (by omega)]
  dsimp only
  have := decV_body v 0 [] 0 R true (by have := hv.1; omega) rfl (Nat.le_refl _) fun x hx => ⟨(hv.2 x hx).1, hg2 x hx⟩
  rw [List.nil_append, List.nil_append, hv.1] at this
  exact this
/-! tags in order -/
theorem tw_all {α : Type} {p : α → Bool} : ∀ {l : List α}, (∀ x ∈ l, p x = true) → l.takeWhile p = l ∧ l.dropWhile p = []
  | [], _ => ⟨rfl, rfl⟩
  | a :: l, h => by
    have ha := h a List.mem_cons_self
    have ih := tw_all fun x hx => h x (List.mem_cons_of_mem a hx)
    rw [List.takeWhile_cons, List.dropWhile_cons, if_pos ha, if_pos ha, ih.1]
    exact ⟨rfl, ih.2⟩
theorem tw_mem {α : Type} {p : α → Bool} {x : α} : ∀ {l : List α}, x ∈ l.takeWhile p → p x = true
  | [], h => by cases h
  | a :: l, h => by
    rw [List.takeWhile_cons] at h
    split at h
    · rename_i ha
      rcases List.mem_cons.1 h with rfl | h
      · exact ha
      · exact tw_mem h
    · cases h
theorem set_end {T : List Tag} {s : List UInt8} {v : List Int} (h : ∀ t ∈ T, t.1 < s) : setT T s v = T ++ [(s, v)] := by
  have hd : delT T s = T := by
    unfold delT
    rw [List.filter_eq_self]
    intro t ht
    have := h t ht
    simp only [bne_iff_ne, ne_eq]
    intro e
    rw [e] at this
    exact absurd this (List.lt_irrefl s)
  have hw : ∀ t ∈ T, decide (t.1 < s) = true := fun t ht => decide_eq_true (h t ht)
  unfold setT
  rw [hd, (tw_all (p := fun t : Tag => decide (t.1 < s)) hw).1, (tw_all (p := fun t : Tag => decide (t.1 < s)) hw).2]
theorem setE_ok {T : List Tag} {s : List UInt8} {v : List Int} (h1 : nameB s = true) (h2 : goodV v = true) (h3 : T.length < 32) : setE T s v = 0 := by
  unfold setE
  rw [if_pos h1, if_pos h2, if_pos (by simp [h3])]
theorem name_nil {s : List UInt8} (h : nameB s = true) : [] < s := by
  have := (name_le h).2
  cases s with
  | nil => simp at this
  | cons a r => exact List.nil_lt_cons a r
theorem ec_cons (t : Tag) (l : List Tag) : encTs (t :: l) = encTag t ++ encTs l := by simp [encTs]
theorem decTs_enc : ∀ (rest T : List Tag) (R la : List UInt8), OkT (T ++ rest) → (∀ t ∈ rest, la < t.1) → decTs rest.length (encTs rest ++ R) 0 T true la = ((T ++ rest, true), R, 0)
  | [], T, R, la, _, _ => by
    rw [show ([] : List Tag).length = 0 from rfl, decTs_stop (.inl rfl)]
    simp [encTs]
  | t :: r, T, R, la, h, hla => by
    obtain ⟨s, v⟩ := t
    obtain ⟨hs, hv, hg⟩ := h.ok (s, v) (by simp)
    have hlen := h.len
    rw [List.length_append, List.length_cons] at hlen
    have hup := List.pairwise_append.1 h.up
    have hT : ∀ t ∈ T, t.1 < s := fun t ht => hup.2.2 t ht (s, v) List.mem_cons_self
    have hr : ∀ t ∈ r, s < t.1 := fun t ht => (List.pairwise_cons.1 hup.2.1).1 t ht
    have e1 : rtext (encTs ((s, v) :: r) ++ R) 0 16 = (s, encV v ++ (encTs r ++ R), 0) := by
      rw [ec_cons]
      unfold encTag
      simp only [List.append_assoc]
      exact fw_text _ (name_le hs).1
    rw [List.length_cons, decTs_step e1 (fw_vec hv hg _)]
    have hput : putT T true la s v true = (T ++ [(s, v)], true) := by
      unfold putT
      rw [if_pos (by simp [hla (s, v) List.mem_cons_self]), setE_ok hs hg (by omega), if_pos rfl, set_end hT]
      rfl
    rw [hput]
    have := decTs_enc r (T ++ [(s, v)]) R s (by rw [List.append_assoc]; exact h) hr
    rw [List.append_assoc] at this
    exact this
/-- what is told as bytes is read as it was -/
theorem dec_enc {L : List Tag} (h : OkT L) : decT (encT L) = ((L, true), [], 0) := by
  unfold decT encT
  rw [fw_num (encTs L) h.len (by have := h.len; omega)]
  dsimp only
  have := decTs_enc L [] [] [] h fun t ht => name_nil (h.ok t ht).1
  rw [List.append_nil, List.nil_append] at this
  exact this
theorem err_enc {L : List Tag} (h : OkT L) : errT (encT L) = 0 := by
  unfold errT
  rw [dec_enc h]
  rfl
theorem get_set (L : List Tag) (s : List UInt8) (v : List Int) : getT (setT L s v) s = v := by
  unfold getT setT
  rw [List.find?_append, List.find?_eq_none.2 (fun t ht => ?_), Option.none_or, List.find?_cons_of_pos (by simp)]
  have h1 : t.1 < s := by simpa using tw_mem ht
  intro e
  have e : t.1 = s := by simpa using e
  rw [e] at h1
  exact List.lt_irrefl s h1
end Go.Proofs.Ythclgmpjmhacdaa.tg
