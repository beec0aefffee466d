/- What a tree is written as, and how it is read: the plain law of tree code. -/
import Derived.Test.YtacgfpjoaikfbaaWrT
import Derived.Test.YtacgfpjoaikfbaaRdT
namespace Go.Proofs.Ytacgfpjoaikfbaa.tc
open Go Go.RowKit Go.Par Go.Kit Vi Go.Proofs.Ytacgfpjoaikfbaa.bfW

/-- a file of a tree -/
structure Fil where
  name : List UInt8
  also : List (List UInt8)
  lines : List (List UInt8)
def tx (t : List UInt8) : List UInt8 := vb t.length ++ t
def txf (l : List (List UInt8)) : List UInt8 := (l.map tx).flatten
def txs (l : List (List UInt8)) : List UInt8 := vb l.length ++ txf l
def filb (f : Fil) : List UInt8 := tx f.name ++ (txs f.also ++ txs f.lines)
def filf (fs : List Fil) : List UInt8 := (fs.map filb).flatten
def treb (fs : List Fil) : List UInt8 := vb fs.length ++ filf fs
/-- what Encode hands back -/
def encT (fs : List Fil) : List UInt8 × Nat := if 131072 < (treb fs).length then ([], 3) else (treb fs, 0)
/-- n texts are read, or as many as there are -/
def decX : Nat → List UInt8 → Nat → List (List UInt8) × List UInt8 × Nat
  | 0, L, e => ([], L, e)
  | n + 1, L, e => if e = 0 then
      let r := rtext L 0 131072
      let d := decX n r.2.1 r.2.2
      (r.1 :: d.1, d.2)
    else ([], L, e)
def rdTxs (L : List UInt8) (e : Nat) : List (List UInt8) × List UInt8 × Nat :=
  let r := rnum L e L.length
  decX r.1 r.2.1 r.2.2
def rdFil (L : List UInt8) (e : Nat) : Fil × List UInt8 × Nat :=
  let a := rtext L e 131072
  let b := rdTxs a.2.1 a.2.2
  let c := rdTxs b.2.1 b.2.2
  (⟨a.1, b.1, c.1⟩, c.2)
def decF : Nat → List UInt8 → Nat → List Fil × List UInt8 × Nat
  | 0, L, e => ([], L, e)
  | n + 1, L, e => if e = 0 then
      let r := rdFil L 0
      let d := decF n r.2.1 r.2.2
      (r.1 :: d.1, d.2)
    else ([], L, e)
/-- what Decode hands back -/
def decT (L : List UInt8) : List Fil × Nat :=
  if 131072 < L.length then ([], 3) else
  let r := rnum L 0 L.length
  let d := decF r.1 r.2.1 r.2.2
  let e := rend d.2.1 d.2.2
  if e ≠ 0 then ([], e) else (d.1, 0)

theorem fw_num {x m : Nat} (T : List UInt8) (h : x ≤ m) (h2 : x < 18446744073709551616) : rnum (vb x ++ T) 0 m = (x, T, 0) := by
  unfold rnum
  rw [if_neg (by decide), rd_vb x T h2]
  dsimp only
  rw [if_neg (by decide), if_neg (by omega), List.drop_left]
theorem fw_text {t : List UInt8} (T : List UInt8) (h : t.length ≤ 131072) : rtext ((vb t.length ++ t) ++ T) 0 131072 = (t, T, 0) := by
  unfold rtext
  rw [if_neg (by decide), List.append_assoc, rd_vb t.length (t ++ T) (by omega)]
  dsimp only
  rw [if_neg (by decide), if_neg (by omega), if_neg (by simp only [List.length_append]; omega), List.drop_left, List.take_left, ← List.append_assoc, ← List.length_append, List.drop_left]
theorem bw_num {L L' : List UInt8} {e m x : Nat} (h : rnum L e m = (x, L', 0)) : e = 0 ∧ L = vb x ++ L' ∧ x ≤ m := by
  obtain ⟨⟨a, b, d⟩, hr⟩ : ∃ r, r = rd L := ⟨_, rfl⟩
  unfold rnum at h
  rw [← hr] at h
  dsimp only at h
  by_cases he : e ≠ 0
  · rw [if_pos he] at h
    injection h with _ h
    injection h with _ h
    exact absurd h he
  · rw [if_neg he] at h
    by_cases hd : d ≠ 0
    · rw [if_pos hd] at h
      injection h with _ h
      injection h with _ h
      exact absurd h hd
    · rw [if_neg hd] at h
      split at h
      · injection h with _ h; injection h with _ h; cases h
      · injection h with h1 h
        injection h with h2 _
        subst h1; subst h2
        have hd0 : d = 0 := by omega
        subst hd0
        have := rd_once hr.symm
        exact ⟨by omega, by rw [this.1, List.take_append_drop], by omega⟩
theorem bw_text {L L' : List UInt8} {e : Nat} {x : List UInt8} (h : rtext L e 131072 = (x, L', 0)) : e = 0 ∧ L = (vb x.length ++ x) ++ L' := by
  obtain ⟨⟨a, b, d⟩, hr⟩ : ∃ r, r = rd L := ⟨_, rfl⟩
  unfold rtext at h
  rw [← hr] at h
  dsimp only at h
  by_cases he : e ≠ 0
  · rw [if_pos he] at h
    injection h with _ h
    injection h with _ h
    exact absurd h he
  · rw [if_neg he] at h
    by_cases hd : d ≠ 0
    · rw [if_pos hd] at h
      injection h with _ h
      injection h with _ h
      exact absurd h hd
    · rw [if_neg hd] at h
      split at h
      · injection h with _ h; injection h with _ h; cases h
      · split at h
        · injection h with _ h; injection h with _ h; cases h
        · rename_i hlen
          injection h with h1 h
          injection h with h2 _
          subst h1; subst h2
          have hd0 : d = 0 := by omega
          subst hd0
          have h9 := rd_once hr.symm
          have hl : ((L.drop b).take a).length = a := by rw [List.length_take, List.length_drop]; omega
          refine ⟨by omega, ?_⟩
          rw [hl, h9.1, List.append_assoc]
          rw [show L.drop (b + a) = (L.drop b).drop a by rw [List.drop_drop]]
          rw [List.take_append_drop, List.take_append_drop]
theorem txf_cons (t : List UInt8) (l : List (List UInt8)) : txf (t :: l) = tx t ++ txf l := by simp [txf]
theorem filf_cons (f : Fil) (l : List Fil) : filf (f :: l) = filb f ++ filf l := by simp [filf]
theorem vb_pos (n : Nat) : 1 ≤ (vb n).length := by
  show 1 ≤ (vbF 9 n).length
  unfold vbF
  split <;> simp
theorem tx_pos (t : List UInt8) : 1 ≤ (tx t).length := by
  unfold tx; have := vb_pos t.length; rw [List.length_append]; omega
theorem txf_len : ∀ l : List (List UInt8), l.length ≤ (txf l).length
  | [] => Nat.le_refl _
  | t :: l => by
    have h1 := txf_len l
    have h2 := tx_pos t
    rw [txf_cons, List.length_append, List.length_cons]; omega
theorem filf_len : ∀ l : List Fil, l.length ≤ (filf l).length
  | [] => Nat.le_refl _
  | t :: l => by
    have h1 := filf_len l
    have h2 := tx_pos t.name
    rw [filf_cons, List.length_append, List.length_cons]
    unfold filb
    rw [List.length_append]; omega
theorem dec_txf : ∀ (l : List (List UInt8)) (R : List UInt8), (∀ t ∈ l, t.length ≤ 131072) → decX l.length (txf l ++ R) 0 = (l, R, 0)
  | [], R, _ => rfl
  | t :: l, R, h => by
    rw [List.length_cons, decX, if_pos rfl, txf_cons, List.append_assoc]
    unfold tx
    rw [fw_text (t := t) (txf l ++ R) (h t List.mem_cons_self)]
    dsimp only
    rw [dec_txf l R fun x hx => h x (List.mem_cons_of_mem _ hx)]
theorem fw_txs (l : List (List UInt8)) (R : List UInt8) (h : ∀ t ∈ l, t.length ≤ 131072) (hl : l.length < 18446744073709551616) : rdTxs (txs l ++ R) 0 = (l, R, 0) := by
  unfold rdTxs txs
  have h1 := txf_len l
  rw [List.append_assoc, fw_num (m := (vb l.length ++ (txf l ++ R)).length) _ (by simp only [List.length_append]; omega) hl]
  dsimp only
  exact dec_txf l R h
/-- the parts of a file are no longer than the rooms that they are read from -/
def Fil.ok (f : Fil) : Prop := f.name.length ≤ 131072 ∧ (∀ t ∈ f.also, t.length ≤ 131072) ∧ (∀ t ∈ f.lines, t.length ≤ 131072) ∧ f.also.length < 18446744073709551616 ∧ f.lines.length < 18446744073709551616
theorem fw_fil (f : Fil) (R : List UInt8) (h : f.ok) : rdFil (filb f ++ R) 0 = (f, R, 0) := by
  obtain ⟨h1, h2, h3, h4, h5⟩ := h
  unfold rdFil filb
  dsimp only
  rw [List.append_assoc, List.append_assoc]
  unfold tx
  rw [fw_text (t := f.name) _ h1]
  dsimp only
  rw [fw_txs _ _ h2 h4]
  dsimp only
  rw [fw_txs _ _ h3 h5]
theorem dec_filf : ∀ (l : List Fil) (R : List UInt8), (∀ f ∈ l, f.ok) → decF l.length (filf l ++ R) 0 = (l, R, 0)
  | [], R, _ => rfl
  | t :: l, R, h => by
    rw [List.length_cons, decF, if_pos rfl, filf_cons, List.append_assoc, fw_fil t _ (h t List.mem_cons_self)]
    dsimp only
    rw [dec_filf l R fun x hx => h x (List.mem_cons_of_mem _ hx)]
/-- what is encoded is decoded as it was -/
theorem dec_enc {fs : List Fil} (hok : ∀ f ∈ fs, f.ok) (hl : (treb fs).length ≤ 131072) : decT (treb fs) = (fs, 0) := by
  unfold decT
  rw [if_neg (by omega)]
  have h1 := filf_len fs
  have h2 : fs.length ≤ 131072 := by
    unfold treb at hl
    rw [List.length_append] at hl
    omega
  have h3 : rnum (treb fs) 0 (treb fs).length = (fs.length, filf fs, 0) := by
    unfold treb
    exact fw_num (m := (vb fs.length ++ filf fs).length) _ (by simp only [List.length_append]; omega) (by omega)
  rw [h3]
  dsimp only
  have := dec_filf fs [] hok
  rw [List.append_nil] at this
  rw [this]
  rfl
/-! the other way round -/
theorem bw_txf : ∀ (n : Nat) (L : List UInt8) (e : Nat) (D : List (List UInt8)) (L' : List UInt8), decX n L e = (D, L', 0) → e = 0 ∧ L = txf D ++ L' ∧ D.length = n
  | 0, L, e, D, L', h => by
    rw [decX] at h
    injection h with h1 h
    injection h with h2 h3
    subst h1; subst h2
    exact ⟨h3, rfl, rfl⟩
  | n + 1, L, e, D, L', h => by
    rw [decX] at h
    by_cases he : e = 0
    · rw [if_pos he] at h
      subst he
      obtain ⟨⟨t, L1, e1⟩, ht⟩ : ∃ r, r = rtext L 0 131072 := ⟨_, rfl⟩
      rw [← ht] at h
      dsimp only at h
      obtain ⟨⟨D1, L2, e2⟩, hd⟩ : ∃ r, r = decX n L1 e1 := ⟨_, rfl⟩
      rw [← hd] at h
      injection h with h1 h
      injection h with h2 h3
      subst h3; subst h2
      obtain ⟨h4, h5, h6⟩ := bw_txf n L1 e1 D1 L2 hd.symm
      subst h4
      obtain ⟨-, h7⟩ := bw_text ht.symm
      subst h1
      exact ⟨rfl, by rw [txf_cons, List.append_assoc, ← h5]; exact h7, by rw [List.length_cons, h6]⟩
    · rw [if_neg he] at h
      injection h with _ h
      injection h with _ h
      exact absurd h he
theorem bw_txs {L L' : List UInt8} {e : Nat} {D : List (List UInt8)} (h : rdTxs L e = (D, L', 0)) : e = 0 ∧ L = txs D ++ L' := by
  unfold rdTxs at h
  obtain ⟨⟨n, L1, e1⟩, hn⟩ : ∃ r, r = rnum L e L.length := ⟨_, rfl⟩
  rw [← hn] at h
  dsimp only at h
  obtain ⟨rfl, h2, h3⟩ := bw_txf n L1 e1 D L' h
  obtain ⟨h4, h5, -⟩ := bw_num hn.symm
  refine ⟨h4, ?_⟩
  unfold txs
  rw [h3, List.append_assoc, ← h2]
  exact h5
theorem bw_fil {L L' : List UInt8} {e : Nat} {f : Fil} (h : rdFil L e = (f, L', 0)) : e = 0 ∧ L = filb f ++ L' := by
  unfold rdFil at h
  dsimp only at h
  obtain ⟨⟨t, L1, e1⟩, ht⟩ : ∃ r, r = rtext L e 131072 := ⟨_, rfl⟩
  rw [← ht] at h
  dsimp only at h
  obtain ⟨⟨a, L2, e2⟩, ha⟩ : ∃ r, r = rdTxs L1 e1 := ⟨_, rfl⟩
  rw [← ha] at h
  dsimp only at h
  obtain ⟨⟨b, L3, e3⟩, hb⟩ : ∃ r, r = rdTxs L2 e2 := ⟨_, rfl⟩
  rw [← hb] at h
  injection h with h1 h
  injection h with h2 h3
  subst h1; subst h2; subst h3
  obtain ⟨rfl, q3⟩ := bw_txs hb.symm
  obtain ⟨rfl, q2⟩ := bw_txs ha.symm
  obtain ⟨h0, q1⟩ := bw_text ht.symm
  refine ⟨h0, ?_⟩
  unfold filb tx
  dsimp only
  rw [List.append_assoc, List.append_assoc (txs a), ← q3, ← q2]
  exact q1
theorem bw_filf : ∀ (n : Nat) (L : List UInt8) (e : Nat) (D : List Fil) (L' : List UInt8), decF n L e = (D, L', 0) → e = 0 ∧ L = filf D ++ L' ∧ D.length = n
  | 0, L, e, D, L', h => by
    rw [decF] at h
    injection h with h1 h
    injection h with h2 h3
    subst h1; subst h2
    exact ⟨h3, rfl, rfl⟩
  | n + 1, L, e, D, L', h => by
    rw [decF] at h
    by_cases he : e = 0
    · rw [if_pos he] at h
      subst he
      obtain ⟨⟨t, L1, e1⟩, ht⟩ : ∃ r, r = rdFil L 0 := ⟨_, rfl⟩
      rw [← ht] at h
      dsimp only at h
      obtain ⟨⟨D1, L2, e2⟩, hd⟩ : ∃ r, r = decF n L1 e1 := ⟨_, rfl⟩
      rw [← hd] at h
      injection h with h1 h
      injection h with h2 h3
      subst h3; subst h2
      obtain ⟨h4, h5, h6⟩ := bw_filf n L1 e1 D1 L2 hd.symm
      subst h4
      obtain ⟨-, h7⟩ := bw_fil ht.symm
      subst h1
      exact ⟨rfl, by rw [filf_cons, List.append_assoc, ← h5]; exact h7, by rw [List.length_cons, h6]⟩
    · rw [if_neg he] at h
      injection h with _ h
      injection h with _ h
      exact absurd h he
/-- what is decoded is encoded so -/
theorem enc_dec {L : List UInt8} (h : (decT L).2 = 0) : L.length ≤ 131072 ∧ L = treb (decT L).1 := by
  unfold decT at h ⊢
  dsimp only at h ⊢
  by_cases hl : 131072 < L.length
  · rw [if_pos hl] at h
    cases h
  rw [if_neg hl] at h ⊢
  obtain ⟨⟨M, L1, e1⟩, hr1⟩ : ∃ r, r = rnum L 0 L.length := ⟨_, rfl⟩
  rw [← hr1] at h ⊢
  dsimp only at h ⊢
  obtain ⟨⟨D, L2, e2⟩, hd⟩ : ∃ r, r = decF M L1 e1 := ⟨_, rfl⟩
  rw [← hd] at h ⊢
  dsimp only at h ⊢
  by_cases hr : rend L2 e2 ≠ 0
  · rw [if_pos hr] at h
    exact absurd h hr
  · rw [if_neg hr]
    have hr0 : rend L2 e2 = 0 := by omega
    have h2 : e2 = 0 ∧ L2 = [] := by
      unfold rend at hr0
      split at hr0
      · cases hr0
      · rename_i hh
        refine ⟨hr0, ?_⟩
        cases L2 with
        | nil => rfl
        | cons a b => exact absurd ⟨hr0, by simp⟩ hh
    obtain ⟨rfl, rfl⟩ := h2
    obtain ⟨rfl, h4, h5⟩ := bw_filf M L1 e1 D [] hd.symm
    obtain ⟨-, h6, -⟩ := bw_num hr1.symm
    rw [List.append_nil] at h4
    refine ⟨by omega, ?_⟩
    unfold treb
    rw [h5, ← h4]
    exact h6
end Go.Proofs.Ytacgfpjoaikfbaa.tc
