/- Tags: what is read is told so (plain). -/
import Derived.Test.YthclgmpjmhacdaaTgY
namespace Go.Proofs.Ythclgmpjmhacdaa.tg
open Go Go.RowKit Go.Par Go.Kit Vi Go.Proofs.Ythclgmpjmhacdaa.bfW

theorem drop_cons {v : List Int} {i : Nat} {x : Int} (h : v[i]? = some x) : v.drop i = x :: v.drop (i + 1) := by
  obtain ⟨hi, rfl⟩ := List.getElem?_eq_some_iff.1 h
  exact List.drop_eq_getElem_cons hi
/-- numbers that are 0 tell nothing -/
theorem body_skip : ∀ (d : Nat) (i : Nat) (v : List Int), (∀ j, i ≤ j → j < i + d → v[j]? = some 0) → bodyL i (v.drop i) = bodyL (i + d) (v.drop (i + d)) ∧ posC (v.drop i) = posC (v.drop (i + d))
  | 0, i, v, _ => ⟨rfl, rfl⟩
  | d + 1, i, v, h => by
    have h0 := h i (Nat.le_refl _) (by omega)
    have ih := body_skip d (i + 1) v fun j h1 h2 => h j (by omega) (by omega)
    rw [drop_cons h0, bodyL, if_neg (by decide), List.nil_append, posC_neg (by decide), ih.1, ih.2, show i + 1 + d = i + (d + 1) by omega]
    exact ⟨rfl, rfl⟩
theorem body_zero (i : Nat) (v : List Int) (hi : i ≤ v.length) (h : ∀ j, i ≤ j → j < v.length → v[j]? = some 0) : bodyL i (v.drop i) = [] ∧ posC (v.drop i) = 0 := by
  have := body_skip (v.length - i) i v fun j h1 h2 => h j h1 (by omega)
  rw [this.1, this.2, List.drop_of_length_le (by omega)]
  exact ⟨rfl, rfl⟩
theorem decV_back : ∀ (m : Nat) (L : List UInt8) (e : Nat) (v : List Int) (f : Bool) (la : Nat) (v' : List Int) (R : List UInt8), decV m L e v f la = ((v', true), R, 0) → v.length = 64 → la ≤ 64 → (∀ j, la ≤ j → j < 64 → v[j]? = some 0) →
    e = 0 ∧ f = true ∧ v'.length = 64 ∧ (∀ j, j < la → v'[j]? = v[j]?) ∧ L = bodyL la (v'.drop la) ++ R ∧ posC (v'.drop la) = m
  | 0, L, e, v, f, la, v', R, h, h64, hla, hz => by
    rw [decV_stop (.inl rfl)] at h
    injection h with h1 h2
    injection h1 with h1 h3
    injection h2 with h2 h4
    subst h1; subst h2; subst h3; subst h4
    have := body_zero la v (by omega) fun j h1 h2 => hz j h1 (by omega)
    rw [this.1, this.2]
    exact ⟨rfl, rfl, h64, fun _ _ => rfl, rfl, rfl⟩
  | m + 1, L, e, v, f, la, v', R, h, h64, hla, hz => by
    by_cases he : e = 0
    · subst he
      obtain ⟨⟨a, L3, e3⟩, h1⟩ : ∃ r, r = rbyte L 0 64 := ⟨_, rfl⟩
      obtain ⟨⟨k, L4, e4⟩, h2⟩ : ∃ r, r = rnum L3 e3 60000 := ⟨_, rfl⟩
      rw [decV_step h1.symm h2.symm] at h
      by_cases h4 : e4 = 0
      · subst h4
        obtain ⟨rfl, hL3, hk⟩ := bw_num h2.symm
        obtain ⟨-, hL, ha⟩ := bw_byte h1.symm
        by_cases hc : a ≤ la ∨ k = 0
        · rw [if_pos hc, if_pos hc, if_pos hc] at h
          have := decV_false m L4 0 v la
          rw [h] at this
          cases this
        · rw [if_neg hc, if_neg hc, if_neg hc] at h
          obtain ⟨-, hf, hl', hag, hb, hp⟩ := decV_back m L4 0 _ f a v' R h (by rw [List.length_set]; exact h64) ha (fun j h1 h2 => by
            rw [List.getElem?_set_ne (by omega)]
            exact hz j (by omega) h2)
          have hk1 : v'[a - 1]? = some (k : Int) := by
            rw [hag (a - 1) (by omega), List.getElem?_set_self (by omega)]
          have hsk := body_skip (a - 1 - la) la v' fun j h1 h2 => by
            rw [hag j (by omega), List.getElem?_set_ne (by omega)]
            exact hz j h1 (by omega)
          rw [show la + (a - 1 - la) = a - 1 by omega, drop_cons hk1, show a - 1 + 1 = a by omega] at hsk
          refine ⟨rfl, hf, hl', fun j hj => ?_, ?_, ?_⟩
          · rw [hag j (by omega), List.getElem?_set_ne (by omega)]
          · rw [hsk.1, bodyL, if_pos (by omega), show a - 1 + 1 = a by omega, hL, hL3, hb]
            simp
          · rw [hsk.2, posC_pos (by omega), hp]
      · rw [decV_stop (.inr h4)] at h
        injection h with _ h
        injection h with _ h
        exact absurd h h4
    · rw [decV_stop (.inr he)] at h
      injection h with _ h
      injection h with _ h
      exact absurd h he
theorem rvec_back {L R : List UInt8} {e : Nat} {v : List Int} (h : rvec L e = ((v, true), R, 0)) : e = 0 ∧ L = encV v ++ R ∧ v.length = 64 := by
  obtain ⟨⟨m, L1, e1⟩, h1⟩ : ∃ r, r = rnum L e 64 := ⟨_, rfl⟩
  unfold rvec at h
  rw [← h1] at h
  dsimp only at h
  obtain ⟨rfl, -, hl, -, hb, hp⟩ := decV_back m L1 e1 _ _ 0 v R h (by simp) (by omega) (fun j _ hj => by rw [List.getElem?_replicate, if_pos hj])
  obtain ⟨rfl, hL, -⟩ := bw_num h1.symm
  refine ⟨rfl, ?_, hl⟩
  rw [List.drop_zero] at hb hp
  rw [enc_vec hl, hL, hb, hp, List.append_assoc]
theorem decTs_back : ∀ (m : Nat) (L : List UInt8) (e : Nat) (T : List Tag) (f : Bool) (la : List UInt8) (T' : List Tag) (R : List UInt8), decTs m L e T f la = ((T', true), R, 0) → OkT T → T.length + m ≤ 32 → (∀ t ∈ T, ¬ la < t.1) →
    e = 0 ∧ f = true ∧ OkT T' ∧ ∃ rest, T' = T ++ rest ∧ rest.length = m ∧ L = encTs rest ++ R
  | 0, L, e, T, f, la, T', R, h, ok, hm, hla => by
    rw [decTs_stop (.inl rfl)] at h
    injection h with h1 h2
    injection h1 with h1 h3
    injection h2 with h2 h4
    subst h1; subst h2; subst h3; subst h4
    exact ⟨rfl, rfl, ok, [], by simp, rfl, by simp [encTs]⟩
  | m + 1, L, e, T, f, la, T', R, h, ok, hm, hla => by
    by_cases he : e = 0
    · subst he
      obtain ⟨⟨s, L1, e1⟩, h1⟩ : ∃ r, r = rtext L 0 16 := ⟨_, rfl⟩
      obtain ⟨⟨⟨v, fv⟩, L2, e2⟩, h2⟩ : ∃ r, r = rvec L1 e1 := ⟨_, rfl⟩
      have hg := rvec_good L1 e1
      have hv := rvec_ok L1 e1
      rw [← h2] at hg hv
      dsimp only at hg hv
      rw [decTs_step h1.symm h2.symm] at h
      by_cases hc : (f && (fv && decide (la < s))) = true
      · have hc2 : f = true ∧ fv = true ∧ la < s := by simpa using hc
        obtain ⟨rfl, rfl, hls⟩ := hc2
        have hput : putT T true la s v true = (if setE T s v = 0 then setT T s v else T, decide (setE T s v = 0)) := by
          unfold putT
          rw [if_pos hc]
        rw [hput] at h
        dsimp only at h
        have hT : ∀ t ∈ T, t.1 < s := fun t ht => List.lt_of_le_of_lt (List.not_lt.1 (hla t ht)) hls
        by_cases hz : setE T s v = 0
        · have hn : nameB s = true := by rw [← setE_name (T := T) hg (by omega)]; exact decide_eq_true hz
          have ok2 : OkT (T ++ [(s, v)]) := by rw [← set_end hT]; exact ok.set hn hv hg (.inr (by omega))
          rw [if_pos hz, set_end hT] at h
          obtain ⟨rfl, -, ok', rest, hT', hr, hL2⟩ := decTs_back m L2 e2 _ _ s T' R h ok2 (by simp; omega) (fun t ht => by
            rcases List.mem_append.1 ht with ht | ht
            · exact fun hx => List.lt_irrefl s (List.lt_trans hx (hT t ht))
            · rw [List.mem_singleton] at ht
              subst ht
              exact List.lt_irrefl s)
          obtain ⟨rfl, hL1, -⟩ := rvec_back h2.symm
          obtain ⟨-, hL, -⟩ := bw_text h1.symm
          refine ⟨rfl, rfl, ok', (s, v) :: rest, by rw [hT']; simp, by rw [List.length_cons, hr], ?_⟩
          rw [hL, hL1, hL2, ec_cons]
          unfold encTag
          simp
        · rw [decide_eq_false hz] at h
          have := decTs_false m L2 e2 (if setE T s v = 0 then setT T s v else T) s
          rw [h] at this
          cases this
      · have hput : putT T f la s v fv = (T, false) := by
          unfold putT
          rw [if_neg hc]
        rw [hput] at h
        have := decTs_false m L2 e2 T s
        rw [h] at this
        cases this
    · rw [decTs_stop (.inr he)] at h
      injection h with _ h
      injection h with _ h
      exact absurd h he
/-- what is read is told so -/
theorem dec_back {L : List UInt8} (h : errT L = 0) : encT (decT L).1.1 = L ∧ OkT (decT L).1.1 := by
  obtain ⟨⟨⟨T, f⟩, R, e⟩, hr⟩ : ∃ r, r = decT L := ⟨_, rfl⟩
  unfold errT at h
  rw [← hr] at h ⊢
  dsimp only at h ⊢
  by_cases hz : rend R e ≠ 0
  · rw [if_pos hz] at h
    exact absurd h hz
  · rw [if_neg hz] at h
    obtain ⟨rfl, rfl⟩ := rend_zero (by omega : rend R e = 0)
    cases f with
    | false => rw [if_neg (by decide)] at h; cases h
    | true =>
      obtain ⟨⟨M, L1, e1⟩, h1⟩ : ∃ r, r = rnum L 0 32 := ⟨_, rfl⟩
      unfold decT at hr
      rw [← h1] at hr
      dsimp only at hr
      have hM : M ≤ 32 := by have := rnum_le L 0 32; rw [← h1] at this; exact this
      obtain ⟨rfl, -, ok, rest, hT, hl, hL1⟩ := decTs_back M L1 e1 [] true [] T [] hr.symm ⟨by simp, by simp, by simp⟩ (by simpa using hM) (fun t ht => by cases ht)
      obtain ⟨-, hL, -⟩ := bw_num h1.symm
      rw [List.nil_append] at hT
      subst hT
      refine ⟨?_, ok⟩
      unfold encT
      rw [hl, hL, hL1, List.append_nil]
end Go.Proofs.Ythclgmpjmhacdaa.tg
