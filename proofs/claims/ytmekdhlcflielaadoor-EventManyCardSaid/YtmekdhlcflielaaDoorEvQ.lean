/- The plain laws of events: what is encoded is decoded as it was; what is decoded is encoded so. -/
import Derived.Test.YtmekdhlcflielaaDoorEv2
namespace Go.Proofs.YtmekdhlcflielaaDoor.ev
open Go Go.RowKit Go.Par Go.Kit Vi Go.Proofs.YtmekdhlcflielaaDoor.bfW

theorem u8_of (x : UInt8) : Vi.u8 x.toNat = x := by
  unfold Vi.u8
  exact UInt8.ofNat_toNat
theorem fw_byte {x m : Nat} (T : List UInt8) (h : x ≤ m) (h2 : x ≤ 255) : rbyte ([Vi.u8 x] ++ T) 0 m = (x, T, 0) := by
  show rbyte (Vi.u8 x :: T) 0 m = _
  unfold rbyte
  rw [if_neg (by decide)]
  dsimp only
  rw [Vi.u8_toNat (n := x) (by omega), if_neg (by omega)]
theorem fw_num {x m : Nat} (T : List UInt8) (h : x ≤ m) (h2 : x < 18446744073709551616) : rnum (vb x ++ T) 0 m = (x, T, 0) := by
  unfold rnum
  rw [if_neg (by decide), rd_vb x T h2]
  dsimp only
  rw [if_neg (by decide), if_neg (by omega), List.drop_left]
theorem fw_text {t : List UInt8} (T : List UInt8) (h : t.length ≤ 131072) : rtext ((vb t.length ++ t) ++ T) 0 131072 = (t, T, 0) := by
  unfold rtext
  rw [if_neg (by decide), List.append_assoc, rd_vb t.length (t ++ T) (by omega)]
  dsimp only
  rw [if_neg (by decide), if_neg (by omega), if_neg (by simp only [List.length_append]; omega), List.drop_left, List.take_left, ← List.append_assoc, ← List.length_append, List.drop_left]
theorem fo_byte {q : Bool} {x m : Nat} (T : List UInt8) (h1 : q = true → x ≤ m ∧ x ≤ 255) (h0 : q = false → x = 0) : opt q (rbyte ((if q then [Vi.u8 x] else []) ++ T) 0 m) 0 ((if q then [Vi.u8 x] else []) ++ T) 0 = (x, T, 0) := by
  unfold opt
  cases q
  · rw [h0 rfl]; rfl
  · exact fw_byte T (h1 rfl).1 (h1 rfl).2
theorem fo_num {q : Bool} {x m : Nat} (T : List UInt8) (h1 : q = true → x ≤ m) (h2 : x < 18446744073709551616) (h0 : q = false → x = 0) : opt q (rnum ((if q then vb x else []) ++ T) 0 m) 0 ((if q then vb x else []) ++ T) 0 = (x, T, 0) := by
  unfold opt
  cases q
  · rw [h0 rfl]; rfl
  · exact fw_num T (h1 rfl) h2
theorem fo_text {q : Bool} {t : List UInt8} (T : List UInt8) (h1 : t.length ≤ 131072) (h0 : q = false → t = []) : opt q (rtext ((if q then vb t.length ++ t else []) ++ T) 0 131072) [] ((if q then vb t.length ++ t else []) ++ T) 0 = (t, T, 0) := by
  unfold opt
  cases q
  · rw [h0 rfl]; rfl
  · exact fw_text T h1
theorem if_app (q : Bool) (a b : List UInt8) : (if q then a ++ b else []) = (if q then a else []) ++ (if q then b else []) := by cases q <;> rfl
/-- what holds of an event that may be -/
theorem good_facts {e : Ev} (h : goodB e = true) : (1 ≤ e.k ∧ e.k ≤ 12) ∧ (hb e.k 0 = true → e.node ≤ 64) ∧ (hb e.k 0 = false → e.node = 0) ∧ (hb e.k 1 = true → e.peer ≤ 64) ∧ (hb e.k 1 = false → e.peer = 0) ∧ (hb e.k 2 = false → e.K = 0) ∧ (0 ≤ e.K ∧ e.K ≤ 1048576) ∧
    (hb e.k 3 = false → e.at_ = 0 ∧ e.mask = 0) ∧ (0 ≤ e.at_ ∧ e.at_ ≤ 1048576) ∧ (hb e.k 4 = false → e.draw = 0) ∧ (hb e.k 5 = false → e.b = []) ∧ e.b.length ≤ 131072 := by
  unfold goodB at h
  simp only [Bool.not_eq_true', Bool.or_eq_false_iff] at h
  obtain ⟨h1, h2, h3, h4, h5, h6, h7, h8, h9, h10, h11, h12⟩ := h
  unfold bad1 at h1
  unfold bad2 at h2
  unfold bad3 at h3
  unfold bad4 at h4
  unfold bad5 at h5
  unfold bad6 at h6
  unfold bad7 lowB at h7
  unfold bad8 at h8
  unfold bad9 lowB at h9
  unfold bad10 at h10
  unfold bad11 at h11
  unfold bad12 at h12
  simp only [Bool.or_eq_false_iff, decide_eq_false_iff_not] at h1
  simp only [Bool.not_eq_false', Bool.and_eq_true, decide_eq_true_eq] at h7 h9
  simp only [decide_eq_false_iff_not] at h12
  refine ⟨by omega, fun q => ?_, fun q => ?_, fun q => ?_, fun q => ?_, fun q => ?_, h7, fun q => ?_, h9, fun q => ?_, fun q => ?_, by omega⟩
  · rw [q] at h3; simp [oneB] at h3; omega
  · rw [q] at h2; simpa using h2
  · rw [q] at h5; simp [oneB] at h5; omega
  · rw [q] at h4; simpa using h4
  · rw [q] at h6; simpa using h6
  · rw [q] at h8; simpa using h8
  · rw [q] at h10; simpa using h10
  · rw [q] at h11; simpa using h11
theorem rd_evb {e : Ev} (h : goodB e = true) (ok : e.ok) (R : List UInt8) : rdEv (evb e ++ R) 0 = (e, R, 0) := by
  obtain ⟨g1, g2, g3, g4, g5, g6, g7, g8, g9, g10, g11, g12⟩ := good_facts h
  obtain ⟨k, node, peer, K, at_, mask, draw, b⟩ := e
  obtain ⟨-, o2, o3, -, -, -, -, o6, o7⟩ := ok
  dsimp only at g1 g2 g3 g4 g5 g6 g7 g8 g9 g10 g11 g12 o2 o3 o6 o7
  obtain ⟨Kn, rfl⟩ := Int.eq_ofNat_of_zero_le g7.1
  obtain ⟨an, rfl⟩ := Int.eq_ofNat_of_zero_le g9.1
  have e1 : evb ⟨k, node, peer, (Kn : Int), (an : Int), mask, draw, b⟩ ++ R = [Vi.u8 k] ++ ((if hb k 0 then [Vi.u8 node] else []) ++ ((if hb k 1 then [Vi.u8 peer] else []) ++ ((if hb k 2 then vb Kn else []) ++ ((if hb k 3 then vb an else []) ++ ((if hb k 3 then vb mask else []) ++ ((if hb k 4 then vb draw else []) ++ ((if hb k 5 then vb b.length ++ b else []) ++ R))))))) := by
    unfold evb
    simp only [Int.toNat_natCast, if_app (hb k 3), List.append_assoc]
  rw [e1]
  unfold rdEv
  dsimp only
  rw [fw_byte (m := 12) _ g1.2 (by omega)]
  dsimp only
  rw [fo_byte (m := 64) _ (fun q => ⟨g2 q, o2⟩) g3]
  dsimp only
  rw [fo_byte (m := 64) _ (fun q => ⟨g4 q, o3⟩) g5]
  dsimp only
  rw [fo_num (m := 1048576) _ (fun _ => by omega) (by omega) (fun q => by have := g6 q; omega)]
  dsimp only
  rw [fo_num (m := 1048576) _ (fun _ => by omega) (by omega) (fun q => by have := (g8 q).1; omega)]
  dsimp only
  rw [fo_num (m := 4294967295) _ (fun _ => by omega) (by omega) (fun q => (g8 q).2)]
  dsimp only
  rw [fo_num (m := 18446744073709551615) _ (fun _ => by omega) (by omega) (fun q => g10 q)]
  dsimp only
  rw [fo_text _ g12 g11]
theorem evbs_cons (e : Ev) (es : List Ev) : evbs (e :: es) = evb e ++ evbs es := by simp [evbs]
theorem dec_evbs : ∀ (es : List Ev) (R : List UInt8), (∀ e ∈ es, goodB e = true ∧ e.ok) → decN es.length (evbs es ++ R) 0 = (es, R, 0)
  | [], R, _ => by simp [evbs, decN]
  | e :: es, R, h => by
    obtain ⟨h1, h2⟩ := h e List.mem_cons_self
    rw [List.length_cons, decN_step, evbs_cons, List.append_assoc, rd_evb h1 h2]
    dsimp only
    rw [dec_evbs es R fun x hx => h x (List.mem_cons_of_mem _ hx)]
/-- what is encoded is decoded as it was -/
theorem dec_enc {es : List Ev} (h : es.all goodB = true) (hok : ∀ e ∈ es, e.ok) (hl : es.length ≤ 1024) : decS (vb es.length ++ evbs es) = (es, 0) := by
  unfold decS
  dsimp only
  rw [fw_num _ hl (by omega)]
  dsimp only
  have := dec_evbs es [] fun e he => ⟨List.all_eq_true.1 h e he, hok e he⟩
  rw [List.append_nil] at this
  rw [this]
  dsimp only
  rw [if_neg (by decide), if_pos h]
/-! the other way round -/
theorem bw_byte {L L' : List UInt8} {e m x : Nat} (h : rbyte L e m = (x, L', 0)) : e = 0 ∧ L = [Vi.u8 x] ++ L' := by
  unfold rbyte at h
  by_cases he : e ≠ 0
  · rw [if_pos he] at h
    injection h with _ h
    injection h with _ h
    exact absurd h he
  · rw [if_neg he] at h
    cases L with
    | nil => dsimp only at h; injection h with _ h; injection h with _ h; cases h
    | cons y r =>
      dsimp only at h
      split at h
      · injection h with _ h; injection h with _ h; cases h
      · injection h with h1 h
        injection h with h2 _
        subst h1; subst h2
        exact ⟨by omega, by rw [u8_of]; rfl⟩
theorem bw_num {L L' : List UInt8} {e m x : Nat} (h : rnum L e m = (x, L', 0)) : e = 0 ∧ L = vb x ++ L' ∧ x ≤ m := by
  obtain ⟨⟨a, b, d⟩, hr⟩ : ∃ r, r = rd L := ⟨_, rfl⟩
  unfold rnum at h
  rw [← hr] at h
  dsimp only at h
  by_cases he : e ≠ 0
  · rw [if_pos he] at h
    injection h with _ h
    injection h with _ h
    exact absurd h he
  · rw [if_neg he] at h
    by_cases hd : d ≠ 0
    · rw [if_pos hd] at h
      injection h with _ h
      injection h with _ h
      exact absurd h hd
    · rw [if_neg hd] at h
      split at h
      · injection h with _ h; injection h with _ h; cases h
      · injection h with h1 h
        injection h with h2 _
        subst h1; subst h2
        have hd0 : d = 0 := by omega
        subst hd0
        have := rd_once hr.symm
        exact ⟨by omega, by rw [this.1, List.take_append_drop], by omega⟩
theorem bw_text {L L' : List UInt8} {e : Nat} {x : List UInt8} (h : rtext L e 131072 = (x, L', 0)) : e = 0 ∧ L = (vb x.length ++ x) ++ L' := by
  obtain ⟨⟨a, b, d⟩, hr⟩ : ∃ r, r = rd L := ⟨_, rfl⟩
  unfold rtext at h
  rw [← hr] at h
  dsimp only at h
  by_cases he : e ≠ 0
  · rw [if_pos he] at h
    injection h with _ h
    injection h with _ h
    exact absurd h he
  · rw [if_neg he] at h
    by_cases hd : d ≠ 0
    · rw [if_pos hd] at h
      injection h with _ h
      injection h with _ h
      exact absurd h hd
    · rw [if_neg hd] at h
      split at h
      · injection h with _ h; injection h with _ h; cases h
      · split at h
        · injection h with _ h; injection h with _ h; cases h
        · rename_i hlen
          injection h with h1 h
          injection h with h2 _
          subst h1; subst h2
          have hd0 : d = 0 := by omega
          subst hd0
          have h9 := rd_once hr.symm
          have hl : ((L.drop b).take a).length = a := by rw [List.length_take, List.length_drop]; omega
          refine ⟨by omega, ?_⟩
          rw [hl, h9.1, List.append_assoc]
          rw [show L.drop (b + a) = (L.drop b).drop a by rw [List.drop_drop]]
          rw [List.take_append_drop, List.take_append_drop]
theorem bo_byte {q : Bool} {L L' : List UInt8} {e m x : Nat} (h : (x, L', 0) = opt q (rbyte L e m) 0 L e) : e = 0 ∧ L = (if q then [Vi.u8 x] else []) ++ L' ∧ (q = false → x = 0) := by
  unfold opt at h
  cases q
  · rw [if_neg (by decide)] at h
    injection h with h1 h
    injection h with h2 h3
    exact ⟨h3.symm, by rw [h2]; rfl, fun _ => h1⟩
  · rw [if_pos rfl] at h
    obtain ⟨h1, h2⟩ := bw_byte h.symm
    exact ⟨h1, h2, fun h => by cases h⟩
theorem bo_num {q : Bool} {L L' : List UInt8} {e m x : Nat} (h : (x, L', 0) = opt q (rnum L e m) 0 L e) : e = 0 ∧ L = (if q then vb x else []) ++ L' := by
  unfold opt at h
  cases q
  · rw [if_neg (by decide)] at h
    injection h with h1 h
    injection h with h2 h3
    exact ⟨h3.symm, by rw [h2]; rfl⟩
  · rw [if_pos rfl] at h
    obtain ⟨h1, h2, -⟩ := bw_num h.symm
    exact ⟨h1, h2⟩
theorem bo_text {q : Bool} {L L' : List UInt8} {e : Nat} {x : List UInt8} (h : (x, L', 0) = opt q (rtext L e 131072) [] L e) : e = 0 ∧ L = (if q then vb x.length ++ x else []) ++ L' := by
  unfold opt at h
  cases q
  · rw [if_neg (by decide)] at h
    injection h with h1 h
    injection h with h2 h3
    exact ⟨h3.symm, by rw [h2]; rfl⟩
  · rw [if_pos rfl] at h
    obtain ⟨h1, h2⟩ := bw_text h.symm
    exact ⟨h1, h2⟩
theorem rd_back {L L' : List UInt8} {e : Nat} {ev : Ev} (h : rdEv L e = (ev, L', 0)) : e = 0 ∧ L = evb ev ++ L' := by
  unfold rdEv at h
  dsimp only at h
  obtain ⟨⟨k, L0, e0⟩, hr0⟩ : ∃ r, r = rbyte L e 12 := ⟨_, rfl⟩
  rw [← hr0] at h
  dsimp only at h
  obtain ⟨⟨x1, L1, e1⟩, hr1⟩ : ∃ r, r = opt (hb k 0) (rbyte L0 e0 64) 0 L0 e0 := ⟨_, rfl⟩
  rw [← hr1] at h
  dsimp only at h
  obtain ⟨⟨x2, L2, e2⟩, hr2⟩ : ∃ r, r = opt (hb k 1) (rbyte L1 e1 64) 0 L1 e1 := ⟨_, rfl⟩
  rw [← hr2] at h
  dsimp only at h
  obtain ⟨⟨x3, L3, e3⟩, hr3⟩ : ∃ r, r = opt (hb k 2) (rnum L2 e2 1048576) 0 L2 e2 := ⟨_, rfl⟩
  rw [← hr3] at h
  dsimp only at h
  obtain ⟨⟨x4, L4, e4⟩, hr4⟩ : ∃ r, r = opt (hb k 3) (rnum L3 e3 1048576) 0 L3 e3 := ⟨_, rfl⟩
  rw [← hr4] at h
  dsimp only at h
  obtain ⟨⟨x5, L5, e5⟩, hr5⟩ : ∃ r, r = opt (hb k 3) (rnum L4 e4 4294967295) 0 L4 e4 := ⟨_, rfl⟩
  rw [← hr5] at h
  dsimp only at h
  obtain ⟨⟨x6, L6, e6⟩, hr6⟩ : ∃ r, r = opt (hb k 4) (rnum L5 e5 18446744073709551615) 0 L5 e5 := ⟨_, rfl⟩
  rw [← hr6] at h
  dsimp only at h
  obtain ⟨⟨x7, L7, e7⟩, hr7⟩ : ∃ r, r = opt (hb k 5) (rtext L6 e6 131072) [] L6 e6 := ⟨_, rfl⟩
  rw [← hr7] at h
  injection h with h1 h
  injection h with h2 h3
  subst h2; subst h3; subst h1
  obtain ⟨rfl, q7⟩ := bo_text hr7
  obtain ⟨rfl, q6⟩ := bo_num hr6
  obtain ⟨rfl, q5⟩ := bo_num hr5
  obtain ⟨rfl, q4⟩ := bo_num hr4
  obtain ⟨rfl, q3⟩ := bo_num hr3
  obtain ⟨rfl, q2, -⟩ := bo_byte hr2
  obtain ⟨rfl, q1, -⟩ := bo_byte hr1
  obtain ⟨h0, q0⟩ := bw_byte hr0.symm
  refine ⟨h0, ?_⟩
  unfold evb
  simp only [Int.toNat_natCast, if_app (hb k 3), List.append_assoc]
  rw [← q7, ← q6, ← q5, ← q4, ← q3, ← q2, ← q1]
  exact q0
theorem dec_back : ∀ (n : Nat) (L : List UInt8) (e : Nat) (D : List Ev) (L' : List UInt8), decN n L e = (D, L', 0) → e = 0 ∧ L = evbs D ++ L' ∧ D.length = n
  | 0, L, e, D, L', h => by
    rw [decN] at h
    injection h with h1 h
    injection h with h2 h3
    subst h1; subst h2
    exact ⟨h3, by simp [evbs], rfl⟩
  | n + 1, L, e, D, L', h => by
    rw [decN] at h
    by_cases he : e = 0
    · rw [if_pos he] at h
      subst he
      obtain ⟨⟨ev, L1, e1⟩, hev⟩ : ∃ r, r = rdEv L 0 := ⟨_, rfl⟩
      rw [← hev] at h
      dsimp only at h
      obtain ⟨⟨D1, L2, e2⟩, hd⟩ : ∃ r, r = decN n L1 e1 := ⟨_, rfl⟩
      rw [← hd] at h
      injection h with h1 h
      injection h with h2 h3
      subst h3; subst h2
      obtain ⟨h4, h5, h6⟩ := dec_back n L1 e1 D1 L2 hd.symm
      subst h4
      obtain ⟨-, h7⟩ := rd_back hev.symm
      subst h1
      exact ⟨rfl, by rw [evbs_cons, List.append_assoc, ← h5]; exact h7, by rw [List.length_cons, h6]⟩
    · rw [if_neg he] at h
      injection h with _ h
      injection h with _ h
      exact absurd h he
/-- what is decoded is encoded so -/
theorem enc_dec {L : List UInt8} (h : (decS L).2 = 0) : (decS L).1.all goodB = true ∧ (decS L).1.length ≤ 1024 ∧ L = vb (decS L).1.length ++ evbs (decS L).1 := by
  unfold decS at h ⊢
  dsimp only at h ⊢
  obtain ⟨⟨M, L1, e1⟩, hr1⟩ : ∃ r, r = rnum L 0 1024 := ⟨_, rfl⟩
  rw [← hr1] at h ⊢
  dsimp only at h ⊢
  obtain ⟨⟨D, L2, e2⟩, hd⟩ : ∃ r, r = decN M L1 e1 := ⟨_, rfl⟩
  rw [← hd] at h ⊢
  dsimp only at h ⊢
  by_cases hr : rend L2 e2 ≠ 0
  · rw [if_pos hr] at h
    exact absurd h hr
  · rw [if_neg hr] at h ⊢
    by_cases hg : D.all goodB = true
    · rw [if_pos hg]
      dsimp only
      have hr0 : rend L2 e2 = 0 := by omega
      have h2 : e2 = 0 ∧ L2 = [] := by
        unfold rend at hr0
        split at hr0
        · cases hr0
        · rename_i hh
          refine ⟨hr0, ?_⟩
          cases L2 with
          | nil => rfl
          | cons a b => exact absurd ⟨hr0, by simp⟩ hh
      obtain ⟨rfl, rfl⟩ := h2
      obtain ⟨rfl, h4, h5⟩ := dec_back M L1 e1 D [] hd.symm
      obtain ⟨-, h6, h7⟩ := bw_num hr1.symm
      rw [List.append_nil] at h4
      refine ⟨hg, by omega, ?_⟩
      rw [h5, ← h4]
      exact h6
    · rw [if_neg hg] at h
      cases h
theorem decN_ok : ∀ (n : Nat) (L : List UInt8) (e : Nat), ∀ x ∈ (decN n L e).1, x.ok
  | 0, L, e, x, hx => by rw [decN] at hx; cases hx
  | n + 1, L, e, x, hx => by
    rw [decN] at hx
    split at hx
    · rcases List.mem_cons.1 hx with hx | hx
      · subst hx; exact rdEv_ok L e
      · exact decN_ok n _ _ x hx
    · cases hx
end Go.Proofs.YtmekdhlcflielaaDoor.ev
