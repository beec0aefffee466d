/- What the net's methods do, as one plain step each. -/
import Derived.Test.YtmekdhlcflielaaNtA
namespace Go.Proofs.Ytmekdhlcflielaa.ntL
open Go Go.RowKit Go.Par Go.Kit Go.Proofs.Ytmekdhlcflielaa.mpA Go.Proofs.Ytmekdhlcflielaa.cl Go.Proofs.Ytmekdhlcflielaa.nt

/-- a packet, without where it lies -/
structure Pk where
  fr : Nat
  to : Nat
  b : List UInt8
  sp : Bool
def pkOf (p : PkR) : Pk := ⟨p.fr, p.to, p.b, p.sp⟩
def zpk : Pk := ⟨0, 0, [], false⟩
def getK {α : Type} (ps : List α) (K : Int) : Option α := if 0 ≤ K then ps[K.toNat]? else none
abbrev Cuts := Nat → Nat → Bool
def sendS (n : Nat) (ps : List Pk) (a b : Nat) (l : List UInt8) : List Pk × Nat := if pairB n a b = true then (if ps.length < 4096 then (ps ++ [⟨a, b, l, false⟩], 0) else (ps, 11)) else (ps, 1)
def dropS (ps : List Pk) (K : Int) : List Pk × Nat := match getK ps K with | none => (ps, 6) | some _ => (del ps K.toNat, 0)
def twiceS (ps : List Pk) (K : Int) : List Pk × Nat := match getK ps K with | none => (ps, 6) | some p => if ps.length < 4096 then (ps ++ [p], 0) else (ps, 11)
def takeS (n : Nat) (C : Cuts) (ps : List Pk) (K : Int) : List Pk × Nat × Pk := match getK ps K with | none => (ps, 6, zpk) | some p => if wholeB n C p.fr p.to = true then (del ps K.toNat, 0, p) else (del ps K.toNat, 13, zpk)
def spoilS (ps : List Pk) (K a : Int) (m : BitVec 32) : List Pk × Nat := match getK ps K with | none => (ps, 6) | some p => if p.sp = true then (ps, 12) else (ps.set K.toNat ⟨p.fr, p.to, slW.spo p.b a m 32, !decide (slW.spo p.b a m 32 = p.b)⟩, 0)
def cutS (n : Nat) (C : Cuts) (a b : Nat) : Cuts × Nat := if pairB n a b = true then (setC C (min a b) (max a b), 0) else (C, 1)
/-- the net behind a step -/
def Next (w : World) (B g bm n cnt : Nat) (lv : Value) (ps : List Pk) (C : Cuts) (w' : World) : Prop :=
  ∃ cnt' lv' ps1, cnt' ≤ cnt + 1 ∧ NetI w' B g bm n cnt' lv' ps1 C ∧ ps1.map pkOf = ps ∧ Keep B (Kn g bm lv) w w' ∧ Moved w lv lv'
section
variable {w w' : World} {B g bm n cnt : Nat} {lv : Value} {ps : List PkR} {C : Cuts}
theorem getK_no {K : Int} (h : getK (ps.map pkOf) K = none) : ¬ (0 ≤ K ∧ K < (ps.length : Int)) := by
  rintro ⟨h0, h1⟩
  unfold getK at h
  rw [if_pos h0, List.getElem?_eq_none_iff, List.length_map] at h
  omega
theorem getK_yes {K : Int} {p : Pk} (h : getK (ps.map pkOf) K = some p) : ∃ (k : Nat) (q : PkR), K = (k : Int) ∧ ps[k]? = some q ∧ pkOf q = p := by
  unfold getK at h
  by_cases h0 : 0 ≤ K
  · rw [if_pos h0, List.getElem?_map] at h
    obtain ⟨q, hq, e⟩ := Option.map_eq_some_iff.1 h
    exact ⟨K.toNat, q, by omega, hq, e⟩
  · rw [if_neg h0] at h
    cases h
theorem Next.same (h : NetI w B g bm n cnt lv ps C) : Next w B g bm n cnt lv (ps.map pkOf) C w := ⟨cnt, lv, ps, by omega, h, rfl, Keep.refl w, .inl rfl⟩
theorem Next.grew (h : NetI w B g bm n cnt lv ps C) (hg : Grow w w') : Next w B g bm n cnt lv (ps.map pkOf) C w' := ⟨cnt, lv, ps, by omega, h.grow hg, rfl, Keep.of hg h.base, .inl rfl⟩
theorem Next.box {w0 w3 : World} {ps' : List Pk} {C' : Cuts} (h0 : NetI w0 B g bm n cnt lv ps C) (hg : Grow w0 w) (h : Next w B g bm n cnt lv ps' C' w3) {r : Nat} {cs : List Value} (hr : Blk w r TK cs) (hr0 : w0.heap.size ≤ r) (l : Array Value) : Next w0 B g bm n cnt lv ps' C' (w3.setRow r l) := by
  obtain ⟨cnt', lv', ps1, hc, hn, hps, hk, hm⟩ := h
  have hkr : Kn g bm lv r := h0.lt hr0
  have hB : B ≤ r := Nat.le_trans h0.base hr0
  have hlv : lv'.ownBlock ≠ some r := by
    rcases hm with e | ⟨j, e, hj⟩
    · rw [e]; exact hkr.2.2
    · rw [e]
      intro he
      injection he with he
      have := hr.lt
      omega
  have hk0 : Keep B (Kn g bm lv) w0 w3 := (Keep.of hg h0.base).trans hk
  refine ⟨cnt', lv', ps1, hc, hn.box (hk.blk hr hkr) (by decide) ⟨hkr.1, hkr.2.1, hlv⟩ hB l, hps, ⟨below_setRow hk0.1 hB l, fun j hj hl => (setRow_other w3 r j l (by omega)).trans (hk0.2 j hj hl)⟩, ?_⟩
  rcases hm with e | ⟨j, e, hj⟩
  · exact .inl e
  · exact .inr ⟨j, e, Nat.le_trans hg.size hj⟩
theorem ret_tmp_blk {P : Program} {a : Go.Act} {w : World} {fn : Func} {R : Ending → World → Prop} {p q : Tmp} {ty : TypeId} (hf : fn.results = #[.tmp q, .cell p ty]) (g : Nat) (t : TypeId) (cs : List Value) (d : TypeDesc) (u : Value)
    (hp : a.tmps.getD p undef = .pointer (some ⟨g, 0, none⟩)) (hg : Blk w g t cs) (hu : P.underlying ty = some d) (hd : (match d with | .struct _ | .array _ _ => true | _ => false) = true) (hi : (P.info? ty).map (·.size) = some cs.length)
    (hq : a.tmps.getD q undef = u) (hde : a.defers = []) (hR : R (.returned (.tuple #[u, .agg cs.toArray])) w) : bodyPost P fn R .ret a w := by
  subst hq
  refine bodyPost_ret ?_ hde hR
  have hp' : a.tmps[p]?.getD undef = .pointer (some ⟨g, 0, none⟩) := by simpa using hp
  simp [results, hf, hp', asAddr, run_loadVar_row w g t ty cs.toArray (0, 0) d hg hu hd (by simpa using hi)]
theorem send_all (h : NetI w B g bm n cnt lv ps C) (fr to : Nat) (hfr : fr ≤ 255) (hto : to ≤ 255) (v : Value) (b : List UInt8) (hb : Sl w v b) (hbl : b.length ≤ 1000) :
    Calls Try.prog 8 #[.pointer (some ⟨g, 0, none⟩), .int .u8 (fr : Int), .int .u8 (to : Int), v] w fun e w' => e = .returned (.int .i64 ((sendS n (ps.map pkOf) fr to b).2 : Int)) ∧ Next w B g bm n cnt lv (sendS n (ps.map pkOf) fr to b).1 C w' := by
  unfold sendS
  by_cases hp : pairB n fr to = true
  · rw [if_pos hp, List.length_map]
    by_cases hl : ps.length < 4096
    · rw [if_pos hl]
      refine (send_any w B g bm n cnt lv ps C h fr to hfr hto v b hb hbl hp hl).mono ?_
      rintro e w' ⟨rfl, ⟨u, -, lv', hn, hm⟩, hk⟩
      exact ⟨rfl, cnt, lv', _, by omega, hn, by rw [List.map_append]; rfl, hk, hm⟩
    · rw [if_neg hl]
      refine (send_full w B g bm n cnt lv ps C h fr to hfr hto v b hb hp (by omega)).mono ?_
      rintro e w' ⟨rfl, hg⟩
      exact ⟨rfl, Next.grew h hg⟩
  · rw [if_neg hp]
    refine (send_no w B g bm n cnt lv ps C h fr to hfr hto v (by simpa using hp)).mono ?_
    rintro e w' ⟨rfl, hg⟩
    exact ⟨rfl, Next.grew h hg⟩
theorem map_del {α β : Type} (f : α → β) (l : List α) (k : Nat) : (del l k).map f = del (l.map f) k := by
  unfold del
  rw [List.map_append, List.map_take, List.map_drop]
theorem drop_all (h : NetI w B g bm n cnt lv ps C) (K : Int) :
    Calls Try.prog 12 #[.pointer (some ⟨g, 0, none⟩), .int .i64 K] w fun e w' => e = .returned (.int .i64 ((dropS (ps.map pkOf) K).2 : Int)) ∧ Next w B g bm n cnt lv (dropS (ps.map pkOf) K).1 C w' := by
  unfold dropS
  rcases hq : getK (ps.map pkOf) K with _ | p
  · refine (drop_no w B g bm n cnt lv ps C h K (getK_no hq)).mono ?_
    rintro e w' ⟨rfl, rfl⟩
    exact ⟨rfl, Next.same h⟩
  · obtain ⟨k, q, rfl, hk, -⟩ := getK_yes hq
    refine (drop_any w B g bm n cnt lv ps C h k (List.getElem?_eq_some_iff.1 hk).1).mono ?_
    rintro e w' ⟨rfl, ⟨lv', hn, ho⟩, hkp⟩
    exact ⟨rfl, cnt, lv', _, by omega, hn, map_del _ _ _, hkp, .inl ho⟩
theorem twice_all (h : NetI w B g bm n cnt lv ps C) (K : Int) :
    Calls Try.prog 10 #[.pointer (some ⟨g, 0, none⟩), .int .i64 K] w fun e w' => e = .returned (.int .i64 ((twiceS (ps.map pkOf) K).2 : Int)) ∧ Next w B g bm n cnt lv (twiceS (ps.map pkOf) K).1 C w' := by
  unfold twiceS
  rcases hq : getK (ps.map pkOf) K with _ | p
  · refine (twice_no w B g bm n cnt lv ps C h K (getK_no hq)).mono ?_
    rintro e w' ⟨rfl, rfl⟩
    exact ⟨rfl, Next.same h⟩
  · obtain ⟨k, q, rfl, hk, e1⟩ := getK_yes hq
    refine (twice_any w B g bm n cnt lv ps C h k q hk).mono ?_
    rintro e w' (⟨hl, rfl, hg⟩ | ⟨hl, rfl, ⟨u, -, lv', hn, hm⟩, hkp⟩)
    · dsimp only
      rw [if_neg (by rw [List.length_map]; omega)]
      exact ⟨rfl, Next.grew h hg⟩
    · dsimp only
      rw [if_pos (by rw [List.length_map]; omega)]
      exact ⟨rfl, cnt, lv', _, by omega, hn, by rw [List.map_append, ← e1]; rfl, hkp, hm⟩
theorem cut_all (h : NetI w B g bm n cnt lv ps C) (a b : Nat) (ha : a ≤ 255) (hb : b ≤ 255) (hcnt : cnt < 1000000) :
    Calls Try.prog 26 #[.pointer (some ⟨g, 0, none⟩), .int .u8 (a : Int), .int .u8 (b : Int)] w fun e w' => e = .returned (.int .i64 ((cutS n C a b).2 : Int)) ∧ Next w B g bm n cnt lv (ps.map pkOf) (cutS n C a b).1 w' := by
  unfold cutS
  by_cases hp : pairB n a b = true
  · rw [if_pos hp]
    refine (cut_any w B g bm n cnt lv ps C h a b ha hb hp hcnt).mono ?_
    rintro e w' ⟨rfl, hn, hk⟩
    exact ⟨rfl, cnt + 1, lv, ps, by omega, hn, rfl, hk, .inl rfl⟩
  · rw [if_neg hp]
    refine (cut_no w B g bm n cnt lv ps C h a b ha hb (by simpa using hp)).mono ?_
    rintro e w' ⟨rfl, rfl⟩
    exact ⟨rfl, Next.same h⟩
theorem spoil_all (h : NetI w B g bm n cnt lv ps C) (K a : Int) (m : BitVec 32) :
    Calls Try.prog 25 #[.pointer (some ⟨g, 0, none⟩), .int .i64 K, .int .i64 a, .int .u32 (m.toNat : Int)] w fun e w' => e = .returned (.int .i64 ((spoilS (ps.map pkOf) K a m).2 : Int)) ∧ Next w B g bm n cnt lv (spoilS (ps.map pkOf) K a m).1 C w' := by
  unfold spoilS
  rcases hq : getK (ps.map pkOf) K with _ | p
  · refine (spoil_no w B g bm n cnt lv ps C h K a m (getK_no hq)).mono ?_
    rintro e w' ⟨rfl, rfl⟩
    exact ⟨rfl, Next.same h⟩
  · obtain ⟨k, q, rfl, hk, rfl⟩ := getK_yes hq
    by_cases hs : q.sp = true
    · refine (spoil_state w B g bm n cnt lv ps C h k q hk hs a (m.toNat : Int)).mono ?_
      rintro e w' ⟨rfl, rfl⟩
      dsimp only
      rw [if_pos (show (pkOf q).sp = true from hs)]
      exact ⟨rfl, Next.same h⟩
    · refine (spoil_any w B g bm n cnt lv ps C h k q hk (by simpa using hs) a m).mono ?_
      rintro e w' ⟨rfl, ⟨u, hn⟩, hkp⟩
      dsimp only
      rw [if_neg (show ¬ (pkOf q).sp = true from hs)]
      exact ⟨rfl, cnt, lv, _, by omega, hn, by rw [List.map_set]; rfl, hkp, .inl rfl⟩
theorem heal_all (h : NetI w B g bm n cnt lv ps C) :
    Calls Try.prog 23 #[.pointer (some ⟨g, 0, none⟩)] w fun e w' => (∃ v, e = .returned v) ∧ Next w B g bm n cnt lv (ps.map pkOf) (fun _ _ => false) w' := by
  refine (heal_any w B g bm n cnt lv ps C h).mono ?_
  rintro e w' ⟨he, hn, hk⟩
  exact ⟨he, cnt, lv, ps, by omega, hn, rfl, hk, .inl rfl⟩
theorem take_all (h : NetI w B g bm n cnt lv ps C) (K : Int) :
    Calls Try.prog 24 #[.pointer (some ⟨g, 0, none⟩), .int .i64 K] w fun e w' => (∃ v, e = .returned (.tuple #[.agg #[.int .u8 ((takeS n C (ps.map pkOf) K).2.2.fr : Int), .int .u8 ((takeS n C (ps.map pkOf) K).2.2.to : Int), v, .bool (takeS n C (ps.map pkOf) K).2.2.sp], .int .i64 ((takeS n C (ps.map pkOf) K).2.1 : Int)]) ∧ BV w' v (takeS n C (ps.map pkOf) K).2.2.b) ∧
      Next w B g bm n cnt lv (takeS n C (ps.map pkOf) K).1 C w' := by
  unfold takeS
  rcases hq : getK (ps.map pkOf) K with _ | p
  · refine (take_no w B g bm n cnt lv ps C h K (getK_no hq)).mono ?_
    rintro e w' ⟨rfl, hg⟩
    exact ⟨⟨_, rfl, BV.nil w'⟩, Next.grew h hg⟩
  · obtain ⟨k, q, rfl, hk, rfl⟩ := getK_yes hq
    refine (take_any w B g bm n cnt lv ps C h k q hk).mono ?_
    rintro e w' ⟨(⟨hw, rfl⟩ | ⟨hw, v, rfl, hbv⟩), ⟨lv', hn, ho⟩, hkp⟩
    · dsimp only
      rw [if_neg (show ¬ wholeB n C (pkOf q).fr (pkOf q).to = true from by rw [show wholeB n C (pkOf q).fr (pkOf q).to = false from hw]; decide)]
      exact ⟨⟨_, rfl, BV.nil w'⟩, cnt, lv', _, by omega, hn, map_del _ _ _, hkp, .inl ho⟩
    · dsimp only
      rw [if_pos (show wholeB n C (pkOf q).fr (pkOf q).to = true from hw)]
      exact ⟨⟨v, rfl, hbv⟩, cnt, lv', _, by omega, hn, map_del _ _ _, hkp, .inl ho⟩
end
end Go.Proofs.Ytmekdhlcflielaa.ntL
