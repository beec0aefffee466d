/- The state of a net; the walks that only read it. -/
import Derived.Test.YtmekdhlcflielaaNtD
import Derived.Test.YtmekdhlcflielaaMpA
import Derived.Test.YtmekdhlcflielaaClone
import Derived.Test.YtmekdhlcflielaaFast
namespace Go.Proofs.Ytmekdhlcflielaa.nt
open Go Go.RowKit Go.Par Go.Kit Go.Proofs.Ytmekdhlcflielaa.mpA Go.Proofs.Ytmekdhlcflielaa.cl

abbrev TN : TypeId := 65
theorem results_cell_tmp {P : Program} {fn : Func} {p q : Tmp} {ty : TypeId} (h : fn.results = #[.cell p ty, .tmp q]) (tmps : Array Value) (w : World) (g : Nat) (t : TypeId) (cs : Array Value) (fr : Nat × Nat) (d : TypeDesc)
    (hp : tmps.getD p undef = .pointer (some ⟨g, 0, none⟩)) (hg : w.heap[g]? = some (.cells cs t fr))
    (hu : P.underlying ty = some d) (hd : (match d with | .struct _ | .array _ _ => true | _ => false) = true) (hi : (P.info? ty).map (·.size) = some cs.size) :
    (results fn tmps).run P w = .ok (.tuple #[.agg cs, tmps.getD q undef]) w := by
  have hp' : tmps[p]?.getD undef = .pointer (some ⟨g, 0, none⟩) := by simpa using hp
  simp [results, h, hp', asAddr, run_loadVar_row w g t ty cs fr d hg hu hd hi]
theorem ret_blk_tmp {P : Program} {a : Act} {w : World} {fn : Func} {R : Ending → World → Prop} {p q : Tmp} {ty : TypeId} (hf : fn.results = #[.cell p ty, .tmp q]) (g : Nat) (t : TypeId) (cs : List Value) (d : TypeDesc) (u : Value)
    (hp : a.tmps.getD p undef = .pointer (some ⟨g, 0, none⟩)) (hg : Blk w g t cs) (hu : P.underlying ty = some d) (hd : (match d with | .struct _ | .array _ _ => true | _ => false) = true) (hi : (P.info? ty).map (·.size) = some cs.length)
    (hq : a.tmps.getD q undef = u) (hde : a.defers = []) (hR : R (.returned (.tuple #[.agg cs.toArray, u])) w) : bodyPost P fn R .ret a w := by
  subst hq
  exact bodyPost_ret (results_cell_tmp hf a.tmps w g t cs.toArray (0, 0) d hp hg hu hd (by simpa using hi)) hde hR
theorem Blk.ty_eq {w : World} {g : Nat} {t t' : TypeId} {cs cs' : List Value} (h : Blk w g t cs) (h' : Blk w g t' cs') : t = t' := by
  unfold Blk at h h'
  rw [h] at h'
  injection h' with h'
  injection h'
/-- a slice of bytes, in a block of bytes -/
def BV (w : World) (v : Value) (l : List UInt8) : Prop := ∃ A c, v = .slice A l.length c ∧ l.length ≤ c ∧ c ≤ maxLen ∧ Bytes w A l.length l ∧ (0 < l.length → ∀ ad, A = some ad → ∃ cs, Blk w ad.block 5 cs)
section
variable {w w' : World} {v : Value} {l : List UInt8}
theorem BV.grow (h : BV w v l) (hg : Grow w w') : BV w' v l :=
  let ⟨A, c, e, h1, h2, h3, h4⟩ := h; ⟨A, c, e, h1, h2, h3.grow hg, fun h0 ad had => let ⟨cs, hb⟩ := h4 h0 ad had; ⟨cs, hb.grow hg⟩⟩
theorem BV.one (h : BV w v l) : v.oneCell' = true := by
  obtain ⟨A, c, rfl, -⟩ := h
  rfl
theorem BV.nil (w : World) : BV w (.slice none 0 0) [] := ⟨none, 0, rfl, Nat.le_refl _, Nat.zero_le _, Row.nil w none, fun h => absurd h (by simp)⟩
theorem BV.own {base : Nat} (h : w.ownsRow base 5 1 v l.length (u8s l)) : BV w v l := by
  obtain ⟨A, c, rfl, h1, h2, h3⟩ := own_form h
  rw [Nat.mul_one] at h3
  refine ⟨A, c, rfl, h1, h2, h3, fun h0 ad had => ?_⟩
  obtain ⟨g, cap, cur, e, -, hb, -⟩ := own_open h h0
  injection e with e _ _
  rw [had] at e
  injection e with e
  subst e
  exact ⟨cur, hb⟩
theorem BV.keep {B : Nat} {K : Nat → Prop} (h : BV w v l) (hk : Keep B K w w') (hK : ∀ g cs, Blk w g 5 cs → K g) : BV w' v l := by
  obtain ⟨A, c, e, h1, h2, h3, h4⟩ := h
  refine ⟨A, c, e, h1, h2, ⟨h3.1, fun h0 => ?_⟩, fun h0 ad had => ?_⟩
  · obtain ⟨b, off, eA, hc⟩ := h3.2 h0
    obtain ⟨cs, hb⟩ := h4 h0 _ eA
    refine ⟨b, off, eA, fun j u hu => ?_⟩
    have h9 := hc j u hu
    have hb' := hk.blk hb (hK _ _ hb)
    unfold Blk at hb hb'
    simp only [World.cell?, hb, hb'] at h9 ⊢
    exact h9
  · obtain ⟨cs, hb⟩ := h4 h0 ad had
    exact ⟨cs, hk.blk hb (hK _ _ hb)⟩
theorem BV.bytes (h : BV w v l) : ∃ A c, v = .slice A l.length c ∧ l.length ≤ c ∧ c ≤ maxLen ∧ Bytes w A l.length l :=
  let ⟨A, c, e, h1, h2, h3, _⟩ := h; ⟨A, c, e, h1, h2, h3⟩
end
structure PkOk (w : World) (p : PkR) : Prop where
  b : BV w p.v p.b
  fr : p.fr ≤ 255
  to : p.to ≤ 255
  len : p.b.length ≤ 1000
/-- A net of n nodes: what is under way, and what is cut. -/
structure NetI (w : World) (B g bm n cnt : Nat) (lv : Value) (ps : List PkR) (C : Nat → Nat → Bool) : Prop where
  bx : Blk w g TN [.int .i64 (n : Int), lv, .map (some bm)]
  own : w.ownsRow B TK 4 lv ps.length (krows ps)
  mp : MapC w bm cnt C
  ok : ∀ p ∈ ps, PkOk w p
  gB : B ≤ g
  bB : B ≤ bm
  n64 : n ≤ 64
  len : ps.length ≤ 4096
/-- what is not the net's -/
def Kn (g bm : Nat) (lv : Value) (j : Nat) : Prop := j ≠ g ∧ j ≠ bm ∧ lv.ownBlock ≠ some j
section
variable {w w' : World} {B g bm n cnt : Nat} {lv : Value} {ps : List PkR} {C : Nat → Nat → Bool}
theorem NetI.grow (h : NetI w B g bm n cnt lv ps C) (hg : Grow w w') : NetI w' B g bm n cnt lv ps C :=
  ⟨h.bx.grow hg, own_grow h.own hg, h.mp.grow hg, fun p hp => let ⟨a, b, c, d⟩ := h.ok p hp; ⟨a.grow hg, b, c, d⟩, h.gB, h.bB, h.n64, h.len⟩
theorem NetI.one (h : NetI w B g bm n cnt lv ps C) : OneV ps := fun p hp => (h.ok p hp).b.one
theorem own_blkK {base m : Nat} {v : Value} {xs : List Value} (h : w.ownsRow base TK 4 v m xs) {k : Nat} (hk : v.ownBlock = some k) : ∃ cs, Blk w k TK cs := by
  rcases h.2 with ⟨e, -⟩ | ⟨g', cap, cur, e, -, h5, -⟩
  · rw [e] at hk; cases hk
  · rw [e] at hk
    injection hk with hk
    subst hk
    exact ⟨cur.toList, by unfold Blk; rw [h5]⟩
/-- a block of another type is not the net's -/
theorem NetI.off (h : NetI w B g bm n cnt lv ps C) {j : Nat} {t : TypeId} {cs : List Value} (hb : Blk w j t cs) (h1 : t ≠ TN) (h2 : t ≠ TK) : Kn g bm lv j := by
  refine ⟨fun e => h1 (Blk.ty_eq hb (e ▸ h.bx)), h.mp.not_blk hb, fun e => ?_⟩
  obtain ⟨cs', hb'⟩ := own_blkK h.own e
  exact h2 (Blk.ty_eq hb hb')
/-- a block that came after it is not the net's -/
theorem NetI.lt (h : NetI w B g bm n cnt lv ps C) {j : Nat} (hj : w.heap.size ≤ j) : Kn g bm lv j := by
  refine ⟨fun e => ?_, fun e => ?_, fun e => ?_⟩
  · have := h.bx.lt; omega
  · have := h.mp.lt; omega
  · have := (h.own.lt j e).2; omega
theorem NetI.at_ (h : NetI w B g bm n cnt lv ps C) {k : Nat} {p : PkR} (hp : ps[k]? = some p) : ∃ A c, lv = .slice A ps.length c ∧ ∃ b, A = some ⟨b, 0, none⟩ ∧ ∀ i u, (krow p)[i]? = some u → w.cell? ⟨b, k * 4 + i, none⟩ = some u := by
  have hk := (List.getElem?_eq_some_iff.1 hp).1
  obtain ⟨b, cap, cur, e, -, hblk, -, -, hcl, hct⟩ := own_open h.own (by omega)
  refine ⟨_, cap, e, b, rfl, fun i u hu => hblk.cell ?_⟩
  have hi : i < 4 := by have := (List.getElem?_eq_some_iff.1 hu).1; simpa [krow] using this
  have h1 : (krows ps)[k * 4 + i]? = some u := by
    have := krows_drop ps k
    have h2 : ((krows ps).drop (k * 4))[i]? = some u := by
      rw [this, List.drop_eq_getElem_cons hk]
      rw [List.getElem?_eq_getElem hk] at hp
      injection hp with hp
      rw [hp]
      show ((krow p) ++ krows (ps.drop (k + 1)))[i]? = some u
      rw [List.getElem?_append_left (by simp [krow]; exact hi)]
      exact hu
    rwa [List.getElem?_drop] at h2
  rw [← hct, List.getElem?_take_of_lt (by omega)] at h1
  exact h1
end
/-! pair, Len, find -/
def pairB (n a b : Nat) : Bool := decide (1 ≤ a) && (decide (1 ≤ b) && (decide (a ≤ n) && (decide (b ≤ n) && (a != b))))
theorem pair_nil (w : World) (a b : Nat) : Calls Try.prog 27 #[.pointer none, .int .u8 (a : Int), .int .u8 (b : Int)] w fun e w' => e = .returned (.bool false) ∧ w = w' := by
  go_enter Try.func27, Try.ntmps27
  go_wp2_with fail
  go_ret
  exact ⟨rfl, rfl⟩
set_option maxRecDepth 100000 in
set_option maxHeartbeats 4000000 in
theorem pair_any (w : World) (B g bm n cnt : Nat) (lv : Value) (ps : List PkR) (C : Nat → Nat → Bool) (h : NetI w B g bm n cnt lv ps C) (a b : Nat) (ha : a ≤ 255) (hb : b ≤ 255) :
    Calls Try.prog 27 #[.pointer (some ⟨g, 0, none⟩), .int .u8 (a : Int), .int .u8 (b : Int)] w fun e w' => e = .returned (.bool (pairB n a b)) ∧ w = w' := by
  have x0 := h.bx.cell (i := 0) rfl
  obtain ⟨r, hr⟩ : ∃ r, r = pairB n a b := ⟨_, rfl⟩
  rw [← hr]
  have HR := Lib.hid hr
  clear h hr
  by_cases h1 : 1 ≤ a
  · have t1 : decide (1 ≤ a) = true := decide_eq_true h1
    have t1' : decide ((1 : Int) ≤ (a : Int)) = true := decide_eq_true (by omega)
    by_cases h2 : 1 ≤ b
    · have t2 : decide (1 ≤ b) = true := decide_eq_true h2
      have t2' : decide ((1 : Int) ≤ (b : Int)) = true := decide_eq_true (by omega)
      by_cases h3 : a ≤ n
      · have t3 : decide (a ≤ n) = true := decide_eq_true h3
        have t3' : decide ((a : Int) ≤ (n : Int)) = true := decide_eq_true (by omega)
        by_cases h4 : b ≤ n
        · have t4 : decide (b ≤ n) = true := decide_eq_true h4
          have t4' : decide ((b : Int) ≤ (n : Int)) = true := decide_eq_true (by omega)
          obtain ⟨q, hq⟩ : ∃ q, q = (a != b) := ⟨_, rfl⟩
          have t5 : ((a : Int) != (b : Int)) = q := by rw [hq, Bool.eq_iff_iff]; simp only [bne_iff_ne]; omega
          have HE : Hid (r = q) := Lib.hid (by rw [HR.out]; unfold pairB; rw [t1, t2, t3, t4, hq]; rfl)
          have t6 := hq.symm
          clear h1 h2 h3 h4 hq
          go_enter Try.func27, Try.ntmps27
          go_wp2_with fail
          go_ret
          exact ⟨by rw [HE.out]; rfl, rfl⟩
        · have t4 : decide (b ≤ n) = false := decide_eq_false h4
          have t4' : decide ((b : Int) ≤ (n : Int)) = false := decide_eq_false (by omega)
          have HE : Hid (r = false) := Lib.hid (by rw [HR.out]; unfold pairB; rw [t1, t2, t3, t4]; rfl)
          clear h1 h2 h3 h4
          go_enter Try.func27, Try.ntmps27
          go_wp2_with fail
          go_ret
          exact ⟨by rw [HE.out]; rfl, rfl⟩
      · have t3 : decide (a ≤ n) = false := decide_eq_false h3
        have t3' : decide ((a : Int) ≤ (n : Int)) = false := decide_eq_false (by omega)
        have HE : Hid (r = false) := Lib.hid (by rw [HR.out]; unfold pairB; rw [t1, t2, t3]; rfl)
        clear h1 h2 h3
        go_enter Try.func27, Try.ntmps27
        go_wp2_with fail
        go_ret
        exact ⟨by rw [HE.out]; rfl, rfl⟩
    · have t2 : decide (1 ≤ b) = false := decide_eq_false h2
      have t2' : decide ((1 : Int) ≤ (b : Int)) = false := decide_eq_false (by omega)
      have HE : Hid (r = false) := Lib.hid (by rw [HR.out]; unfold pairB; rw [t1, t2]; rfl)
      clear h1 h2
      go_enter Try.func27, Try.ntmps27
      go_wp2_with fail
      go_ret
      exact ⟨by rw [HE.out]; rfl, rfl⟩
  · have t1 : decide (1 ≤ a) = false := decide_eq_false h1
    have t1' : decide ((1 : Int) ≤ (a : Int)) = false := decide_eq_false (by omega)
    have HE : Hid (r = false) := Lib.hid (by rw [HR.out]; unfold pairB; rw [t1]; rfl)
    clear h1
    go_enter Try.func27, Try.ntmps27
    go_wp2_with fail
    go_ret
    exact ⟨by rw [HE.out]; rfl, rfl⟩
theorem len_nil (w : World) : Calls Try.prog 9 #[.pointer none] w fun e w' => e = .returned (.int .i64 0) ∧ w = w' := by
  go_enter Try.func9, Try.ntmps9
  go_wp2_with fail
  go_ret
  exact ⟨rfl, rfl⟩
theorem len_any (w : World) (B g bm n cnt : Nat) (lv : Value) (ps : List PkR) (C : Nat → Nat → Bool) (h : NetI w B g bm n cnt lv ps C) :
    Calls Try.prog 9 #[.pointer (some ⟨g, 0, none⟩)] w fun e w' => e = .returned (.int .i64 (ps.length : Int)) ∧ w = w' := by
  have x1 := h.bx.cell (i := 1) rfl
  obtain ⟨A, c, rfl, -⟩ := own_form h.own
  obtain ⟨l, hl⟩ : ∃ l, l = ps.length := ⟨_, rfl⟩
  rw [← hl] at x1 ⊢
  clear h hl
  go_enter Try.func9, Try.ntmps9
  go_wp2_with fail
  go_ret
  exact ⟨rfl, rfl⟩
def findN (len : Nat) (k : Int) : Nat := if 0 ≤ k ∧ k < (len : Int) then 0 else 6
theorem find_nil (w : World) (k : Int) : Calls Try.prog 29 #[.pointer none, .int .i64 k] w fun e w' => e = .returned (.int .i64 1) ∧ w = w' := by
  go_enter Try.func29, Try.ntmps29
  go_wp2_with fail
  go_ret
  exact ⟨rfl, rfl⟩
theorem find_any (w : World) (B g bm n cnt : Nat) (lv : Value) (ps : List PkR) (C : Nat → Nat → Bool) (h : NetI w B g bm n cnt lv ps C) (k : Int) :
    Calls Try.prog 29 #[.pointer (some ⟨g, 0, none⟩), .int .i64 k] w fun e w' => e = .returned (.int .i64 (findN ps.length k : Int)) ∧ w = w' := by
  have x1 := h.bx.cell (i := 1) rfl
  obtain ⟨A, c, rfl, -⟩ := own_form h.own
  obtain ⟨l, hl⟩ : ∃ l, l = ps.length := ⟨_, rfl⟩
  rw [← hl] at x1 ⊢
  clear h hl
  by_cases h1 : k < 0
  · have t1 : decide (k < 0) = true := decide_eq_true h1
    rw [show findN l k = 6 by unfold findN; rw [if_neg (by omega)]]
    clear h1
    go_enter Try.func29, Try.ntmps29
    go_wp2_with fail
    go_ret
    exact ⟨rfl, rfl⟩
  · have t1 : decide (k < 0) = false := decide_eq_false h1
    obtain ⟨k, rfl⟩ := Int.eq_ofNat_of_zero_le (show 0 ≤ k by omega)
    by_cases h2 : l ≤ k
    · have t2 : decide (l ≤ k) = true := decide_eq_true h2
      have t2' : decide ((l : Int) ≤ (k : Int)) = true := decide_eq_true (by omega)
      rw [show findN l (k : Int) = 6 by unfold findN; rw [if_neg (by omega)]]
      clear h1 h2
      go_enter Try.func29, Try.ntmps29
      go_wp2_with fail
      go_ret
      exact ⟨rfl, rfl⟩
    · have t2 : decide (l ≤ k) = false := decide_eq_false h2
      have t2' : decide ((l : Int) ≤ (k : Int)) = false := decide_eq_false (by omega)
      rw [show findN l (k : Int) = 0 by unfold findN; rw [if_pos (by omega)]]
      clear h1 h2
      go_enter Try.func29, Try.ntmps29
      go_wp2_with fail
      go_ret
      exact ⟨rfl, rfl⟩
end Go.Proofs.Ytmekdhlcflielaa.nt
