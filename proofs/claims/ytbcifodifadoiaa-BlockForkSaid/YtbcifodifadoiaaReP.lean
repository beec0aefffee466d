/- The plain law of steps, as they come one by one; a relation closed in place. -/
import Derived.Test.YtbcifodifadoiaaReS
import Derived.Test.YtbcifodifadoiaaMkL
namespace Go.Proofs.Ytbcifodifadoiaa.reW
open Go Go.RowKit Go.Par Go.Kit Go.Proofs.Ytbcifodifadoiaa.Mk Go.Proofs.Ytbcifodifadoiaa.mkW Go.Proofs.Ytbcifodifadoiaa.Re Go.Proofs.Ytbcifodifadoiaa.mkR

def valid (n : Nat) (p : Int × Int) : Bool := (decide (0 ≤ p.1) && decide (p.1 < (n : Int))) && (decide (0 ≤ p.2) && decide (p.2 < (n : Int)))
/-- the steps that count -/
def vp (n : Nat) (xs : List (Int × Int)) : List (Nat × Nat) := (xs.filter (valid n)).map fun p => (p.1.toNat, p.2.toNat)
theorem vp_lt {n : Nat} {xs : List (Int × Int)} {i j : Nat} (h : (i, j) ∈ vp n xs) : i < n ∧ j < n := by
  unfold vp at h
  obtain ⟨p, hp, e⟩ := List.mem_map.1 h
  have hv := (List.mem_filter.1 hp).2
  simp only [valid, Bool.and_eq_true, decide_eq_true_eq] at hv
  injection e with e1 e2
  omega
theorem vp_yes {n : Nat} {xs : List (Int × Int)} {k : Nat} {x : Int × Int} (h : xs[k]? = some x) (hv : valid n x = true) : vp n (xs.take (k + 1)) = vp n (xs.take k) ++ [(x.1.toNat, x.2.toNat)] := by
  unfold vp
  rw [List.take_add_one, h, List.filter_append, List.map_append]
  simp [hv]
theorem vp_no {n : Nat} {xs : List (Int × Int)} {k : Nat} {x : Int × Int} (h : xs[k]? = some x) (hv : valid n x = false) : vp n (xs.take (k + 1)) = vp n (xs.take k) := by
  unfold vp
  rw [List.take_add_one, h, List.filter_append, List.map_append]
  simp [hv]
theorem srcs_snoc (L : List (Nat × Nat)) (p : Nat × Nat) : srcs (L ++ [p]) = addB (srcs L) p.1 := by
  unfold srcs
  rw [List.foldl_append]; rfl
theorem initR_snoc {n : Nat} (L : List (Nat × Nat)) (a b : Nat) (hb : b < n) : initR (L ++ [(a, b)]) = upd (initR L) a (putS n (initR L a) (b : Int)) := by
  funext i j
  unfold upd putS
  rw [fitB_of ⟨by omega, by omega⟩, if_pos rfl, Int.toNat_natCast]
  by_cases hi : i = a
  · subst hi
    rw [if_pos rfl]
    unfold initR ins
    rw [Bool.eq_iff_iff]
    simp
  · rw [if_neg hi]
    unfold initR
    rw [Bool.eq_iff_iff]
    simp [hi]
theorem addB_in {o : List Nat} {j : Nat} (h : j ∈ o) : addB o j = o := by unfold addB; rw [if_pos (List.contains_iff_mem.2 h)]
theorem addB_new {o : List Nat} {j : Nat} (h : j ∉ o) : addB o j = o ++ [j] := by unfold addB; rw [if_neg (fun e => h (List.contains_iff_mem.1 e))]
/-- one thing's row, closed over k -/
def rowK (R : Nat → Nat → Bool) (k i : Nat) : Nat → Nat → Bool := upd R i fun j => R i j || (R i k && R k j)
theorem rowK_row {R : Nat → Nat → Bool} {k i : Nat} : rowK R k i k = R k := by
  funext j
  unfold rowK upd
  by_cases h : k = i
  · subst h
    rw [if_pos rfl]
    cases R k k <;> cases R k j <;> rfl
  · rw [if_neg h]
theorem rowK_col {R : Nat → Nat → Bool} {k i x : Nat} : rowK R k i x k = R x k := by
  unfold rowK upd
  by_cases h : x = i
  · subst h
    rw [if_pos rfl]
    show (R x k || (R x k && R k k)) = _
    cases R x k <;> cases R k k <;> rfl
  · rw [if_neg h]
theorem inner_fold : ∀ (l : List Nat) (R : Nat → Nat → Bool) (k : Nat), l.Nodup → l.foldl (fun R i => rowK R k i) R = fun i j => if i ∈ l then R i j || (R i k && R k j) else R i j
  | [], R, k, _ => by funext i j; simp
  | a :: l, R, k, h => by
    obtain ⟨h1, h2⟩ := List.nodup_cons.1 h
    rw [List.foldl_cons, inner_fold l (rowK R k a) k h2]
    funext i j
    by_cases hi : i ∈ l
    · have hia : i ≠ a := fun e => h1 (by rw [← e]; exact hi)
      rw [if_pos hi, if_pos (List.mem_cons_of_mem _ hi), rowK_col, rowK_row]
      unfold rowK upd
      rw [if_neg hia]
    · rw [if_neg hi]
      by_cases hia : i = a
      · subst hia
        rw [if_pos List.mem_cons_self]
        unfold rowK upd
        rw [if_pos rfl]
      · rw [if_neg (fun e => by rcases List.mem_cons.1 e with e | e; exact hia e; exact hi e)]
        unfold rowK upd
        rw [if_neg hia]
theorem inner_close {l : List Nat} {R : Nat → Nat → Bool} {k : Nat} (h : l.Nodup) (hoff : ∀ i, i ∉ l → ∀ j, R i j = false) : l.foldl (fun R i => rowK R k i) R = closeK R k := by
  rw [inner_fold l R k h]
  funext i j
  unfold closeK
  by_cases hi : i ∈ l
  · rw [if_pos hi]
  · rw [if_neg hi, hoff i hi, hoff i hi]; rfl
theorem take_fold {α β : Type} (f : β → α → β) (b : β) {l : List α} {k : Nat} {x : α} (h : l[k]? = some x) : (l.take (k + 1)).foldl f b = f ((l.take k).foldl f b) x := by
  rw [List.take_add_one, h, List.foldl_append]; rfl
theorem rowK_no {R : Nat → Nat → Bool} {k i : Nat} (h : R i k = false) : rowK R k i = R := by
  funext x j
  unfold rowK upd
  by_cases hx : x = i
  · subst hx
    rw [if_pos rfl, h]; simp
  · rw [if_neg hx]
theorem rowK_uni {R : Nat → Nat → Bool} {k i n : Nat} (h : R i k = true) (hb : ∀ j, R k j = true → j < n) : rowK R k i = upd R i (uni (R i) (R k) n) := by
  unfold rowK
  congr 1
  funext j
  unfold uni
  rw [h, Bool.true_and]
  cases hk : R k j with
  | false => rfl
  | true => rw [decide_eq_true (hb j hk)]; rfl
theorem RI.orC {w0 w : World} {gr bm n : Nat} {fs : List Nat} {R : Nat → Nat → Bool} {v6 : Value} {F : Int → Option Nat} {gk hk : Nat → Nat} (h : RI w0 gr bm n fs R v6 F gk hk w) {y q : Nat} (hy : y ∈ fs) (hq : q ∈ fs) :
    Calls Try.prog 26 #[.pointer (some ⟨gk y, 0, none⟩), .pointer (some ⟨gk q, 0, none⟩)] w fun e w' => (∃ r, e = .returned (.bool r)) ∧ MS w' (gk y) (some (hk y)) n (uni (R y) (R q) n) ∧ Keep w0.heap.size (fun j => j ≠ gk y ∧ j ≠ hk y) w w' := by
  obtain ⟨-, b1, b2, m1⟩ := h.st.at_ y hy
  obtain ⟨-, -, -, m2⟩ := h.st.at_ q hq
  have hf : Free w0.heap.size (fun j => j ≠ gk y ∧ j ≠ hk y) (gk y) (some (hk y)) := mkL.free_of b1 (fun h => h.1 rfl) (fun k hk => by injection hk with hk; subst hk; exact ⟨b2, fun h => h.2 rfl⟩)
  by_cases e : q = y
  · subst e
    exact (or_self m1 hf h.g.size).mono fun e w' ⟨h1, h2⟩ => ⟨⟨_, h1⟩, h2⟩
  · obtain ⟨c1, c2, hb1, hb2⟩ := msBox m1
    obtain ⟨c3, c4, hb3, hb4⟩ := msBox m2
    obtain ⟨n1, n2⟩ := h.st.apart q hq y hy e
    exact (or_two m1 hf h.g.size m2 (.inr ⟨n1, fun e => absurd (Blk.ty_eq hb3 (by rw [e]; exact hb2)) (by decide)⟩) (fun k hk => by
      injection hk with hk
      subst hk
      exact .inr ⟨fun e => absurd (Blk.ty_eq hb4 (by rw [e]; exact hb1)) (by decide), n2⟩)).mono fun e w' ⟨h1, h2⟩ => ⟨⟨_, h1⟩, h2⟩
theorem RI.row {w0 w : World} {gr bm n : Nat} {fs : List Nat} {R : Nat → Nat → Bool} {A : Option Addr} {c : Nat} {F : Int → Option Nat} {gk hk : Nat → Nat} {l : Nat} (h : RI w0 gr bm n fs R (.slice A l c) F gk hk w) : Row w A fs.length (fs.map nv) := by
  obtain ⟨A', c', e, -, -, h1⟩ := own_form h.own
  injection e with e1 e2 e3
  subst e1
  rw [Nat.mul_one] at h1
  exact h1
theorem RI.look {w0 w w' : World} {gr bm n : Nat} {fs : List Nat} {R : Nat → Nat → Bool} {v6 : Value} {F : Int → Option Nat} {gk hk : Nat → Nat} (h : RI w0 gr bm n fs R v6 F gk hk w) {y : Nat} (hy : y ∈ fs) (hg : Grow w w') (hy2 : y ≤ 65536) :
    (Instr.lookup TM (.map (some bm)) (.int .i64 (y : Int)) false).run Try.prog w' = .ok (.pointer (some ⟨gk y, 0, none⟩)) w' := by
  obtain ⟨cnt, -, hmp⟩ := h.mp
  have := LookP.run (.inl ⟨bm, cnt, rfl, hmp.grow hg⟩) (i := (y : Int)) (by omega) (by omega)
  rw [(h.st.at_ y hy).1] at this
  exact this
end Go.Proofs.Ytbcifodifadoiaa.reW
