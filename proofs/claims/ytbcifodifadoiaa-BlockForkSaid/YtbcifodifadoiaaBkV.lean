/- Blocks as values; own rows of numbers and of blocks. -/
import Derived.Test.YtbcifodifadoiaaBk
import Derived.Test.YtbcifodifadoiaaReO
import Derived.Test.YtbcifodifadoiaaMkR
import Derived.Test.YtbcifodifadoiaaCut
namespace Go.Proofs.Ytbcifodifadoiaa.bk
open Go Go.RowKit Go.Par Go.Kit Go.Proofs.Ytbcifodifadoiaa.Bk

def iv (z : Int) : Value := .int .i64 z
theorem Row.iv_at {w : World} {A : Option Addr} {n : Nat} {l : List Int} (h : Row w A n (l.map iv)) {k : Nat} (hk : k < n) : ∃ b off z, A = some ⟨b, off, none⟩ ∧ l[k]? = some z ∧ w.cell? ⟨b, off + k, none⟩ = some (.int .i64 z) := by
  obtain ⟨b, off, u, e, hu, hc⟩ := h.at_ hk
  rw [List.getElem?_map, Option.map_eq_some_iff] at hu
  obtain ⟨z, hz, rfl⟩ := hu
  exact ⟨b, off, z, e, hz, hc⟩
theorem cell_lt {w : World} {b o : Nat} {u : Value} (h : w.cell? ⟨b, o, none⟩ = some u) : b < w.heap.size := by
  rcases Nat.lt_or_ge b w.heap.size with h2 | h2
  · exact h2
  · unfold World.cell? at h
    rw [Array.getElem?_eq_none h2] at h
    cases h
theorem Row.blt {w : World} {A : Option Addr} {n : Nat} {xs : List Value} (h : Row w A n xs) (hn : 0 < n) : ∀ ad, A = some ad → ad.block < w.heap.size := by
  intro ad e
  obtain ⟨b, off, e2, hc⟩ := h.2 hn
  rw [e2] at e
  injection e with e
  subst e
  exact cell_lt (hc 0 _ (List.getElem?_eq_getElem (by rw [h.1]; exact hn)))
theorem Row.move {w w' : World} {A : Option Addr} {n : Nat} {xs : List Value} (h : Row w A n xs) (hk : 0 < n → ∀ ad, A = some ad → w'.heap[ad.block]? = w.heap[ad.block]?) : Row w' A n xs := by
  refine ⟨h.1, fun hn => ?_⟩
  obtain ⟨b, off, e, hc⟩ := h.2 hn
  refine ⟨b, off, e, fun j u hu => ?_⟩
  rw [← hc j u hu]
  have h9 := hk hn ⟨b, off, none⟩ e
  exact World.cell?_of_block (w := w) (a := ⟨b, off + j, none⟩) h9
/-- the cells of a block -/
def qcells (q : T × Value) : List Value := [.int .i64 q.1.kind, .int .i64 q.1.n, q.2]
/-- a slice of blocks, that lies in blocks of memory of which P holds -/
inductive TsV (w : World) (P : Nat → Prop) : Value → List T → Prop
  | mk (A : Option Addr) (n c : Nat) (qs : List (T × Value)) (ts : List T) (he : ts = qs.map Prod.fst) (hc : n ≤ c) (hm : c ≤ maxLen) (hr : Go.Kit.Recs 3 qcells w A n qs) (hP : 0 < n → ∀ ad, A = some ad → P ad.block) (hs : ∀ q ∈ qs, TsV w P q.2 q.1.subs) : TsV w P (.slice A n c) ts
theorem TsV.nil (w : World) (P : Nat → Prop) : TsV w P (.slice none 0 0) [] := .mk none 0 0 [] [] rfl (Nat.le_refl _) (by decide) ⟨rfl, fun _ => rfl, Row.nil w none⟩ (fun h => absurd h (by omega)) (fun q hq => by cases hq)
theorem TsV.move {w w' : World} {P : Nat → Prop} {v : Value} {ts : List T} (h : TsV w P v ts) (hk : ∀ k, P k → k < w.heap.size → w'.heap[k]? = w.heap[k]?) : TsV w' P v ts := by
  induction h with
  | mk A n c qs ts he hc hm hr hP hs ih =>
    refine .mk A n c qs ts he hc hm ⟨hr.1, hr.2.1, Row.move hr.2.2 fun hn ad had => ?_⟩ hP ih
    exact hk _ (hP (by omega) ad had) (Row.blt hr.2.2 hn ad had)
theorem TsV.grow {w w' : World} {P : Nat → Prop} {v : Value} {ts : List T} (h : TsV w P v ts) (hg : Grow w w') : TsV w' P v ts := h.move fun _ _ hl => Below.block hg _ hl
theorem TsV.lt {w : World} {P : Nat → Prop} {v : Value} {ts : List T} (h : TsV w P v ts) : TsV w (fun k => P k ∧ k < w.heap.size) v ts := by
  induction h with
  | mk A n c qs ts he hc hm hr hP hs ih => exact .mk A n c qs ts he hc hm hr (fun hn ad had => ⟨hP hn ad had, Row.blt hr.2.2 (by omega) ad had⟩) ih
theorem TsV.imp {w : World} {P P' : Nat → Prop} {v : Value} {ts : List T} (h : TsV w P v ts) (hp : ∀ k, P k → P' k) : TsV w P' v ts := by
  induction h with
  | mk A n c qs ts he hc hm hr hP hs ih => exact .mk A n c qs ts he hc hm hr (fun hn ad had => hp _ (hP hn ad had)) ih
/-- what it is made of -/
theorem TsV.form {w : World} {P : Nat → Prop} {v : Value} {ts : List T} (h : TsV w P v ts) : ∃ A c qs, v = .slice A ts.length c ∧ ts = qs.map Prod.fst ∧ ts.length ≤ c ∧ c ≤ maxLen ∧ Go.Kit.Recs 3 qcells w A ts.length qs ∧ (0 < ts.length → ∀ ad, A = some ad → P ad.block) ∧ ∀ q ∈ qs, TsV w P q.2 q.1.subs := by
  cases h with
  | mk A n c qs _ he hc hm hr hP hs =>
    have e : ts.length = n := by rw [he, List.length_map]; exact hr.1
    rw [e]
    exact ⟨A, c, qs, rfl, he, hc, hm, hr, hP, hs⟩
/-- a row of blocks of the call's own, of type e, and what lies behind them -/
structure OwnT (w : World) (base : Nat) (e : TypeId) (v : Value) (n : Nat) (qs : List (T × Value)) : Prop where
  row : w.ownsRow base e 3 v n (qs.map qcells).flatten
  len : qs.length = n
  subs : ∀ q ∈ qs, TsV w (fun k => base ≤ k ∧ v.ownBlock ≠ some k) q.2 q.1.subs
theorem OwnT.nil (w : World) (base : Nat) (e : TypeId) : OwnT w base e (.slice none 0 0) 0 [] := ⟨World.ownsRow_nil _ _ _ _, rfl, fun q hq => by cases hq⟩
theorem OwnT.grow {w w' : World} {base : Nat} {e : TypeId} {v : Value} {n : Nat} {qs : List (T × Value)} (h : OwnT w base e v n qs) (hg : Grow w w') : OwnT w' base e v n qs := ⟨own_grow h.row hg, h.len, fun q hq => (h.subs q hq).grow hg⟩
theorem OwnT.tsV {w : World} {base : Nat} {e : TypeId} {v : Value} {n : Nat} {qs : List (T × Value)} (h : OwnT w base e v n qs) : TsV w (fun k => base ≤ k) v (qs.map Prod.fst) := by
  obtain ⟨A, c, rfl, h1, h2, h3⟩ := own_form h.row
  refine .mk A n c qs _ rfl h1 h2 ⟨h.len, fun _ => rfl, h3⟩ (fun hn ad had => ?_) fun q hq => (h.subs q hq).imp fun k hk => hk.1
  rcases h.row.2 with ⟨e1, e2⟩ | ⟨g', cap, cur, e1, hb, h5, -⟩
  · injection e1 with _ e1; omega
  · injection e1 with e1 _ _
    rw [had] at e1
    injection e1 with e1
    subst e1
    exact hb
/-- a block is appended -/
theorem OwnT.app {w w' : World} {base : Nat} {e : TypeId} {v v' : Value} {n : Nat} {qs : List (T × Value)} {q : T × Value} (h : OwnT w base e v n qs) {m : Nat} (hq : TsV w (fun k => m ≤ k) q.2 q.1.subs) (hb : base ≤ m) (hm : ∀ k, v.ownBlock = some k → k < m)
    (hg : w.grownBy w' v.ownBlock) (ho : w'.ownsRow base e 3 v' (n + 1) ((qs.map qcells).flatten ++ qcells q)) (hn : v'.ownBlock = v.ownBlock ∨ v'.ownBlock = some w.heap.size) : OwnT w' base e v' (n + 1) (qs ++ [q]) := by
  have key : ∀ {u : Value} {ts : List T}, TsV w (fun k => base ≤ k ∧ v.ownBlock ≠ some k) u ts → TsV w' (fun k => base ≤ k ∧ v'.ownBlock ≠ some k) u ts := fun {u ts} hu =>
    (hu.lt.imp (P' := fun k => (base ≤ k ∧ v'.ownBlock ≠ some k) ∧ v.ownBlock ≠ some k) (fun k hk => ⟨⟨hk.1.1, fun e1 => by
      rcases hn with hn | hn
      · rw [hn] at e1; exact hk.1.2 e1
      · rw [hn] at e1
        injection e1 with e1
        have := hk.2
        omega⟩, hk.1.2⟩)).move (fun k hk hl => hg.block k hl fun e1 => hk.2 e1.symm) |>.imp fun k hk => hk.1
  refine ⟨by rw [List.map_append, List.flatten_append]; simpa using ho, by rw [List.length_append, h.len]; rfl, fun x hx => ?_⟩
  rcases List.mem_append.1 hx with hx | hx
  · exact key (h.subs x hx)
  · rw [List.mem_singleton.1 hx]
    exact key (hq.imp fun k hk => ⟨Nat.le_trans hb hk, fun e1 => by have := hm k e1; omega⟩)
/-- numbers of the call's own -/
def OwnI (w : World) (base : Nat) (v : Value) (l : List Int) : Prop := w.ownsRow base 3 1 v l.length (l.map iv)
theorem OwnI.grow {w w' : World} {base : Nat} {v : Value} {l : List Int} (h : OwnI w base v l) (hg : Grow w w') : OwnI w' base v l := own_grow h hg
theorem OwnI.nil (w : World) (base : Nat) : OwnI w base (.slice none 0 0) [] := World.ownsRow_nil _ _ _ _
theorem OwnI.form {w : World} {base : Nat} {v : Value} {l : List Int} (h : OwnI w base v l) : ∃ A c, v = .slice A l.length c ∧ l.length ≤ c ∧ c ≤ maxLen ∧ Row w A l.length (l.map iv) := by
  obtain ⟨A, c, e, h1, h2, h3⟩ := own_form h
  rw [Nat.mul_one] at h3
  exact ⟨A, c, e, h1, h2, h3⟩
theorem OwnI.next {w' : World} {base : Nat} {v' : Value} {l m : List Int} {k : Nat} (hk : k = l.length + m.length) (h : w'.ownsRow base 3 1 v' k (l.map iv ++ m.map iv)) : OwnI w' base v' (l ++ m) := by
  unfold OwnI
  rw [List.map_append, List.length_append, ← hk]; exact h
end Go.Proofs.Ytbcifodifadoiaa.bk
