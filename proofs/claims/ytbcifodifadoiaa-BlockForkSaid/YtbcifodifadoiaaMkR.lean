/- The walks of the document's sets: New, Has, Next, Within. -/
import Derived.Test.YtbcifodifadoiaaMkL
import Derived.Test.YtbcifodifadoiaaMut
namespace Go.Proofs.Ytbcifodifadoiaa.mkR
open Go Go.RowKit Go.Par Go.Kit Go.Proofs.Ytbcifodifadoiaa.Mk Go.Proofs.Ytbcifodifadoiaa.mkW

theorem results_cell_tmp {P : Program} {fn : Func} {p q : Tmp} {ty : TypeId} (h : fn.results = #[.cell p ty, .tmp q]) (tmps : Array Value) (w : World) (g : Nat) (t : TypeId) (cs : Array Value) (fr : Nat × Nat) (d : TypeDesc)
    (hp : tmps.getD p undef = .pointer (some ⟨g, 0, none⟩)) (hg : w.heap[g]? = some (.cells cs t fr))
    (hu : P.underlying ty = some d) (hd : (match d with | .struct _ | .array _ _ => true | _ => false) = true) (hi : (P.info? ty).map (·.size) = some cs.size) :
    (results fn tmps).run P w = .ok (.tuple #[.agg cs, tmps.getD q undef]) w := by
  have hp' : tmps[p]?.getD undef = .pointer (some ⟨g, 0, none⟩) := by simpa using hp
  simp [results, h, hp', asAddr, run_loadVar_row w g t ty cs fr d hg hu hd hi]
/-- a value that is a slice of these numbers -/
def IntsV (w : World) (v : Value) (L : List Nat) : Prop := ∃ A c, v = .slice A L.length c ∧ L.length ≤ c ∧ c ≤ maxLen ∧ Row w A L.length (L.map nv) ∧ (0 < L.length → ∀ ad, A = some ad → ∃ cs, Blk w ad.block 3 cs)
theorem Blk.back {w w' : World} {g : Nat} {t : TypeId} {cs : List Value} (hg : Grow w w') (h : Blk w' g t cs) (hlt : g < w.heap.size) : Blk w g t cs := by
  have h1 : w.heap[g]? = some w.heap[g] := Array.getElem?_eq_getElem hlt
  have h2 := hg.block h1
  unfold Blk at h ⊢
  rw [h1, ← h2, h]
theorem IntsV.grow {w w' : World} {v : Value} {L : List Nat} (h : IntsV w v L) (hg : Grow w w') : IntsV w' v L :=
  let ⟨A, c, e, h1, h2, h3, h4⟩ := h; ⟨A, c, e, h1, h2, h3.grow hg, fun hn ad had => let ⟨cs, hb⟩ := h4 hn ad had; ⟨cs, hb.grow hg⟩⟩
theorem IntsV.nil (w : World) : IntsV w (.slice none 0 0) [] := ⟨none, 0, rfl, Nat.le_refl _, Nat.zero_le _, Row.nil w none, fun h => absurd h (by simp)⟩
theorem IntsV.own {w : World} {base : Nat} {v : Value} {n : Nat} {L : List Nat} (h : w.ownsRow base 3 1 v n (L.map nv)) : IntsV w v L := by
  obtain ⟨A, c, rfl, h1, h2, h3⟩ := own_form h
  have hl : L.length = n := by have := h.1; simpa using this
  subst hl
  rw [Nat.mul_one] at h3
  refine ⟨A, c, rfl, h1, h2, h3, fun hn ad had => ?_⟩
  subst had
  rcases h.2 with ⟨e, -⟩ | ⟨g, cap, cur, e, -, h4, -⟩
  · injection e with e; cases e
  · injection e with e
    injection e with e
    subst e
    exact ⟨cur.toList, by unfold Blk; rw [h4]⟩
theorem Blk.ty_eq {w : World} {g : Nat} {t t' : TypeId} {cs cs' : List Value} (h : Blk w g t cs) (h' : Blk w g t' cs') : t = t' := by
  unfold Blk at h h'
  rw [h] at h'
  injection h' with h'
  injection h' with _ h'
theorem IntsV.far {w : World} {v : Value} {L : List Nat} (h : IntsV w v L) {g : Nat} {t : TypeId} {cs : List Value} (hb : Blk w g t cs) (l : Array Value) (ht : 3 ≠ t := by decide) : IntsV (w.setRow g l) v L := by
  obtain ⟨A, c, e, h1, h2, h3, h4⟩ := h
  have hne : 0 < L.length → ∀ ad, A = some ad → ad.block ≠ g := fun hn ad had e => by
    obtain ⟨cs', hb'⟩ := h4 hn ad had
    rw [e] at hb'
    exact ht (Blk.ty_eq hb' hb)
  refine ⟨A, c, e, h1, h2, ⟨h3.1, fun hn => ?_⟩, fun hn ad had => ?_⟩
  · obtain ⟨b, off, e2, hc⟩ := h3.2 hn
    refine ⟨b, off, e2, fun j u hu => ?_⟩
    rw [← hc j u hu]
    exact World.cell?_of_block (w := w) (a := ⟨b, off + j, none⟩) (setRow_other w g b l (hne hn _ e2))
  · obtain ⟨cs', hb'⟩ := h4 hn ad had
    exact ⟨cs', hb'.farRow (hne hn ad had) l⟩
theorem IntsV.keep {w w' : World} {v : Value} {L : List Nat} (h : IntsV w v L) {B : Nat} {K : Nat → Prop} (hk : Keep B K w w') (hK : ∀ g cs, Blk w g 3 cs → K g) : IntsV w' v L := by
  obtain ⟨A, c, e, h1, h2, h3, h4⟩ := h
  refine ⟨A, c, e, h1, h2, ⟨h3.1, fun hn => ?_⟩, fun hn ad had => ?_⟩
  · obtain ⟨b, off, e2, hc⟩ := h3.2 hn
    refine ⟨b, off, e2, fun j u hu => ?_⟩
    obtain ⟨cs, hb⟩ := h4 hn _ e2
    rw [← hc j u hu]
    have hb2 := hk.blk hb (hK _ _ hb)
    unfold Blk at hb hb2
    exact World.cell?_of_block (w := w) (a := ⟨b, off + j, none⟩) (hb2.trans hb.symm)
  · obtain ⟨cs, hb⟩ := h4 hn ad had
    exact ⟨cs, hk.blk hb (hK _ _ hb)⟩
theorem Row.nat_at {w : World} {A : Option Addr} {L : List Nat} (h : Row w A L.length (L.map nv)) {k : Nat} (hk : k < L.length) : ∃ b off x, A = some ⟨b, off, none⟩ ∧ L[k]? = some x ∧ w.cell? ⟨b, off + k, none⟩ = some (.int .i64 (x : Int)) := by
  obtain ⟨b, off, u, e, hu, hc⟩ := h.at_ hk
  simp only [List.getElem?_map, Option.map_eq_some_iff] at hu
  obtain ⟨x, hx, rfl⟩ := hu
  exact ⟨b, off, x, e, hx, hc⟩

/-- is a number in a list? -/
def hasB (L : List Nat) (i : Int) : Bool := L.any fun x => decide ((x : Int) = i)
theorem hasB_yes {L : List Nat} {i : Int} {k x : Nat} (h : L[k]? = some x) (e : (x : Int) = i) : hasB L i = true := by
  unfold hasB; rw [List.any_eq_true]; exact ⟨x, List.mem_of_getElem? h, decide_eq_true e⟩
theorem hasB_no {L : List Nat} {i : Int} (h : ∀ (k x : Nat), L[k]? = some x → (x : Int) ≠ i) : hasB L i = false := by
  unfold hasB; rw [List.any_eq_false]
  intro x hx
  obtain ⟨k, hk, rfl⟩ := List.getElem_of_mem hx
  simp only [decide_eq_true_eq]
  exact h k _ (List.getElem?_eq_getElem hk)
end Go.Proofs.Ytbcifodifadoiaa.mkR
