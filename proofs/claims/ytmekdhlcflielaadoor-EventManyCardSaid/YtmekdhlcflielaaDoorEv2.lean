/- Events read, plain; what is kept of bytes while a reader goes on. -/
import Derived.Test.YtmekdhlcflielaaDoorEvN
import Derived.Test.YtmekdhlcflielaaDoorStA
namespace Go.Proofs.YtmekdhlcflielaaDoor.ev
open Go Go.RowKit Go.Par Go.Kit Vi Go.Proofs.YtmekdhlcflielaaDoor.bfW
open Go.Proofs.YtmekdhlcflielaaDoor.viW hiding i8 i8s i8z i8b info8

def opt {α : Type} (q : Bool) (r : α × List UInt8 × Nat) (z : α) (L : List UInt8) (e : Nat) : α × List UInt8 × Nat := if q then r else (z, L, e)
/-- an event as it is read: it, what is left, what is wrong -/
def rdEv (L : List UInt8) (e : Nat) : Ev × List UInt8 × Nat :=
  let r0 := rbyte L e 12
  let r1 := opt (hb r0.1 0) (rbyte r0.2.1 r0.2.2 64) 0 r0.2.1 r0.2.2
  let r2 := opt (hb r0.1 1) (rbyte r1.2.1 r1.2.2 64) 0 r1.2.1 r1.2.2
  let r3 := opt (hb r0.1 2) (rnum r2.2.1 r2.2.2 1048576) 0 r2.2.1 r2.2.2
  let r4 := opt (hb r0.1 3) (rnum r3.2.1 r3.2.2 1048576) 0 r3.2.1 r3.2.2
  let r5 := opt (hb r0.1 3) (rnum r4.2.1 r4.2.2 4294967295) 0 r4.2.1 r4.2.2
  let r6 := opt (hb r0.1 4) (rnum r5.2.1 r5.2.2 18446744073709551615) 0 r5.2.1 r5.2.2
  let r7 := opt (hb r0.1 5) (rtext r6.2.1 r6.2.2 131072) [] r6.2.1 r6.2.2
  (⟨r0.1, r1.1, r2.1, (r3.1 : Int), (r4.1 : Int), r5.1, r6.1, r7.1⟩, r7.2)
def decN : Nat → List UInt8 → Nat → List Ev × List UInt8 × Nat
  | 0, L, e => ([], L, e)
  | n + 1, L, e => if e = 0 then ((rdEv L e).1 :: (decN n (rdEv L e).2.1 (rdEv L e).2.2).1, (decN n (rdEv L e).2.1 (rdEv L e).2.2).2) else ([], L, e)
/-- what Decode hands back -/
def decS (L : List UInt8) : List Ev × Nat :=
  let n := rnum L 0 1024
  let d := decN n.1 n.2.1 n.2.2
  if rend d.2.1 d.2.2 ≠ 0 then ([], rend d.2.1 d.2.2) else if d.1.all goodB then (d.1, 0) else ([], 4)
theorem rbyte_le (L : List UInt8) (e m : Nat) : (rbyte L e m).1 ≤ m := by
  unfold rbyte
  split
  · exact Nat.zero_le _
  · split
    · exact Nat.zero_le _
    · split
      · exact Nat.zero_le _
      · dsimp only; omega
theorem rnum_le (L : List UInt8) (e m : Nat) : (rnum L e m).1 ≤ m := by
  unfold rnum
  split
  · exact Nat.zero_le _
  · split
    · exact Nat.zero_le _
    · split
      · exact Nat.zero_le _
      · dsimp only; omega
theorem opt_le {q : Bool} {r : Nat × List UInt8 × Nat} {L : List UInt8} {e m : Nat} (h : r.1 ≤ m) : (opt q r 0 L e).1 ≤ m := by
  unfold opt
  split
  · exact h
  · exact Nat.zero_le _
theorem rdEv_ok (L : List UInt8) (e : Nat) : (rdEv L e).1.ok := by
  unfold rdEv
  dsimp only
  have h0 := rbyte_le L e 12
  generalize rbyte L e 12 = r0 at h0 ⊢
  have h1 := opt_le (q := hb r0.1 0) (L := r0.2.1) (e := r0.2.2) (rbyte_le r0.2.1 r0.2.2 64)
  generalize opt (hb r0.1 0) (rbyte r0.2.1 r0.2.2 64) 0 r0.2.1 r0.2.2 = r1 at h1 ⊢
  have h2 := opt_le (q := hb r0.1 1) (L := r1.2.1) (e := r1.2.2) (rbyte_le r1.2.1 r1.2.2 64)
  generalize opt (hb r0.1 1) (rbyte r1.2.1 r1.2.2 64) 0 r1.2.1 r1.2.2 = r2 at h2 ⊢
  have h3 := opt_le (q := hb r0.1 2) (L := r2.2.1) (e := r2.2.2) (rnum_le r2.2.1 r2.2.2 1048576)
  generalize opt (hb r0.1 2) (rnum r2.2.1 r2.2.2 1048576) 0 r2.2.1 r2.2.2 = r3 at h3 ⊢
  have h4 := opt_le (q := hb r0.1 3) (L := r3.2.1) (e := r3.2.2) (rnum_le r3.2.1 r3.2.2 1048576)
  generalize opt (hb r0.1 3) (rnum r3.2.1 r3.2.2 1048576) 0 r3.2.1 r3.2.2 = r4 at h4 ⊢
  have h5 := opt_le (q := hb r0.1 3) (L := r4.2.1) (e := r4.2.2) (rnum_le r4.2.1 r4.2.2 4294967295)
  generalize opt (hb r0.1 3) (rnum r4.2.1 r4.2.2 4294967295) 0 r4.2.1 r4.2.2 = r5 at h5 ⊢
  have h6 := opt_le (q := hb r0.1 4) (L := r5.2.1) (e := r5.2.2) (rnum_le r5.2.1 r5.2.2 18446744073709551615)
  generalize opt (hb r0.1 4) (rnum r5.2.1 r5.2.2 18446744073709551615) 0 r5.2.1 r5.2.2 = r6 at h6 ⊢
  refine ⟨?_, ?_, ?_, ?_, ?_, ?_, ?_, ?_, ?_⟩ <;> dsimp only <;> omega
theorem decN_step {n : Nat} {L : List UInt8} : decN (n + 1) L 0 = ((rdEv L 0).1 :: (decN n (rdEv L 0).2.1 (rdEv L 0).2.2).1, (decN n (rdEv L 0).2.1 (rdEv L 0).2.2).2) := by
  rw [decN, if_pos rfl]
theorem decN_stop {n : Nat} {L : List UInt8} {e : Nat} (h : n = 0 ∨ e ≠ 0) : decN n L e = ([], L, e) := by
  cases n with
  | zero => rfl
  | succ n => rw [decN, if_neg (by omega)]
theorem decN_le : ∀ (n : Nat) (L : List UInt8) (e : Nat), (decN n L e).1.length ≤ n
  | 0, L, e => by simp [decN]
  | n + 1, L, e => by
    rw [decN]
    split
    · have := decN_le n (rdEv L e).2.1 (rdEv L e).2.2
      dsimp only
      rw [List.length_cons]
      omega
    · simp
/-- bytes that are kept, whatever their array's mark -/
def BO (w : World) (v : Value) (l : List UInt8) : Prop := ∃ A c, v = .slice A l.length c ∧ l.length ≤ c ∧ c ≤ maxLen ∧ Bytes w A l.length l ∧ (0 < l.length → ∀ ad, A = some ad → ∃ cs fz, w.heap[ad.block]? = some (Obj.cells cs 5 fz))
theorem BO.nil (w : World) : BO w (.slice none 0 0) [] := ⟨none, 0, rfl, Nat.le_refl _, by decide, Row.nil w none, fun h => absurd h (by simp)⟩
theorem BO.hasB {w : World} {v : Value} {l : List UInt8} (h : BO w v l) : HasB w v l := let ⟨A, c, e, h1, h2, h3, _⟩ := h; ⟨A, c, e, h1, h2, h3⟩
theorem BO.sl {w : World} {v : Value} {l : List UInt8} (h : BO w v l) : Sl w v l := let ⟨A, c, e, h1, h2, h3, _⟩ := h; ⟨A, _, c, e, h1, h2, h3⟩
theorem BO.keep {w w' : World} {v : Value} {l : List UInt8} (h : BO w v l) {B : Nat} {K : Nat → Prop} (hk : Keep B K w w') (hK : ∀ j cs fz, w.heap[j]? = some (Obj.cells cs 5 fz) → K j) : BO w' v l := by
  obtain ⟨A, c, e, h1, h2, h3, h4⟩ := h
  have key : ∀ j cs fz, w.heap[j]? = some (Obj.cells cs 5 fz) → w'.heap[j]? = w.heap[j]? := fun j cs fz hj => hk.2 j (hK j cs fz hj) (Array.getElem?_eq_some_iff.1 hj).1
  refine ⟨A, c, e, h1, h2, ⟨h3.1, fun h0 => ?_⟩, fun h0 ad had => ?_⟩
  · obtain ⟨b, off, eA, hc⟩ := h3.2 h0
    obtain ⟨cs, fz, hb⟩ := h4 h0 _ eA
    refine ⟨b, off, eA, fun j u hu => ?_⟩
    have h9 := hc j u hu
    have h8 := key _ _ _ hb
    unfold World.cell? at h9 ⊢
    dsimp only at h8 h9 ⊢
    rw [h8]
    exact h9
  · obtain ⟨cs, fz, hb⟩ := h4 h0 ad had
    exact ⟨cs, fz, (key _ _ _ hb).trans hb⟩
theorem BO.grow {w w' : World} {v : Value} {l : List UInt8} (h : BO w v l) (hg : Grow w w') : BO w' v l := by
  obtain ⟨A, c, e, h1, h2, h3, h4⟩ := h
  exact ⟨A, c, e, h1, h2, h3.grow hg, fun h0 ad had => let ⟨cs, fz, hb⟩ := h4 h0 ad had; ⟨cs, fz, (Below.block hg _ (Array.getElem?_eq_some_iff.1 hb).1).trans hb⟩⟩
theorem conv_bo (w : World) (l : List UInt8) (hl : l.length ≤ maxLen) : ∃ v W, (convert 9 23 (.string (str l))).run Tryd.prog w = .ok v W ∧ Grow w W ∧ BO W v l ∧ ∃ A n c, v = .slice A n c := by
  have h := run_bytes_of_string (P := Tryd.prog) w 9 23 5 (str l) Tryd.underlying9 Tryd.underlying23 Tryd.underlying5
  obtain ⟨c, W, h2, h3, h4, h5, h6⟩ := conv_bytes (P := Tryd.prog) Tryd.underlying9 Tryd.underlying23 Tryd.underlying5 w l
  have h2' := h2
  rw [h] at h2
  injection h2 with h7 h8
  refine ⟨_, W, h2', h3, ⟨some ⟨w.heap.size, 0, none⟩, c, rfl, h4, h6 hl, h5, fun _ ad had => ?_⟩, _, _, _, rfl⟩
  injection had with had
  subst had
  rw [← h8]
  exact ⟨_, _, Array.getElem?_push_size⟩
theorem Tab.keep {w w' : World} (h : Tab w) {B : Nat} {K : Nat → Prop} (hk : Keep B K w w') (hB : 0 < B) : Tab w' := fun k hk2 => by
  have h1 := h k hk2
  have h3 : 0 < w.heap.size := by
    rcases Nat.lt_or_ge 0 w.heap.size with h9 | h9
    · exact h9
    · unfold World.cell? at h1
      dsimp only at h1
      rw [Array.getElem?_eq_none h9] at h1
      cases h1
  have h2 : w'.heap[0]? = w.heap[0]? := Below.block hk.1 _ hB
  unfold World.cell? at h1 ⊢
  dsimp only at h1 ⊢
  rw [h2]
  exact h1
end Go.Proofs.YtmekdhlcflielaaDoor.ev
