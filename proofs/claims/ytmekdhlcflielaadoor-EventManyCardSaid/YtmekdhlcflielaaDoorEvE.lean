/- What events write: one number or byte at a time. -/
import Derived.Test.YtmekdhlcflielaaDoorEvR2
import Derived.Test.YtmekdhlcflielaaDoorWrE
namespace Go.Proofs.YtmekdhlcflielaaDoor.ev
open Go Go.RowKit Go.Par Go.Kit Vi Go.Proofs.YtmekdhlcflielaaDoor.bfW
open Go.Proofs.YtmekdhlcflielaaDoor.viW hiding i8 i8s i8z i8b info8

/-- an event's bytes -/
def evb (e : Ev) : List UInt8 := [Vi.u8 e.k] ++ (if hb e.k 0 then [Vi.u8 e.node] else []) ++ (if hb e.k 1 then [Vi.u8 e.peer] else []) ++ (if hb e.k 2 then vb e.K.toNat else []) ++ (if hb e.k 3 then vb e.at_.toNat ++ vb e.mask else []) ++ (if hb e.k 4 then vb e.draw else []) ++ (if hb e.k 5 then vb e.b.length ++ e.b else [])
theorem ite_len {q : Bool} {l : List UInt8} {n : Nat} (h : l.length ≤ n) : (if q then l else []).length ≤ n := by
  split
  · exact h
  · simp
theorem evb_len (e : Ev) : (evb e).length ≤ 63 + e.b.length := by
  unfold evb
  simp only [List.length_append]
  have h0 := ite_len (q := hb e.k 0) (l := [Vi.u8 e.node]) (n := 1) (by simp)
  have h1 := ite_len (q := hb e.k 1) (l := [Vi.u8 e.peer]) (n := 1) (by simp)
  have h2 := ite_len (q := hb e.k 2) (l := vb e.K.toNat) (n := 10) (vb_len_le _)
  have h3 := ite_len (q := hb e.k 3) (l := vb e.at_.toNat ++ vb e.mask) (n := 20) (by have := vb_len_le e.at_.toNat; have := vb_len_le e.mask; rw [List.length_append]; omega)
  have h4 := ite_len (q := hb e.k 4) (l := vb e.draw) (n := 10) (vb_len_le _)
  have h5 := ite_len (q := hb e.k 5) (l := vb e.b.length ++ e.b) (n := 10 + e.b.length) (by have := vb_len_le e.b.length; rw [List.length_append]; omega)
  have h6 : ([Vi.u8 e.k] : List UInt8).length = 1 := rfl
  omega
theorem byte_w1 (w : World) (B : Nat) (K : Nat → Prop) (hK : ∀ k, K k → k < w.heap.size) (g : Nat) (L : List UInt8) (h : Wb w B K g L) (x : Nat) (hx : x ≤ 255) (hlen : L.length + 1 ≤ 140737488355328) :
    Calls Tryd.prog 38 #[.pointer (some ⟨g, 0, none⟩), .slice (some ⟨w.heap.size, 0, none⟩) 1 1] (w.alloc (.cells #[.int .u8 (x : Int)] 5)) fun r w' => r = .returned (.tuple #[]) ∧ Wb w' B K g (L ++ [Vi.u8 x]) ∧ Keep B K w w' := by
  have hrow : Bytes (w.alloc (.cells #[.int .u8 (x : Int)] 5)) (some ⟨w.heap.size, 0, none⟩) 1 [Vi.u8 x] := Bytes.new w [Vi.u8 x] _ _ rfl (by simp [u8s, u8v, Vi.u8_toNat (n := x) (by omega)]) rfl
  refine (byte_w (w.alloc (.cells #[.int .u8 (x : Int)] 5)) B K (fun i hi => by have := hK i hi; simp; omega) g L (h.grow (Grow.alloc w _)) (some ⟨w.heap.size, 0, none⟩) 1 1 [Vi.u8 x] hrow hlen).mono ?_
  rintro r w' ⟨rfl, h1, h2⟩
  exact ⟨rfl, h1, (Keep.of (Grow.alloc w _) h.size).trans h2⟩
theorem num_wn (w : World) (B : Nat) (K : Nat → Prop) (hK : ∀ k, K k → k < w.heap.size) (g : Nat) (L : List UInt8) (h : Wb w B K g L) (ns : List Nat) (n : Nat) (hn : n = ns.length) (cs : Array Value) (hcs : cs = (ns.map u64v).toArray) (hx : ∀ x ∈ ns, x < 18446744073709551616) (hlen : L.length + 10 * n ≤ 140737488355328) :
    Calls Tryd.prog 18 #[.pointer (some ⟨g, 0, none⟩), .slice (some ⟨w.heap.size, 0, none⟩) n n] (w.alloc (.cells cs 39)) fun r w' => r = .returned (.tuple #[]) ∧ Wb w' B K g (L ++ vbs ns) ∧ Keep B K w w' := by
  subst hcs
  have hrow : Row (w.alloc (.cells (ns.map u64v).toArray 39)) (some ⟨w.heap.size, 0, none⟩) n (ns.map u64v) := by
    have := Row.new w (ns.map u64v) 39 (0, 0)
    rw [List.length_map, ← hn] at this
    exact this
  refine (num_w (w.alloc (.cells (ns.map u64v).toArray 39)) B (fun i => K i ∨ i = w.heap.size) (fun i hi => by
    rcases hi with hi | hi
    · have := hK i hi; simp; omega
    · simp; omega) g L ((h.more (fun i hi hlt => by rcases hi with hi | hi; exact hi; omega)).grow (Grow.alloc w _)) (some ⟨w.heap.size, 0, none⟩) n n ns hrow (fun _ ad had => by injection had with had; rw [← had]; exact .inr (.inr rfl)) hx hlen).mono ?_
  rintro r w' ⟨rfl, h1, h2⟩
  exact ⟨rfl, h1.more (fun i hi _ => .inl hi), (Keep.of (Grow.alloc w _) h.size).trans (h2.less (fun i hi => .inl hi))⟩
/-- behind a piece: what is written so far -/
def JW (W1 : World) (B : Nat) (K : Nat → Prop) (g : Nat) (L : List UInt8) (_ : Nat → Value) (w' : World) : Prop := Wb w' B K g L ∧ Keep B K W1 w'
end Go.Proofs.YtmekdhlcflielaaDoor.ev
