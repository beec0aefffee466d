/- Tags as bytes: plain; what writes. -/
import Derived.Test.YthclgmpjmhacdaaTgB
import Derived.Test.YthclgmpjmhacdaaWrE
namespace Go.Proofs.Ythclgmpjmhacdaa.tg
open Go Go.RowKit Go.Par Go.Kit Vi Go.Proofs.Ythclgmpjmhacdaa.bfW
open Go.Proofs.Ythclgmpjmhacdaa.viW hiding i8 i8s i8z i8b info8

theorem byte_w1 (w : World) (B : Nat) (K : Nat → Prop) (hK : ∀ k, K k → k < w.heap.size) (g : Nat) (L : List UInt8) (h : Wb w B K g L) (x : Nat) (hx : x ≤ 255) (hlen : L.length + 1 ≤ 140737488355328) :
    Calls Try.prog 39 #[.pointer (some ⟨g, 0, none⟩), .slice (some ⟨w.heap.size, 0, none⟩) 1 1] (w.alloc (.cells #[.int .u8 (x : Int)] 5)) fun r w' => r = .returned (.tuple #[]) ∧ Wb w' B K g (L ++ [Vi.u8 x]) ∧ Keep B K w w' := by
  have hrow : Bytes (w.alloc (.cells #[.int .u8 (x : Int)] 5)) (some ⟨w.heap.size, 0, none⟩) 1 [Vi.u8 x] := Bytes.new w [Vi.u8 x] _ _ rfl (by simp [u8s, u8v, Vi.u8_toNat (n := x) (by omega)]) rfl
  refine (byte_w (w.alloc (.cells #[.int .u8 (x : Int)] 5)) B K (fun i hi => by have := hK i hi; simp; omega) g L (h.grow (Grow.alloc w _)) (some ⟨w.heap.size, 0, none⟩) 1 1 [Vi.u8 x] hrow hlen).mono ?_
  rintro r w' ⟨rfl, h1, h2⟩
  exact ⟨rfl, h1, (Keep.of (Grow.alloc w _) h.size).trans h2⟩
theorem num_wn (w : World) (B : Nat) (K : Nat → Prop) (hK : ∀ k, K k → k < w.heap.size) (g : Nat) (L : List UInt8) (h : Wb w B K g L) (ns : List Nat) (n : Nat) (hn : n = ns.length) (cs : Array Value) (hcs : cs = (ns.map u64v).toArray) (hx : ∀ x ∈ ns, x < 18446744073709551616) (hlen : L.length + 10 * n ≤ 140737488355328) :
    Calls Try.prog 37 #[.pointer (some ⟨g, 0, none⟩), .slice (some ⟨w.heap.size, 0, none⟩) n n] (w.alloc (.cells cs 59)) fun r w' => r = .returned (.tuple #[]) ∧ Wb w' B K g (L ++ vbs ns) ∧ Keep B K w w' := by
  subst hcs
  have hrow : Row (w.alloc (.cells (ns.map u64v).toArray 59)) (some ⟨w.heap.size, 0, none⟩) n (ns.map u64v) := by
    have := Row.new w (ns.map u64v) 59 (0, 0)
    rw [List.length_map, ← hn] at this
    exact this
  refine (num_w (w.alloc (.cells (ns.map u64v).toArray 59)) B (fun i => K i ∨ i = w.heap.size) (fun i hi => by
    rcases hi with hi | hi
    · have := hK i hi; simp; omega
    · simp; omega) g L ((h.more (fun i hi hlt => by rcases hi with hi | hi; exact hi; omega)).grow (Grow.alloc w _)) (some ⟨w.heap.size, 0, none⟩) n n ns hrow (fun _ ad had => by injection had with had; rw [← had]; exact .inr (.inr rfl)) hx hlen).mono ?_
  rintro r w' ⟨rfl, h1, h2⟩
  exact ⟨rfl, h1.more (fun i hi _ => .inl hi), (Keep.of (Grow.alloc w _) h.size).trans (h2.less (fun i hi => .inl hi))⟩
theorem wr_new (w : World) (B : Nat) (K : Nat → Prop) (hB : B ≤ w.heap.size) (hK : ∀ k, K k → k < w.heap.size) {g : Nat} (hg : g = w.heap.size) : Wb (w.alloc (.cells #[.slice none 0 0] TW)) B K g [] := by
  subst hg
  exact ⟨.slice none 0 0, Blk.new _ _ _ _ rfl rfl, World.ownsRow_nil _ _ _ _, hB, fun h => by have := hK _ h; omega, fun k hk => by cases hk⟩
/-- how many of the first k numbers are above 0 -/
def cntV (v : List Int) (k : Nat) : Nat := ((v.take k).filter fun x => decide (0 < x)).length
def stepV (v : List Int) (i : Nat) : List UInt8 := if 0 < v.getD i 0 then Vi.u8 (i + 1) :: vb (v.getD i 0).toNat else []
def bodyV (v : List Int) (k : Nat) : List UInt8 := ((List.range k).map (stepV v)).flatten
def encV (v : List Int) : List UInt8 := vb (cntV v 64) ++ bodyV v 64
def encTag (t : Tag) : List UInt8 := vb t.1.length ++ t.1 ++ encV t.2
def encTs (L : List Tag) : List UInt8 := (L.map encTag).flatten
def encT (L : List Tag) : List UInt8 := vb L.length ++ encTs L
theorem cnt_step {v : List Int} {k : Nat} {x : Int} (h : v[k]? = some x) : cntV v (k + 1) = cntV v k + (if 0 < x then 1 else 0) := by
  obtain ⟨hk, rfl⟩ := List.getElem?_eq_some_iff.1 h
  unfold cntV
  rw [List.take_succ_eq_append_getElem hk, List.filter_append, List.length_append]
  by_cases hx : 0 < v[k]
  · rw [if_pos hx, List.filter_cons_of_pos (by simpa using hx)]; rfl
  · rw [if_neg hx, List.filter_cons_of_neg (by simpa using hx)]; rfl
theorem cnt_le (v : List Int) (k : Nat) : cntV v k ≤ k := by
  unfold cntV
  refine Nat.le_trans (List.length_filter_le _ _) ?_
  rw [List.length_take]
  omega
theorem body_step {v : List Int} {k : Nat} {x : Int} (h : v[k]? = some x) : bodyV v (k + 1) = bodyV v k ++ (if 0 < x then Vi.u8 (k + 1) :: vb x.toNat else []) := by
  unfold bodyV
  rw [List.range_succ, List.map_append, List.flatten_append]
  congr 1
  simp only [List.map_cons, List.map_nil, List.flatten_cons, List.flatten_nil, List.append_nil]
  unfold stepV
  rw [List.getD_eq_getElem?_getD, h]
  rfl
theorem body_len (v : List Int) : ∀ k, (bodyV v k).length ≤ 11 * k
  | 0 => by simp [bodyV]
  | k + 1 => by
    have := body_len v k
    unfold bodyV at this ⊢
    rw [List.range_succ, List.map_append, List.flatten_append, List.length_append]
    have h2 : (stepV v k).length ≤ 11 := by
      unfold stepV
      have := vb_len_le (v.getD k 0).toNat
      split
      · rw [List.length_cons]; omega
      · simp
    simp only [List.map_cons, List.map_nil, List.flatten_cons, List.flatten_nil, List.append_nil]
    omega
theorem encTs_step {L : List Tag} {k : Nat} {t : Tag} (h : L[k]? = some t) : encTs (L.take (k + 1)) = encTs (L.take k) ++ encTag t := by
  obtain ⟨hk, rfl⟩ := List.getElem?_eq_some_iff.1 h
  unfold encTs
  rw [List.take_succ_eq_append_getElem hk, List.map_append, List.flatten_append]
  simp
theorem encTag_len {t : Tag} (h : t.1.length ≤ 60) : (encTag t).length ≤ 1000 := by
  unfold encTag encV
  simp only [List.length_append]
  have h1 := vb_len_le t.1.length
  have h2 := vb_len_le (cntV t.2 64)
  have h3 := body_len t.2 64
  omega
theorem encTs_len : ∀ {L : List Tag}, (∀ t ∈ L, t.1.length ≤ 60) → (encTs L).length ≤ 1000 * L.length
  | [], _ => by simp [encTs]
  | t :: r, h => by
    have h1 := encTs_len (L := r) fun t ht => h t (List.mem_cons_of_mem _ ht)
    have h2 := encTag_len (h t List.mem_cons_self)
    unfold encTs at h1 ⊢
    simp only [List.map_cons, List.flatten_cons, List.length_append, List.length_cons]
    omega
theorem ok_names {L : List Tag} (h : OkT L) : ∀ t ∈ L, t.1.length ≤ 60 := fun t ht => by have := name_le (h.ok t ht).1; omega
end Go.Proofs.Ythclgmpjmhacdaa.tg
