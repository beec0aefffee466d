/- The walks of the disk's methods. -/
import Derived.Test.YtgpcijpadelcfaaClone
import Derived.Test.YtgpcijpadelcfaaPiv
namespace Go.Proofs.Ytgpcijpadelcfaa.dkW
open Go Go.RowKit Go.Par Go.Kit Go.Proofs.Ytgpcijpadelcfaa.cl

/-- A disk: its block g, its bytes, how many are sure. K: blocks of others. -/
def Disk (w : World) (B : Nat) (K : Nat → Prop) (g : Nat) (L : List UInt8) (s : Nat) : Prop :=
  ∃ v, Blk w g 94 [v, .int .i64 (s : Int)] ∧ w.ownsRow B 5 1 v L.length (u8s L) ∧ B ≤ g ∧ ¬ K g ∧ (∀ k, v.ownBlock = some k → k ≠ g ∧ ¬ K k) ∧ s ≤ L.length
theorem Disk.grow {w w' : World} {B : Nat} {K : Nat → Prop} {g : Nat} {L : List UInt8} {s : Nat} (h : Disk w B K g L s) (hg : Grow w w') : Disk w' B K g L s := by
  obtain ⟨v, h1, h2, h3⟩ := h
  exact ⟨v, h1.grow hg, own_grow h2 hg, h3⟩
theorem Disk.lt {w : World} {B : Nat} {K : Nat → Prop} {g : Nat} {L : List UInt8} {s : Nat} (h : Disk w B K g L s) : B ≤ g ∧ g < w.heap.size := by
  obtain ⟨v, h1, h2, h3, _⟩ := h
  exact ⟨h3, h1.lt⟩
/-- kept by what changes others alone -/
theorem Disk.keep {w w' : World} {B : Nat} {K K2 : Nat → Prop} {g : Nat} {L : List UInt8} {s : Nat} (h : Disk w B K g L s) (hk : Keep B K2 w w') (hh : ∀ v, Blk w g 94 [v, .int .i64 (s : Int)] → K2 g ∧ ∀ k, v.ownBlock = some k → K2 k) : Disk w' B K g L s := by
  obtain ⟨v, h1, h2, h3⟩ := h
  exact ⟨v, hk.blk h1 (hh v h1).1, hk.own h2 (hh v h1).2, h3⟩
/-- more blocks of others -/
theorem Disk.more {w : World} {B : Nat} {K K2 : Nat → Prop} {g : Nat} {L : List UInt8} {s : Nat} (h : Disk w B K g L s) (hk : ∀ k, K2 k → k < w.heap.size → K k) : Disk w B K2 g L s := by
  obtain ⟨v, h1, h2, h3, h4, h5, h6⟩ := h
  refine ⟨v, h1, h2, h3, fun h => h4 (hk g h h1.lt), fun k hk1 => ⟨(h5 k hk1).1, fun h => (h5 k hk1).2 (hk k h (h2.lt k hk1).2)⟩, h6⟩

theorem new_any (w : World) (B : Nat) (K : Nat → Prop) (hB : B ≤ w.heap.size) (hK : ∀ k, K k → k < w.heap.size) :
    Calls Try.prog 46 #[] w fun e w' => ∃ g, e = .returned (.pointer (some ⟨g, 0, none⟩)) ∧ Disk w' B K g [] 0 ∧ Grow w w' := by
  go_enter Try.func46, Try.ntmps46
  go_wp2_with fail
  go_ret
  refine ⟨w.heap.size, rfl, ⟨.slice none 0 0, Blk.new _ _ _ _ rfl rfl, World.ownsRow_nil _ _ _ _, hB, (fun h => by have := hK _ h; omega), (fun k hk => by cases hk), Nat.le_refl _⟩, Grow.alloc _ _⟩

theorem len_any (w : World) (B : Nat) (K : Nat → Prop) (g : Nat) (L : List UInt8) (s : Nat) (h : Disk w B K g L s) :
    Calls Try.prog 54 #[.pointer (some ⟨g, 0, none⟩)] w fun e w' => e = .returned (.int .i64 (L.length : Int)) ∧ w = w' := by
  obtain ⟨v, h1, h2, h3⟩ := h
  obtain ⟨A, c, rfl, a1, a2, a3⟩ := own_form h2
  have c0 := h1.cell (i := 0) rfl
  clear h1 h2 h3 a3
  go_enter Try.func54, Try.ntmps54
  go_wp2_with fail
  go_ret
  exact ⟨rfl, rfl⟩
theorem sure_any (w : World) (B : Nat) (K : Nat → Prop) (g : Nat) (L : List UInt8) (s : Nat) (h : Disk w B K g L s) :
    Calls Try.prog 53 #[.pointer (some ⟨g, 0, none⟩)] w fun e w' => e = .returned (.int .i64 (s : Int)) ∧ w = w' := by
  obtain ⟨v, h1, h2, h3⟩ := h
  have c0 := h1.cell (i := 1) rfl
  clear h1 h2 h3
  go_enter Try.func53, Try.ntmps53
  go_wp2_with fail
  go_ret
  exact ⟨rfl, rfl⟩

theorem sync_any (w : World) (B : Nat) (K : Nat → Prop) (g : Nat) (L : List UInt8) (s : Nat) (h : Disk w B K g L s) :
    Calls Try.prog 57 #[.pointer (some ⟨g, 0, none⟩)] w fun e w' => e = .returned (.tuple #[]) ∧ Disk w' B K g L L.length ∧ Keep B K w w' := by
  obtain ⟨v, h1, h2, h3, h4, h5, h6⟩ := h
  have hf := own_form h2
  obtain ⟨A, c, hv, a1, a2, a3⟩ := hf
  have c0 := h1.cell (i := 0) rfl
  have c1 := h1.cell (i := 1) rfl
  have f1 := h1.free 1
  rw [hv] at c0
  have H1 := Lib.hid h1
  have H2 := Lib.hid h2
  have HV := Lib.hid hv
  clear h1 h2 hv a3
  go_enter Try.func57, Try.ntmps57
  go_wp2_with fail
  refine bodyPost_end (results_none rfl _ _ _) rfl ?_
  refine ⟨rfl, ⟨v, ?_, own_far H2.out _ _ (fun k hk => (h5 k hk).1), h3, h4, h5, Nat.le_refl _⟩, Keep.setCell (Keep.refl w) h3 h4 _⟩
  exact H1.out.set_ 1 _

set_option maxHeartbeats 400000 in
theorem append_any (w : World) (B : Nat) (K : Nat → Prop) (hB : B ≤ w.heap.size) (hK : ∀ k, K k → k < w.heap.size) (g : Nat) (L : List UInt8) (s : Nat) (h : Disk w B K g L s) (A : Option Addr) (n c : Nat) (l : List UInt8) (hb : Bytes w A n l) (hn : L.length + n ≤ 140737488355328) :
    Calls Try.prog 58 #[.pointer (some ⟨g, 0, none⟩), .slice A n c] w fun e w' => e = .returned (.int .i64 0) ∧ Disk w' B K g (L ++ l) s ∧ Keep B K w w' := by
  obtain ⟨v, h1, h2, h3, h4, h5, h6⟩ := h
  have hlen := hb.len
  have c0 := h1.cell (i := 0) rfl
  have hg := h1.lt
  have H1 := Lib.hid h1
  have HL := Lib.hid hlen
  have h7 := own_base h2
  clear h1 hlen
  go_enter Try.func58, Try.ntmps58
  go_wp2_with (at_builtin; refine append_bytes Try.underlying65 i8 i8z i8s i8b rfl _ _ rfl B v L.length L h2 rfl A n c l hb rfl hn hB ?_; intro v1 w1 hown1 hgb1 hh1; obtain ⟨A1, cc1, rfl, -, -, -⟩ := own_form hown1; have b1 : Blk w1 g 94 [v, .int .i64 (s : Int)] := (hgb1.block g hg (fun e => (h5 g e.symm).1 rfl)).trans H1.out; have c1 := b1.cell (i := 0) rfl; have f1 := b1.free 0; have B1 := Lib.hid b1; have H3 := Lib.hid hown1; have H4 := Lib.hid hgb1; have H5 := Lib.hid hh1; clear b1 hown1 hgb1 hh1)
  go_ret
  have hke : Keep B K w w1 := Keep.by_ (Keep.refl w) hB H4.out (fun k hk => ⟨h7 k hk, (h5 k hk).2⟩)
  have h5' : ∀ k, (Value.slice A1 (L.length + n) cc1).ownBlock = some k → k ≠ g ∧ ¬ K k := by
    intro k hk
    rcases H5.out with hh | hh
    · exact h5 k (hh ▸ hk)
    · rw [hh] at hk
      injection hk with hk
      subst hk
      exact ⟨by omega, fun h => by have := hK _ h; omega⟩
  refine ⟨rfl, ⟨_, B1.out.set_ 0 _, ?_, h3, h4, h5', by simp; omega⟩, Keep.setCell hke h3 h4 _⟩
  have := own_far H3.out ⟨g, 0, none⟩ (.slice A1 (L.length + n) cc1) (fun k hk => (h5' k hk).1)
  rw [List.length_append, HL.out]; exact this

/-- what a cut leaves -/
theorem own_cut {w : World} {base e n m : Nat} {v : Value} {l : List UInt8} (h : w.ownsRow base e 1 v n (u8s l)) (hm : m ≤ n) (A : Option Addr) (c : Nat) (hv : v = .slice A n c) : w.ownsRow base e 1 (.slice A m c) m (u8s (l.take m)) := by
  subst hv
  obtain ⟨h1, h2⟩ := h
  refine ⟨by simp [u8s] at h1 ⊢; omega, ?_⟩
  rcases h2 with ⟨hv, hn⟩ | ⟨g, cap, cur, hv, h3, h4, h5, h6, h7, h8⟩
  · injection hv with e1 e2 e3
    subst e1; subst e2; subst e3
    obtain rfl : m = 0 := by omega
    exact .inl ⟨rfl, rfl⟩
  · injection hv with e1 e2 e3
    subst e1; subst e3
    refine .inr ⟨g, c, cur, rfl, h3, h4, by omega, h6, h7, ?_⟩
    rw [Nat.mul_one] at h8 ⊢
    have : u8s (l.take m) = (u8s l).take m := by simp [u8s, List.map_take]
    rw [this, ← h8, List.take_take, Nat.min_eq_left hm]

set_option maxHeartbeats 400000 in
theorem cut_bad (w : World) (B : Nat) (K : Nat → Prop) (g : Nat) (L : List UInt8) (s : Nat) (h : Disk w B K g L s) (n : Int) (hn : n < 0 ∨ (L.length : Int) < n) :
    Calls Try.prog 59 #[.pointer (some ⟨g, 0, none⟩), .int .i64 n] w fun e w' => e = .returned (.int .i64 1) ∧ w = w' := by
  obtain ⟨v, h1, h2, h3⟩ := h
  obtain ⟨A, c, rfl, a1, a2, a3⟩ := own_form h2
  have c0 := h1.cell (i := 0) rfl
  clear h1 h2 h3 a3
  by_cases h0 : n < 0
  · have d0 : decide (n < 0) = true := decide_eq_true h0
    clear hn
    go_enter Try.func59, Try.ntmps59
    go_wp2_with fail
    go_ret
    exact ⟨rfl, rfl⟩
  · have d0 : decide (n < 0) = false := decide_eq_false h0
    have d1 : decide ((L.length : Int) < n) = true := decide_eq_true (by omega)
    clear hn h0
    go_enter Try.func59, Try.ntmps59
    go_wp2_with fail
    go_ret
    exact ⟨rfl, rfl⟩
set_option maxHeartbeats 400000 in
theorem cut_any (w : World) (B : Nat) (K : Nat → Prop) (g : Nat) (L : List UInt8) (s : Nat) (h : Disk w B K g L s) (m : Nat) (hm : m ≤ L.length) :
    Calls Try.prog 59 #[.pointer (some ⟨g, 0, none⟩), .int .i64 (m : Int)] w fun e w' => e = .returned (.int .i64 0) ∧ Disk w' B K g (L.take m) m ∧ Keep B K w w' := by
  obtain ⟨v, h1, h2, h3, h4, h5, h6⟩ := h
  obtain ⟨A, c, hv, a1, a2, a3⟩ := own_form h2
  have c0 := h1.cell (i := 0) rfl
  have c1 := h1.cell (i := 1) rfl
  have f0 := h1.free 0
  have f1 := h1.free 1
  rw [hv] at c0
  have hs1 := slice_hi (P := Try.prog) Try.underlying65 i8 A L.length c m (by omega)
  have hcut := own_cut h2 hm A c hv
  have hob : ∀ k, (Value.slice A m c).ownBlock = some k → v.ownBlock = some k := by
    intro k hk
    rw [hv]
    cases A with
    | none => cases hk
    | some a => exact hk
  have d0 : decide ((m : Int) < 0) = false := decide_eq_false (by omega)
  have d1 : decide ((L.length : Int) < (m : Int)) = false := decide_eq_false (by omega)
  have d2 : decide (L.length < m) = false := decide_eq_false (by omega)
  have H1 := Lib.hid h1
  have HC := Lib.hid hcut
  have HV := Lib.hid hv
  clear h1 h2 hv a3 hcut
  go_enter Try.func59, Try.ntmps59
  go_wp2_with fail
  go_ret
  refine ⟨rfl, ⟨.slice A m c, (H1.out.set_ 0 _).set_ 1 _, ?_, h3, h4, fun k hk => h5 k (hob k hk), by simp; omega⟩, Keep.setCell (Keep.setCell (Keep.refl w) h3 h4 _) h3 h4 _⟩
  have hl : (L.take m).length = m := by simp; omega
  rw [hl]
  exact own_far (own_far HC.out _ _ (fun k hk => (h5 k (hob k hk)).1)) _ _ (fun k hk => (h5 k (hob k hk)).1)

theorem size8 : (Try.prog.info? 5).map (·.size) = some 1 := by kernel_rfl
theorem splice_all (cs cur : List Value) (h : cs.length = cur.length) : splice cur 0 cs = cs := by
  unfold splice
  rw [Nat.zero_add, h, List.drop_length]; simp
set_option maxHeartbeats 400000 in
theorem bytes_any (w : World) (B : Nat) (K : Nat → Prop) (g : Nat) (L : List UInt8) (s : Nat) (h : Disk w B K g L s) (hL : L.length ≤ 140737488355328) :
    Calls Try.prog 52 #[.pointer (some ⟨g, 0, none⟩)] w fun e w' => ∃ v, e = .returned v ∧ w'.ownsRow w.heap.size 5 1 v L.length (u8s L) ∧ Grow w w' := by
  have hl := len_any w B K g L s h
  obtain ⟨v, h1, h2, h3⟩ := h
  obtain ⟨A, c, rfl, a1, a2, a3⟩ := own_form h2
  rw [Nat.mul_one] at a3
  have hmk := make_row (P := Try.prog) (z := .int .u8 0) Try.underlying65 i8 i8z i8s rfl L.length (by rw [i8b]; omega) (by omega)
  have H1 := Lib.hid h1
  have HL := Lib.hid hl
  obtain ⟨N, hN⟩ : ∃ N, N = L.length := ⟨_, rfl⟩
  have hr := a3
  rw [← hN] at hL hmk hr
  have HR := Lib.hid hr
  have HN := Lib.hid hN
  have b0 : Blk (w.alloc (.cells (Array.replicate N (.int .u8 0)) 5)) w.heap.size 5 (List.replicate N (.int .u8 0)) := Blk.new w _ _ _ (by simp) rfl
  have HB0 := Lib.hid b0
  have c0 : (w.alloc (.cells (Array.replicate N (.int .u8 0)) 5)).cell? ⟨g, 0, none⟩ = some (.slice A N c) := by
    rw [HN.out]; exact (h1.grow (Grow.alloc w _)).cell (i := 0) rfl
  have HPOS : Hid (0 < (u8s L).length → ∃ ad, A = some ad ∧ ∀ j u, (u8s L)[j]? = some u → (w.alloc (.cells (Array.replicate N (.int .u8 0)) 5)).cell? (ad.add j) = some u) :=
    Lib.hid fun hp => (hr.grow (Grow.alloc w _)).add_ (by rw [hN]; simpa [u8s] using hp)
  have HLEN : Hid ((u8s L).length = Nat.min N N ∧ 0 + (u8s L).length ≤ (List.replicate N (.int .u8 0 : Value)).length) := Lib.hid ⟨by simp [u8s, hN], by simp [u8s, hN]⟩
  clear h1 h2 h3 a3 hl b0 hN hr
  go_enter Try.func52, Try.ntmps52
  go_wp2_with fail
  refine HL.out.mono ?_
  rintro e w' ⟨rfl, rfl⟩
  rw [← HN.out]
  go_wp2_with (refine wpList_copy_splice rfl _ _ 65 65 rfl 5 Try.underlying65 size8 _ _ N N N c rfl rfl w.heap.size 0 (List.replicate N (.int .u8 0)) 5 HB0.out (u8s L) HLEN.out.1 (fun hp => ⟨rfl, HPOS.out hp⟩) HLEN.out.2 (one_u8s _) w.heap.size w (Grow.alloc w _) (Nat.le_refl _) ?_; intro w2 hb2 hg2)
  go_ret
  have hb3 : Blk w2 w.heap.size 5 (u8s L) := by
    have := hb2.out
    rw [splice_all _ _ (by simp [u8s, HN.out])] at this
    exact this
  exact ⟨_, rfl, by rw [HN.out]; exact own_lit hb3 (Nat.le_refl _) (by simp [u8s]) (by unfold maxLen; rw [HN.out] at hL; omega), hg2⟩
end Go.Proofs.Ytgpcijpadelcfaa.dkW
