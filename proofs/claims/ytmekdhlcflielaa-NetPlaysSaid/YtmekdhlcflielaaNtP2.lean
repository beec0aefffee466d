/- The law's do: an act, done. -/
import Derived.Test.YtmekdhlcflielaaNtP
namespace Go.Proofs.Ytmekdhlcflielaa.ntL
open Go Go.RowKit Go.Par Go.Kit Go.Proofs.Ytmekdhlcflielaa.mpA Go.Proofs.Ytmekdhlcflielaa.cl Go.Proofs.Ytmekdhlcflielaa.nt

abbrev TA : TypeId := 46
section
variable {w w' : World} {B g bm n cnt : Nat} {lv : Value} {ps : List PkR} {C : Cuts}
theorem Next.blk {ps' : List Pk} {C' : Cuts} {w0 w3 : World} (h0 : NetI w0 B g bm n cnt lv ps C) (h : Next w B g bm n cnt lv ps' C' w3) {r : Nat} {t : TypeId} {cs : List Value} (hr : Blk w r t cs) (hr0 : w0.heap.size ≤ r) : Blk w3 r t cs :=
  let ⟨_, _, _, _, _, _, hk, _⟩ := h; hk.blk hr (h0.lt hr0)
set_option maxRecDepth 100000 in
set_option maxHeartbeats 4000000 in
theorem do_send (h : NetI w B g bm n cnt lv ps C) (hcnt : cnt < 1000000) (k a b : Nat) (K at_ : Int) (m : BitVec 32) (A : Option Addr) (ln c : Nat) (l : List UInt8) (ha : a ≤ 255) (hb : b ≤ 255) (hsl : Sl w (.slice A ln c) l) (hll : l.length ≤ 1000) (hk : k = 0) :
    Calls Try.prog 16 #[.pointer (some ⟨g, 0, none⟩), .agg #[.int .u8 (k : Int), .int .u8 (a : Int), .int .u8 (b : Int), .int .i64 K, .int .i64 at_, .int .u32 (m.toNat : Int), .slice A ln c]] w fun e w' => e = .returned (.tuple #[.int .i64 ((sendS n (ps.map pkOf) a b l).2 : Int), zval]) ∧ Next w B g bm n cnt lv (sendS n (ps.map pkOf) a b l).1 C w' := by
  have hu := And.intro hcnt (And.intro ha (And.intro hb (And.intro hsl hll)))
  clear hu
  subst hk
  obtain ⟨W2, hW2⟩ : ∃ W, W = (w.alloc (.cells #[.int .u8 0, .int .u8 (a : Int), .int .u8 (b : Int), .int .i64 K, .int .i64 at_, .int .u32 (m.toNat : Int), .slice A ln c] TA)).alloc (.cells #[.int .u8 0, .int .u8 0, .slice none 0 0, .bool false] TK) := ⟨_, rfl⟩
  have hg2 : Grow w W2 := by rw [hW2]; exact (Grow.alloc _ _).trans (Grow.alloc _ _)
  have hbs : Blk W2 w.heap.size TA [.int .u8 0, .int .u8 (a : Int), .int .u8 (b : Int), .int .i64 K, .int .i64 at_, .int .u32 (m.toNat : Int), .slice A ln c] := by rw [hW2]; exact (Blk.new _ _ _ _ rfl rfl).grow (Grow.alloc _ _)
  have hbr : Blk W2 (w.heap.size + 1) TK zk := by rw [hW2]; exact Blk.new _ _ _ _ rfl (by simp)
  have h2 := h.grow hg2
  obtain ⟨s, hs⟩ : ∃ s, s = w.heap.size := ⟨_, rfl⟩
  obtain ⟨r, hr⟩ : ∃ r, r = w.heap.size + 1 := ⟨_, rfl⟩
  rw [← hs] at hbs
  rw [← hr] at hbr
  have HBR := Lib.hid hbr
  have HNX : Hid (∀ ps' C' w3, Next W2 B g bm n cnt lv ps' C' w3 → Blk w3 r TK zk ∧ ∀ q, Next w B g bm n cnt lv ps' C' (w3.setRow r q)) := Lib.hid fun ps' C' w3 hn => ⟨Next.blk h hn hbr (by omega), Next.box h hg2 hn hbr (by omega)⟩
  have HC := Lib.hid (send_all h2 a b ha hb (.slice A ln c) l (hsl.grow hg2) hll)
  have c0 := hbs.cell (i := 0) rfl
  have c1 := hbs.cell (i := 1) rfl
  have c2 := hbs.cell (i := 2) rfl
  have c3 := hbs.cell (i := 3) rfl
  have c4 := hbs.cell (i := 4) rfl
  have c5 := hbs.cell (i := 5) rfl
  have c6 := hbs.cell (i := 6) rfl
  have HW2 := Lib.hid hW2
  have HS := Lib.hid hs
  have HR := Lib.hid hr
  clear h hsl h2 hg2 hbs hbr hW2 hs hr hcnt ha hb hll
  go_enter Try.func16, Try.ntmps16
  repeat (first | with_reducible (refine wp_region_cut (k := 1) ?_) | go_values | go_guarded | go_step | go_upon | go_back)
  rw [← HW2.out, ← HR.out, ← HS.out]
  unfold Cut
  go_wp2_with fail
  refine HC.out.mono ?_
  rintro e w3 ⟨rfl, hnx⟩
  have hb3 := (HNX.out _ _ _ hnx).1
  go_wp2_with (refine store_blk rfl _ _ _ rfl r zk rfl rfl _ _ hb3 (by rw [sizeK]; rfl) rfl rfl ?_)
  exact ret_tmp_blk rfl r _ zk _ (.int .i64 ((sendS n (ps.map pkOf) a b l).2 : Int)) rfl (hb3.setRow _) undK rfl (by rw [sizeK]; rfl) rfl rfl ⟨rfl, (HNX.out _ _ _ hnx).2 _⟩
set_option maxRecDepth 100000 in
set_option maxHeartbeats 4000000 in
theorem do_drop (h : NetI w B g bm n cnt lv ps C) (hcnt : cnt < 1000000) (k a b : Nat) (K at_ : Int) (m : BitVec 32) (A : Option Addr) (ln c : Nat) (l : List UInt8) (ha : a ≤ 255) (hb : b ≤ 255) (hsl : Sl w (.slice A ln c) l) (hll : l.length ≤ 1000) (hk : k = 2) :
    Calls Try.prog 16 #[.pointer (some ⟨g, 0, none⟩), .agg #[.int .u8 (k : Int), .int .u8 (a : Int), .int .u8 (b : Int), .int .i64 K, .int .i64 at_, .int .u32 (m.toNat : Int), .slice A ln c]] w fun e w' => e = .returned (.tuple #[.int .i64 ((dropS (ps.map pkOf) K).2 : Int), zval]) ∧ Next w B g bm n cnt lv (dropS (ps.map pkOf) K).1 C w' := by
  have hu := And.intro hcnt (And.intro ha (And.intro hb (And.intro hsl hll)))
  clear hu
  subst hk
  obtain ⟨W2, hW2⟩ : ∃ W, W = (w.alloc (.cells #[.int .u8 2, .int .u8 (a : Int), .int .u8 (b : Int), .int .i64 K, .int .i64 at_, .int .u32 (m.toNat : Int), .slice A ln c] TA)).alloc (.cells #[.int .u8 0, .int .u8 0, .slice none 0 0, .bool false] TK) := ⟨_, rfl⟩
  have hg2 : Grow w W2 := by rw [hW2]; exact (Grow.alloc _ _).trans (Grow.alloc _ _)
  have hbs : Blk W2 w.heap.size TA [.int .u8 2, .int .u8 (a : Int), .int .u8 (b : Int), .int .i64 K, .int .i64 at_, .int .u32 (m.toNat : Int), .slice A ln c] := by rw [hW2]; exact (Blk.new _ _ _ _ rfl rfl).grow (Grow.alloc _ _)
  have hbr : Blk W2 (w.heap.size + 1) TK zk := by rw [hW2]; exact Blk.new _ _ _ _ rfl (by simp)
  have h2 := h.grow hg2
  obtain ⟨s, hs⟩ : ∃ s, s = w.heap.size := ⟨_, rfl⟩
  obtain ⟨r, hr⟩ : ∃ r, r = w.heap.size + 1 := ⟨_, rfl⟩
  rw [← hs] at hbs
  rw [← hr] at hbr
  have HBR := Lib.hid hbr
  have HNX : Hid (∀ ps' C' w3, Next W2 B g bm n cnt lv ps' C' w3 → Blk w3 r TK zk ∧ ∀ q, Next w B g bm n cnt lv ps' C' (w3.setRow r q)) := Lib.hid fun ps' C' w3 hn => ⟨Next.blk h hn hbr (by omega), Next.box h hg2 hn hbr (by omega)⟩
  have HC := Lib.hid (drop_all h2 K)
  have c0 := hbs.cell (i := 0) rfl
  have c1 := hbs.cell (i := 1) rfl
  have c2 := hbs.cell (i := 2) rfl
  have c3 := hbs.cell (i := 3) rfl
  have c4 := hbs.cell (i := 4) rfl
  have c5 := hbs.cell (i := 5) rfl
  have c6 := hbs.cell (i := 6) rfl
  have HW2 := Lib.hid hW2
  have HS := Lib.hid hs
  have HR := Lib.hid hr
  clear h hsl h2 hg2 hbs hbr hW2 hs hr hcnt ha hb hll
  go_enter Try.func16, Try.ntmps16
  repeat (first | with_reducible (refine wp_region_cut (k := 1) ?_) | go_values | go_guarded | go_step | go_upon | go_back)
  rw [← HW2.out, ← HR.out, ← HS.out]
  unfold Cut
  go_wp2_with fail
  refine HC.out.mono ?_
  rintro e w3 ⟨rfl, hnx⟩
  have hb3 := (HNX.out _ _ _ hnx).1
  go_wp2_with (refine store_blk rfl _ _ _ rfl r zk rfl rfl _ _ hb3 (by rw [sizeK]; rfl) rfl rfl ?_)
  exact ret_tmp_blk rfl r _ zk _ (.int .i64 ((dropS (ps.map pkOf) K).2 : Int)) rfl (hb3.setRow _) undK rfl (by rw [sizeK]; rfl) rfl rfl ⟨rfl, (HNX.out _ _ _ hnx).2 _⟩
set_option maxRecDepth 100000 in
set_option maxHeartbeats 4000000 in
theorem do_twice (h : NetI w B g bm n cnt lv ps C) (hcnt : cnt < 1000000) (k a b : Nat) (K at_ : Int) (m : BitVec 32) (A : Option Addr) (ln c : Nat) (l : List UInt8) (ha : a ≤ 255) (hb : b ≤ 255) (hsl : Sl w (.slice A ln c) l) (hll : l.length ≤ 1000) (hk : k = 3) :
    Calls Try.prog 16 #[.pointer (some ⟨g, 0, none⟩), .agg #[.int .u8 (k : Int), .int .u8 (a : Int), .int .u8 (b : Int), .int .i64 K, .int .i64 at_, .int .u32 (m.toNat : Int), .slice A ln c]] w fun e w' => e = .returned (.tuple #[.int .i64 ((twiceS (ps.map pkOf) K).2 : Int), zval]) ∧ Next w B g bm n cnt lv (twiceS (ps.map pkOf) K).1 C w' := by
  have hu := And.intro hcnt (And.intro ha (And.intro hb (And.intro hsl hll)))
  clear hu
  subst hk
  obtain ⟨W2, hW2⟩ : ∃ W, W = (w.alloc (.cells #[.int .u8 3, .int .u8 (a : Int), .int .u8 (b : Int), .int .i64 K, .int .i64 at_, .int .u32 (m.toNat : Int), .slice A ln c] TA)).alloc (.cells #[.int .u8 0, .int .u8 0, .slice none 0 0, .bool false] TK) := ⟨_, rfl⟩
  have hg2 : Grow w W2 := by rw [hW2]; exact (Grow.alloc _ _).trans (Grow.alloc _ _)
  have hbs : Blk W2 w.heap.size TA [.int .u8 3, .int .u8 (a : Int), .int .u8 (b : Int), .int .i64 K, .int .i64 at_, .int .u32 (m.toNat : Int), .slice A ln c] := by rw [hW2]; exact (Blk.new _ _ _ _ rfl rfl).grow (Grow.alloc _ _)
  have hbr : Blk W2 (w.heap.size + 1) TK zk := by rw [hW2]; exact Blk.new _ _ _ _ rfl (by simp)
  have h2 := h.grow hg2
  obtain ⟨s, hs⟩ : ∃ s, s = w.heap.size := ⟨_, rfl⟩
  obtain ⟨r, hr⟩ : ∃ r, r = w.heap.size + 1 := ⟨_, rfl⟩
  rw [← hs] at hbs
  rw [← hr] at hbr
  have HBR := Lib.hid hbr
  have HNX : Hid (∀ ps' C' w3, Next W2 B g bm n cnt lv ps' C' w3 → Blk w3 r TK zk ∧ ∀ q, Next w B g bm n cnt lv ps' C' (w3.setRow r q)) := Lib.hid fun ps' C' w3 hn => ⟨Next.blk h hn hbr (by omega), Next.box h hg2 hn hbr (by omega)⟩
  have HC := Lib.hid (twice_all h2 K)
  have c0 := hbs.cell (i := 0) rfl
  have c1 := hbs.cell (i := 1) rfl
  have c2 := hbs.cell (i := 2) rfl
  have c3 := hbs.cell (i := 3) rfl
  have c4 := hbs.cell (i := 4) rfl
  have c5 := hbs.cell (i := 5) rfl
  have c6 := hbs.cell (i := 6) rfl
  have HW2 := Lib.hid hW2
  have HS := Lib.hid hs
  have HR := Lib.hid hr
  clear h hsl h2 hg2 hbs hbr hW2 hs hr hcnt ha hb hll
  go_enter Try.func16, Try.ntmps16
  repeat (first | with_reducible (refine wp_region_cut (k := 1) ?_) | go_values | go_guarded | go_step | go_upon | go_back)
  rw [← HW2.out, ← HR.out, ← HS.out]
  unfold Cut
  go_wp2_with fail
  refine HC.out.mono ?_
  rintro e w3 ⟨rfl, hnx⟩
  have hb3 := (HNX.out _ _ _ hnx).1
  go_wp2_with (refine store_blk rfl _ _ _ rfl r zk rfl rfl _ _ hb3 (by rw [sizeK]; rfl) rfl rfl ?_)
  exact ret_tmp_blk rfl r _ zk _ (.int .i64 ((twiceS (ps.map pkOf) K).2 : Int)) rfl (hb3.setRow _) undK rfl (by rw [sizeK]; rfl) rfl rfl ⟨rfl, (HNX.out _ _ _ hnx).2 _⟩
set_option maxRecDepth 100000 in
set_option maxHeartbeats 4000000 in
theorem do_spoil (h : NetI w B g bm n cnt lv ps C) (hcnt : cnt < 1000000) (k a b : Nat) (K at_ : Int) (m : BitVec 32) (A : Option Addr) (ln c : Nat) (l : List UInt8) (ha : a ≤ 255) (hb : b ≤ 255) (hsl : Sl w (.slice A ln c) l) (hll : l.length ≤ 1000) (hk : k = 4) :
    Calls Try.prog 16 #[.pointer (some ⟨g, 0, none⟩), .agg #[.int .u8 (k : Int), .int .u8 (a : Int), .int .u8 (b : Int), .int .i64 K, .int .i64 at_, .int .u32 (m.toNat : Int), .slice A ln c]] w fun e w' => e = .returned (.tuple #[.int .i64 ((spoilS (ps.map pkOf) K at_ m).2 : Int), zval]) ∧ Next w B g bm n cnt lv (spoilS (ps.map pkOf) K at_ m).1 C w' := by
  have hu := And.intro hcnt (And.intro ha (And.intro hb (And.intro hsl hll)))
  clear hu
  subst hk
  obtain ⟨W2, hW2⟩ : ∃ W, W = (w.alloc (.cells #[.int .u8 4, .int .u8 (a : Int), .int .u8 (b : Int), .int .i64 K, .int .i64 at_, .int .u32 (m.toNat : Int), .slice A ln c] TA)).alloc (.cells #[.int .u8 0, .int .u8 0, .slice none 0 0, .bool false] TK) := ⟨_, rfl⟩
  have hg2 : Grow w W2 := by rw [hW2]; exact (Grow.alloc _ _).trans (Grow.alloc _ _)
  have hbs : Blk W2 w.heap.size TA [.int .u8 4, .int .u8 (a : Int), .int .u8 (b : Int), .int .i64 K, .int .i64 at_, .int .u32 (m.toNat : Int), .slice A ln c] := by rw [hW2]; exact (Blk.new _ _ _ _ rfl rfl).grow (Grow.alloc _ _)
  have hbr : Blk W2 (w.heap.size + 1) TK zk := by rw [hW2]; exact Blk.new _ _ _ _ rfl (by simp)
  have h2 := h.grow hg2
  obtain ⟨s, hs⟩ : ∃ s, s = w.heap.size := ⟨_, rfl⟩
  obtain ⟨r, hr⟩ : ∃ r, r = w.heap.size + 1 := ⟨_, rfl⟩
  rw [← hs] at hbs
  rw [← hr] at hbr
  have HBR := Lib.hid hbr
  have HNX : Hid (∀ ps' C' w3, Next W2 B g bm n cnt lv ps' C' w3 → Blk w3 r TK zk ∧ ∀ q, Next w B g bm n cnt lv ps' C' (w3.setRow r q)) := Lib.hid fun ps' C' w3 hn => ⟨Next.blk h hn hbr (by omega), Next.box h hg2 hn hbr (by omega)⟩
  have HC := Lib.hid (spoil_all h2 K at_ m)
  have c0 := hbs.cell (i := 0) rfl
  have c1 := hbs.cell (i := 1) rfl
  have c2 := hbs.cell (i := 2) rfl
  have c3 := hbs.cell (i := 3) rfl
  have c4 := hbs.cell (i := 4) rfl
  have c5 := hbs.cell (i := 5) rfl
  have c6 := hbs.cell (i := 6) rfl
  have HW2 := Lib.hid hW2
  have HS := Lib.hid hs
  have HR := Lib.hid hr
  clear h hsl h2 hg2 hbs hbr hW2 hs hr hcnt ha hb hll
  go_enter Try.func16, Try.ntmps16
  repeat (first | with_reducible (refine wp_region_cut (k := 1) ?_) | go_values | go_guarded | go_step | go_upon | go_back)
  rw [← HW2.out, ← HR.out, ← HS.out]
  unfold Cut
  go_wp2_with fail
  refine HC.out.mono ?_
  rintro e w3 ⟨rfl, hnx⟩
  have hb3 := (HNX.out _ _ _ hnx).1
  go_wp2_with (refine store_blk rfl _ _ _ rfl r zk rfl rfl _ _ hb3 (by rw [sizeK]; rfl) rfl rfl ?_)
  exact ret_tmp_blk rfl r _ zk _ (.int .i64 ((spoilS (ps.map pkOf) K at_ m).2 : Int)) rfl (hb3.setRow _) undK rfl (by rw [sizeK]; rfl) rfl rfl ⟨rfl, (HNX.out _ _ _ hnx).2 _⟩
set_option maxRecDepth 100000 in
set_option maxHeartbeats 4000000 in
theorem do_cut (h : NetI w B g bm n cnt lv ps C) (hcnt : cnt < 1000000) (k a b : Nat) (K at_ : Int) (m : BitVec 32) (A : Option Addr) (ln c : Nat) (l : List UInt8) (ha : a ≤ 255) (hb : b ≤ 255) (hsl : Sl w (.slice A ln c) l) (hll : l.length ≤ 1000) (hk : k = 5) :
    Calls Try.prog 16 #[.pointer (some ⟨g, 0, none⟩), .agg #[.int .u8 (k : Int), .int .u8 (a : Int), .int .u8 (b : Int), .int .i64 K, .int .i64 at_, .int .u32 (m.toNat : Int), .slice A ln c]] w fun e w' => e = .returned (.tuple #[.int .i64 ((cutS n C a b).2 : Int), zval]) ∧ Next w B g bm n cnt lv (ps.map pkOf) (cutS n C a b).1 w' := by
  have hu := And.intro hcnt (And.intro ha (And.intro hb (And.intro hsl hll)))
  clear hu
  subst hk
  obtain ⟨W2, hW2⟩ : ∃ W, W = (w.alloc (.cells #[.int .u8 5, .int .u8 (a : Int), .int .u8 (b : Int), .int .i64 K, .int .i64 at_, .int .u32 (m.toNat : Int), .slice A ln c] TA)).alloc (.cells #[.int .u8 0, .int .u8 0, .slice none 0 0, .bool false] TK) := ⟨_, rfl⟩
  have hg2 : Grow w W2 := by rw [hW2]; exact (Grow.alloc _ _).trans (Grow.alloc _ _)
  have hbs : Blk W2 w.heap.size TA [.int .u8 5, .int .u8 (a : Int), .int .u8 (b : Int), .int .i64 K, .int .i64 at_, .int .u32 (m.toNat : Int), .slice A ln c] := by rw [hW2]; exact (Blk.new _ _ _ _ rfl rfl).grow (Grow.alloc _ _)
  have hbr : Blk W2 (w.heap.size + 1) TK zk := by rw [hW2]; exact Blk.new _ _ _ _ rfl (by simp)
  have h2 := h.grow hg2
  obtain ⟨s, hs⟩ : ∃ s, s = w.heap.size := ⟨_, rfl⟩
  obtain ⟨r, hr⟩ : ∃ r, r = w.heap.size + 1 := ⟨_, rfl⟩
  rw [← hs] at hbs
  rw [← hr] at hbr
  have HBR := Lib.hid hbr
  have HNX : Hid (∀ ps' C' w3, Next W2 B g bm n cnt lv ps' C' w3 → Blk w3 r TK zk ∧ ∀ q, Next w B g bm n cnt lv ps' C' (w3.setRow r q)) := Lib.hid fun ps' C' w3 hn => ⟨Next.blk h hn hbr (by omega), Next.box h hg2 hn hbr (by omega)⟩
  have HC := Lib.hid (cut_all h2 a b ha hb hcnt)
  have c0 := hbs.cell (i := 0) rfl
  have c1 := hbs.cell (i := 1) rfl
  have c2 := hbs.cell (i := 2) rfl
  have c3 := hbs.cell (i := 3) rfl
  have c4 := hbs.cell (i := 4) rfl
  have c5 := hbs.cell (i := 5) rfl
  have c6 := hbs.cell (i := 6) rfl
  have HW2 := Lib.hid hW2
  have HS := Lib.hid hs
  have HR := Lib.hid hr
  clear h hsl h2 hg2 hbs hbr hW2 hs hr hcnt ha hb hll
  go_enter Try.func16, Try.ntmps16
  repeat (first | with_reducible (refine wp_region_cut (k := 1) ?_) | go_values | go_guarded | go_step | go_upon | go_back)
  rw [← HW2.out, ← HR.out, ← HS.out]
  unfold Cut
  go_wp2_with fail
  refine HC.out.mono ?_
  rintro e w3 ⟨rfl, hnx⟩
  have hb3 := (HNX.out _ _ _ hnx).1
  go_wp2_with (refine store_blk rfl _ _ _ rfl r zk rfl rfl _ _ hb3 (by rw [sizeK]; rfl) rfl rfl ?_)
  exact ret_tmp_blk rfl r _ zk _ (.int .i64 ((cutS n C a b).2 : Int)) rfl (hb3.setRow _) undK rfl (by rw [sizeK]; rfl) rfl rfl ⟨rfl, (HNX.out _ _ _ hnx).2 _⟩
set_option maxRecDepth 100000 in
set_option maxHeartbeats 4000000 in
theorem do_heal (h : NetI w B g bm n cnt lv ps C) (hcnt : cnt < 1000000) (k a b : Nat) (K at_ : Int) (m : BitVec 32) (A : Option Addr) (ln c : Nat) (l : List UInt8) (ha : a ≤ 255) (hb : b ≤ 255) (hsl : Sl w (.slice A ln c) l) (hll : l.length ≤ 1000) (hk : k = 6) :
    Calls Try.prog 16 #[.pointer (some ⟨g, 0, none⟩), .agg #[.int .u8 (k : Int), .int .u8 (a : Int), .int .u8 (b : Int), .int .i64 K, .int .i64 at_, .int .u32 (m.toNat : Int), .slice A ln c]] w fun e w' => e = .returned (.tuple #[.int .i64 ((0 : Nat) : Int), zval]) ∧ Next w B g bm n cnt lv (ps.map pkOf) (fun _ _ => false) w' := by
  have hu := And.intro hcnt (And.intro ha (And.intro hb (And.intro hsl hll)))
  clear hu
  subst hk
  obtain ⟨W2, hW2⟩ : ∃ W, W = (w.alloc (.cells #[.int .u8 6, .int .u8 (a : Int), .int .u8 (b : Int), .int .i64 K, .int .i64 at_, .int .u32 (m.toNat : Int), .slice A ln c] TA)).alloc (.cells #[.int .u8 0, .int .u8 0, .slice none 0 0, .bool false] TK) := ⟨_, rfl⟩
  have hg2 : Grow w W2 := by rw [hW2]; exact (Grow.alloc _ _).trans (Grow.alloc _ _)
  have hbs : Blk W2 w.heap.size TA [.int .u8 6, .int .u8 (a : Int), .int .u8 (b : Int), .int .i64 K, .int .i64 at_, .int .u32 (m.toNat : Int), .slice A ln c] := by rw [hW2]; exact (Blk.new _ _ _ _ rfl rfl).grow (Grow.alloc _ _)
  have hbr : Blk W2 (w.heap.size + 1) TK zk := by rw [hW2]; exact Blk.new _ _ _ _ rfl (by simp)
  have h2 := h.grow hg2
  obtain ⟨s, hs⟩ : ∃ s, s = w.heap.size := ⟨_, rfl⟩
  obtain ⟨r, hr⟩ : ∃ r, r = w.heap.size + 1 := ⟨_, rfl⟩
  rw [← hs] at hbs
  rw [← hr] at hbr
  have HBR := Lib.hid hbr
  have HNX : Hid (∀ ps' C' w3, Next W2 B g bm n cnt lv ps' C' w3 → Blk w3 r TK zk ∧ ∀ q, Next w B g bm n cnt lv ps' C' (w3.setRow r q)) := Lib.hid fun ps' C' w3 hn => ⟨Next.blk h hn hbr (by omega), Next.box h hg2 hn hbr (by omega)⟩
  have HC := Lib.hid (heal_all h2)
  have c0 := hbs.cell (i := 0) rfl
  have c1 := hbs.cell (i := 1) rfl
  have c2 := hbs.cell (i := 2) rfl
  have c3 := hbs.cell (i := 3) rfl
  have c4 := hbs.cell (i := 4) rfl
  have c5 := hbs.cell (i := 5) rfl
  have c6 := hbs.cell (i := 6) rfl
  have HW2 := Lib.hid hW2
  have HS := Lib.hid hs
  have HR := Lib.hid hr
  clear h hsl h2 hg2 hbs hbr hW2 hs hr hcnt ha hb hll
  go_enter Try.func16, Try.ntmps16
  repeat (first | with_reducible (refine wp_region_cut (k := 1) ?_) | go_values | go_guarded | go_step | go_upon | go_back)
  rw [← HW2.out, ← HR.out, ← HS.out]
  unfold Cut
  go_wp2_with fail
  refine HC.out.mono ?_
  rintro e w3 ⟨⟨v, rfl⟩, hnx⟩
  have hb3 := (HNX.out _ _ _ hnx).1
  go_wp2_with (refine store_blk rfl _ _ _ rfl r zk rfl rfl _ _ hb3 (by rw [sizeK]; rfl) rfl rfl ?_)
  exact ret_tmp_blk rfl r _ zk _ (.int .i64 0) rfl (hb3.setRow _) undK rfl (by rw [sizeK]; rfl) rfl rfl ⟨rfl, (HNX.out _ _ _ hnx).2 _⟩
set_option maxRecDepth 100000 in
set_option maxHeartbeats 4000000 in
theorem do_none (h : NetI w B g bm n cnt lv ps C) (hcnt : cnt < 1000000) (k a b : Nat) (K at_ : Int) (m : BitVec 32) (A : Option Addr) (ln c : Nat) (l : List UInt8) (ha : a ≤ 255) (hb : b ≤ 255) (hsl : Sl w (.slice A ln c) l) (hll : l.length ≤ 1000) (hk : 7 ≤ k) :
    Calls Try.prog 16 #[.pointer (some ⟨g, 0, none⟩), .agg #[.int .u8 (k : Int), .int .u8 (a : Int), .int .u8 (b : Int), .int .i64 K, .int .i64 at_, .int .u32 (m.toNat : Int), .slice A ln c]] w fun e w' => e = .returned (.tuple #[.int .i64 ((0 : Nat) : Int), zval]) ∧ Next w B g bm n cnt lv (ps.map pkOf) C w' := by
  have hu := And.intro hcnt (And.intro ha (And.intro hb (And.intro hsl hll)))
  clear hu
  have t0 : ((k : Int) == 0) = false := beq_false_of_ne (by omega)
  have s0 : (k == 0) = false := beq_false_of_ne (by omega)
  have t1 : ((k : Int) == 1) = false := beq_false_of_ne (by omega)
  have s1 : (k == 1) = false := beq_false_of_ne (by omega)
  have t2 : ((k : Int) == 2) = false := beq_false_of_ne (by omega)
  have s2 : (k == 2) = false := beq_false_of_ne (by omega)
  have t3 : ((k : Int) == 3) = false := beq_false_of_ne (by omega)
  have s3 : (k == 3) = false := beq_false_of_ne (by omega)
  have t4 : ((k : Int) == 4) = false := beq_false_of_ne (by omega)
  have s4 : (k == 4) = false := beq_false_of_ne (by omega)
  have t5 : ((k : Int) == 5) = false := beq_false_of_ne (by omega)
  have s5 : (k == 5) = false := beq_false_of_ne (by omega)
  have t6 : ((k : Int) == 6) = false := beq_false_of_ne (by omega)
  have s6 : (k == 6) = false := beq_false_of_ne (by omega)
  clear hk
  obtain ⟨W2, hW2⟩ : ∃ W, W = (w.alloc (.cells #[.int .u8 (k : Int), .int .u8 (a : Int), .int .u8 (b : Int), .int .i64 K, .int .i64 at_, .int .u32 (m.toNat : Int), .slice A ln c] TA)).alloc (.cells #[.int .u8 0, .int .u8 0, .slice none 0 0, .bool false] TK) := ⟨_, rfl⟩
  have hg2 : Grow w W2 := by rw [hW2]; exact (Grow.alloc _ _).trans (Grow.alloc _ _)
  have hbs : Blk W2 w.heap.size TA [.int .u8 (k : Int), .int .u8 (a : Int), .int .u8 (b : Int), .int .i64 K, .int .i64 at_, .int .u32 (m.toNat : Int), .slice A ln c] := by rw [hW2]; exact (Blk.new _ _ _ _ rfl rfl).grow (Grow.alloc _ _)
  have hbr : Blk W2 (w.heap.size + 1) TK zk := by rw [hW2]; exact Blk.new _ _ _ _ rfl (by simp)
  have h2 := h.grow hg2
  obtain ⟨s, hs⟩ : ∃ s, s = w.heap.size := ⟨_, rfl⟩
  obtain ⟨r, hr⟩ : ∃ r, r = w.heap.size + 1 := ⟨_, rfl⟩
  rw [← hs] at hbs
  rw [← hr] at hbr
  have HBR := Lib.hid hbr
  have HNX : Hid (∀ ps' C' w3, Next W2 B g bm n cnt lv ps' C' w3 → Blk w3 r TK zk ∧ ∀ q, Next w B g bm n cnt lv ps' C' (w3.setRow r q)) := Lib.hid fun ps' C' w3 hn => ⟨Next.blk h hn hbr (by omega), Next.box h hg2 hn hbr (by omega)⟩
  have HN2 := Lib.hid (Next.same h2)
  have c0 := hbs.cell (i := 0) rfl
  have c1 := hbs.cell (i := 1) rfl
  have c2 := hbs.cell (i := 2) rfl
  have c3 := hbs.cell (i := 3) rfl
  have c4 := hbs.cell (i := 4) rfl
  have c5 := hbs.cell (i := 5) rfl
  have c6 := hbs.cell (i := 6) rfl
  have HW2 := Lib.hid hW2
  have HS := Lib.hid hs
  have HR := Lib.hid hr
  clear h hsl h2 hg2 hbs hbr hW2 hs hr hcnt ha hb hll
  go_enter Try.func16, Try.ntmps16
  repeat (first | with_reducible (refine wp_region_cut (k := 1) ?_) | go_values | go_guarded | go_step | go_upon | go_back)
  rw [← HW2.out, ← HR.out, ← HS.out]
  unfold Cut
  have hb3 := HBR.out
  go_wp2_with (refine store_blk rfl _ _ _ rfl r zk rfl rfl _ _ hb3 (by rw [sizeK]; rfl) rfl rfl ?_)
  exact ret_tmp_blk rfl r _ zk _ (.int .i64 0) rfl (hb3.setRow _) undK rfl (by rw [sizeK]; rfl) rfl rfl ⟨rfl, (HNX.out _ _ _ HN2.out).2 _⟩
theorem Next.on {ps' : List Pk} {C' : Cuts} {w3 w4 : World} (h : Next w B g bm n cnt lv ps' C' w3) (hg : Grow w3 w4) : Next w B g bm n cnt lv ps' C' w4 :=
  let ⟨a, b, c, h1, h2, h3, h4, h5⟩ := h; ⟨a, b, c, h1, h2.grow hg, h3, h4.trans (Keep.of hg h2.base), h5⟩
set_option maxRecDepth 100000 in
set_option maxHeartbeats 4000000 in
theorem do_take (h : NetI w B g bm n cnt lv ps C) (hcnt : cnt < 1000000) (k a b : Nat) (K at_ : Int) (m : BitVec 32) (A : Option Addr) (ln c : Nat) (l : List UInt8) (ha : a ≤ 255) (hb : b ≤ 255) (hsl : Sl w (.slice A ln c) l) (hll : l.length ≤ 1000) (hk : k = 1) :
    Calls Try.prog 16 #[.pointer (some ⟨g, 0, none⟩), .agg #[.int .u8 (k : Int), .int .u8 (a : Int), .int .u8 (b : Int), .int .i64 K, .int .i64 at_, .int .u32 (m.toNat : Int), .slice A ln c]] w fun e w' => (∃ v, e = .returned (.tuple #[.int .i64 ((takeS n C (ps.map pkOf) K).2.1 : Int), .agg #[.int .u8 ((takeS n C (ps.map pkOf) K).2.2.fr : Int), .int .u8 ((takeS n C (ps.map pkOf) K).2.2.to : Int), v, .bool (takeS n C (ps.map pkOf) K).2.2.sp]]) ∧ BV w' v (takeS n C (ps.map pkOf) K).2.2.b) ∧ Next w B g bm n cnt lv (takeS n C (ps.map pkOf) K).1 C w' := by
  have hu := And.intro hcnt (And.intro ha (And.intro hb (And.intro hsl hll)))
  clear hu
  subst hk
  obtain ⟨W2, hW2⟩ : ∃ W, W = (w.alloc (.cells #[.int .u8 1, .int .u8 (a : Int), .int .u8 (b : Int), .int .i64 K, .int .i64 at_, .int .u32 (m.toNat : Int), .slice A ln c] TA)).alloc (.cells #[.int .u8 0, .int .u8 0, .slice none 0 0, .bool false] TK) := ⟨_, rfl⟩
  have hg2 : Grow w W2 := by rw [hW2]; exact (Grow.alloc _ _).trans (Grow.alloc _ _)
  have hbs : Blk W2 w.heap.size TA [.int .u8 1, .int .u8 (a : Int), .int .u8 (b : Int), .int .i64 K, .int .i64 at_, .int .u32 (m.toNat : Int), .slice A ln c] := by rw [hW2]; exact (Blk.new _ _ _ _ rfl rfl).grow (Grow.alloc _ _)
  have hbr : Blk W2 (w.heap.size + 1) TK zk := by rw [hW2]; exact Blk.new _ _ _ _ rfl (by simp)
  have h2 := h.grow hg2
  obtain ⟨s, hs⟩ : ∃ s, s = w.heap.size := ⟨_, rfl⟩
  obtain ⟨r, hr⟩ : ∃ r, r = w.heap.size + 1 := ⟨_, rfl⟩
  rw [← hs] at hbs
  rw [← hr] at hbr
  have HBR := Lib.hid hbr
  have HNX : Hid (∀ ps' C' w3, Next W2 B g bm n cnt lv ps' C' w3 → Blk w3 r TK zk ∧ ∀ q, Next w B g bm n cnt lv ps' C' (w3.setRow r q)) := Lib.hid fun ps' C' w3 hn => ⟨Next.blk h hn hbr (by omega), Next.box h hg2 hn hbr (by omega)⟩
  have HC := Lib.hid (take_all h2 K)
  revert HC
  generalize takeS n C (ps.map pkOf) K = tk
  intro HC
  obtain ⟨ps', e', f', t', b', s'⟩ := tk
  dsimp only at HC ⊢
  have c0 := hbs.cell (i := 0) rfl
  have c1 := hbs.cell (i := 1) rfl
  have c2 := hbs.cell (i := 2) rfl
  have c3 := hbs.cell (i := 3) rfl
  have c4 := hbs.cell (i := 4) rfl
  have c5 := hbs.cell (i := 5) rfl
  have c6 := hbs.cell (i := 6) rfl
  have HW2 := Lib.hid hW2
  have HS := Lib.hid hs
  have HR := Lib.hid hr
  clear h hsl h2 hg2 hbs hbr hW2 hs hr hcnt ha hb hll
  go_enter Try.func16, Try.ntmps16
  repeat (first | with_reducible (refine wp_region_cut (k := 1) ?_) | go_values | go_guarded | go_step | go_upon | go_back)
  rw [← HW2.out, ← HR.out, ← HS.out]
  unfold Cut
  go_wp2_with fail
  refine HC.out.mono ?_
  rintro e w3 ⟨⟨v, rfl, hbv⟩, hnx⟩
  have hb3 := (HNX.out _ _ _ hnx).1
  obtain ⟨A3, c3, rfl, hbv2⟩ := hbv
  obtain ⟨n3, hn3⟩ : ∃ q, q = b'.length := ⟨_, rfl⟩
  obtain ⟨w4, hw4⟩ : ∃ W, W = w3.alloc (.cells #[.int .u8 (f' : Int), .int .u8 (t' : Int), .slice A3 n3 c3, .bool s'] TK) := ⟨_, rfl⟩
  have hg4 : Grow w3 w4 := by rw [hw4]; exact Grow.alloc _ _
  have hb6 : Blk w4 w3.heap.size TK [.int .u8 (f' : Int), .int .u8 (t' : Int), .slice A3 n3 c3, .bool s'] := by rw [hw4]; exact Blk.new _ _ _ _ rfl rfl
  have hb4 := hb3.grow hg4
  have hn4 := Next.on hnx hg4
  have hbv4 : BV w4 (.slice A3 n3 c3) b' := BV.grow ⟨A3, c3, by rw [hn3], hbv2⟩ hg4
  dsimp only
  rw [← hn3]
  have HF : Hid (∀ w5, Grow w4 w5 → ∀ q, BV (w5.setRow r q) (.slice A3 n3 c3) b' ∧ Next w B g bm n cnt lv ps' C (w5.setRow r q)) := Lib.hid fun w5 hg q => ⟨(hbv4.grow hg).keep (Keep.setRow (B := 0) (K := fun x => x ≠ r) (Keep.refl w5) (Nat.zero_le _) (fun hn => hn rfl) q) fun j cs hb e => by
    subst e
    exact absurd (Blk.ty_eq (hb4.grow hg) hb) (by decide), (HNX.out _ _ _ (Next.on hn4 hg)).2 q⟩
  have HB := Lib.hid (And.intro hb4 hb6)
  have HW4 := Lib.hid hw4
  clear hbv2 hn3 hw4 hg4 hb6 hb4 hn4 hbv4 hb3 hnx HNX HC
  repeat (first | go_values | go_guarded | go_step | go_upon | go_back)
  rw [← HW4.out]
  apply (fun (v0 v1 v2 : Value) mono obl tail => wp_region_par (R := Grow) (Φ := phi [veq v0, veq v1, veq v2]) (m := 3) (dls := [[], [], [(30, 0)]]) (ds := [30, 31, 4]) (by kernel_rfl) (by kernel_rfl) (by decide) rfl (Grow.drew _) (fun _ _ _ => Grow.trans) (mono_phi mono) obl tail)
  case obl =>
    refine obls_cons (fun f w' hR hH Q hQ => ?_) ?_
    · skip
      clear hH
      refine wpList_view ?_; show wpList _ _ _ [_] ⟨#[_, _, _, _, _, _, _, _, _, _, _, _, _, _, _, _, _, _, _, _, _, _, _, _, _, _, _, _, _, _, _, _, _, _, _, _, _, _, _, _, _, _, _, _, _, _, _, _, _, _, _, _, _, _, _, _, _, _, _, _, _, _, _, _, _, _, _, _, _, _, _], _⟩ _
      repeat (first | go_guarded | go_step)
      exact hQ _ _ (Grow.refl _) rfl rfl
    refine obls_cons (fun f w' hR hH Q hQ => ?_) ?_
    · skip
      clear hH
      refine wpList_view ?_; show wpList _ _ _ [_] ⟨#[_, _, _, _, _, _, _, _, _, _, _, _, _, _, _, _, _, _, _, _, _, _, _, _, _, _, _, _, _, _, _, _, _, _, _, _, _, _, _, _, _, _, _, _, _, _, _, _, _, _, _, _, _, _, _, _, _, _, _, _, _, _, _, _, _, _, _, _, _, _, _], _⟩ _
      go_wp2_with (refine load_blk rfl _ _ rfl w3.heap.size rfl _ _ _ (HB.out.2.grow hR) undK rfl (by rw [sizeK]; rfl) ?_)
      exact hQ _ _ (Grow.refl _) rfl rfl
    refine obls_cons (fun f w' hR hH Q hQ => ?_) ?_
    · skip
      have h0 := hH.get 0 (30, 0) rfl
      clear hH
      refine wpList_view ?_; show wpList _ _ _ [_] ⟨#[_, _, _, _, _, _, _, _, _, _, _, _, _, _, _, _, _, _, _, _, _, _, _, _, _, _, _, _, _, _, f 0, _, _, _, _, _, _, _, _, _, _, _, _, _, _, _, _, _, _, _, _, _, _, _, _, _, _, _, _, _, _, _, _, _, _, _, _, _, _, _, _], _⟩ _
      rw [show f 0 = _ from h0]
      clear h0
      repeat (first | go_guarded | go_step)
      exact hQ _ _ (Grow.refl _) rfl rfl
    exact obls_nil
  case mono => exact ⟨Mono.veq _, Mono.veq _, Mono.veq _, trivial⟩
  case tail =>
    intro f w' hR hH
    have q1 := hH.get 1 (31, 1) rfl
    have q2 := hH.get 2 (4, 2) rfl
    clear hH
    refine wpList_merge (idx := [none, none, none, none, some 2, none, none, none, none, none, none, none, none, none, none, none, none, none, none, none, none, none, none, none, none, none, none, none, none, none, some 0, some 1, none, none, none, none, none, none, none, none, none, none, none, none, none, none, none, none, none, none, none, none, none, none, none, none, none, none, none, none, none, none, none, none, none, none, none, none, none, none, none]) (by kernel_rfl) ?_; show wpList _ _ _ [_] ⟨#[_, _, _, _, f 2, _, _, _, _, _, _, _, _, _, _, _, _, _, _, _, _, _, _, _, _, _, _, _, _, _, f 0, f 1, _, _, _, _, _, _, _, _, _, _, _, _, _, _, _, _, _, _, _, _, _, _, _, _, _, _, _, _, _, _, _, _, _, _, _, _, _, _, _], _⟩ _
    rw [show f 1 = _ from q1]
    rw [show f 2 = _ from q2]
    clear q1 q2
    have HR9 := Lib.hid hR
    clear hR
    go_wp2_with (refine store_blk rfl _ _ _ rfl r [.int .u8 (f' : Int), .int .u8 (t' : Int), .slice A3 n3 c3, .bool s'] rfl rfl _ _ (HB.out.1.grow HR9.out) (by rw [sizeK]; rfl) rfl rfl ?_)
    exact ret_tmp_blk rfl r _ [.int .u8 (f' : Int), .int .u8 (t' : Int), .slice A3 n3 c3, .bool s'] _ (.int .i64 (e' : Int)) rfl ((HB.out.1.grow HR9.out).setRow _) undK rfl (by rw [sizeK]; rfl) rfl rfl ⟨⟨_, rfl, (HF.out _ HR9.out _).1⟩, (HF.out _ HR9.out _).2⟩
end
end Go.Proofs.Ytmekdhlcflielaa.ntL
