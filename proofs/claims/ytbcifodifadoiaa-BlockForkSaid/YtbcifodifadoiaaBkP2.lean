/- The walks of block's piece and Of. -/
import Derived.Test.YtbcifodifadoiaaBkS2
import Derived.Test.YtbcifodifadoiaaPiv
namespace Go.Proofs.Ytbcifodifadoiaa.bk
open Go Go.RowKit Go.Par Go.Kit Go.Proofs.Ytbcifodifadoiaa.Bk Go.Proofs.Ytbcifodifadoiaa.reW Go.Proofs.Ytbcifodifadoiaa.mkW

def two (P Q : World → Prop) (b : Nat) (w : World) : Prop := (b = 0 → P w) ∧ (b = 1 → Q w)
theorem two.zero {P Q : World → Prop} {w : World} (h : P w) : two P Q 0 w := ⟨fun _ => h, fun e => absurd e (by decide)⟩
theorem two.one {P Q : World → Prop} {w : World} (h : Q w) : two P Q 1 w := ⟨fun e => absurd e (by decide), fun _ => h⟩
theorem two.get0 {P Q : World → Prop} {w : World} (h : two P Q 0 w) : P w := h.1 rfl
theorem two.get1 {P Q : World → Prop} {w : World} (h : two P Q 1 w) : Q w := h.2 rfl
/-- a block in the making: its boxes, and the row of what it holds -/
structure PF (w0 : World) (B0 b4 b6 : Nat) (e : TypeId) (kd : Int) (v v1 : Value) (m : Nat) (qs : List (T × Value)) (w : World) : Prop where
  g : Grow w0 w
  sz : B0 ≤ w.heap.size
  r : Blk w b4 e [.int .i64 0, .int .i64 0, .slice none 0 0]
  x : Blk w b6 e [.int .i64 kd, .int .i64 0, v]
  own : OwnT w B0 e v1 m qs
theorem PF.grow {w0 w w' : World} {B0 b4 b6 m : Nat} {e : TypeId} {kd : Int} {v v1 : Value} {qs : List (T × Value)} (h : PF w0 B0 b4 b6 e kd v v1 m qs w) (hg : Grow w w') : PF w0 B0 b4 b6 e kd v v1 m qs w' :=
  ⟨h.g.trans hg, Nat.le_trans h.sz hg.size, h.r.grow hg, h.x.grow hg, h.own.grow hg⟩
theorem PF.app {w0 w w' : World} {B0 b4 b6 m n : Nat} {e : TypeId} {kd : Int} {v v1 v2 : Value} {qs : List (T × Value)} {q : T × Value} (h : PF w0 B0 b4 b6 e kd v v1 m qs w) (hb4 : b4 < B0) (hb6 : b6 < B0) (h0 : w0.heap.size ≤ B0)
    (hq : TsV w (fun k => n ≤ k) q.2 q.1.subs) (hb : B0 ≤ n) (hm : ∀ k, v1.ownBlock = some k → k < n) (hg : w.grownBy w' v1.ownBlock) (ho : w'.ownsRow B0 e 3 v2 (m + 1) ((qs.map qcells).flatten ++ qcells q)) (hn : v2.ownBlock = v1.ownBlock ∨ v2.ownBlock = some w.heap.size) :
    PF w0 B0 b4 b6 e kd v v2 (m + 1) (qs ++ [q]) w' := by
  have hbase := own_base h.own.row
  have hk : Keep 0 (fun j => v1.ownBlock ≠ some j) w w' := Keep.by_ (Keep.refl w) (Nat.zero_le _) hg fun k hk => ⟨Nat.zero_le _, fun hn => hn hk⟩
  exact ⟨grow_by h.g hg fun k hk => Nat.le_trans h0 (hbase k hk), Nat.le_trans h.sz hk.size, hk.blk h.r fun e => by have := hbase _ e; omega, hk.blk h.x fun e => by have := hbase _ e; omega, h.own.app hq hb hm hg ho hn⟩
theorem OwnT.far {w : World} {B0 b6 m : Nat} {e : TypeId} {v : Value} {qs : List (T × Value)} (h : OwnT w B0 e v m qs) (hb6 : b6 < B0) {w' : World} (hk : ∀ k, k ≠ b6 → w'.heap[k]? = w.heap[k]?) : OwnT w' B0 e v m qs := by
  refine ⟨⟨h.row.1, ?_⟩, h.len, fun q hq => (h.subs q hq).move fun k hk2 _ => hk k (by have := hk2.1; omega)⟩
  rcases h.row.2 with h2 | ⟨g, cap, cur, rfl, h3, h4, h5⟩
  · exact .inl h2
  · exact .inr ⟨g, cap, cur, rfl, h3, (hk g (by omega)).trans h4, h5⟩
theorem PF.put {w0 w : World} {B0 b4 b6 m : Nat} {e : TypeId} {kd : Int} {v v1 : Value} {qs : List (T × Value)} (h : PF w0 B0 b4 b6 e kd v v1 m qs w) (hb6 : b6 < B0) (h0 : w0.heap.size ≤ b6) (h46 : b4 ≠ b6) : PF w0 B0 b4 b6 e kd v1 v1 m qs (w.setCell ⟨b6, 2, none⟩ v1) :=
  ⟨Grow.set_ h.g (p := ⟨b6, 2, none⟩) h0 v1, by simpa using h.sz, h.r.far (p := ⟨b6, 2, none⟩) h46 v1, h.x.set_ 2 v1, h.own.far hb6 fun k hk => Below.heap_setCell w ⟨b6, 2, none⟩ v1 k hk⟩
/-- a block, as a value of a type -/
def IsT (B : Nat) (t : T) : Value → World → Prop := fun u w => ∃ s, u = .agg #[.int .i64 t.kind, .int .i64 t.n, s] ∧ TsV w (fun k => B ≤ k) s t.subs
theorem IsT.mono {B : Nat} {t : T} : Mono Grow (IsT B t) := fun _ _ _ ⟨s, e, h⟩ hg => ⟨s, e, h.grow hg⟩
/-- a slice of one new block -/
def New1 (B : Nat) (t : T) : Value → World → Prop := fun u w => ∃ g s, u = .slice (some ⟨g, 0, none⟩) 1 1 ∧ Row w (some ⟨g, 0, none⟩) (1 * 3) [.int .i64 t.kind, .int .i64 t.n, s] ∧ TsV w (fun k => B ≤ k) s t.subs
theorem New1.mono {B : Nat} {t : T} : Mono Grow (New1 B t) := fun _ _ _ ⟨g, s, e, h, h2⟩ hg => ⟨g, s, e, h.grow hg, h2.grow hg⟩
def IsTs (B : Nat) (ts : List T) : Value → World → Prop := fun u w => TsV w (fun k => B ≤ k) u ts
theorem IsTs.mono {B : Nat} {ts : List T} : Mono Grow (IsTs B ts) := fun _ _ _ h hg => h.grow hg
/-- the row with a block more -/
def IsO (B0 : Nat) (e : TypeId) (m : Nat) (qs : List (T × Value)) (t : T) : Value → World → Prop := fun u w => ∃ s, OwnT w B0 e u (m + 1) (qs ++ [(t, s)])
theorem IsO.mono {B0 m : Nat} {e : TypeId} {qs : List (T × Value)} {t : T} : Mono Grow (IsO B0 e m qs t) := fun _ _ _ ⟨s, h⟩ hg => ⟨s, h.grow hg⟩
theorem runs_at {N : Int → Int → Bool} {l : List Int} {i k x : Nat} {z : Int} (hx : (sideL N l i)[k]? = some x) (hz : l[x]? = some z) : (runs N l i)[k]? = some z := by
  unfold runs
  rw [List.getElem?_map, hx, Option.map_some, List.getD_eq_getElem?_getD, hz]
  rfl
theorem runs_mem {N : Int → Int → Bool} {l : List Int} {i : Nat} {z : Int} (h : z ∈ runs N l i) : z ∈ l := by
  unfold runs at h
  obtain ⟨k, hk, rfl⟩ := List.mem_map.1 h
  have hk := (mem_sideL.1 hk).1
  rw [List.getD_eq_getElem?_getD, List.getElem?_eq_getElem hk]
  exact List.getElem_mem hk
theorem firsts_len (N : Int → Int → Bool) (l : List Int) : (firsts N l).length ≤ l.length := by
  have := List.length_filter_le (fun i => (List.range i).all fun j => !conn N l j i) (List.range l.length)
  rw [List.length_range] at this
  exact this
def runT (rec_ : List Int → List T) (N : Int → Int → Bool) (l : List Int) (i : Nat) : T := .mk 4 0 (rec_ (runs N l i))
theorem pieceT_one {N : Int → Int → Bool} {rec_ : List Int → List T} {l : List Int} {z : Int} (h : l = [z]) : pieceT N rec_ l = line z := by subst h; rfl
theorem pieceT_knot {N : Int → Int → Bool} {rec_ : List Int → List T} {l : List Int} (h1 : l.length ≠ 1) (h2 : (firsts N l).length = 1) : pieceT N rec_ l = .mk 3 0 (l.map line) := by unfold pieceT; rw [if_neg h1, if_pos h2]
theorem pieceT_fork {N : Int → Int → Bool} {rec_ : List Int → List T} {l : List Int} (h1 : l.length ≠ 1) (h2 : (firsts N l).length ≠ 1) : pieceT N rec_ l = .mk 2 0 ((firsts N l).map (runT rec_ N l)) := by unfold pieceT; rw [if_neg h1, if_neg h2]; rfl
set_option maxRecDepth 100000 in
set_option maxHeartbeats 16000000 in
theorem piece_any (rec_ : List Int → List T) (gr nR : Nat) (R : Nat → Nat → Bool) (w : World) (h : RelP w gr nR R) (A : Option Addr) (n c : Nat) (l : List Int) (hl : Nums w A n c l) (h0 : 0 < n) (hn : n ≤ 1000)
    (ih : ∀ (s : List Int), s.length < n → ∀ (w' : World) (A' : Option Addr) (n' c' : Nat), Grow w w' → Nums w' A' n' c' s → Calls Try.prog 10 #[.pointer (some ⟨gr, 0, none⟩), .slice A' n' c'] w' fun e w'' => ∃ v, e = .returned v ∧ TsV w'' (fun k => w'.heap.size ≤ k) v (rec_ s) ∧ Grow w' w'') :
    Calls Try.prog 28 #[.pointer (some ⟨gr, 0, none⟩), .slice A n c] w fun e w' => ∃ u, e = .returned u ∧ IsT w.heap.size (pieceT (nearI R) rec_ l) u w' ∧ Grow w w' := by
  have hll := hl.len
  obtain ⟨b4, hb4⟩ : ∃ b4, b4 = w.heap.size := ⟨_, rfl⟩
  obtain ⟨W1, hW1⟩ : ∃ W, W = w.alloc (.cells #[.int .i64 0, .int .i64 0, .slice none 0 0] TB) := ⟨_, rfl⟩
  have hg1 : Grow w W1 := by rw [hW1]; exact Grow.alloc _ _
  have hbx4 : Blk W1 b4 TB [.int .i64 0, .int .i64 0, .slice none 0 0] := by rw [hW1]; exact Blk.new _ _ _ _ rfl hb4
  have HREL := Lib.hid h
  have HL := Lib.hid hl
  have HIH := Lib.hid ih
  have HG1 := Lib.hid hg1
  have HW1 := Lib.hid hW1
  have HB4 := Lib.hid hb4
  have HX4 := Lib.hid hbx4
  have HLL := Lib.hid hll
  clear h hl ih hW1 hg1 hbx4 hb4
  by_cases h1 : n = 1
  · subst h1
    obtain ⟨z, hz⟩ : ∃ z, l = [z] := by
      match l, hll with
      | [z], _ => exact ⟨z, rfl⟩
    subst hz
    rw [pieceT_one rfl]
    obtain ⟨b, off, z', rfl, hx, hcz, -⟩ := HL.out.at_ (k := 0) (by decide)
    have hzz : z' = z := by simpa using hx.symm
    subst hzz
    have q0 := HG1.out.cell hcz
    rw [Nat.add_zero] at q0
    have HQ0 := Lib.hid q0
    clear hx hcz hll h0 hn q0
    go_enter Try.func28, Try.ntmps28
    try dsimp only
    repeat (first | with_reducible (refine wp_region_cut (k := 1) ?_) | go_values | go_guarded | go_step | go_upon | go_back)
    rw [← HW1.out, ← HB4.out]
    unfold Cut
    have q0 := HQ0.out
    go_wp2_with (refine store_blk rfl _ _ _ rfl b4 [.int .i64 1, .int .i64 z', .slice none 0 0] rfl rfl _ _ HX4.out (by rw [sizeB]; rfl) rfl rfl ?_)
    refine ret_blk rfl b4 _ [.int .i64 1, .int .i64 z', .slice none 0 0] _ rfl (HX4.out.setRow _) undB rfl (by rw [sizeB]; rfl) rfl ?_
    exact ⟨_, rfl, ⟨_, rfl, TsV.nil _ _⟩, Grow.setRow HG1.out (g := b4) (by rw [HB4.out]; exact Nat.le_refl _) [.int .i64 1, .int .i64 z', .slice none 0 0].toArray⟩
  · have s1 : ((n : Int) == 1) = false := beq_false_of_ne (by omega)
    have s1' : (n == 1) = false := beq_false_of_ne h1
    have HN1 := Lib.hid h1
    have hs := sides_any W1 gr nR R (HREL.out.grow HG1.out) A n c l (HL.out.grow HG1.out) (by omega)
    obtain ⟨N, hN⟩ : ∃ N, N = nearI R := ⟨_, rfl⟩
    rw [← hN] at hs ⊢
    have HSYM : Hid (∀ a b, N a b = N b a) := Lib.hid fun a b => by rw [hN]; exact nearI_symm R a b
    obtain ⟨mf, hmf⟩ : ∃ mf, mf = (firsts N l).length := ⟨_, rfl⟩
    obtain ⟨tp, htp⟩ : ∃ tp, tp = pieceT N rec_ l := ⟨_, rfl⟩
    rw [← htp]
    have HTP := Lib.hid htp
    rw [← hmf] at hs
    have hmfn : mf ≤ n := by rw [hmf, ← hll]; exact firsts_len N l
    have HS := Lib.hid hs
    have HMF := Lib.hid hmf
    clear hN hmf hs h1 htp
    go_enter Try.func28, Try.ntmps28
    try dsimp only
    repeat (first | with_reducible (refine wp_region_cut (k := 1) ?_) | go_values | go_guarded | go_step | go_upon | go_back)
    rw [← HW1.out, ← HB4.out]
    unfold Cut
    go_wp2_with fail
    refine HS.out.mono ?_
    rintro e wS ⟨v5, vs, rfl, hos⟩
    obtain ⟨A5, c5, rfl, -, -, hr5⟩ := own_form hos.own
    rw [Nat.mul_one] at hr5
    have HR5 := Lib.hid hr5
    have HIVS : Hid (∀ (j : Nat) (u : Value) (f : Nat), vs[j]? = some u → (firsts N l)[j]? = some f → IV wS W1.heap.size u (sideL N l f)) := Lib.hid (by
      have := hos.ivs
      rw [show firstsTo N l n = firsts N l by rw [← hll]; rfl] at this
      exact this)
    have HGS := Lib.hid hos.g
    have HGG := Lib.hid (HG1.out.trans hos.g)
    have HXS := Lib.hid (HX4.out.grow hos.g)
    clear hr5 hos HS
    by_cases h2 : mf = 1
    · subst h2
      have HSO := Lib.hid (some_any wS A n c l (HL.out.grow HGG.out) (by omega))
      obtain rfl : tp = .mk 3 0 (l.map line) := HTP.out.trans (pieceT_knot (by rw [hll]; exact HN1.out) HMF.out.symm)
      clear hll h0 hn hmfn
      go_wp2_with fail
      refine HSO.out.mono ?_
      rintro e w2 ⟨v2, rfl, htv, hg2⟩
      have HTV := Lib.hid htv
      obtain ⟨A9, c9, qs9, rfl, -⟩ := htv.form
      have hx9 := HXS.out.grow hg2
      have HX9 := Lib.hid hx9
      have HG2 := Lib.hid (HGG.out.trans hg2)
      obtain ⟨l9, hl9⟩ : ∃ l9, l9 = (l.map line).length := ⟨_, rfl⟩
      rw [← hl9] at HTV ⊢
      clear htv hg2 hx9 hl9 HSO
      go_wp2_with (refine store_blk rfl _ _ _ rfl b4 [.int .i64 3, .int .i64 0, .slice A9 l9 c9] rfl rfl _ _ HX9.out (by rw [sizeB]; rfl) rfl rfl ?_)
      refine ret_blk rfl b4 _ [.int .i64 3, .int .i64 0, .slice A9 l9 c9] _ rfl (HX9.out.setRow _) undB rfl (by rw [sizeB]; rfl) rfl ?_
      have hlt : b4 < wS.heap.size := HXS.out.lt
      exact ⟨_, rfl, ⟨_, rfl, (HTV.out.move (w' := w2.setRow b4 [.int .i64 3, .int .i64 0, .slice A9 l9 c9].toArray) fun k hk _ => setRow_other _ _ _ _ (by omega)).imp fun k hk => Nat.le_trans HGG.out.size hk⟩, Grow.setRow HG2.out (g := b4) (by rw [HB4.out]; exact Nat.le_refl _) [.int .i64 3, .int .i64 0, .slice A9 l9 c9].toArray⟩
    · have s2 : ((mf : Int) == 1) = false := beq_false_of_ne (by omega)
      have s2' : (mf == 1) = false := beq_false_of_ne h2
      have h2' : (firsts N l).length ≠ 1 := by rw [← HMF.out]; exact h2
      have hln1 : l.length ≠ 1 := by rw [hll]; exact HN1.out
      obtain rfl : tp = .mk 2 0 ((firsts N l).map (runT rec_ N l)) := HTP.out.trans (pieceT_fork hln1 h2')
      have HSL : Hid (∀ i, (runs N l i).length < n) := Lib.hid fun i => by rw [runs_len, ← hll]; exact side_lt HSYM.out (by omega) h2' i
      obtain ⟨b6, hb6⟩ : ∃ b6, b6 = wS.heap.size := ⟨_, rfl⟩
      obtain ⟨W6, hW6⟩ : ∃ W, W = wS.alloc (.cells #[.int .i64 2, .int .i64 0, .slice none 0 0] TB) := ⟨_, rfl⟩
      have hg6 : Grow wS W6 := by rw [hW6]; exact Grow.alloc _ _
      have hbx6 : Blk W6 b6 TB [.int .i64 2, .int .i64 0, .slice none 0 0] := by rw [hW6]; exact Blk.new _ _ _ _ rfl hb6
      obtain ⟨B0, hB0⟩ : ∃ B0, B0 = W6.heap.size := ⟨_, rfl⟩
      have h4lt : b4 < wS.heap.size := HXS.out.lt
      have h6lt := hbx6.lt
      have hpf : PF wS B0 b4 b6 TB 2 (.slice none 0 0) (.slice none 0 0) 0 [] W6 := ⟨hg6, by omega, HXS.out.grow hg6, hbx6, OwnT.nil _ _ _⟩
      have HPF := Lib.hid hpf
      have HB6 := Lib.hid hb6
      have HW6 := Lib.hid hW6
      have HLT : Hid (b4 < B0 ∧ b6 < B0 ∧ wS.heap.size ≤ B0 ∧ wS.heap.size ≤ b6 ∧ b4 ≠ b6 ∧ w.heap.size ≤ wS.heap.size) := Lib.hid ⟨by have := hg6.size; omega, by omega, by rw [hB0]; exact hg6.size, by omega, by omega, HGG.out.size⟩
      clear h2 h2' hln1 hb6 hW6 hg6 hbx6 hB0 h4lt h6lt hpf hll h0
      try dsimp only
      repeat (first | with_reducible (refine wp_region_cut (k := 7) ?_) | go_values | go_guarded | go_step | go_upon | go_back)
      rw [← HW6.out, ← HB6.out]
      unfold Cut
      go_wp2_with fail
      clear s1 s1' s2 s2'
      go_loopw [31] (fun j' wr => ∃ (j : Nat) (v : Value) (qs : List (T × Value)), j ≤ mf ∧ j' = .int .i64 (j : Int) ∧ PF wS B0 b4 b6 TB 2 v v j qs wr ∧ qs.map Prod.fst = ((firsts N l).take j).map (runT rec_ N l)) (fun j' _ => mf - (intOf j').toNat)
      case atStart => exact ⟨0, _, [], by omega, rfl, HPF.out, rfl⟩
      case round =>
        clear HPF
        obtain ⟨wa, rfl⟩ : ∃ wa, wa = wr := ⟨_, rfl⟩
        obtain ⟨j, v, qs, hj, rfl, hpf, hqs⟩ := hrel
        by_cases hlt : j < mf
        · have t1 : decide (j < mf) = true := decide_eq_true hlt
          have t1' : decide ((j : Int) < (mf : Int)) = true := decide_eq_true (by omega)
          obtain ⟨f, hf⟩ : ∃ f, (firsts N l)[j]? = some f := ⟨_, List.getElem?_eq_getElem (by rw [← HMF.out]; exact hlt)⟩
          obtain ⟨b, off, u, rfl, hu, hcu⟩ := HR5.out.at_ hlt
          have hiv := HIVS.out j u f hu hf
          obtain ⟨As, cs, rfl, -, -, hrs, -⟩ := hiv
          have q0 := hpf.g.cell hcu
          obtain ⟨L, hL⟩ : ∃ L, L = sideL N l f := ⟨_, rfl⟩
          obtain ⟨ls, hls⟩ : ∃ ls, ls = L.length := ⟨_, rfl⟩
          rw [← hL] at hrs q0
          rw [← hls] at q0
          have hlsn : ls ≤ 1000 := by have h9 := HSL.out f; rw [runs_len, ← hL, ← hls] at h9; omega
          have HPF := Lib.hid hpf
          have HQS := Lib.hid hqs
          have HJ := Lib.hid hlt
          have HF := Lib.hid hf
          have HRS := Lib.hid (Row.grow hrs hpf.g)
          have HLL2 := Lib.hid hL
          have HLS := Lib.hid hls
          have hj9 : j ≤ 1000 := by omega
          clear hpf hqs hlt hj hf hu hcu hrs hL hls
          go_wp2_with fail
          clear q0
          go_loopw [9, 37] (fun s' k' w2 => ∃ (k : Nat) (v9 : Value), k ≤ ls ∧ k' = .int .i64 (k : Int) ∧ v9 = s' ∧ OwnI w2 wa.heap.size v9 ((runs N l f).take k) ∧ Grow wa w2) (fun _ k' _ => ls - (intOf k').toNat)
          case atStart => exact ⟨0, _, by omega, rfl, rfl, OwnI.nil _ _, Grow.refl _⟩
          case round =>
            obtain ⟨k, v9, hk, rfl, rfl, ho9, hg9⟩ := hrel
            by_cases hlk : k < ls
            · have t2 : decide (k < ls) = true := decide_eq_true hlk
              have t2' : decide ((k : Int) < (ls : Int)) = true := decide_eq_true (by omega)
              obtain ⟨b8, off8, x, rfl, hx, cx⟩ := Go.Proofs.Ytbcifodifadoiaa.mkR.Row.nat_at HRS.out (k := k) (by rw [← HLS.out]; exact hlk)
              have hxs : x ∈ sideL N l f := by rw [← HLL2.out]; exact List.mem_of_getElem? hx
              have hxn : x < n := by have := (mem_sideL.1 hxs).1; rwa [HLL.out] at this
              obtain ⟨bl, offl, z, rfl, hz, cz, okz⟩ := HL.out.at_ hxn
              have y1 := hg9.cell cx
              have y2 := ((HGG.out.trans HPF.out.g).trans hg9).cell cz
              have hrk : (runs N l f)[k]? = some z := runs_at (by rw [← HLL2.out]; exact hx) hz
              have htk : (runs N l f).take (k + 1) = (runs N l f).take k ++ [z] := takeS hrk
              obtain ⟨Q, hQ⟩ : ∃ Q, Q = (runs N l f).take k := ⟨_, rfl⟩
              rw [← hQ] at ho9 htk
              have hQl : Q.length = k := by rw [hQ, List.length_take]; have := (List.getElem?_eq_some_iff.1 hrk).1; omega
              have ho8 : wr.ownsRow wa.heap.size 3 1 v9 k (Q.map iv) := by rw [← hQl]; exact ho9
              obtain ⟨Av, cv, rfl, -, -, -⟩ := own_form ho8
              have HO8 := Lib.hid ho8
              have HTK := Lib.hid htk
              have HQL := Lib.hid hQl
              have HG9 := Lib.hid hg9
              have HLK := Lib.hid hlk
              have hk9 : k ≤ 1000 := by omega
              have tx : decide (x < n) = true := decide_eq_true hxn
              have tx' : decide ((x : Int) < (n : Int)) = true := decide_eq_true (by omega)
              clear hk hx cx hxs hz cz okz hrk htk hQ hQl ho9 ho8 hg9 hlk
              go_wp2_with (at_builtin; refine wpList_append_row rfl _ _ _ rfl wa.heap.size 3 _ _ 1 8 Try.underlying23 iI iIz iIs iIb rfl (by decide) (.slice Av k cv) k (Q.map iv) rfl (own_grow HO8.out (Grow.alloc wr (.cells #[.int .i64 z] 3))) (some ⟨wr.heap.size, 0, none⟩) 1 1 [.int .i64 z] rfl (Row.new wr [.int .i64 z] 3 (0, 0)) one1 (by unfold maxLen; omega) (by omega) (Nat.le_trans HG9.out.size (Grow.alloc wr (.cells #[.int .i64 z] 3)).size) ?_; intro v1 w1 hown1 hgb1 hnb1; obtain ⟨Aw, cw, rfl, -, -, -⟩ := own_form hown1)
              have hoi : OwnI w1 wa.heap.size (.slice Aw (k + 1) cw) (Q ++ [z]) := OwnI.next (m := [z]) (by rw [HQL.out]; rfl) hown1
              have hgr := grow_by (HG9.out.trans (Grow.alloc wr (.cells #[.int .i64 z] 3))) hgb1 (own_base HO8.out)
              have HOI := Lib.hid hoi
              have HGR := Lib.hid hgr
              clear hown1 hgb1 hnb1 hoi hgr y1 y2 tx tx' hxn
              go_roundw
              case rel => exact ⟨k + 1, _, by have := HLK.out; omega, by go_num, rfl, by rw [HTK.out]; exact HOI.out, HGR.out⟩
              case measure => have := HLK.out; simp [intOf] <;> omega
            · obtain rfl : k = ls := by omega
              have t2 : decide (k < k) = false := decide_eq_false hlk
              rw [List.take_of_length_le (by rw [runs_len, ← HLL2.out, ← HLS.out]; exact Nat.le_refl _)] at ho9
              obtain ⟨A9, c9, rfl, hn9⟩ := ho9.nums fun z hz => HL.out.ok z (runs_mem hz)
              obtain ⟨n9, hn9l⟩ : ∃ n9, n9 = (runs N l f).length := ⟨_, rfl⟩
              rw [← hn9l] at hn9 ⊢
              have HOF := Lib.hid (fun (w' : World) (hR : Grow wr w') => HIH.out (runs N l f) (HSL.out f) w' A9 n9 c9 (((HGG.out.trans HPF.out.g).trans hg9).trans hR) (hn9.grow hR))
              have hpf := HPF.out.grow hg9
              obtain ⟨Av, cv, rfl, -, -, -⟩ := own_form hpf.own.row
              have HP2 := Lib.hid hpf
              have HB1 : Hid (∀ k, (Value.slice Av j cv).ownBlock = some k → k < wr.heap.size) := Lib.hid (ltOwn hpf.own.row)
              obtain ⟨tR, htR⟩ : ∃ tR, tR = runT rec_ N l f := ⟨_, rfl⟩
              have HTR := Lib.hid htR
              have hkd : tR.kind = 4 ∧ tR.n = 0 ∧ tR.subs = rec_ (runs N l f) := by rw [htR]; exact ⟨rfl, rfl, rfl⟩
              have HKD := Lib.hid hkd
              clear hk hlk ho9 hn9 hn9l hpf htR hkd hg9
              go_wp2_with fail
              apply (fun (v0 v1 v2 v3 v8 : Value) mono draw obl tail => wp_region_piv (I := two (Grow wr) (fun w1 => ∃ v1 s, PF wS B0 b4 b6 TB 2 (.slice Av j cv) v1 (j + 1) (qs ++ [(tR, s)]) w1)) (G := Grow) (Rp := (fun _ _ _ => True)) (Φ := phi2 [veq2 v0, veq2 v1, veq2 v2, veq2 v3, (from2 0 (IsTs wr.heap.size tR.subs)), (from2 0 (IsT wr.heap.size tR)), (from2 0 (New1 wr.heap.size tR)), (from2 1 (IsO B0 TB j qs tR)), veq2 v8]) (m := 9) (ps := [7]) (qs := [(0, 0, false), (0, 0, false), (0, 0, false), (0, 0, false), (0, 0, false), (0, 0, false), (0, 0, false), (0, 0, true), (1, 1, false)]) (dls := [[], [(49, 0)], [], [], [(51, 2), (52, 3)], [(53, 4)], [(54, 5)], [(50, 1), (55, 6)], []]) (ds := [49, 50, 51, 52, 53, 54, 55, 56, 57]) (by kernel_rfl) (by kernel_rfl) (by kernel_rfl) (by decide) rfl rfl draw (mono2_phi mono) (piv2_phi mono) obl tail)
              case obl =>
                refine obls2_cons (fun b hb1 hb2 f w' hI hH Q hQ => ?_) ?_
                · skip
                  obtain rfl : b = 0 := by omega
                  clear hb1 hb2
                  clear hH
                  refine wpList_view ?_; show wpList _ _ _ [_] ⟨#[_, _, _, _, _, _, _, _, _, _, _, _, _, _, _, _, _, _, _, _, _, _, _, _, _, _, _, _, _, _, _, _, _, _, _, _, _, _, _, _, _, _, _, _, _, _, _, _, _, _, _, _, _, _, _, _, _, _, _, _], _⟩ _
                  repeat (first | go_guarded | go_step)
                  exact hQ _ _ hI (Grow.refl _) rfl rfl
                refine obls2_cons (fun b hb1 hb2 f w' hI hH Q hQ => ?_) ?_
                · skip
                  obtain rfl : b = 0 := by omega
                  clear hb1 hb2
                  have h0 := hH.get 0 (49, 0) rfl
                  clear hH
                  refine wpList_view ?_; show wpList _ _ _ [_] ⟨#[_, _, _, _, _, _, _, _, _, _, _, _, _, _, _, _, _, _, _, _, _, _, _, _, _, _, _, _, _, _, _, _, _, _, _, _, _, _, _, _, _, _, _, _, _, _, _, _, _, f 0, _, _, _, _, _, _, _, _, _, _], _⟩ _
                  rw [show f 0 = _ from h0]
                  clear h0
                  have y0 := (HP2.out.x.grow hI.get0).cell (i := 2) rfl
                  repeat (first | go_guarded | go_step)
                  exact hQ _ _ hI (Grow.refl _) rfl rfl
                refine obls2_cons (fun b hb1 hb2 f w' hI hH Q hQ => ?_) ?_
                · skip
                  obtain rfl : b = 0 := by omega
                  clear hb1 hb2
                  clear hH
                  refine wpList_view ?_; show wpList _ _ _ [_] ⟨#[_, _, _, _, _, _, _, _, _, _, _, _, _, _, _, _, _, _, _, _, _, _, _, _, _, _, _, _, _, _, _, _, _, _, _, _, _, _, _, _, _, _, _, _, _, _, _, _, _, _, _, _, _, _, _, _, _, _, _, _], _⟩ _
                  repeat (first | go_guarded | go_step)
                  exact hQ _ _ hI (Grow.refl _) rfl rfl
                refine obls2_cons (fun b hb1 hb2 f w' hI hH Q hQ => ?_) ?_
                · skip
                  obtain rfl : b = 0 := by omega
                  clear hb1 hb2
                  clear hH
                  refine wpList_view ?_; show wpList _ _ _ [_] ⟨#[_, _, _, _, _, _, _, _, _, _, _, _, _, _, _, _, _, _, _, _, _, _, _, _, _, _, _, _, _, _, _, _, _, _, _, _, _, _, _, _, _, _, _, _, _, _, _, _, _, _, _, _, _, _, _, _, _, _, _, _], _⟩ _
                  repeat (first | go_guarded | go_step)
                  exact hQ _ _ hI (Grow.refl _) rfl rfl
                refine obls2_cons (fun b hb1 hb2 f w' hI hH Q hQ => ?_) ?_
                · skip
                  obtain rfl : b = 0 := by omega
                  clear hb1 hb2
                  have h2 := hH.get 0 (51, 2) rfl
                  have h3 := hH.get 1 (52, 3) rfl
                  clear hH
                  refine wpList_view ?_; show wpList _ _ _ [_] ⟨#[_, _, _, _, _, _, _, _, _, _, _, _, _, _, _, _, _, _, _, _, _, _, _, _, _, _, _, _, _, _, _, _, _, _, _, _, _, _, _, _, _, _, _, _, _, _, _, _, _, _, _, f 2, f 3, _, _, _, _, _, _, _], _⟩ _
                  rw [show f 2 = _ from h2]
                  rw [show f 3 = _ from h3]
                  clear h2 h3
                  have HIg := Lib.hid hI
                  have HC := Lib.hid (HOF.out w' HIg.out.get0)
                  clear hI
                  go_wp2_with (go_at_call 10; refine HC.out.mono ?_; rintro e w1 ⟨v1, rfl, ho1, hg1⟩)
                  exact hQ _ _ (two.zero (HIg.out.get0.trans hg1)) hg1 (from2.mk (show TsV w1 (fun k => wr.heap.size ≤ k) v1 tR.subs by rw [HKD.out.2.2]; exact ho1.imp fun k hk => Nat.le_trans HIg.out.get0.size hk)) rfl
                refine obls2_cons (fun b hb1 hb2 f w' hI hH Q hQ => ?_) ?_
                · skip
                  obtain rfl : b = 0 := by omega
                  clear hb1 hb2
                  have h4 := hH.get 0 (53, 4) rfl
                  clear hH
                  refine wpList_view ?_; show wpList _ _ _ [_] ⟨#[_, _, _, _, _, _, _, _, _, _, _, _, _, _, _, _, _, _, _, _, _, _, _, _, _, _, _, _, _, _, _, _, _, _, _, _, _, _, _, _, _, _, _, _, _, _, _, _, _, _, _, _, _, f 4, _, _, _, _, _, _], _⟩ _
                  replace h4 : (from2 0 (IsTs wr.heap.size tR.subs)) (f 4) 0 w' := h4
                  obtain ⟨u4, hu4⟩ : ∃ u, u = f 4 := ⟨_, rfl⟩
                  rw [← hu4]
                  rw [← hu4] at h4
                  clear hu4
                  have HIg := Lib.hid hI
                  have h9 : TsV w' (fun k => wr.heap.size ≤ k) u4 tR.subs := h4.get
                  have H9 := Lib.hid h9
                  obtain ⟨As9, cs9, qs9, e9, -⟩ := h9.form
                  subst e9
                  clear hI h4 h9
                  repeat go_step
                  have e5 : Value.agg #[.int .i64 4, .int .i64 0, .slice As9 tR.subs.length cs9] = .agg #[.int .i64 tR.kind, .int .i64 tR.n, .slice As9 tR.subs.length cs9] := by rw [HKD.out.1, HKD.out.2.1]
                  exact hQ _ _ HIg.out (Grow.refl _) (from2.mk ⟨_, e5, H9.out⟩) rfl
                refine obls2_cons (fun b hb1 hb2 f w' hI hH Q hQ => ?_) ?_
                · skip
                  obtain rfl : b = 0 := by omega
                  clear hb1 hb2
                  have h5 := hH.get 0 (54, 5) rfl
                  clear hH
                  refine wpList_view ?_; show wpList _ _ _ [_] ⟨#[_, _, _, _, _, _, _, _, _, _, _, _, _, _, _, _, _, _, _, _, _, _, _, _, _, _, _, _, _, _, _, _, _, _, _, _, _, _, _, _, _, _, _, _, _, _, _, _, _, _, _, _, _, _, f 5, _, _, _, _, _], _⟩ _
                  replace h5 : (from2 0 (IsT wr.heap.size tR)) (f 5) 0 w' := h5
                  obtain ⟨u5, hu5⟩ : ∃ u, u = f 5 := ⟨_, rfl⟩
                  rw [← hu5]
                  rw [← hu5] at h5
                  clear hu5
                  obtain ⟨s, rfl, h9⟩ := h5.get
                  have HIg := Lib.hid hI
                  have H9 := Lib.hid h9
                  obtain ⟨As9, cs9, qs9, e9, -⟩ := h9.form
                  subst e9
                  clear hI h9 h5
                  go_wp2_with fail
                  exact hQ _ _ (two.zero (HIg.out.get0.trans (Grow.alloc _ _))) (Grow.alloc _ _) (from2.mk ⟨_, _, rfl, Row.new _ [.int .i64 tR.kind, .int .i64 tR.n, _] _ (0, 0), H9.out.grow (Grow.alloc _ _)⟩) rfl
                refine oblsP_cons (fun f w' hI hH Q hQ => ?_) ?_
                · skip
                  have h1 := hH.get 0 (50, 1) rfl
                  have h6 := hH.get 1 (55, 6) rfl
                  clear hH
                  refine wpList_view ?_; show wpList _ _ _ [_] ⟨#[_, _, _, _, _, _, _, _, _, _, _, _, _, _, _, _, _, _, _, _, _, _, _, _, _, _, _, _, _, _, _, _, _, _, _, _, _, _, _, _, _, _, _, _, _, _, _, _, _, _, f 1, _, _, _, _, f 6, _, _, _, _], _⟩ _
                  rw [show f 1 = _ from h1]
                  replace h6 : (from2 0 (New1 wr.heap.size tR)) (f 6) 0 w' := h6
                  obtain ⟨u6, hu6⟩ : ∃ u, u = f 6 := ⟨_, rfl⟩
                  rw [← hu6]
                  rw [← hu6] at h6
                  have HU6 : Hid (f 6 = u6) := Lib.hid hu6.symm
                  clear hu6
                  clear h1
                  obtain ⟨gs, s, rfl, hrow, htv⟩ := h6.get
                  obtain ⟨As9, cs9, qs9, e9, -⟩ := htv.form
                  subst e9
                  have HQ2 := Lib.hid (HP2.out.grow hI.get0)
                  have HTV := Lib.hid htv
                  clear htv
                  refine wpList_append_row rfl _ _ _ rfl B0 TB _ _ 3 40 Try.underlying30 iB iBz iBs iBb rfl (by decide) (.slice Av j cv) j (qs.map qcells).flatten rfl HQ2.out.own.row (some ⟨gs, 0, none⟩) 1 1 [.int .i64 tR.kind, .int .i64 tR.n, .slice As9 tR.subs.length cs9] rfl hrow (one3 rfl) (by unfold maxLen; omega) (by omega) HQ2.out.sz ?_
                  intro v1 w1 hown1 hgb1 hnb1
                  have hap := HQ2.out.app (q := (tR, .slice As9 tR.subs.length cs9)) HLT.out.1 HLT.out.2.1 HLT.out.2.2.1 HTV.out HP2.out.sz HB1.out hgb1 hown1 hnb1
                  exact hQ _ _ (two.one ⟨v1, _, hap⟩) trivial (from2.mk ⟨_, hap.own⟩) rfl
                refine obls2_cons (fun b hb1 hb2 f w' hI hH Q hQ => ?_) ?_
                · skip
                  obtain rfl : b = 1 := by omega
                  clear hb1 hb2
                  clear hH
                  refine wpList_view ?_; show wpList _ _ _ [_] ⟨#[_, _, _, _, _, _, _, _, _, _, _, _, _, _, _, _, _, _, _, _, _, _, _, _, _, _, _, _, _, _, _, _, _, _, _, _, _, _, _, _, _, _, _, _, _, _, _, _, _, _, _, _, _, _, _, _, _, _, _, _], _⟩ _
                  repeat (first | go_guarded | go_step)
                  exact hQ _ _ hI (Grow.refl _) rfl rfl
                exact obls2_nil
              case draw =>
                exact two.zero (Grow.drew _)
              case mono => exact ⟨Mono2.veq _, Mono2.veq _, Mono2.veq _, Mono2.veq _, Mono2.from IsTs.mono, Mono2.from IsT.mono, Mono2.from New1.mono, Mono2.from IsO.mono, Mono2.veq _, trivial⟩
              case tail =>
                intro f w' hI hH
                have q7 : (from2 1 (IsO B0 TB j qs tR)) (f 7) 1 w' := hH.get 7 (56, 7) rfl
                have q8 := hH.get 8 (57, 8) rfl
                clear hH
                refine wpList_merge (idx := [none, none, none, none, none, none, none, none, none, none, none, none, none, none, none, none, none, none, none, none, none, none, none, none, none, none, none, none, none, none, none, none, none, none, none, none, none, none, none, none, none, none, none, none, none, none, none, none, none, some 0, some 1, some 2, some 3, some 4, some 5, some 6, some 7, some 8, none, none]) (by kernel_rfl) ?_; show wpList _ _ _ [_] ⟨#[_, _, _, _, _, _, _, _, _, _, _, _, _, _, _, _, _, _, _, _, _, _, _, _, _, _, _, _, _, _, _, _, _, _, _, _, _, _, _, _, _, _, _, _, _, _, _, _, _, f 0, f 1, f 2, f 3, f 4, f 5, f 6, f 7, f 8, _, _], _⟩ _
                rw [show f 8 = _ from q8]
                clear q8
                generalize f 7 = x7 at *
                obtain ⟨v1, s1, pf⟩ := hI.get1
                obtain ⟨s, ho⟩ := q7.get
                obtain ⟨A7, c7, rfl, -, -, -⟩ := own_form ho.row
                have hp7 : PF wS B0 b4 b6 TB 2 (.slice Av j cv) (.slice A7 (j + 1) c7) (j + 1) (qs ++ [(tR, s)]) w' := ⟨pf.g, pf.sz, pf.r, pf.x, ho⟩
                have f7 := hp7.x.free 2
                have z7 := hp7.x.cell (i := 2) rfl
                have HF7 := Lib.hid (hp7.put HLT.out.2.1 HLT.out.2.2.2.1 HLT.out.2.2.2.2.1)
                clear pf ho hp7 hI q7
                go_wp2_with fail
                go_roundw
                case rel => exact ⟨j + 1, _, qs ++ [(tR, s)], by have := HJ.out; omega, by go_num, HF7.out, by rw [List.map_append, HQS.out, takeS HF.out, List.map_append, HTR.out]; rfl⟩
                case measure => have := HJ.out; simp [intOf] <;> omega
        · obtain rfl : j = mf := by omega
          have t1 : decide (j < j) = false := decide_eq_false hlt
          rw [List.take_of_length_le (by rw [← HMF.out]; exact Nat.le_refl _)] at hqs
          obtain ⟨Av, cv, rfl, -, -, -⟩ := own_form hpf.own.row
          have HPF := Lib.hid hpf
          have htv := hpf.own.tsV
          rw [hqs] at htv
          have HTV := Lib.hid htv
          clear hpf hqs htv hlt hj
          go_wp2_with (first | (refine load_blk rfl _ _ rfl b6 rfl _ _ _ HPF.out.x undB rfl (by rw [sizeB]; rfl) ?_) | (refine store_blk rfl _ _ _ rfl b4 [.int .i64 2, .int .i64 0, .slice Av j cv] rfl rfl _ _ HPF.out.r (by rw [sizeB]; rfl) rfl rfl ?_))
          refine ret_blk rfl b4 _ [.int .i64 2, .int .i64 0, .slice Av j cv] _ rfl (HPF.out.r.setRow _) undB rfl (by rw [sizeB]; rfl) rfl ?_
          exact ⟨_, rfl, ⟨_, rfl, (HTV.out.move (w' := wa.setRow b4 [.int .i64 2, .int .i64 0, .slice Av j cv].toArray) fun k hk _ => setRow_other _ _ _ _ (by have := HLT.out.1; omega)).imp fun k hk => Nat.le_trans (Nat.le_trans HLT.out.2.2.2.2.2 HLT.out.2.2.1) hk⟩, Grow.setRow (HGG.out.trans HPF.out.g) (g := b4) (by rw [HB4.out]; exact Nat.le_refl _) [.int .i64 2, .int .i64 0, .slice Av j cv].toArray⟩
theorem of_nil (w : World) (v : Value) (A : Option Addr) (c : Nat) : Calls Try.prog 10 #[v, .slice A 0 c] w fun e w' => ∃ u, e = .returned u ∧ TsV w' (fun k => w.heap.size ≤ k) u [] ∧ Grow w w' := by
  go_enter Try.func10, Try.ntmps10
  go_wp2_with fail
  go_loopw [5, 10] (fun o' k' wr => o' = .slice none 0 0 ∧ k' = .int .i64 0 ∧ w = wr) (fun _ _ _ => 0)
  case atStart => exact ⟨rfl, rfl, rfl⟩
  case round =>
    obtain ⟨rfl, rfl, rfl⟩ := hrel
    go_wp2_with fail
    go_ret
    exact ⟨.slice none 0 0, rfl, TsV.nil _ _, Grow.refl w⟩
theorem pst_len (B : Int → Int → Bool) (l : List Int) : ∀ k, (pst B l k).2.length ≤ k
  | 0 => Nat.le_refl _
  | k + 1 => by
    unfold pst
    split
    · dsimp only
      rw [List.length_append, List.length_singleton]
      have := pst_len B l k
      omega
    · exact Nat.le_succ_of_le (pst_len B l k)
set_option maxRecDepth 100000 in
set_option maxHeartbeats 16000000 in
theorem of_any (gr nR : Nat) (R : Nat → Nat → Bool) : ∀ (f : Nat) (w : World), RelP w gr nR R → ∀ (A : Option Addr) (n c : Nat) (l : List Int), Nums w A n c l → n ≤ f → n ≤ 1000 →
    Calls Try.prog 10 #[.pointer (some ⟨gr, 0, none⟩), .slice A n c] w fun e w' => ∃ u, e = .returned u ∧ TsV w' (fun k => w.heap.size ≤ k) u (blocksF (aheadI R) (nearI R) f l) ∧ Grow w w' := by
  intro f
  induction f with
  | zero =>
    intro w _ A n c l hl hf _
    obtain rfl : n = 0 := by omega
    exact of_nil w _ A c
  | succ f ih =>
    intro w hrel A n c l hl hf hn
    have hll := hl.len
    have hc := hl.nc
    have hcm := hl.cm
    unfold maxLen at hcm
    have HREL := Lib.hid hrel
    have HL := Lib.hid hl
    have HLL := Lib.hid hll
    have HIH := Lib.hid ih
    have HF := Lib.hid hf
    obtain ⟨B, hB⟩ : ∃ B, B = aheadI R := ⟨_, rfl⟩
    rw [← hB]
    have HB := Lib.hid hB
    clear hrel hl ih hf hll hB
    go_enter Try.func10, Try.ntmps10
    go_wp2_with fail
    go_loopw [5, 6, 10] (fun o' a' k' wr => ∃ (k m at_ : Nat) (v : Value) (qs : List (T × Value)), k ≤ n ∧ k' = .int .i64 (k : Int) ∧ a' = .int .i64 (at_ : Int) ∧ v = o' ∧ at_ = (pst B l k).1 ∧ OwnT wr w.heap.size TB v m qs ∧ qs.map Prod.fst = (pst B l k).2.map (pieceT (nearI R) (blocksF B (nearI R) f)) ∧ Grow w wr) (fun _ _ k' _ => n - (intOf k').toNat)
    case atStart => exact ⟨0, 0, 0, _, [], by omega, rfl, rfl, rfl, rfl, OwnT.nil _ _ _, rfl, Grow.refl w⟩
    case round =>
      obtain ⟨wa, rfl⟩ : ∃ wa, wa = wr := ⟨_, rfl⟩
      obtain ⟨k, m, at_, v, qs, hk, rfl, rfl, rfl, hat, ho, hqs, hg⟩ := hrel
      by_cases hlt : k < n
      · have t1 : decide (k < n) = true := decide_eq_true hlt
        have t1' : decide ((k : Int) < (n : Int)) = true := decide_eq_true (by omega)
        have hatk : at_ ≤ k := by rw [hat]; exact pst_le B l k
        have hml : m ≤ k := by
          have h1 := congrArg List.length hqs
          rw [List.length_map, List.length_map, ho.len] at h1
          have := pst_len B l k
          omega
        obtain ⟨q, hq⟩ : ∃ q, q = (decide (k + 1 = n) || cutB B l (k + 1)) := ⟨_, rfl⟩
        have hst : pst B l (k + 1) = if q = true then (k + 1, (pst B l k).2 ++ [seg l (pst B l k).1 (k + 1)]) else pst B l k := by
          rw [hq, ← HLL.out]; rfl
        have HO := Lib.hid ho
        have HQS := Lib.hid hqs
        have HG := Lib.hid hg
        have HK := Lib.hid hlt
        have HAT := Lib.hid hat
        have HATK := Lib.hid hatk
        have HML := Lib.hid hml
        have HST := Lib.hid hst
        have hCU := cut_any wa gr nR R (HREL.out.grow hg) A n c l (HL.out.grow hg) (k + 1) (by omega)
        rw [← HB.out] at hCU
        simp only [Int.natCast_add, show ((1 : Nat) : Int) = 1 from rfl] at hCU
        have HCU := Lib.hid hCU
        have hk9 : k ≤ 1000 := by omega
        have hac : at_ ≤ c := by omega
        have hkc : k + 1 ≤ c := by omega
        have hs1 := slice_both (P := Try.prog) Try.underlying23 iI iIs A n c at_ (k + 1) (by omega) hkc
        simp only [Int.natCast_add, show ((1 : Nat) : Int) = 1 from rfl] at hs1
        have hsg := (HL.out.grow hg).seg (k := at_) (m := k + 1) (by omega) (by omega)
        have hsl : (seg l at_ (k + 1)).length = k + 1 - at_ := seg_len l (by rw [HLL.out]; omega)
        obtain ⟨A2, hA2⟩ : ∃ A2, A2 = cutAt A c at_ := ⟨_, rfl⟩
        obtain ⟨n2, hn2⟩ : ∃ n2, n2 = k + 1 - at_ := ⟨_, rfl⟩
        obtain ⟨c2, hc2⟩ : ∃ c2, c2 = c - at_ := ⟨_, rfl⟩
        rw [← hA2, ← hn2, ← hc2] at hs1 hsg
        have hpc := piece_any (blocksF B (nearI R) f) gr nR R wa (HREL.out.grow hg) A2 n2 c2 (seg l at_ (k + 1)) hsg (by omega) (by omega) (fun s hs w' A' n' c' hgr hns => by
          have hns2 := hns.len
          rw [HB.out]
          exact HIH.out w' ((HREL.out.grow hg).grow hgr) A' n' c' s hns (by have := HF.out; omega) (by omega))
        have HPC := Lib.hid hpc
        obtain ⟨Av, cv, rfl, -, -, -⟩ := own_form ho.row
        clear ho hqs hg hk hlt hat hatk hml hst hCU hsg hsl hA2 hn2 hc2 hpc hac hkc
        have key : ∀ (w1 : World), w1 = wa → True := fun _ _ => trivial
        clear key
        by_cases hkn : k + 1 = n
        · have hq1 : q = true := by rw [hq, decide_eq_true hkn]; rfl
          have s1 : (((k : Int) + 1) == (n : Int)) = true := by rw [← hkn]; simp
          have s1' : (k + 1 == n) = true := by rw [hkn]; exact beq_self_eq_true _
          have HKN := Lib.hid hkn
          have HQ1 := Lib.hid hq1
          clear hkn hq hq1 HCU
          go_wp2_with fail
          refine HPC.out.mono ?_
          rintro e w5 ⟨u5, rfl, ⟨s5, rfl, htv⟩, hg5⟩
          obtain ⟨tP, htP⟩ : ∃ tP, tP = pieceT (nearI R) (blocksF B (nearI R) f) (seg l at_ (k + 1)) := ⟨_, rfl⟩
          rw [← htP] at htv ⊢
          obtain ⟨As9, cs9, qs9, e9, -⟩ := htv.form
          obtain ⟨l9, hl9⟩ : ∃ l9, l9 = tP.subs.length := ⟨_, rfl⟩
          rw [← hl9] at e9
          subst e9
          have HTP := Lib.hid htP
          have HTV := Lib.hid htv
          have HG5 := Lib.hid hg5
          clear htP htv hg5 hl9
          have gq : Grow w5 (w5.alloc (.cells #[.int .i64 tP.kind, .int .i64 tP.n, .slice As9 l9 cs9] TB)) := Grow.alloc _ _
          have HGQ := Lib.hid gq
          clear gq
          go_wp2_with (at_builtin; refine wpList_append_row rfl _ _ _ rfl w.heap.size TB _ _ 3 40 Try.underlying30 iB iBz iBs iBb rfl (by decide) (.slice Av m cv) m (qs.map qcells).flatten rfl (own_grow HO.out.row (HG5.out.trans HGQ.out)) (some ⟨w5.heap.size, 0, none⟩) 1 1 [.int .i64 tP.kind, .int .i64 tP.n, .slice As9 l9 cs9] rfl (Row.new w5 [.int .i64 tP.kind, .int .i64 tP.n, .slice As9 l9 cs9] TB (0, 0)) (one3 rfl) (by have := HML.out; unfold maxLen; omega) (by have := HML.out; omega) (Nat.le_trans HG.out.size (HG5.out.trans HGQ.out).size) ?_; intro v1 w1 hown1 hgb1 hnb1; obtain ⟨Aw, cw, rfl, -, -, -⟩ := own_form hown1)
          have hot := (HO.out.grow (HG5.out.trans HGQ.out)).app (q := (tP, .slice As9 l9 cs9)) (HTV.out.grow HGQ.out) HG.out.size (ltOwn HO.out.row) hgb1 hown1 hnb1
          have hgr := grow_by ((HG.out.trans HG5.out).trans HGQ.out) hgb1 (own_base HO.out.row)
          have hst2 := HST.out
          rw [if_pos HQ1.out] at hst2
          have HOT := Lib.hid hot
          have HGR := Lib.hid hgr
          have HST2 := Lib.hid hst2
          clear hown1 hgb1 hnb1 hot hgr hst2 hs1 s1 s1'
          go_roundw
          case rel => exact ⟨k + 1, m + 1, k + 1, _, qs ++ [(tP, .slice As9 l9 cs9)], by have := HK.out; omega, by go_num, by go_num, rfl, by rw [HST2.out], HOT.out, by rw [HST2.out, List.map_append, HQS.out, List.map_append, HTP.out, HAT.out]; rfl, HGR.out⟩
          case measure => have := HK.out; simp [intOf] <;> omega
        · have s1 : (((k : Int) + 1) == (n : Int)) = false := beq_false_of_ne (by omega)
          have s1' : (k + 1 == n) = false := beq_false_of_ne hkn
          have hq1 : q = cutB B l (k + 1) := by rw [hq, decide_eq_false hkn]; rfl
          rw [← hq1] at HCU
          clear hkn hq hq1
          cases q
          · have hst2 := HST.out
            rw [if_neg (by decide)] at hst2
            have HST2 := Lib.hid hst2
            clear hst2
            go_wp2_with fail
            refine HCU.out.mono ?_
            rintro e w' ⟨rfl, rfl⟩
            go_wp2_with fail
            clear hs1 s1 s1'
            go_roundw
            case rel => exact ⟨k + 1, m, at_, _, qs, by have := HK.out; omega, by go_num, rfl, rfl, by rw [HST2.out]; exact HAT.out, HO.out, by rw [HST2.out]; exact HQS.out, HG.out⟩
            case measure => have := HK.out; simp [intOf] <;> omega
          · have HQ1 : Hid (true = true) := Lib.hid rfl
            go_wp2_with fail
            refine HCU.out.mono ?_
            rintro e w' ⟨rfl, rfl⟩
            go_wp2_with fail
            refine HPC.out.mono ?_
            rintro e w5 ⟨u5, rfl, ⟨s5, rfl, htv⟩, hg5⟩
            obtain ⟨tP, htP⟩ : ∃ tP, tP = pieceT (nearI R) (blocksF B (nearI R) f) (seg l at_ (k + 1)) := ⟨_, rfl⟩
            rw [← htP] at htv ⊢
            obtain ⟨As9, cs9, qs9, e9, -⟩ := htv.form
            obtain ⟨l9, hl9⟩ : ∃ l9, l9 = tP.subs.length := ⟨_, rfl⟩
            rw [← hl9] at e9
            subst e9
            have HTP := Lib.hid htP
            have HTV := Lib.hid htv
            have HG5 := Lib.hid hg5
            clear htP htv hg5 hl9
            have gq : Grow w5 (w5.alloc (.cells #[.int .i64 tP.kind, .int .i64 tP.n, .slice As9 l9 cs9] TB)) := Grow.alloc _ _
            have HGQ := Lib.hid gq
            clear gq
            go_wp2_with (at_builtin; refine wpList_append_row rfl _ _ _ rfl w.heap.size TB _ _ 3 40 Try.underlying30 iB iBz iBs iBb rfl (by decide) (.slice Av m cv) m (qs.map qcells).flatten rfl (own_grow HO.out.row (HG5.out.trans HGQ.out)) (some ⟨w5.heap.size, 0, none⟩) 1 1 [.int .i64 tP.kind, .int .i64 tP.n, .slice As9 l9 cs9] rfl (Row.new w5 [.int .i64 tP.kind, .int .i64 tP.n, .slice As9 l9 cs9] TB (0, 0)) (one3 rfl) (by have := HML.out; unfold maxLen; omega) (by have := HML.out; omega) (Nat.le_trans HG.out.size (HG5.out.trans HGQ.out).size) ?_; intro v1 w1 hown1 hgb1 hnb1; obtain ⟨Aw, cw, rfl, -, -, -⟩ := own_form hown1)
            have hot := (HO.out.grow (HG5.out.trans HGQ.out)).app (q := (tP, .slice As9 l9 cs9)) (HTV.out.grow HGQ.out) HG.out.size (ltOwn HO.out.row) hgb1 hown1 hnb1
            have hgr := grow_by ((HG.out.trans HG5.out).trans HGQ.out) hgb1 (own_base HO.out.row)
            have hst2 := HST.out
            rw [if_pos HQ1.out] at hst2
            have HOT := Lib.hid hot
            have HGR := Lib.hid hgr
            have HST2 := Lib.hid hst2
            clear hown1 hgb1 hnb1 hot hgr hst2 hs1 s1 s1'
            go_roundw
            case rel => exact ⟨k + 1, m + 1, k + 1, _, qs ++ [(tP, .slice As9 l9 cs9)], by have := HK.out; omega, by go_num, by go_num, rfl, by rw [HST2.out], HOT.out, by rw [HST2.out, List.map_append, HQS.out, List.map_append, HTP.out, HAT.out]; rfl, HGR.out⟩
            case measure => have := HK.out; simp [intOf] <;> omega
      · obtain rfl : k = n := by omega
        have t1 : decide (k < k) = false := decide_eq_false hlt
        have htv := ho.tsV
        rw [hqs] at htv
        have hbl : blocksF B (nearI R) (f + 1) l = (pst B l k).2.map (pieceT (nearI R) (blocksF B (nearI R) f)) := by rw [blocksF]; unfold pieces; rw [HLL.out]
        rw [← hbl] at htv
        have HTV := Lib.hid htv
        obtain ⟨Av, cv, rfl, -, -, -⟩ := own_form ho.row
        have HG := Lib.hid hg
        clear ho hqs hg htv hbl hk hlt hat
        go_wp2_with fail
        go_ret
        exact ⟨_, rfl, HTV.out, HG.out⟩
end Go.Proofs.Ytbcifodifadoiaa.bk
