/- The walk of event.Decode. -/
import Derived.Test.YtmekdhlcflielaaDoorEvD
namespace Go.Proofs.YtmekdhlcflielaaDoor.ev
open Go Go.RowKit Go.Par Go.Kit Vi Go.Proofs.YtmekdhlcflielaaDoor.bfW
open Go.Proofs.YtmekdhlcflielaaDoor.viW hiding i8 i8s i8z i8b info8

theorem infoE : (Tryd.prog.info? TE).isSome = true := by kernel_rfl
theorem iE : Tryd.prog.info? TE = some ((Tryd.prog.info? TE).get infoE) := by simp
theorem iEs : ((Tryd.prog.info? TE).get infoE).size = 8 := by kernel_rfl
theorem iEz : ((Tryd.prog.info? TE).get infoE).zero = some (.agg #[.int .u8 0, .int .u8 0, .int .u8 0, .int .i64 0, .int .i64 0, .int .u32 0, .int .u64 0, .slice none 0 0]) := by kernel_rfl
theorem iEb : ((Tryd.prog.info? TE).get infoE).bytes = 64 := by kernel_rfl
/-- events that are read, one behind another, in a row of the call's own -/
def OutI (w : World) (B : Nat) (v : Value) (acc : List Ev) : Prop := ∃ rows : List (List Value), rows.length = acc.length ∧ w.ownsRow B TE 8 v acc.length rows.flatten ∧ (∀ (j : Nat) (r : List Value) (e : Ev), rows[j]? = some r → acc[j]? = some e → ∃ u, r = evRow u e ∧ BO w u e.b) ∧ ∀ e ∈ acc, e.ok
theorem OutI.nil (w : World) (B : Nat) : OutI w B (.slice none 0 0) [] := ⟨[], rfl, World.ownsRow_nil _ _ _ _, (fun j r e h => by simp at h), (fun e h => by cases h)⟩
theorem own_blkE {w : World} {base n : Nat} {v : Value} {xs : List Value} (h : w.ownsRow base TE 8 v n xs) {k : Nat} (hk : v.ownBlock = some k) : ∃ cs, Blk w k TE cs := by
  rcases h.2 with ⟨e, -⟩ | ⟨g', cap, cur, e, -, h5, -⟩
  · rw [e] at hk; cases hk
  · rw [e] at hk
    injection hk with hk
    subst hk
    exact ⟨cur.toList, by unfold Blk; rw [h5]⟩
theorem OutI.keep {w w' : World} {B : Nat} {v : Value} {acc : List Ev} (h : OutI w B v acc) {B2 : Nat} {K : Nat → Prop} (hk : Keep B2 K w w') (h1 : ∀ j cs, Blk w j TE cs → v.ownBlock = some j → K j) (h2 : ∀ j cs fz, w.heap[j]? = some (Obj.cells cs 5 fz) → K j) : OutI w' B v acc := by
  obtain ⟨rows, a1, a2, a3, a4⟩ := h
  exact ⟨rows, a1, hk.own a2 fun k hk2 => by obtain ⟨cs, hb⟩ := own_blkE a2 hk2; exact h1 k cs hb hk2, fun j r e hr he => let ⟨u, hu, hb⟩ := a3 j r e hr he; ⟨u, hu, hb.keep hk h2⟩, a4⟩
theorem OutI.grow {w w' : World} {B : Nat} {v : Value} {acc : List Ev} (h : OutI w B v acc) (hg : Grow w w') : OutI w' B v acc := by
  obtain ⟨rows, a1, a2, a3, a4⟩ := h
  exact ⟨rows, a1, own_grow a2 hg, fun j r e hr he => let ⟨u, hu, hb⟩ := a3 j r e hr he; ⟨u, hu, hb.grow hg⟩, a4⟩
theorem blk_ty {w : World} {g : Nat} {t t' : TypeId} {cs : List Value} {cs' : Array Value} {fz : Nat × Nat} (h : Blk w g t cs) (h' : w.heap[g]? = some (Obj.cells cs' t' fz)) : t = t' := by
  unfold Blk at h
  rw [h] at h'
  injection h' with h'
  injection h' with _ h' _
/-- an event is appended -/
theorem OutI.app {w w' : World} {B : Nat} {v v' : Value} {acc : List Ev} (h : OutI w B v acc) {e : Ev} {u : Value} (hu : BO w u e.b) (hok : e.ok)
    (hg : w.grownBy w' v.ownBlock) {n : Nat} {xs : List Value} (hn : n = acc.length) (rows : List (List Value)) (hrl : rows.length = acc.length) (hrf : rows.flatten = xs) (ha : ∀ (j : Nat) (r : List Value) (e : Ev), rows[j]? = some r → acc[j]? = some e → ∃ u, r = evRow u e ∧ BO w u e.b)
    (ho : w'.ownsRow B TE 8 v' (n + 1) (xs ++ evRow u e)) : OutI w' B v' (acc ++ [e]) := by
  obtain ⟨rows', a1, a2, a3, a4⟩ := h
  have hk : Keep 0 (fun j => v.ownBlock ≠ some j) w w' := Keep.by_ (Keep.refl w) (Nat.zero_le _) hg fun k hk => ⟨Nat.zero_le _, fun hn => hn hk⟩
  have hK : ∀ j cs fz, w.heap[j]? = some (Obj.cells cs 5 fz) → v.ownBlock ≠ some j := fun j cs fz hj e1 => by
    obtain ⟨cs', hb⟩ := own_blkE a2 e1
    exact absurd (blk_ty hb hj) (by decide)
  refine ⟨rows ++ [evRow u e], by simp [hrl], ?_, fun j r x hr hx => ?_, fun x hx => ?_⟩
  · rw [List.length_append, List.length_singleton, List.flatten_append, hrf, ← hn]
    simpa using ho
  · rcases Nat.lt_or_ge j acc.length with hj | hj
    · rw [List.getElem?_append_left (by omega)] at hr
      rw [List.getElem?_append_left hj] at hx
      obtain ⟨u', h1, h2⟩ := ha j r x hr hx
      exact ⟨u', h1, h2.keep hk hK⟩
    · rw [List.getElem?_append_right (by omega)] at hr
      rw [List.getElem?_append_right hj] at hx
      have hj0 : j - acc.length = 0 := by
        have := (List.getElem?_eq_some_iff.1 hx).1
        simp at this
        omega
      rw [hrl, hj0] at hr
      rw [hj0] at hx
      simp only [List.getElem?_cons_zero, Option.some.injEq] at hr hx
      subst hr; subst hx
      exact ⟨u, rfl, hu.keep hk hK⟩
  · rcases List.mem_append.1 hx with hx | hx
    · exact a4 x hx
    · rw [List.mem_singleton] at hx; subst hx; exact hok
/-- events that are handed back -/
def EvV (w : World) (v : Value) (es : List Ev) : Prop := ∃ A c, v = .slice A es.length c ∧ es.length ≤ c ∧ c ≤ maxLen ∧ Evs w A es.length es
theorem EvV.grow {w w' : World} {v : Value} {es : List Ev} (h : EvV w v es) (hg : Grow w w') : EvV w' v es := let ⟨A, c, e, h1, h2, h3⟩ := h; ⟨A, c, e, h1, h2, h3.grow hg⟩
theorem EvV.nil (w : World) : EvV w (.slice none 0 0) [] := ⟨none, 0, rfl, Nat.le_refl _, by decide, rfl, [], Row.nil w none, rfl, fun j r e h => by simp at h⟩
theorem OutI.evV {w : World} {B : Nat} {v : Value} {acc : List Ev} (h : OutI w B v acc) : EvV w v acc := by
  obtain ⟨rows, a1, a2, a3, a4⟩ := h
  obtain ⟨A, c, rfl, h1, h2, h3⟩ := own_form a2
  exact ⟨A, c, rfl, h1, h2, rfl, rows, h3, a1, fun j r e hr he => ⟨let ⟨u, hu, hb⟩ := a3 j r e hr he; ⟨u, hu, hb.sl⟩, a4 e (List.mem_of_getElem? he)⟩⟩
/-- the loop of Decode -/
structure DecI (T : TypeId) (w wr : World) (g M : Nat) (L1 : List UInt8) (e1 : Nat) (m : Nat) (acc : List Ev) (Li : List UInt8) (ei : Nat) (v : Value) : Prop where
  r : Rdr T wr w.heap.size (fun i => i ≠ g) g Li ei
  o : OutI wr w.heap.size v acc
  n : acc.length + m = M
  d : decN M L1 e1 = (acc ++ (decN m Li ei).1, (decN m Li ei).2)
  g : Grow w wr
theorem DecI.app {w wq w1 : World} {g M : Nat} {L1 : List UInt8} {e1 m' : Nat} {acc : List Ev} {ev : Ev} {L' : List UInt8} {e' : Nat} {v v1 u : Value} {T : TypeId} (hTE : T ≠ TE) (hr : Rdr T wq w.heap.size (fun i => i ≠ g) g L' e') (ho : OutI wq w.heap.size v acc)
    (hbo : BO wq u ev.b) (hok : ev.ok) (hg : Grow w wq) (hd : decN M L1 e1 = ((acc ++ [ev]) ++ (decN m' L' e').1, (decN m' L' e').2)) {la : Nat} (hla : la = acc.length) (hlen : la + (m' + 1) = M) {rows : List (List Value)} (hrl : rows.length = acc.length)
    (ha2 : wq.ownsRow w.heap.size TE 8 v la rows.flatten) (ha : ∀ (j : Nat) (r : List Value) (e : Ev), rows[j]? = some r → acc[j]? = some e → ∃ u, r = evRow u e ∧ BO wq u e.b)
    (hgb : wq.grownBy w1 v.ownBlock) (hown : w1.ownsRow w.heap.size TE 8 v1 (la + 1) (rows.flatten ++ evRow u ev)) : DecI T w w1 g M L1 e1 m' (acc ++ [ev]) L' e' v1 := by
  have hk : Keep w.heap.size (fun j => v.ownBlock ≠ some j) wq w1 := Keep.by_ (Keep.refl wq) hg.size hgb fun k hk => ⟨own_base ha2 k hk, fun hn => hn hk⟩
  refine ⟨hr.keep hk fun e9 => ?_, ho.app hbo hok hgb hla rows hrl rfl ha hown, by rw [List.length_append, List.length_singleton]; omega, hd, grow_by hg hgb (own_base ha2)⟩
  obtain ⟨cs, hb⟩ := own_blkE ha2 e9
  obtain ⟨_, _, _, hb9, -⟩ := hr
  exact hTE (Option.some.inj (hb9.symm.trans hb) |> fun h => by injection h with _ h _)
theorem all_snoc {acc : List Ev} {e : Ev} : (acc ++ [e]).all goodB = (acc.all goodB && goodB e) := by simp
theorem rend_ne {L : List UInt8} {e : Nat} (h : e ≤ 100) : rend L e ≤ 100 := by
  unfold rend
  split
  · omega
  · exact h
set_option maxRecDepth 100000 in
set_option maxHeartbeats 8000000 in
theorem decode_any (w : World) (A : Option Addr) (n c : Nat) (L : List UInt8) (hby : Bytes w A n L) (hc : n ≤ c) (hm : c ≤ maxLen) (ht : Tab w) (hB0 : 0 < w.heap.size) :
    Calls Tryd.prog 11 #[.slice A n c] w fun r w' => (∃ v, r = .returned (.tuple #[v, .int .i64 ((decS L).2 : Int)]) ∧ EvV w' v (decS L).1) ∧ Grow w w' := by
  obtain ⟨g, hg⟩ : ∃ g, g = w.heap.size := ⟨_, rfl⟩
  have HOP := Lib.hid (open_any w w.heap.size (fun _ => False) (Nat.le_refl _) (fun _ h => h.elim) A n c L hby hc hm (fun h0 => Row.ltB (show Row w A n _ from hby) h0))
  obtain ⟨⟨M, L1, e1⟩, hr1⟩ : ∃ r, r = rnum L 0 1024 := ⟨_, rfl⟩
  have hM : M ≤ 1024 := by have := rnum_le L 0 1024; rw [← hr1] at this; exact this
  obtain ⟨⟨D, L2, e2⟩, hd⟩ : ∃ r, r = decN M L1 e1 := ⟨_, rfl⟩
  have hres : decS L = if rend L2 e2 ≠ 0 then ([], rend L2 e2) else if D.all goodB then (D, 0) else ([], 4) := by
    unfold decS
    rw [← hr1]
    dsimp only
    rw [← hd]
  obtain ⟨rs, hrs⟩ : ∃ r, r = decS L := ⟨_, rfl⟩
  rw [← hrs]
  rw [← hrs] at hres
  have HRES := Lib.hid hres
  have HR1 := Lib.hid hr1
  have HD := Lib.hid hd
  have HG := Lib.hid hg
  have HT := Lib.hid ht
  have HB0 := Lib.hid hB0
  have HLL : Hid (L.length ≤ maxLen) := Lib.hid (by rw [hby.len]; omega)
  clear hby hm hc ht hB0 hres hr1 hd hg hrs
  rw [← HG.out] at HOP
  go_enter Tryd.func11, Tryd.ntmps11
  go_wp2_with fail
  refine HOP.out.mono ?_
  rintro r w1 ⟨rfl, hrd, hg1⟩
  have hrd' : Rdr TR w1 w.heap.size (fun i => i ≠ g) g L 0 := by rw [HG.out]; rw [HG.out] at hrd; exact hrd.to (fun hn => hn rfl)
  have hnm := num_any w1 w.heap.size (fun i => i ≠ g) g L 0 hrd' 1024
  rw [← HR1.out] at hnm
  have HNM := Lib.hid hnm
  have HG1 := Lib.hid hg1
  clear hrd hrd' hg1 hnm HOP
  go_wp2_with fail
  refine HNM.out.mono ?_
  rintro r w2 ⟨rfl, hr2, hk2⟩
  have hdi : DecI TR w w2 g M L1 e1 M [] L1 e1 (.slice none 0 0) := ⟨hr2, OutI.nil _ _, by simp, by simp, hk2.grow HG1.out rfl⟩
  have HDI := Lib.hid hdi
  clear hr2 hk2 hdi HNM
  go_wp2_with fail
  go_loopw [5, 6, 7] (fun o' f' i' wr => ∃ (m : Nat) (acc : List Ev) (Li : List UInt8) (ei : Nat) (v : Value) (fine : Bool), i' = .int .u64 (m : Int) ∧ v = o' ∧ f' = .bool fine ∧ fine = acc.all goodB ∧ DecI TR w wr g M L1 e1 m acc Li ei v) (fun _ _ i' _ => (intOf i').toNat)
  case atStart => exact ⟨M, [], L1, e1, _, true, rfl, rfl, rfl, rfl, HDI.out⟩
  case round =>
    clear HDI HG1
    obtain ⟨m, acc, Li, ei, v, fine, rfl, rfl, rfl, hfine, hI⟩ := hrel
    have HF := Lib.hid hfine
    have HI := Lib.hid hI
    have herr := err_any wr _ _ g Li ei hI.r
    have HERR := Lib.hid herr
    have hmM : m ≤ 1024 := by have := hI.n; omega
    clear hfine hI herr
    by_cases hm0 : 0 < m
    · have t1 : decide (0 < m) = true := decide_eq_true hm0
      have t1' : decide ((0 : Int) < (m : Int)) = true := decide_eq_true (by omega)
      by_cases he0 : ei = 0
      · subst he0
        obtain ⟨m', rfl⟩ : ∃ m', m = m' + 1 := ⟨m - 1, by omega⟩
        have hrdr := HI.out.r
        obtain ⟨KK, hKKd⟩ : ∃ KK : Nat → Prop, KK = fun i => i ≠ g ∧ i < wr.heap.size := ⟨_, rfl⟩
        have hrd := read_any wr w.heap.size KK (fun i hi => by rw [hKKd] at hi; exact hi.2) g Li 0 (hrdr.to (by rw [hKKd]; rintro ⟨h, -⟩; exact h rfl)) (by
          obtain ⟨A9, n9, c9, -, h2, h3, h4, -⟩ := hrdr
          have := h4.len
          omega) (HT.out.grow HI.out.g) HB0.out
        obtain ⟨⟨ev, L', e'⟩, hev⟩ : ∃ r, r = rdEv Li 0 := ⟨_, rfl⟩
        have hevok : ev.ok := by have := rdEv_ok Li 0; rw [← hev] at this; exact this
        rw [← hev] at hrd
        have HRD := Lib.hid hrd
        have HEV := Lib.hid hev
        have HOK := Lib.hid hevok
        have HKK := Lib.hid hKKd
        clear hrdr hrd hev hevok hKKd hm0
        go_wp2_with fail
        refine HERR.out.mono ?_
        rintro r w' ⟨rfl, rfl⟩
        go_wp2_with fail
        refine HRD.out.mono ?_
        rintro r w4 ⟨⟨A4, n4, c4, rfl, hbo⟩, hr4, hk4⟩
        have hK8 : ∀ j cs fz, wr.heap[j]? = some (Obj.cells cs 5 fz) → KK j := fun j cs fz hj => by
          rw [HKK.out]
          refine ⟨fun e9 => ?_, (Array.getElem?_eq_some_iff.1 hj).1⟩
          subst e9
          obtain ⟨_, _, _, hb9, -⟩ := HI.out.r
          exact absurd (blk_ty hb9 hj) (by decide)
        have hKE : ∀ j cs, Blk wr j TE cs → v.ownBlock = some j → KK j := fun j cs hj _ => by
          rw [HKK.out]
          refine ⟨fun e9 => ?_, hj.lt⟩
          subst e9
          obtain ⟨_, _, _, hb9, -⟩ := HI.out.r
          exact absurd (blk_ty hb9 hj) (by decide)
        have ho4 := HI.out.o.keep hk4 hKE hK8
        have hg4 := hk4.grow HI.out.g rfl
        have hr4' : Rdr TR w4 w.heap.size (fun i => i ≠ g) g L' e' := hr4.to (fun hn => hn rfl)
        obtain ⟨b8, hb8⟩ : ∃ b, b = w4.heap.size := ⟨_, rfl⟩
        obtain ⟨W5, hW5⟩ : ∃ W, W = w4.alloc (.cells #[.int .u8 (ev.k : Int), .int .u8 (ev.node : Int), .int .u8 (ev.peer : Int), .int .i64 ev.K, .int .i64 ev.at_, .int .u32 (ev.mask : Int), .int .u64 (ev.draw : Int), .slice A4 n4 c4] TE) := ⟨_, rfl⟩
        have hg45 : Grow w4 W5 := by rw [hW5]; exact Grow.alloc _ _
        have hbx : Blk W5 b8 TE [.int .u8 (ev.k : Int), .int .u8 (ev.node : Int), .int .u8 (ev.peer : Int), .int .i64 ev.K, .int .i64 ev.at_, .int .u32 (ev.mask : Int), .int .u64 (ev.draw : Int), .slice A4 n4 c4] := by rw [hW5]; exact Blk.new _ _ _ _ rfl hb8
        have hn4 : n4 = ev.b.length := by
          obtain ⟨A9, c9, e9, -⟩ := hbo
          injection e9 with _ e9 _
        have HGO := Lib.hid (good_any W5 ev HOK.out A4 n4 c4 hn4 (HT.out.grow (hg4.trans hg45)))
        have HO5 := Lib.hid (ho4.grow hg45)
        have HR5 := Lib.hid (hr4'.grow hg45)
        have HBO5 := Lib.hid (hbo.grow hg45)
        have HG5 := Lib.hid (hg4.trans hg45)
        have HBX := Lib.hid hbx
        have HW5 := Lib.hid hW5
        have HB8 := Lib.hid hb8
        have hdec : decN M L1 e1 = ((acc ++ [ev]) ++ (decN m' L' e').1, (decN m' L' e').2) := by
          rw [HI.out.d, decN_step, ← HEV.out]
          dsimp only
          rw [List.append_assoc]
          rfl
        have HDEC := Lib.hid hdec
        have hlen5 : acc.length + (m' + 1) = M := HI.out.n
        clear hbo hr4 hk4 hK8 hKE ho4 hg4 hr4' hb8 hW5 hg45 hbx hn4 hdec HRD HERR
        obtain ⟨gd, hgd⟩ : ∃ q, q = goodB ev := ⟨_, rfl⟩
        rw [← hgd] at HGO
        have HGD := Lib.hid hgd
        clear hgd
        unfold evRow
        have tail : True := trivial
        obtain ⟨rows, a1, a2, a3, a4⟩ := HO5.out
        obtain ⟨la, hla⟩ : ∃ q, q = acc.length := ⟨_, rfl⟩
        rw [← hla] at a2 hlen5
        have HLA := Lib.hid hla
        have HA1 := Lib.hid a1
        have HA2 := Lib.hid a2
        have HA3 := Lib.hid a3
        clear a1 a2 a3 a4 tail hla
        cases fine
        · skip
          have x0 := HBX.out.cell (i := 0) rfl
          have x1 := HBX.out.cell (i := 1) rfl
          have x2 := HBX.out.cell (i := 2) rfl
          have x3 := HBX.out.cell (i := 3) rfl
          have x4 := HBX.out.cell (i := 4) rfl
          have x5 := HBX.out.cell (i := 5) rfl
          have x6 := HBX.out.cell (i := 6) rfl
          have x7 := HBX.out.cell (i := 7) rfl
          have gq := Grow.alloc W5 (.cells #[.int .u8 (ev.k : Int), .int .u8 (ev.node : Int), .int .u8 (ev.peer : Int), .int .i64 ev.K, .int .i64 ev.at_, .int .u32 (ev.mask : Int), .int .u64 (ev.draw : Int), .slice A4 n4 c4] TE)
          dsimp only
          repeat (first | with_reducible (refine wp_region_cut (k := 8) ?_) | go_values | go_guarded | go_step | go_upon | go_back)
          rw [← HB8.out, ← HW5.out]
          unfold Cut
          go_wp2_with (at_builtin; refine wpList_append_row rfl _ _ _ rfl w.heap.size TE _ _ 8 64 Tryd.underlying22 iE iEz iEs iEb rfl (by decide) v la rows.flatten rfl (own_grow HA2.out gq) (some ⟨W5.heap.size, 0, none⟩) 1 1 [.int .u8 (ev.k : Int), .int .u8 (ev.node : Int), .int .u8 (ev.peer : Int), .int .i64 ev.K, .int .i64 ev.at_, .int .u32 (ev.mask : Int), .int .u64 (ev.draw : Int), .slice A4 n4 c4] rfl (Row.new W5 [.int .u8 (ev.k : Int), .int .u8 (ev.node : Int), .int .u8 (ev.peer : Int), .int .i64 ev.K, .int .i64 ev.at_, .int .u32 (ev.mask : Int), .int .u64 (ev.draw : Int), .slice A4 n4 c4] TE (0, 0)) (by intro u hu; simp only [List.mem_cons, List.not_mem_nil, or_false] at hu; rcases hu with rfl | rfl | rfl | rfl | rfl | rfl | rfl | rfl <;> rfl) (by unfold maxLen; omega) (by omega) (Nat.le_trans HG5.out.size gq.size) ?_; intro v1 w1 hown1 hgb1 _)
          have hdi := DecI.app (by decide) (HR5.out.grow gq) (HO5.out.grow gq) (HBO5.out.grow gq) HOK.out (HG5.out.trans gq) HDEC.out HLA.out hlen5 HA1.out (own_grow HA2.out gq) (fun j r e hr he => let ⟨u, hu, hb⟩ := HA3.out j r e hr he; ⟨u, hu, hb.grow gq⟩) hgb1 hown1
          have HDI := Lib.hid hdi
          clear hown1 hgb1 hdi
          go_roundw
          case rel => exact ⟨m', acc ++ [ev], L', e', _, false, by go_num, rfl, rfl, by rw [all_snoc, ← HF.out]; rfl, HDI.out⟩
          case measure => simp [intOf] <;> omega
        · skip
          have x0 := HBX.out.cell (i := 0) rfl
          have x1 := HBX.out.cell (i := 1) rfl
          have x2 := HBX.out.cell (i := 2) rfl
          have x3 := HBX.out.cell (i := 3) rfl
          have x4 := HBX.out.cell (i := 4) rfl
          have x5 := HBX.out.cell (i := 5) rfl
          have x6 := HBX.out.cell (i := 6) rfl
          have x7 := HBX.out.cell (i := 7) rfl
          dsimp only
          repeat (first | with_reducible (refine wp_region_cut (k := 8) ?_) | go_values | go_guarded | go_step | go_upon | go_back)
          rw [← HB8.out, ← HW5.out]
          unfold Cut
          go_wp2_with fail
          refine HGO.out.mono ?_
          rintro r w6 ⟨rfl, hg6⟩
          clear x0 x1 x2 x3 x4 x5 x6 x7
          have gq : Grow W5 (w6.alloc (.cells #[.int .u8 (ev.k : Int), .int .u8 (ev.node : Int), .int .u8 (ev.peer : Int), .int .i64 ev.K, .int .i64 ev.at_, .int .u32 (ev.mask : Int), .int .u64 (ev.draw : Int), .slice A4 n4 c4] TE)) := hg6.trans (Grow.alloc _ _)
          have x0 := (HBX.out.grow hg6).cell (i := 0) rfl
          have x1 := (HBX.out.grow hg6).cell (i := 1) rfl
          have x2 := (HBX.out.grow hg6).cell (i := 2) rfl
          have x3 := (HBX.out.grow hg6).cell (i := 3) rfl
          have x4 := (HBX.out.grow hg6).cell (i := 4) rfl
          have x5 := (HBX.out.grow hg6).cell (i := 5) rfl
          have x6 := (HBX.out.grow hg6).cell (i := 6) rfl
          have x7 := (HBX.out.grow hg6).cell (i := 7) rfl
          go_wp2_with (at_builtin; refine wpList_append_row rfl _ _ _ rfl w.heap.size TE _ _ 8 64 Tryd.underlying22 iE iEz iEs iEb rfl (by decide) v la rows.flatten rfl (own_grow HA2.out gq) (some ⟨w6.heap.size, 0, none⟩) 1 1 [.int .u8 (ev.k : Int), .int .u8 (ev.node : Int), .int .u8 (ev.peer : Int), .int .i64 ev.K, .int .i64 ev.at_, .int .u32 (ev.mask : Int), .int .u64 (ev.draw : Int), .slice A4 n4 c4] rfl (Row.new w6 [.int .u8 (ev.k : Int), .int .u8 (ev.node : Int), .int .u8 (ev.peer : Int), .int .i64 ev.K, .int .i64 ev.at_, .int .u32 (ev.mask : Int), .int .u64 (ev.draw : Int), .slice A4 n4 c4] TE (0, 0)) (by intro u hu; simp only [List.mem_cons, List.not_mem_nil, or_false] at hu; rcases hu with rfl | rfl | rfl | rfl | rfl | rfl | rfl | rfl <;> rfl) (by unfold maxLen; omega) (by omega) (Nat.le_trans HG5.out.size gq.size) ?_; intro v1 w1 hown1 hgb1 _)
          have hdi := DecI.app (by decide) (HR5.out.grow gq) (HO5.out.grow gq) (HBO5.out.grow gq) HOK.out (HG5.out.trans gq) HDEC.out HLA.out hlen5 HA1.out (own_grow HA2.out gq) (fun j r e hr he => let ⟨u, hu, hb⟩ := HA3.out j r e hr he; ⟨u, hu, hb.grow gq⟩) hgb1 hown1
          have HDI := Lib.hid hdi
          clear hown1 hgb1 hdi
          go_roundw
          case rel => exact ⟨m', acc ++ [ev], L', e', _, gd, by go_num, rfl, rfl, by rw [all_snoc, ← HF.out, ← HGD.out]; rfl, HDI.out⟩
          case measure => simp [intOf] <;> omega
      · have s1 : ((ei : Int) == 0) = false := beq_false_of_ne (by omega)
        have s2 : (ei == 0) = false := beq_false_of_ne he0
        have hst : decN m Li ei = ([], Li, ei) := decN_stop (by omega)
        have hD : D = acc ∧ L2 = Li ∧ e2 = ei := by
          have h1 := HI.out.d
          rw [← HD.out, hst, List.append_nil] at h1
          injection h1 with h1 h2
          injection h2 with h2 h3
          exact ⟨h1, h2, h3⟩
        obtain ⟨rfl, rfl, rfl⟩ := hD
        have HEND := Lib.hid (end_any wr _ _ g L2 e2 HI.out.r)
        obtain ⟨er, her⟩ : ∃ q, q = rend L2 e2 := ⟨_, rfl⟩
        rw [← her] at HEND HRES
        have HEV := Lib.hid HI.out.o.evV
        have HGR := Lib.hid HI.out.g
        obtain ⟨A5, c5, hv5, -⟩ := HEV.out
        obtain ⟨l5, hl5⟩ : ∃ q, q = D.length := ⟨_, rfl⟩
        rw [← hl5] at hv5
        subst hv5
        clear hst her hl5 he0 hm0
        by_cases h1 : er = 0
        · subst h1
          cases fine
          · have hrs9 : rs = ([], 4) := by rw [HRES.out, if_neg (by decide), if_neg (by rw [← HF.out]; decide)]
            subst hrs9
            go_wp2_with (go_at_call 25; refine HERR.out.mono ?_; rintro r w' ⟨rfl, rfl⟩)
            refine HEND.out.mono ?_
            rintro r w' ⟨rfl, rfl⟩
            go_wp2_with fail
            go_ret2
            exact ⟨⟨_, rfl, EvV.nil _⟩, HGR.out⟩
          · have hrs9 : rs = (D, 0) := by rw [HRES.out, if_neg (by decide), if_pos HF.out.symm]
            subst hrs9
            go_wp2_with (go_at_call 25; refine HERR.out.mono ?_; rintro r w' ⟨rfl, rfl⟩)
            refine HEND.out.mono ?_
            rintro r w' ⟨rfl, rfl⟩
            go_wp2_with fail
            go_ret2
            exact ⟨⟨_, rfl, HEV.out⟩, HGR.out⟩
        · have t9 : (er == 0) = false := beq_false_of_ne h1
          have t9' : ((er : Int) == 0) = false := beq_false_of_ne (by omega)
          have t8 : (er != 0) = true := bne_iff_ne.2 h1
          have t8' : ((er : Int) != 0) = true := bne_iff_ne.2 (by omega)
          have hrs9 : rs = ([], er) := by rw [HRES.out, if_pos h1]
          subst hrs9
          clear h1
          go_wp2_with (go_at_call 25; refine HERR.out.mono ?_; rintro r w' ⟨rfl, rfl⟩)
          refine HEND.out.mono ?_
          rintro r w' ⟨rfl, rfl⟩
          go_wp2_with fail
          go_ret2
          exact ⟨⟨_, rfl, EvV.nil _⟩, HGR.out⟩
    · have t1 : decide (0 < m) = false := decide_eq_false hm0
      have t1' : decide ((0 : Int) < (m : Int)) = false := decide_eq_false (by omega)
      have hst : decN m Li ei = ([], Li, ei) := decN_stop (by omega)
      have hD : D = acc ∧ L2 = Li ∧ e2 = ei := by
        have h1 := HI.out.d
        rw [← HD.out, hst, List.append_nil] at h1
        injection h1 with h1 h2
        injection h2 with h2 h3
        exact ⟨h1, h2, h3⟩
      obtain ⟨rfl, rfl, rfl⟩ := hD
      have HEND := Lib.hid (end_any wr _ _ g L2 e2 HI.out.r)
      obtain ⟨er, her⟩ : ∃ q, q = rend L2 e2 := ⟨_, rfl⟩
      rw [← her] at HEND HRES
      have HEV := Lib.hid HI.out.o.evV
      have HGR := Lib.hid HI.out.g
      obtain ⟨A5, c5, hv5, -⟩ := HEV.out
      obtain ⟨l5, hl5⟩ : ∃ q, q = D.length := ⟨_, rfl⟩
      rw [← hl5] at hv5
      subst hv5
      clear hst her hl5 hm0
      by_cases h1 : er = 0
      · subst h1
        cases fine
        · have hrs9 : rs = ([], 4) := by rw [HRES.out, if_neg (by decide), if_neg (by rw [← HF.out]; decide)]
          subst hrs9
          go_wp2_with fail
          refine HEND.out.mono ?_
          rintro r w' ⟨rfl, rfl⟩
          go_wp2_with fail
          go_ret2
          exact ⟨⟨_, rfl, EvV.nil _⟩, HGR.out⟩
        · have hrs9 : rs = (D, 0) := by rw [HRES.out, if_neg (by decide), if_pos HF.out.symm]
          subst hrs9
          go_wp2_with fail
          refine HEND.out.mono ?_
          rintro r w' ⟨rfl, rfl⟩
          go_wp2_with fail
          go_ret2
          exact ⟨⟨_, rfl, HEV.out⟩, HGR.out⟩
      · have t9 : (er == 0) = false := beq_false_of_ne h1
        have t9' : ((er : Int) == 0) = false := beq_false_of_ne (by omega)
        have t8 : (er != 0) = true := bne_iff_ne.2 h1
        have t8' : ((er : Int) != 0) = true := bne_iff_ne.2 (by omega)
        have hrs9 : rs = ([], er) := by rw [HRES.out, if_pos h1]
        subst hrs9
        clear h1
        go_wp2_with fail
        refine HEND.out.mono ?_
        rintro r w' ⟨rfl, rfl⟩
        go_wp2_with fail
        go_ret2
        exact ⟨⟨_, rfl, EvV.nil _⟩, HGR.out⟩
end Go.Proofs.YtmekdhlcflielaaDoor.ev
