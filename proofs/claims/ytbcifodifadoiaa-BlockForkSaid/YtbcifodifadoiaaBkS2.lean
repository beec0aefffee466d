/- The walk of block's sides. -/
import Derived.Test.YtbcifodifadoiaaBkQ
import Derived.Test.YtbcifodifadoiaaFast
namespace Go.Proofs.Ytbcifodifadoiaa.bk
open Go Go.RowKit Go.Par Go.Kit Go.Proofs.Ytbcifodifadoiaa.Bk Go.Proofs.Ytbcifodifadoiaa.reW Go.Proofs.Ytbcifodifadoiaa.mkW

abbrev TI : TypeId := 23
theorem infoL : (Try.prog.info? TI).isSome = true := by kernel_rfl
theorem iL : Try.prog.info? TI = some ((Try.prog.info? TI).get infoL) := by simp
theorem iLs : ((Try.prog.info? TI).get infoL).size = 1 := by kernel_rfl
theorem iLz : ((Try.prog.info? TI).get infoL).zero = some (.slice none 0 0) := by kernel_rfl
theorem iLb : ((Try.prog.info? TI).get infoL).bytes = 24 := by kernel_rfl
def nearI (R : Nat → Nat → Bool) (a b : Int) : Bool := leadI R a b || leadI R b a
theorem nearI_symm (R : Nat → Nat → Bool) (a b : Int) : nearI R a b = nearI R b a := Bool.or_comm _ _
theorem nr_at {N : Int → Int → Bool} {l : List Int} {i k : Nat} {x y : Int} (h1 : l[i]? = some x) (h2 : l[k]? = some y) : nr N l i k = N x y := by
  unfold nr
  rw [List.getD_eq_getElem?_getD, List.getD_eq_getElem?_getD, h1, h2]; rfl
def bit1 (b : Bool) : Value := .int .i64 (if b then 1 else 0)
def seenL (n : Nat) (S : Nat → Bool) : List Value := (List.range n).map fun k => bit1 (S k)
theorem seenL_at {n k : Nat} {S : Nat → Bool} (hk : k < n) : (seenL n S)[k]? = some (bit1 (S k)) := by simp [seenL, hk]
theorem seenL_set {n k : Nat} {S : Nat → Bool} : (seenL n S).set k (.int .i64 1) = seenL n fun j => S j || j == k := by
  refine List.ext_getElem? fun i => ?_
  rw [List.getElem?_set]
  by_cases hi : i < n
  · rw [seenL_at hi, seenL_at hi]
    by_cases h : k = i
    · subst h
      have : k < (seenL n S).length := by simp [seenL]; exact hi
      rw [if_pos rfl, if_pos this]
      simp [bit1]
    · have : (i == k) = false := beq_false_of_ne fun e => h e.symm
      simp [h, this]
  · rw [List.getElem?_eq_none (by simp [seenL]; omega), List.getElem?_eq_none (by simp [seenL]; omega)]
    simp [seenL]
    omega
theorem seenL_new (n : Nat) : (Array.replicate n (.int .i64 0) : Array Value) = (seenL n fun _ => false).toArray := by
  apply Array.ext_getElem?
  intro i
  by_cases hi : i < n
  · simp [seenL, bit1, hi]
  · simp [seenL, hi]
theorem seenL_ext {n : Nat} {S S' : Nat → Bool} (h : ∀ k, k < n → S k = S' k) : seenL n S = seenL n S' := by
  unfold seenL
  refine List.map_congr_left fun k hk => ?_
  rw [h k (List.mem_range.1 hk)]
/-- a slice of places, in a block of its own behind bs -/
def IV (w : World) (bs : Nat) (u : Value) (L : List Nat) : Prop := ∃ A c, u = .slice A L.length c ∧ L.length ≤ c ∧ c ≤ maxLen ∧ Row w A L.length (L.map nv) ∧ (0 < L.length → ∀ ad, A = some ad → bs < ad.block ∧ ∃ cs, Blk w ad.block 3 cs)
theorem IV.keep {w w' : World} {bs : Nat} {u : Value} {L : List Nat} (h : IV w bs u L) (hk : ∀ k cs, bs < k → Blk w k 3 cs → w'.heap[k]? = w.heap[k]?) : IV w' bs u L := by
  obtain ⟨A, c, e, h1, h2, h3, h4⟩ := h
  refine ⟨A, c, e, h1, h2, Row.move h3 fun hn ad had => ?_, fun hn ad had => ?_⟩
  · obtain ⟨h5, cs, h6⟩ := h4 hn ad had
    exact hk _ cs h5 h6
  · obtain ⟨h5, cs, h6⟩ := h4 hn ad had
    exact ⟨h5, cs, (hk _ cs h5 h6).trans h6⟩
theorem IV.grow {w w' : World} {bs : Nat} {u : Value} {L : List Nat} (h : IV w bs u L) (hg : Grow w w') : IV w' bs u L := h.keep fun k _ _ hb => Below.block hg k hb.lt
/-- what is told so far -/
structure OutS (w0 : World) (bs n i : Nat) (N : Int → Int → Bool) (l : List Int) (v : Value) (m : Nat) (vs : List Value) (w : World) : Prop where
  g : Grow w0 w
  seen : Blk w bs 3 (seenL n (seenTo N l i))
  own : w.ownsRow w0.heap.size TI 1 v m vs
  len : m = (firstsTo N l i).length
  ivs : ∀ (j : Nat) (u : Value) (f : Nat), vs[j]? = some u → (firstsTo N l i)[j]? = some f → IV w bs u (sideL N l f)
/-- while a side is walked -/
structure InS (w0 W1 : World) (bs n : Nat) (v8 : Value) (lo : Nat) (o : List Nat) (S : Nat → Bool) (w : World) : Prop where
  kp : Keep w0.heap.size (fun j => j ≠ bs ∧ j < W1.heap.size) W1 w
  own : w.ownsRow W1.heap.size 3 1 v8 lo (o.map nv)
  len : lo = o.length
  seen : Blk w bs 3 (seenL n S)
theorem InS.mark {w0 W1 w : World} {bs n lo k : Nat} {v8 : Value} {o : List Nat} {S : Nat → Bool} (h : InS w0 W1 bs n v8 lo o S w) (hb : w0.heap.size ≤ bs) (hb1 : bs < W1.heap.size) : InS w0 W1 bs n v8 lo o (fun j => S j || j == k) (w.setCell ⟨bs, k, none⟩ (.int .i64 1)) := by
  refine ⟨h.kp.setCell (p := ⟨bs, k, none⟩) hb (fun hn => hn.1 rfl) _, own_far h.own _ _ fun j hj e => ?_, h.len, ?_⟩
  · have := own_base h.own j hj
    have e : j = bs := e
    omega
  · rw [← seenL_set]
    exact h.seen.set_ k _
theorem InS.app {w0 W1 w w' : World} {bs n lo k : Nat} {v8 v9 : Value} {o : List Nat} {S : Nat → Bool} (h : InS w0 W1 bs n v8 lo o S w) (hb : w0.heap.size ≤ W1.heap.size) (hb1 : bs < W1.heap.size) (hg : w.grownBy w' v8.ownBlock) (ho : w'.ownsRow W1.heap.size 3 1 v9 (lo + 1) (o.map nv ++ [.int .i64 (k : Int)])) : InS w0 W1 bs n v9 (lo + 1) (o ++ [k]) S w' := by
  have hbase := own_base h.own
  refine ⟨Keep.by_ h.kp (Nat.le_trans hb h.kp.size) hg fun j hj => ⟨Nat.le_trans hb (hbase j hj), fun hn => by have := hbase j hj; have := hn.2; omega⟩, by rw [List.map_append]; exact ho, by rw [List.length_append, h.len]; rfl, ?_⟩
  exact (hg.block bs h.seen.lt fun e => by have := hbase bs e.symm; omega).trans h.seen
theorem InS.grow {w0 W1 w w' : World} {bs n lo : Nat} {v8 : Value} {o : List Nat} {S : Nat → Bool} (h : InS w0 W1 bs n v8 lo o S w) (hb : w0.heap.size ≤ W1.heap.size) (hg : Grow w w') : InS w0 W1 bs n v8 lo o S w' :=
  ⟨h.kp.trans (Keep.of hg (Nat.le_trans hb h.kp.size)), own_grow h.own hg, h.len, h.seen.grow hg⟩
theorem Nums.at2 {w : World} {A : Option Addr} {n c : Nat} {l : List Int} (h : Nums w A n c l) {i k : Nat} (hi : i < n) (hk : k < n) : ∃ b off x y, A = some ⟨b, off, none⟩ ∧ l[i]? = some x ∧ l[k]? = some y ∧ w.cell? ⟨b, off + i, none⟩ = some (.int .i64 x) ∧ w.cell? ⟨b, off + k, none⟩ = some (.int .i64 y) ∧ i64ok x ∧ i64ok y := by
  obtain ⟨b, off, x, e1, h1, h2, h3⟩ := h.at_ hi
  obtain ⟨b', off', y, e2, h4, h5, h6⟩ := h.at_ hk
  rw [e1] at e2
  injection e2 with e2
  injection e2 with e2 e3 _
  subst e2; subst e3
  exact ⟨b, off, x, y, e1, h1, h4, h2, h5, h3, h6⟩
set_option maxRecDepth 100000 in
set_option maxHeartbeats 16000000 in
theorem sides_any (w : World) (gr nR : Nat) (R : Nat → Nat → Bool) (h : RelP w gr nR R) (A : Option Addr) (n c : Nat) (l : List Int) (hl : Nums w A n c l) (hn : n ≤ 1000000) :
    Calls Try.prog 39 #[.pointer (some ⟨gr, 0, none⟩), .slice A n c] w fun e w' => ∃ v vs, e = .returned v ∧ OutS w w.heap.size n n (nearI R) l v (firsts (nearI R) l).length vs w' := by
  have HREL := Lib.hid h
  have HL := Lib.hid hl
  have hll := hl.len
  have HLL := Lib.hid hll
  obtain ⟨N, hN⟩ : ∃ N, N = nearI R := ⟨_, rfl⟩
  have hsym : ∀ a b, N a b = N b a := fun a b => by rw [hN]; exact nearI_symm R a b
  rw [← hN]
  have HN := Lib.hid hN
  have HSYM := Lib.hid hsym
  have hmk := make_row (P := Try.prog) Try.underlying23 iI iIz iIs rfl n (by rw [iIb]; omega) (by omega) w
  obtain ⟨bs, hbs⟩ : ∃ bs, bs = w.heap.size := ⟨_, rfl⟩
  obtain ⟨W1, hW1⟩ : ∃ W, W = w.alloc (.cells (Array.replicate n (.int .i64 0)) 3) := ⟨_, rfl⟩
  rw [← hW1, ← hbs] at hmk
  have hg1 : Grow w W1 := by rw [hW1]; exact Grow.alloc _ _
  have hb1 : Blk W1 bs 3 (seenL n fun _ => false) := by rw [hW1]; exact Blk.new _ _ _ _ (seenL_new n) hbs
  have hos : OutS w bs n 0 N l (.slice none 0 0) 0 [] W1 := ⟨hg1, hb1, World.ownsRow_nil _ _ _ _, rfl, fun j u f hu => by simp at hu⟩
  have HOS := Lib.hid hos
  have HBS := Lib.hid hbs
  rw [← hbs]
  obtain ⟨mf, hmf⟩ : ∃ mf, mf = (firsts N l).length := ⟨_, rfl⟩
  rw [← hmf]
  have HMF := Lib.hid hmf
  clear h hl hll hN hsym hW1 hg1 hb1 hos hbs hmf
  go_enter Try.func39, Try.ntmps39
  go_wp2_with fail
  clear hmk
  go_loopw [5, 16] (fun o' i' wr => ∃ (i m : Nat) (v : Value) (vs : List Value), i ≤ n ∧ i' = .int .i64 (i : Int) ∧ v = o' ∧ OutS w bs n i N l v m vs wr) (fun _ i' _ => n - (intOf i').toNat)
  case atStart => exact ⟨0, 0, _, [], by omega, rfl, rfl, HOS.out⟩
  case round =>
    clear HOS
    obtain ⟨wa, rfl⟩ : ∃ wa, wa = wr := ⟨_, rfl⟩
    obtain ⟨i, m, v, vs, hi, rfl, rfl, hos⟩ := hrel
    by_cases hlt : i < n
    · have t1 : decide (i < n) = true := decide_eq_true hlt
      have t1' : decide ((i : Int) < (n : Int)) = true := decide_eq_true (by omega)
      have xx := hos.seen.cell (seenL_at (S := seenTo N l i) hlt)
      have HLT := Lib.hid hlt
      by_cases hsn : seenTo N l i i = true
      · rw [hsn] at xx
        have x0 : wa.cell? ⟨bs, i, none⟩ = some (.int .i64 1) := xx
        clear xx
        have hos2 : OutS w bs n (i + 1) N l v m vs wa := by
          refine ⟨hos.g, ?_, hos.own, by rw [firstsTo_old hsn]; exact hos.len, fun j u f hu hf => hos.ivs j u f hu (by rwa [firstsTo_old hsn] at hf)⟩
          rw [seenL_ext fun k _ => seenTo_old hsn k]
          exact hos.seen
        have HO2 := Lib.hid hos2
        clear hos hos2 hsn hi hlt
        go_wp2_with fail
        clear x0
        go_roundw
        case rel => exact ⟨i + 1, m, _, vs, by have := HLT.out; omega, by go_num, rfl, HO2.out⟩
        case measure => have := HLT.out; simp [intOf] <;> omega
      · have hsn : seenTo N l i i = false := by simpa using hsn
        rw [hsn] at xx
        have x0 : wa.cell? ⟨bs, i, none⟩ = some (.int .i64 0) := xx
        clear xx
        have HSN := Lib.hid hsn
        have HOUT := Lib.hid hos
        have hbw : w.heap.size ≤ bs := by rw [HBS.out]; exact Nat.le_refl _
        have hbr : bs < wa.heap.size := hos.seen.lt
        have HBW := Lib.hid hbw
        have HBR := Lib.hid hbr
        obtain ⟨g8, hg8⟩ : ∃ g8, g8 = wa.heap.size := ⟨_, rfl⟩
        obtain ⟨W2, hW2⟩ : ∃ W, W = wa.alloc (.cells #[.int .i64 (i : Int)] 3) := ⟨_, rfl⟩
        have hg2 : Grow wa W2 := by rw [hW2]; exact Grow.alloc _ _
        have hb8 : Blk W2 g8 3 ([i].map nv) := by rw [hW2]; exact Blk.new _ _ _ _ rfl hg8
        have hin : InS w wa bs n (.slice (some ⟨g8, 0, none⟩) 1 1) 1 [i] (seenTo N l i) W2 :=
          ⟨Keep.of hg2 hos.g.size, own_lit hb8 (Nat.le_of_eq hg8.symm) rfl (by decide), rfl, hos.seen.grow hg2⟩
        have x2 := hg2.cell x0
        have f0 := (hos.seen.grow hg2).free i
        obtain ⟨W3, hW3⟩ : ∃ W, W = W2.setCell ⟨bs, i, none⟩ (.int .i64 1) := ⟨_, rfl⟩
        have hin3 : InS w wa bs n (.slice (some ⟨g8, 0, none⟩) 1 1) 1 [i] (fun j => seenTo N l i j || j == i) W3 := by rw [hW3]; exact hin.mark hbw hbr
        have hsd : Side N l i [i] (fun j => seenTo N l i j || j == i) 0 0 := Side.start (by rw [HLL.out]; exact hlt) fun k _ => by
          show _ = (seenTo N l i k || List.contains [i] k)
          rw [List.contains_cons, List.contains_nil, Bool.or_false]
        have HIN := Lib.hid hin3
        have HSD := Lib.hid hsd
        have HW2 := Lib.hid hW2
        have HW3 := Lib.hid hW3
        have HG8 := Lib.hid hg8
        clear hos hsn hbw hbr hg8 hW2 hg2 hb8 hin hW3 hin3 hsd hi hlt
        try dsimp only
        repeat (first | with_reducible (refine wp_region_cut (k := 8) ?_) | go_values | go_guarded | go_step | go_upon | go_back)
        rw [← HW2.out, ← HG8.out]
        unfold Cut
        repeat (first | with_reducible (refine wp_region_cut (k := 9) ?_) | go_values | go_guarded | go_step | go_upon | go_back)
        rw [← HW3.out]
        unfold Cut
        clear x0 x2 f0
        go_wp2_with fail
        go_loopw [8, 9] (fun s' a' w2 => ∃ (at_ lo : Nat) (o : List Nat) (S : Nat → Bool) (v8 : Value), at_ ≤ lo ∧ a' = .int .i64 (at_ : Int) ∧ v8 = s' ∧ InS w wa bs n v8 lo o S w2 ∧ Side N l i o S at_ 0) (fun _ a' _ => n - (intOf a').toNat)
        case atStart => exact ⟨0, 1, [i], _, _, by omega, rfl, rfl, HIN.out, HSD.out⟩
        case round =>
          clear HIN HSD
          obtain ⟨wb, rfl⟩ : ∃ wb, wb = wr := ⟨_, rfl⟩
          obtain ⟨at_, lo, o, S, v8, hat, rfl, rfl, hin, hsd⟩ := hrel
          have hlo : lo ≤ n := by rw [hin.len]; have := hsd.len; rwa [HLL.out] at this
          by_cases hla : at_ < lo
          · have ta : decide (at_ < lo) = true := decide_eq_true hla
            have ta' : decide ((at_ : Int) < (lo : Int)) = true := decide_eq_true (by omega)
            obtain ⟨A8, c8, rfl, -, -, -⟩ := own_form hin.own
            have HIN := Lib.hid hin
            have HSD := Lib.hid hsd
            have HLA := Lib.hid hla
            have HLO := Lib.hid hlo
            clear hin hsd hat hla hlo
            go_wp2_with fail
            clear ta ta'
            go_loopw [8, 37] (fun s' k' w3 => ∃ (k lo : Nat) (o : List Nat) (S : Nat → Bool) (v8 : Value), k ≤ n ∧ at_ < lo ∧ k' = .int .i64 (k : Int) ∧ v8 = s' ∧ InS w wa bs n v8 lo o S w3 ∧ Side N l i o S at_ k) (fun _ k' _ => n - (intOf k').toNat)
            case atStart => exact ⟨0, lo, o, S, _, by omega, HLA.out, rfl, rfl, HIN.out, HSD.out⟩
            case round =>
              clear HIN HSD HLA HLO
              obtain ⟨k, lo, o, S, v8, hk, hla, rfl, rfl, hin, hsd⟩ := hrel
              have hlo : lo ≤ n := by rw [hin.len]; have := hsd.len; rwa [HLL.out] at this
              by_cases hlk : k < n
              · have tk : decide (k < n) = true := decide_eq_true hlk
                have tk' : decide ((k : Int) < (n : Int)) = true := decide_eq_true (by omega)
                have ta : decide (at_ < lo) = true := decide_eq_true hla
                have ta' : decide ((at_ : Int) < (lo : Int)) = true := decide_eq_true (by omega)
                have hgw : Grow w wr := hin.kp.grow HOUT.out.g rfl
                obtain ⟨A8, c8, rfl, -, -, hr8⟩ := own_form hin.own
                rw [Nat.mul_one] at hr8
                obtain ⟨b8, off8, x, rfl, hx, cx⟩ := Go.Proofs.Ytbcifodifadoiaa.mkR.Row.nat_at (L := o) (by rw [← hin.len]; exact hr8) (k := at_) (by rw [← hin.len]; exact hla)
                have hxl : x < n := by have := (hsd.led x (List.mem_of_getElem? hx)).1; rwa [HLL.out] at this
                have tx : decide (x < n) = true := decide_eq_true hxl
                have tx' : decide ((x : Int) < (n : Int)) = true := decide_eq_true (by omega)
                obtain ⟨bl, offl, zx, zk, rfl, hzx, hzk, cl1, cl2, ok1, ok2⟩ := HL.out.at2 hxl hlk
                have hx0 := hin.seen.cell (seenL_at (S := S) hlk)
                have HIN := Lib.hid hin
                have HSD := Lib.hid hsd
                have HLA := Lib.hid hla
                have HLO := Lib.hid hlo
                have HLK := Lib.hid hlk
                have HX := Lib.hid hx
                have hk9 : k ≤ 1000000 := by omega
                have HC8 := Lib.hid cx
                have HXN := Lib.hid hxl
                have HCX := Lib.hid (hgw.cell cl1)
                have HCK := Lib.hid (hgw.cell cl2)
                have HZX := Lib.hid (And.intro hzx hzk)
                have HWA : Hid (w.heap.size ≤ wa.heap.size) := Lib.hid HOUT.out.g.size
                have HH1 := Lib.hid (fun (w' : World) (hR : Grow wr w') => hasr_any w' gr nR R (HREL.out.grow (hgw.trans hR)) zx zk ok1.1 ok1.2)
                have HH2 := Lib.hid (fun (w' : World) (hR : Grow wr w') => hasr_any w' gr nR R (HREL.out.grow (hgw.trans hR)) zk zx ok2.1 ok2.2)
                obtain ⟨q1, hq1⟩ : ∃ q, q = leadI R zx zk := ⟨_, rfl⟩
                obtain ⟨q2, hq2⟩ : ∃ q, q = leadI R zk zx := ⟨_, rfl⟩
                rw [← hq1] at HH1
                rw [← hq2] at HH2
                have HQ1 := Lib.hid hq1
                have HQ2 := Lib.hid hq2
                obtain ⟨s, hs⟩ : ∃ s, s = S k := ⟨_, rfl⟩
                rw [← hs] at hx0
                have HS := Lib.hid hs.symm
                clear hin hsd hk hla hlo hlk hgw hr8 hx cx hxl hzx hzk cl1 cl2 ok1 ok2 hq1 hq2 hs
                cases s
                · have HX0 : Hid (wr.cell? ⟨bs, k, none⟩ = some (.int .i64 0)) := Lib.hid hx0
                  clear hx0
                  cases q1
                  · cases q2
                    · go_wp2_with fail
                      apply (fun (v0 v1 v2 v3 v4 v5 v6 v7 v8 v9 v10 v11 v12 v13 v14 v15 v16 v17 v18 v19 v20 v21 v22 v23 v24 v25 v26 v27 v28 v29 v30 v31 v32 v33 v34 : Value) mono obl tail => wp_region_par (R := Grow) (Φ := phi [veq v0, veq v1, veq v2, veq v3, veq v4, veq v5, veq v6, veq v7, veq v8, veq v9, veq v10, veq v11, veq v12, veq v13, veq v14, veq v15, veq v16, veq v17, veq v18, veq v19, veq v20, veq v21, veq v22, veq v23, veq v24, veq v25, veq v26, veq v27, veq v28, veq v29, veq v30, veq v31, veq v32, veq v33, veq v34]) (m := 35) (dls := [[], [], [(40, 0), (41, 1)], [(42, 2)], [(43, 3)], [(44, 4)], [(45, 5)], [(45, 5)], [(45, 5)], [(45, 5)], [(48, 8), (49, 9), (45, 5)], [(50, 10), (45, 5)], [(47, 7), (51, 11), (45, 5)], [(52, 12), (45, 5)], [(45, 5)], [(45, 5)], [(54, 14), (55, 15), (45, 5)], [(56, 16), (45, 5)], [(46, 6), (53, 13), (57, 17), (45, 5)], [(58, 18), (45, 5)], [(59, 19)], [(59, 19)], [(59, 19)], [(61, 21), (62, 22), (59, 19)], [(63, 23), (59, 19)], [(59, 19)], [(59, 19)], [(59, 19)], [(66, 26), (67, 27), (59, 19)], [(68, 28), (59, 19)], [(65, 25), (69, 29), (59, 19)], [(70, 30), (59, 19)], [(60, 20), (64, 24), (71, 31), (59, 19)], [(59, 19), (72, 32), (45, 5)], [(45, 5), (73, 33)]]) (ds := [40, 41, 42, 43, 44, 45, 46, 47, 48, 49, 50, 51, 52, 53, 54, 55, 56, 57, 58, 59, 60, 61, 62, 63, 64, 65, 66, 67, 68, 69, 70, 71, 72, 73, 74]) (by kernel_rfl) (by kernel_rfl) (by decide) rfl (Grow.drew _) (fun _ _ _ => Grow.trans) (mono_phi mono) obl tail)
                      case obl =>
                        refine obls_frame (fun a1 ha => ?_)
                        have hsz := rd_size (n := 91) ha rfl
                        have e6 := rd_slot 6 ha rfl
                        have e10 := rd_slot 10 ha rfl
                        have e0 := rd_slot 0 ha rfl
                        have e1 := rd_slot 1 ha rfl
                        have e8 := rd_slot 8 ha rfl
                        have e9 := rd_slot 9 ha rfl
                        clear ha
                        refine obls_cons (fun f w' hR hH Q0 hQ0 => ?_) ?_
                        · skip
                          have s6 := sv_off f [] e6 rfl
                          refine small_v hsz [(6, _)] ⟨some 1, (Op.move (.tmp 0)), 23, "", #[], none⟩ [_, undef] 1 rfl rfl ⟨s6, trivial⟩ rfl rfl hQ0 ?_
                          clear hQ0 hH s6
                          intro Q hQ
                          repeat go_step
                          exact hQ _ _ (Grow.refl _) rfl rfl
                        refine obls_cons (fun f w' hR hH Q0 hQ0 => ?_) ?_
                        · skip
                          have s10 := sv_off f [] e10 rfl
                          refine small_v hsz [(10, _)] ⟨some 1, (Op.move (.tmp 0)), 3, "", #[], none⟩ [_, undef] 1 rfl rfl ⟨s10, trivial⟩ rfl rfl hQ0 ?_
                          clear hQ0 hH s10
                          intro Q hQ
                          repeat go_step
                          exact hQ _ _ (Grow.refl _) rfl rfl
                        refine obls_cons (fun f w' hR hH Q0 hQ0 => ?_) ?_
                        · skip
                          have s40 := (sv_at 40 0 hsz f [(40, 0), (41, 1)] rfl).trans (show f 0 = _ from hH.get 0 (40, 0) rfl)
                          have s41 := (sv_at 41 1 hsz f [(40, 0), (41, 1)] rfl).trans (show f 1 = _ from hH.get 1 (41, 1) rfl)
                          refine small_v hsz [(40, _), (41, _)] ⟨some 2, (Op.indexAddr 23 (.tmp 0) (.tmp 1)), 0, "", #[], none⟩ [_, _, undef] 2 rfl rfl ⟨s40, s41, trivial⟩ rfl rfl hQ0 ?_
                          clear hQ0 hH s40 s41
                          intro Q hQ
                          repeat go_step
                          exact hQ _ _ (Grow.refl _) rfl rfl
                        refine obls_cons (fun f w' hR hH Q0 hQ0 => ?_) ?_
                        · skip
                          have s42 := (sv_at 42 2 hsz f [(42, 2)] rfl).trans (show f 2 = _ from hH.get 0 (42, 2) rfl)
                          refine small_v hsz [(42, _)] ⟨some 1, (Op.load 3 (.tmp 0)), 3, "", #[], none⟩ [_, undef] 1 rfl rfl ⟨s42, trivial⟩ rfl rfl hQ0 ?_
                          clear hQ0 hH s42
                          intro Q hQ
                          have y0 := hR.cell HX0.out
                          repeat go_step
                          exact hQ _ _ (Grow.refl _) rfl rfl
                        refine obls_cons (fun f w' hR hH Q0 hQ0 => ?_) ?_
                        · skip
                          have s43 := (sv_at 43 3 hsz f [(43, 3)] rfl).trans (show f 3 = _ from hH.get 0 (43, 3) rfl)
                          refine small_v hsz [(43, _)] ⟨some 1, (Op.binOp BinOp.eql 3 (.tmp 0) (Operand.const (Value.int IntKind.i64 0)) 3), 4, "", #[], none⟩ [_, undef] 1 rfl rfl ⟨s43, trivial⟩ rfl rfl hQ0 ?_
                          clear hQ0 hH s43
                          intro Q hQ
                          repeat go_step
                          exact hQ _ _ (Grow.refl _) rfl rfl
                        refine obls_cons (fun f w' hR hH Q0 hQ0 => ?_) ?_
                        · skip
                          have s44 := (sv_at 44 4 hsz f [(44, 4)] rfl).trans (show f 4 = _ from hH.get 0 (44, 4) rfl)
                          refine small_v hsz [(44, _)] ⟨some 1, (Op.move (.tmp 0)), 4, "", #[], none⟩ [_, undef] 1 rfl rfl ⟨s44, trivial⟩ rfl rfl hQ0 ?_
                          clear hQ0 hH s44
                          intro Q hQ
                          repeat go_step
                          exact hQ _ _ (Grow.refl _) rfl rfl
                        refine obls_cons (fun f w' hR hH Q0 hQ0 => ?_) ?_
                        · skip
                          have s0 := sv_off f [(45, 5)] e0 rfl
                          have s45 := (sv_at 45 5 hsz f [(45, 5)] rfl).trans (show f 5 = _ from hH.get 0 (45, 5) rfl)
                          first
                            | exact skip_v hsz rfl ((wanted_some (b := false) rfl rfl s45).trans rfl) hQ0 (Grow.refl _) rfl
                            | exact skip_v hsz rfl (wanted_undef rfl rfl s45) hQ0 (Grow.refl _) rfl
                            | refine small_v hsz [(0, _)] ⟨some 1, (Op.move (.tmp 0)), 25, "", #[], none⟩ [_, undef] 1 rfl ((wanted_some (b := true) rfl rfl s45).trans rfl) ⟨s0, trivial⟩ rfl rfl hQ0 ?_
                              clear hQ0 hH s0 s45
                              intro Q hQ
                              repeat go_step
                              exact hQ _ _ (Grow.refl _) rfl rfl
                        refine obls_cons (fun f w' hR hH Q0 hQ0 => ?_) ?_
                        · skip
                          have s1 := sv_off f [(45, 5)] e1 rfl
                          have s45 := (sv_at 45 5 hsz f [(45, 5)] rfl).trans (show f 5 = _ from hH.get 0 (45, 5) rfl)
                          first
                            | exact skip_v hsz rfl ((wanted_some (b := false) rfl rfl s45).trans rfl) hQ0 (Grow.refl _) rfl
                            | exact skip_v hsz rfl (wanted_undef rfl rfl s45) hQ0 (Grow.refl _) rfl
                            | refine small_v hsz [(1, _)] ⟨some 1, (Op.move (.tmp 0)), 23, "", #[], none⟩ [_, undef] 1 rfl ((wanted_some (b := true) rfl rfl s45).trans rfl) ⟨s1, trivial⟩ rfl rfl hQ0 ?_
                              clear hQ0 hH s1 s45
                              intro Q hQ
                              repeat go_step
                              exact hQ _ _ (Grow.refl _) rfl rfl
                        refine obls_cons (fun f w' hR hH Q0 hQ0 => ?_) ?_
                        · skip
                          have s8 := sv_off f [(45, 5)] e8 rfl
                          have s45 := (sv_at 45 5 hsz f [(45, 5)] rfl).trans (show f 5 = _ from hH.get 0 (45, 5) rfl)
                          first
                            | exact skip_v hsz rfl ((wanted_some (b := false) rfl rfl s45).trans rfl) hQ0 (Grow.refl _) rfl
                            | exact skip_v hsz rfl (wanted_undef rfl rfl s45) hQ0 (Grow.refl _) rfl
                            | refine small_v hsz [(8, _)] ⟨some 1, (Op.move (.tmp 0)), 23, "", #[], none⟩ [_, undef] 1 rfl ((wanted_some (b := true) rfl rfl s45).trans rfl) ⟨s8, trivial⟩ rfl rfl hQ0 ?_
                              clear hQ0 hH s8 s45
                              intro Q hQ
                              repeat go_step
                              exact hQ _ _ (Grow.refl _) rfl rfl
                        refine obls_cons (fun f w' hR hH Q0 hQ0 => ?_) ?_
                        · skip
                          have s9 := sv_off f [(45, 5)] e9 rfl
                          have s45 := (sv_at 45 5 hsz f [(45, 5)] rfl).trans (show f 5 = _ from hH.get 0 (45, 5) rfl)
                          first
                            | exact skip_v hsz rfl ((wanted_some (b := false) rfl rfl s45).trans rfl) hQ0 (Grow.refl _) rfl
                            | exact skip_v hsz rfl (wanted_undef rfl rfl s45) hQ0 (Grow.refl _) rfl
                            | refine small_v hsz [(9, _)] ⟨some 1, (Op.move (.tmp 0)), 3, "", #[], none⟩ [_, undef] 1 rfl ((wanted_some (b := true) rfl rfl s45).trans rfl) ⟨s9, trivial⟩ rfl rfl hQ0 ?_
                              clear hQ0 hH s9 s45
                              intro Q hQ
                              repeat go_step
                              exact hQ _ _ (Grow.refl _) rfl rfl
                        refine obls_cons (fun f w' hR hH Q0 hQ0 => ?_) ?_
                        · skip
                          have s48 := (sv_at 48 8 hsz f [(48, 8), (49, 9), (45, 5)] rfl).trans (show f 8 = _ from hH.get 0 (48, 8) rfl)
                          have s49 := (sv_at 49 9 hsz f [(48, 8), (49, 9), (45, 5)] rfl).trans (show f 9 = _ from hH.get 1 (49, 9) rfl)
                          have s45 := (sv_at 45 5 hsz f [(48, 8), (49, 9), (45, 5)] rfl).trans (show f 5 = _ from hH.get 2 (45, 5) rfl)
                          first
                            | exact skip_v hsz rfl ((wanted_some (b := false) rfl rfl s45).trans rfl) hQ0 (Grow.refl _) rfl
                            | exact skip_v hsz rfl (wanted_undef rfl rfl s45) hQ0 (Grow.refl _) rfl
                            | refine small_v hsz [(48, _), (49, _)] ⟨some 2, (Op.indexAddr 23 (.tmp 0) (.tmp 1)), 0, "", #[], none⟩ [_, _, undef] 2 rfl ((wanted_some (b := true) rfl rfl s45).trans rfl) ⟨s48, s49, trivial⟩ rfl rfl hQ0 ?_
                              clear hQ0 hH s48 s49 s45
                              intro Q hQ
                              repeat go_step
                              exact hQ _ _ (Grow.refl _) rfl rfl
                        refine obls_cons (fun f w' hR hH Q0 hQ0 => ?_) ?_
                        · skip
                          have s50 := (sv_at 50 10 hsz f [(50, 10), (45, 5)] rfl).trans (show f 10 = _ from hH.get 0 (50, 10) rfl)
                          have s45 := (sv_at 45 5 hsz f [(50, 10), (45, 5)] rfl).trans (show f 5 = _ from hH.get 1 (45, 5) rfl)
                          first
                            | exact skip_v hsz rfl ((wanted_some (b := false) rfl rfl s45).trans rfl) hQ0 (Grow.refl _) rfl
                            | exact skip_v hsz rfl (wanted_undef rfl rfl s45) hQ0 (Grow.refl _) rfl
                            | refine small_v hsz [(50, _)] ⟨some 1, (Op.load 3 (.tmp 0)), 3, "", #[], none⟩ [_, undef] 1 rfl ((wanted_some (b := true) rfl rfl s45).trans rfl) ⟨s50, trivial⟩ rfl rfl hQ0 ?_
                              clear hQ0 hH s50 s45
                              intro Q hQ
                              have y1 := hR.cell HC8.out
                              repeat go_step
                              exact hQ _ _ (Grow.refl _) rfl rfl
                        refine obls_cons (fun f w' hR hH Q0 hQ0 => ?_) ?_
                        · skip
                          have s47 := (sv_at 47 7 hsz f [(47, 7), (51, 11), (45, 5)] rfl).trans (show f 7 = _ from hH.get 0 (47, 7) rfl)
                          have s51 := (sv_at 51 11 hsz f [(47, 7), (51, 11), (45, 5)] rfl).trans (show f 11 = _ from hH.get 1 (51, 11) rfl)
                          have s45 := (sv_at 45 5 hsz f [(47, 7), (51, 11), (45, 5)] rfl).trans (show f 5 = _ from hH.get 2 (45, 5) rfl)
                          first
                            | exact skip_v hsz rfl ((wanted_some (b := false) rfl rfl s45).trans rfl) hQ0 (Grow.refl _) rfl
                            | exact skip_v hsz rfl (wanted_undef rfl rfl s45) hQ0 (Grow.refl _) rfl
                            | refine small_v hsz [(47, _), (51, _)] ⟨some 2, (Op.indexAddr 23 (.tmp 0) (.tmp 1)), 0, "", #[], none⟩ [_, _, undef] 2 rfl ((wanted_some (b := true) rfl rfl s45).trans rfl) ⟨s47, s51, trivial⟩ rfl rfl hQ0 ?_
                              clear hQ0 hH s47 s51 s45
                              intro Q hQ
                              have hxn := HXN.out
                              repeat go_step
                              exact hQ _ _ (Grow.refl _) rfl rfl
                        refine obls_cons (fun f w' hR hH Q0 hQ0 => ?_) ?_
                        · skip
                          have s52 := (sv_at 52 12 hsz f [(52, 12), (45, 5)] rfl).trans (show f 12 = _ from hH.get 0 (52, 12) rfl)
                          have s45 := (sv_at 45 5 hsz f [(52, 12), (45, 5)] rfl).trans (show f 5 = _ from hH.get 1 (45, 5) rfl)
                          first
                            | exact skip_v hsz rfl ((wanted_some (b := false) rfl rfl s45).trans rfl) hQ0 (Grow.refl _) rfl
                            | exact skip_v hsz rfl (wanted_undef rfl rfl s45) hQ0 (Grow.refl _) rfl
                            | refine small_v hsz [(52, _)] ⟨some 1, (Op.load 3 (.tmp 0)), 3, "", #[], none⟩ [_, undef] 1 rfl ((wanted_some (b := true) rfl rfl s45).trans rfl) ⟨s52, trivial⟩ rfl rfl hQ0 ?_
                              clear hQ0 hH s52 s45
                              intro Q hQ
                              have y2 := hR.cell HCX.out
                              repeat go_step
                              exact hQ _ _ (Grow.refl _) rfl rfl
                        refine obls_cons (fun f w' hR hH Q0 hQ0 => ?_) ?_
                        · skip
                          have s1 := sv_off f [(45, 5)] e1 rfl
                          have s45 := (sv_at 45 5 hsz f [(45, 5)] rfl).trans (show f 5 = _ from hH.get 0 (45, 5) rfl)
                          first
                            | exact skip_v hsz rfl ((wanted_some (b := false) rfl rfl s45).trans rfl) hQ0 (Grow.refl _) rfl
                            | exact skip_v hsz rfl (wanted_undef rfl rfl s45) hQ0 (Grow.refl _) rfl
                            | refine small_v hsz [(1, _)] ⟨some 1, (Op.move (.tmp 0)), 23, "", #[], none⟩ [_, undef] 1 rfl ((wanted_some (b := true) rfl rfl s45).trans rfl) ⟨s1, trivial⟩ rfl rfl hQ0 ?_
                              clear hQ0 hH s1 s45
                              intro Q hQ
                              repeat go_step
                              exact hQ _ _ (Grow.refl _) rfl rfl
                        refine obls_cons (fun f w' hR hH Q0 hQ0 => ?_) ?_
                        · skip
                          have s10 := sv_off f [(45, 5)] e10 rfl
                          have s45 := (sv_at 45 5 hsz f [(45, 5)] rfl).trans (show f 5 = _ from hH.get 0 (45, 5) rfl)
                          first
                            | exact skip_v hsz rfl ((wanted_some (b := false) rfl rfl s45).trans rfl) hQ0 (Grow.refl _) rfl
                            | exact skip_v hsz rfl (wanted_undef rfl rfl s45) hQ0 (Grow.refl _) rfl
                            | refine small_v hsz [(10, _)] ⟨some 1, (Op.move (.tmp 0)), 3, "", #[], none⟩ [_, undef] 1 rfl ((wanted_some (b := true) rfl rfl s45).trans rfl) ⟨s10, trivial⟩ rfl rfl hQ0 ?_
                              clear hQ0 hH s10 s45
                              intro Q hQ
                              repeat go_step
                              exact hQ _ _ (Grow.refl _) rfl rfl
                        refine obls_cons (fun f w' hR hH Q0 hQ0 => ?_) ?_
                        · skip
                          have s54 := (sv_at 54 14 hsz f [(54, 14), (55, 15), (45, 5)] rfl).trans (show f 14 = _ from hH.get 0 (54, 14) rfl)
                          have s55 := (sv_at 55 15 hsz f [(54, 14), (55, 15), (45, 5)] rfl).trans (show f 15 = _ from hH.get 1 (55, 15) rfl)
                          have s45 := (sv_at 45 5 hsz f [(54, 14), (55, 15), (45, 5)] rfl).trans (show f 5 = _ from hH.get 2 (45, 5) rfl)
                          first
                            | exact skip_v hsz rfl ((wanted_some (b := false) rfl rfl s45).trans rfl) hQ0 (Grow.refl _) rfl
                            | exact skip_v hsz rfl (wanted_undef rfl rfl s45) hQ0 (Grow.refl _) rfl
                            | refine small_v hsz [(54, _), (55, _)] ⟨some 2, (Op.indexAddr 23 (.tmp 0) (.tmp 1)), 0, "", #[], none⟩ [_, _, undef] 2 rfl ((wanted_some (b := true) rfl rfl s45).trans rfl) ⟨s54, s55, trivial⟩ rfl rfl hQ0 ?_
                              clear hQ0 hH s54 s55 s45
                              intro Q hQ
                              repeat go_step
                              exact hQ _ _ (Grow.refl _) rfl rfl
                        refine obls_cons (fun f w' hR hH Q0 hQ0 => ?_) ?_
                        · skip
                          have s56 := (sv_at 56 16 hsz f [(56, 16), (45, 5)] rfl).trans (show f 16 = _ from hH.get 0 (56, 16) rfl)
                          have s45 := (sv_at 45 5 hsz f [(56, 16), (45, 5)] rfl).trans (show f 5 = _ from hH.get 1 (45, 5) rfl)
                          first
                            | exact skip_v hsz rfl ((wanted_some (b := false) rfl rfl s45).trans rfl) hQ0 (Grow.refl _) rfl
                            | exact skip_v hsz rfl (wanted_undef rfl rfl s45) hQ0 (Grow.refl _) rfl
                            | refine small_v hsz [(56, _)] ⟨some 1, (Op.load 3 (.tmp 0)), 3, "", #[], none⟩ [_, undef] 1 rfl ((wanted_some (b := true) rfl rfl s45).trans rfl) ⟨s56, trivial⟩ rfl rfl hQ0 ?_
                              clear hQ0 hH s56 s45
                              intro Q hQ
                              have y3 := hR.cell HCK.out
                              repeat go_step
                              exact hQ _ _ (Grow.refl _) rfl rfl
                        refine obls_cons (fun f w' hR hH Q0 hQ0 => ?_) ?_
                        · skip
                          have s46 := (sv_at 46 6 hsz f [(46, 6), (53, 13), (57, 17), (45, 5)] rfl).trans (show f 6 = _ from hH.get 0 (46, 6) rfl)
                          have s53 := (sv_at 53 13 hsz f [(46, 6), (53, 13), (57, 17), (45, 5)] rfl).trans (show f 13 = _ from hH.get 1 (53, 13) rfl)
                          have s57 := (sv_at 57 17 hsz f [(46, 6), (53, 13), (57, 17), (45, 5)] rfl).trans (show f 17 = _ from hH.get 2 (57, 17) rfl)
                          have s45 := (sv_at 45 5 hsz f [(46, 6), (53, 13), (57, 17), (45, 5)] rfl).trans (show f 5 = _ from hH.get 3 (45, 5) rfl)
                          first
                            | exact skip_v hsz rfl ((wanted_some (b := false) rfl rfl s45).trans rfl) hQ0 (Grow.refl _) rfl
                            | exact skip_v hsz rfl (wanted_undef rfl rfl s45) hQ0 (Grow.refl _) rfl
                            | refine small_v hsz [(46, _), (53, _), (57, _)] ⟨some 3, (Op.call (Call.mk (Callee.value (Operand.func 31)) #[(.tmp 0), (.tmp 1), (.tmp 2)] #[25, 3, 3])), 4, "", #[], none⟩ [_, _, _, undef] 3 rfl ((wanted_some (b := true) rfl rfl s45).trans rfl) ⟨s46, s53, s57, trivial⟩ rfl (ren_call rfl rfl) hQ0 ?_
                              clear hQ0 hH s46 s53 s57 s45
                              intro Q hQ
                              go_wp2_with (go_at_call 31; refine ((HH1.out w' hR)).mono ?_; rintro e w1 ⟨rfl, rfl⟩)
                              exact hQ _ _ (Grow.refl _) rfl rfl
                        refine obls_cons (fun f w' hR hH Q0 hQ0 => ?_) ?_
                        · skip
                          have s58 := (sv_at 58 18 hsz f [(58, 18), (45, 5)] rfl).trans (show f 18 = _ from hH.get 0 (58, 18) rfl)
                          have s45 := (sv_at 45 5 hsz f [(58, 18), (45, 5)] rfl).trans (show f 5 = _ from hH.get 1 (45, 5) rfl)
                          first
                            | exact skip_v hsz rfl ((wanted_some (b := false) rfl rfl s45).trans rfl) hQ0 (Grow.refl _) rfl
                            | exact skip_v hsz rfl (wanted_undef rfl rfl s45) hQ0 (Grow.refl _) rfl
                            | refine small_v hsz [(58, _)] ⟨some 1, (Op.move (.tmp 0)), 4, "", #[], none⟩ [_, undef] 1 rfl ((wanted_some (b := true) rfl rfl s45).trans rfl) ⟨s58, trivial⟩ rfl rfl hQ0 ?_
                              clear hQ0 hH s58 s45
                              intro Q hQ
                              repeat go_step
                              exact hQ _ _ (Grow.refl _) rfl rfl
                        refine obls_cons (fun f w' hR hH Q0 hQ0 => ?_) ?_
                        · skip
                          have s0 := sv_off f [(59, 19)] e0 rfl
                          have s59 := (sv_at 59 19 hsz f [(59, 19)] rfl).trans (show f 19 = _ from hH.get 0 (59, 19) rfl)
                          first
                            | exact skip_v hsz rfl ((wanted_some (b := true) rfl rfl s59).trans rfl) hQ0 (Grow.refl _) rfl
                            | exact skip_v hsz rfl (wanted_undef rfl rfl s59) hQ0 (Grow.refl _) rfl
                            | refine small_v hsz [(0, _)] ⟨some 1, (Op.move (.tmp 0)), 25, "", #[], none⟩ [_, undef] 1 rfl ((wanted_some (b := false) rfl rfl s59).trans rfl) ⟨s0, trivial⟩ rfl rfl hQ0 ?_
                              clear hQ0 hH s0 s59
                              intro Q hQ
                              repeat go_step
                              exact hQ _ _ (Grow.refl _) rfl rfl
                        refine obls_cons (fun f w' hR hH Q0 hQ0 => ?_) ?_
                        · skip
                          have s1 := sv_off f [(59, 19)] e1 rfl
                          have s59 := (sv_at 59 19 hsz f [(59, 19)] rfl).trans (show f 19 = _ from hH.get 0 (59, 19) rfl)
                          first
                            | exact skip_v hsz rfl ((wanted_some (b := true) rfl rfl s59).trans rfl) hQ0 (Grow.refl _) rfl
                            | exact skip_v hsz rfl (wanted_undef rfl rfl s59) hQ0 (Grow.refl _) rfl
                            | refine small_v hsz [(1, _)] ⟨some 1, (Op.move (.tmp 0)), 23, "", #[], none⟩ [_, undef] 1 rfl ((wanted_some (b := false) rfl rfl s59).trans rfl) ⟨s1, trivial⟩ rfl rfl hQ0 ?_
                              clear hQ0 hH s1 s59
                              intro Q hQ
                              repeat go_step
                              exact hQ _ _ (Grow.refl _) rfl rfl
                        refine obls_cons (fun f w' hR hH Q0 hQ0 => ?_) ?_
                        · skip
                          have s10 := sv_off f [(59, 19)] e10 rfl
                          have s59 := (sv_at 59 19 hsz f [(59, 19)] rfl).trans (show f 19 = _ from hH.get 0 (59, 19) rfl)
                          first
                            | exact skip_v hsz rfl ((wanted_some (b := true) rfl rfl s59).trans rfl) hQ0 (Grow.refl _) rfl
                            | exact skip_v hsz rfl (wanted_undef rfl rfl s59) hQ0 (Grow.refl _) rfl
                            | refine small_v hsz [(10, _)] ⟨some 1, (Op.move (.tmp 0)), 3, "", #[], none⟩ [_, undef] 1 rfl ((wanted_some (b := false) rfl rfl s59).trans rfl) ⟨s10, trivial⟩ rfl rfl hQ0 ?_
                              clear hQ0 hH s10 s59
                              intro Q hQ
                              repeat go_step
                              exact hQ _ _ (Grow.refl _) rfl rfl
                        refine obls_cons (fun f w' hR hH Q0 hQ0 => ?_) ?_
                        · skip
                          have s61 := (sv_at 61 21 hsz f [(61, 21), (62, 22), (59, 19)] rfl).trans (show f 21 = _ from hH.get 0 (61, 21) rfl)
                          have s62 := (sv_at 62 22 hsz f [(61, 21), (62, 22), (59, 19)] rfl).trans (show f 22 = _ from hH.get 1 (62, 22) rfl)
                          have s59 := (sv_at 59 19 hsz f [(61, 21), (62, 22), (59, 19)] rfl).trans (show f 19 = _ from hH.get 2 (59, 19) rfl)
                          first
                            | exact skip_v hsz rfl ((wanted_some (b := true) rfl rfl s59).trans rfl) hQ0 (Grow.refl _) rfl
                            | exact skip_v hsz rfl (wanted_undef rfl rfl s59) hQ0 (Grow.refl _) rfl
                            | refine small_v hsz [(61, _), (62, _)] ⟨some 2, (Op.indexAddr 23 (.tmp 0) (.tmp 1)), 0, "", #[], none⟩ [_, _, undef] 2 rfl ((wanted_some (b := false) rfl rfl s59).trans rfl) ⟨s61, s62, trivial⟩ rfl rfl hQ0 ?_
                              clear hQ0 hH s61 s62 s59
                              intro Q hQ
                              repeat go_step
                              exact hQ _ _ (Grow.refl _) rfl rfl
                        refine obls_cons (fun f w' hR hH Q0 hQ0 => ?_) ?_
                        · skip
                          have s63 := (sv_at 63 23 hsz f [(63, 23), (59, 19)] rfl).trans (show f 23 = _ from hH.get 0 (63, 23) rfl)
                          have s59 := (sv_at 59 19 hsz f [(63, 23), (59, 19)] rfl).trans (show f 19 = _ from hH.get 1 (59, 19) rfl)
                          first
                            | exact skip_v hsz rfl ((wanted_some (b := true) rfl rfl s59).trans rfl) hQ0 (Grow.refl _) rfl
                            | exact skip_v hsz rfl (wanted_undef rfl rfl s59) hQ0 (Grow.refl _) rfl
                            | refine small_v hsz [(63, _)] ⟨some 1, (Op.load 3 (.tmp 0)), 3, "", #[], none⟩ [_, undef] 1 rfl ((wanted_some (b := false) rfl rfl s59).trans rfl) ⟨s63, trivial⟩ rfl rfl hQ0 ?_
                              clear hQ0 hH s63 s59
                              intro Q hQ
                              have y3 := hR.cell HCK.out
                              repeat go_step
                              exact hQ _ _ (Grow.refl _) rfl rfl
                        refine obls_cons (fun f w' hR hH Q0 hQ0 => ?_) ?_
                        · skip
                          have s1 := sv_off f [(59, 19)] e1 rfl
                          have s59 := (sv_at 59 19 hsz f [(59, 19)] rfl).trans (show f 19 = _ from hH.get 0 (59, 19) rfl)
                          first
                            | exact skip_v hsz rfl ((wanted_some (b := true) rfl rfl s59).trans rfl) hQ0 (Grow.refl _) rfl
                            | exact skip_v hsz rfl (wanted_undef rfl rfl s59) hQ0 (Grow.refl _) rfl
                            | refine small_v hsz [(1, _)] ⟨some 1, (Op.move (.tmp 0)), 23, "", #[], none⟩ [_, undef] 1 rfl ((wanted_some (b := false) rfl rfl s59).trans rfl) ⟨s1, trivial⟩ rfl rfl hQ0 ?_
                              clear hQ0 hH s1 s59
                              intro Q hQ
                              repeat go_step
                              exact hQ _ _ (Grow.refl _) rfl rfl
                        refine obls_cons (fun f w' hR hH Q0 hQ0 => ?_) ?_
                        · skip
                          have s8 := sv_off f [(59, 19)] e8 rfl
                          have s59 := (sv_at 59 19 hsz f [(59, 19)] rfl).trans (show f 19 = _ from hH.get 0 (59, 19) rfl)
                          first
                            | exact skip_v hsz rfl ((wanted_some (b := true) rfl rfl s59).trans rfl) hQ0 (Grow.refl _) rfl
                            | exact skip_v hsz rfl (wanted_undef rfl rfl s59) hQ0 (Grow.refl _) rfl
                            | refine small_v hsz [(8, _)] ⟨some 1, (Op.move (.tmp 0)), 23, "", #[], none⟩ [_, undef] 1 rfl ((wanted_some (b := false) rfl rfl s59).trans rfl) ⟨s8, trivial⟩ rfl rfl hQ0 ?_
                              clear hQ0 hH s8 s59
                              intro Q hQ
                              repeat go_step
                              exact hQ _ _ (Grow.refl _) rfl rfl
                        refine obls_cons (fun f w' hR hH Q0 hQ0 => ?_) ?_
                        · skip
                          have s9 := sv_off f [(59, 19)] e9 rfl
                          have s59 := (sv_at 59 19 hsz f [(59, 19)] rfl).trans (show f 19 = _ from hH.get 0 (59, 19) rfl)
                          first
                            | exact skip_v hsz rfl ((wanted_some (b := true) rfl rfl s59).trans rfl) hQ0 (Grow.refl _) rfl
                            | exact skip_v hsz rfl (wanted_undef rfl rfl s59) hQ0 (Grow.refl _) rfl
                            | refine small_v hsz [(9, _)] ⟨some 1, (Op.move (.tmp 0)), 3, "", #[], none⟩ [_, undef] 1 rfl ((wanted_some (b := false) rfl rfl s59).trans rfl) ⟨s9, trivial⟩ rfl rfl hQ0 ?_
                              clear hQ0 hH s9 s59
                              intro Q hQ
                              repeat go_step
                              exact hQ _ _ (Grow.refl _) rfl rfl
                        refine obls_cons (fun f w' hR hH Q0 hQ0 => ?_) ?_
                        · skip
                          have s66 := (sv_at 66 26 hsz f [(66, 26), (67, 27), (59, 19)] rfl).trans (show f 26 = _ from hH.get 0 (66, 26) rfl)
                          have s67 := (sv_at 67 27 hsz f [(66, 26), (67, 27), (59, 19)] rfl).trans (show f 27 = _ from hH.get 1 (67, 27) rfl)
                          have s59 := (sv_at 59 19 hsz f [(66, 26), (67, 27), (59, 19)] rfl).trans (show f 19 = _ from hH.get 2 (59, 19) rfl)
                          first
                            | exact skip_v hsz rfl ((wanted_some (b := true) rfl rfl s59).trans rfl) hQ0 (Grow.refl _) rfl
                            | exact skip_v hsz rfl (wanted_undef rfl rfl s59) hQ0 (Grow.refl _) rfl
                            | refine small_v hsz [(66, _), (67, _)] ⟨some 2, (Op.indexAddr 23 (.tmp 0) (.tmp 1)), 0, "", #[], none⟩ [_, _, undef] 2 rfl ((wanted_some (b := false) rfl rfl s59).trans rfl) ⟨s66, s67, trivial⟩ rfl rfl hQ0 ?_
                              clear hQ0 hH s66 s67 s59
                              intro Q hQ
                              repeat go_step
                              exact hQ _ _ (Grow.refl _) rfl rfl
                        refine obls_cons (fun f w' hR hH Q0 hQ0 => ?_) ?_
                        · skip
                          have s68 := (sv_at 68 28 hsz f [(68, 28), (59, 19)] rfl).trans (show f 28 = _ from hH.get 0 (68, 28) rfl)
                          have s59 := (sv_at 59 19 hsz f [(68, 28), (59, 19)] rfl).trans (show f 19 = _ from hH.get 1 (59, 19) rfl)
                          first
                            | exact skip_v hsz rfl ((wanted_some (b := true) rfl rfl s59).trans rfl) hQ0 (Grow.refl _) rfl
                            | exact skip_v hsz rfl (wanted_undef rfl rfl s59) hQ0 (Grow.refl _) rfl
                            | refine small_v hsz [(68, _)] ⟨some 1, (Op.load 3 (.tmp 0)), 3, "", #[], none⟩ [_, undef] 1 rfl ((wanted_some (b := false) rfl rfl s59).trans rfl) ⟨s68, trivial⟩ rfl rfl hQ0 ?_
                              clear hQ0 hH s68 s59
                              intro Q hQ
                              have y1 := hR.cell HC8.out
                              repeat go_step
                              exact hQ _ _ (Grow.refl _) rfl rfl
                        refine obls_cons (fun f w' hR hH Q0 hQ0 => ?_) ?_
                        · skip
                          have s65 := (sv_at 65 25 hsz f [(65, 25), (69, 29), (59, 19)] rfl).trans (show f 25 = _ from hH.get 0 (65, 25) rfl)
                          have s69 := (sv_at 69 29 hsz f [(65, 25), (69, 29), (59, 19)] rfl).trans (show f 29 = _ from hH.get 1 (69, 29) rfl)
                          have s59 := (sv_at 59 19 hsz f [(65, 25), (69, 29), (59, 19)] rfl).trans (show f 19 = _ from hH.get 2 (59, 19) rfl)
                          first
                            | exact skip_v hsz rfl ((wanted_some (b := true) rfl rfl s59).trans rfl) hQ0 (Grow.refl _) rfl
                            | exact skip_v hsz rfl (wanted_undef rfl rfl s59) hQ0 (Grow.refl _) rfl
                            | refine small_v hsz [(65, _), (69, _)] ⟨some 2, (Op.indexAddr 23 (.tmp 0) (.tmp 1)), 0, "", #[], none⟩ [_, _, undef] 2 rfl ((wanted_some (b := false) rfl rfl s59).trans rfl) ⟨s65, s69, trivial⟩ rfl rfl hQ0 ?_
                              clear hQ0 hH s65 s69 s59
                              intro Q hQ
                              have hxn := HXN.out
                              repeat go_step
                              exact hQ _ _ (Grow.refl _) rfl rfl
                        refine obls_cons (fun f w' hR hH Q0 hQ0 => ?_) ?_
                        · skip
                          have s70 := (sv_at 70 30 hsz f [(70, 30), (59, 19)] rfl).trans (show f 30 = _ from hH.get 0 (70, 30) rfl)
                          have s59 := (sv_at 59 19 hsz f [(70, 30), (59, 19)] rfl).trans (show f 19 = _ from hH.get 1 (59, 19) rfl)
                          first
                            | exact skip_v hsz rfl ((wanted_some (b := true) rfl rfl s59).trans rfl) hQ0 (Grow.refl _) rfl
                            | exact skip_v hsz rfl (wanted_undef rfl rfl s59) hQ0 (Grow.refl _) rfl
                            | refine small_v hsz [(70, _)] ⟨some 1, (Op.load 3 (.tmp 0)), 3, "", #[], none⟩ [_, undef] 1 rfl ((wanted_some (b := false) rfl rfl s59).trans rfl) ⟨s70, trivial⟩ rfl rfl hQ0 ?_
                              clear hQ0 hH s70 s59
                              intro Q hQ
                              have y2 := hR.cell HCX.out
                              repeat go_step
                              exact hQ _ _ (Grow.refl _) rfl rfl
                        refine obls_cons (fun f w' hR hH Q0 hQ0 => ?_) ?_
                        · skip
                          have s60 := (sv_at 60 20 hsz f [(60, 20), (64, 24), (71, 31), (59, 19)] rfl).trans (show f 20 = _ from hH.get 0 (60, 20) rfl)
                          have s64 := (sv_at 64 24 hsz f [(60, 20), (64, 24), (71, 31), (59, 19)] rfl).trans (show f 24 = _ from hH.get 1 (64, 24) rfl)
                          have s71 := (sv_at 71 31 hsz f [(60, 20), (64, 24), (71, 31), (59, 19)] rfl).trans (show f 31 = _ from hH.get 2 (71, 31) rfl)
                          have s59 := (sv_at 59 19 hsz f [(60, 20), (64, 24), (71, 31), (59, 19)] rfl).trans (show f 19 = _ from hH.get 3 (59, 19) rfl)
                          first
                            | exact skip_v hsz rfl ((wanted_some (b := true) rfl rfl s59).trans rfl) hQ0 (Grow.refl _) rfl
                            | exact skip_v hsz rfl (wanted_undef rfl rfl s59) hQ0 (Grow.refl _) rfl
                            | refine small_v hsz [(60, _), (64, _), (71, _)] ⟨some 3, (Op.call (Call.mk (Callee.value (Operand.func 31)) #[(.tmp 0), (.tmp 1), (.tmp 2)] #[25, 3, 3])), 4, "", #[], none⟩ [_, _, _, undef] 3 rfl ((wanted_some (b := false) rfl rfl s59).trans rfl) ⟨s60, s64, s71, trivial⟩ rfl (ren_call rfl rfl) hQ0 ?_
                              clear hQ0 hH s60 s64 s71 s59
                              intro Q hQ
                              go_wp2_with (go_at_call 31; refine ((HH2.out w' hR)).mono ?_; rintro e w1 ⟨rfl, rfl⟩)
                              exact hQ _ _ (Grow.refl _) rfl rfl
                        refine obls_cons (fun f w' hR hH Q0 hQ0 => ?_) ?_
                        · skip
                          have s59 := (sv_at 59 19 hsz f [(59, 19), (72, 32), (45, 5)] rfl).trans (show f 19 = _ from hH.get 0 (59, 19) rfl)
                          have s72 := (sv_at 72 32 hsz f [(59, 19), (72, 32), (45, 5)] rfl).trans (show f 32 = _ from hH.get 1 (72, 32) rfl)
                          have s45 := (sv_at 45 5 hsz f [(59, 19), (72, 32), (45, 5)] rfl).trans (show f 5 = _ from hH.get 2 (45, 5) rfl)
                          first
                            | exact skip_v hsz rfl ((wanted_some (b := false) rfl rfl s45).trans rfl) hQ0 (Grow.refl _) rfl
                            | exact skip_v hsz rfl (wanted_undef rfl rfl s45) hQ0 (Grow.refl _) rfl
                            | refine small_v hsz [(59, _), (72, _)] ⟨some 2, (Op.pick (.tmp 0) (Operand.const (Value.bool true)) (.tmp 1)), 4, "", #[], none⟩ [_, _, undef] 2 rfl ((wanted_some (b := true) rfl rfl s45).trans rfl) ⟨s59, s72, trivial⟩ rfl rfl hQ0 ?_
                              clear hQ0 hH s59 s72 s45
                              intro Q hQ
                              repeat go_step
                              exact hQ _ _ (Grow.refl _) rfl rfl
                        refine obls_cons (fun f w' hR hH Q0 hQ0 => ?_) ?_
                        · skip
                          have s45 := (sv_at 45 5 hsz f [(45, 5), (73, 33)] rfl).trans (show f 5 = _ from hH.get 0 (45, 5) rfl)
                          have s73 := (sv_at 73 33 hsz f [(45, 5), (73, 33)] rfl).trans (show f 33 = _ from hH.get 1 (73, 33) rfl)
                          refine small_v hsz [(45, _), (73, _)] ⟨some 2, (Op.pick (.tmp 0) (.tmp 1) (Operand.const (Value.bool false))), 4, "", #[], none⟩ [_, _, undef] 2 rfl rfl ⟨s45, s73, trivial⟩ rfl rfl hQ0 ?_
                          clear hQ0 hH s45 s73
                          intro Q hQ
                          repeat go_step
                          exact hQ _ _ (Grow.refl _) rfl rfl
                        exact obls_nil
                      case mono => exact ⟨Mono.veq _, Mono.veq _, Mono.veq _, Mono.veq _, Mono.veq _, Mono.veq _, Mono.veq _, Mono.veq _, Mono.veq _, Mono.veq _, Mono.veq _, Mono.veq _, Mono.veq _, Mono.veq _, Mono.veq _, Mono.veq _, Mono.veq _, Mono.veq _, Mono.veq _, Mono.veq _, Mono.veq _, Mono.veq _, Mono.veq _, Mono.veq _, Mono.veq _, Mono.veq _, Mono.veq _, Mono.veq _, Mono.veq _, Mono.veq _, Mono.veq _, Mono.veq _, Mono.veq _, Mono.veq _, Mono.veq _, trivial⟩
                      case tail =>
                        intro f w' hR hH
                        have q34 := hH.get 34 (74, 34) rfl
                        clear hH
                        refine wpList_merge (idx := [none, none, none, none, none, none, none, none, none, none, none, none, none, none, none, none, none, none, none, none, none, none, none, none, none, none, none, none, none, none, none, none, none, none, none, none, none, none, none, none, some 0, some 1, some 2, some 3, some 4, some 5, some 6, some 7, some 8, some 9, some 10, some 11, some 12, some 13, some 14, some 15, some 16, some 17, some 18, some 19, some 20, some 21, some 22, some 23, some 24, some 25, some 26, some 27, some 28, some 29, some 30, some 31, some 32, some 33, some 34, none, none, none, none, none, none, none, none, none, none, none, none, none, none, none, none]) (by kernel_rfl) ?_; show wpList _ _ _ [] ⟨#[_, _, _, _, _, _, _, _, _, _, _, _, _, _, _, _, _, _, _, _, _, _, _, _, _, _, _, _, _, _, _, _, _, _, _, _, _, _, _, _, f 0, f 1, f 2, f 3, f 4, f 5, f 6, f 7, f 8, f 9, f 10, f 11, f 12, f 13, f 14, f 15, f 16, f 17, f 18, f 19, f 20, f 21, f 22, f 23, f 24, f 25, f 26, f 27, f 28, f 29, f 30, f 31, f 32, f 33, f 34, _, _, _, _, _, _, _, _, _, _, _, _, _, _, _, _], _⟩ _
                        rw [show f 34 = _ from q34]
                        clear q34
                        have HI9 := Lib.hid (HIN.out.grow HWA.out hR)
                        clear hR
                        go_wp2_with fail
                        go_roundw
                        case rel => exact ⟨k + 1, lo, o, S, _, by have := HLK.out; omega, HLA.out, by go_num, rfl, HI9.out, HSD.out.skip HX.out fun h => (by rw [nr_at HZX.out.1 HZX.out.2, HN.out] at h; unfold nearI at h; rw [← HQ1.out, ← HQ2.out] at h; cases h)⟩
                        case measure => have := HLK.out; simp [intOf] <;> omega
                    · go_wp2_with fail
                      apply (fun (v0 v1 v2 v3 v4 v5 v6 v7 v8 v9 v10 v11 v12 v13 v14 v15 v16 v17 v18 v19 v20 v21 v22 v23 v24 v25 v26 v27 v28 v29 v30 v31 v32 v33 v34 : Value) mono obl tail => wp_region_par (R := Grow) (Φ := phi [veq v0, veq v1, veq v2, veq v3, veq v4, veq v5, veq v6, veq v7, veq v8, veq v9, veq v10, veq v11, veq v12, veq v13, veq v14, veq v15, veq v16, veq v17, veq v18, veq v19, veq v20, veq v21, veq v22, veq v23, veq v24, veq v25, veq v26, veq v27, veq v28, veq v29, veq v30, veq v31, veq v32, veq v33, veq v34]) (m := 35) (dls := [[], [], [(40, 0), (41, 1)], [(42, 2)], [(43, 3)], [(44, 4)], [(45, 5)], [(45, 5)], [(45, 5)], [(45, 5)], [(48, 8), (49, 9), (45, 5)], [(50, 10), (45, 5)], [(47, 7), (51, 11), (45, 5)], [(52, 12), (45, 5)], [(45, 5)], [(45, 5)], [(54, 14), (55, 15), (45, 5)], [(56, 16), (45, 5)], [(46, 6), (53, 13), (57, 17), (45, 5)], [(58, 18), (45, 5)], [(59, 19)], [(59, 19)], [(59, 19)], [(61, 21), (62, 22), (59, 19)], [(63, 23), (59, 19)], [(59, 19)], [(59, 19)], [(59, 19)], [(66, 26), (67, 27), (59, 19)], [(68, 28), (59, 19)], [(65, 25), (69, 29), (59, 19)], [(70, 30), (59, 19)], [(60, 20), (64, 24), (71, 31), (59, 19)], [(59, 19), (72, 32), (45, 5)], [(45, 5), (73, 33)]]) (ds := [40, 41, 42, 43, 44, 45, 46, 47, 48, 49, 50, 51, 52, 53, 54, 55, 56, 57, 58, 59, 60, 61, 62, 63, 64, 65, 66, 67, 68, 69, 70, 71, 72, 73, 74]) (by kernel_rfl) (by kernel_rfl) (by decide) rfl (Grow.drew _) (fun _ _ _ => Grow.trans) (mono_phi mono) obl tail)
                      case obl =>
                        refine obls_frame (fun a1 ha => ?_)
                        have hsz := rd_size (n := 91) ha rfl
                        have e6 := rd_slot 6 ha rfl
                        have e10 := rd_slot 10 ha rfl
                        have e0 := rd_slot 0 ha rfl
                        have e1 := rd_slot 1 ha rfl
                        have e8 := rd_slot 8 ha rfl
                        have e9 := rd_slot 9 ha rfl
                        clear ha
                        refine obls_cons (fun f w' hR hH Q0 hQ0 => ?_) ?_
                        · skip
                          have s6 := sv_off f [] e6 rfl
                          refine small_v hsz [(6, _)] ⟨some 1, (Op.move (.tmp 0)), 23, "", #[], none⟩ [_, undef] 1 rfl rfl ⟨s6, trivial⟩ rfl rfl hQ0 ?_
                          clear hQ0 hH s6
                          intro Q hQ
                          repeat go_step
                          exact hQ _ _ (Grow.refl _) rfl rfl
                        refine obls_cons (fun f w' hR hH Q0 hQ0 => ?_) ?_
                        · skip
                          have s10 := sv_off f [] e10 rfl
                          refine small_v hsz [(10, _)] ⟨some 1, (Op.move (.tmp 0)), 3, "", #[], none⟩ [_, undef] 1 rfl rfl ⟨s10, trivial⟩ rfl rfl hQ0 ?_
                          clear hQ0 hH s10
                          intro Q hQ
                          repeat go_step
                          exact hQ _ _ (Grow.refl _) rfl rfl
                        refine obls_cons (fun f w' hR hH Q0 hQ0 => ?_) ?_
                        · skip
                          have s40 := (sv_at 40 0 hsz f [(40, 0), (41, 1)] rfl).trans (show f 0 = _ from hH.get 0 (40, 0) rfl)
                          have s41 := (sv_at 41 1 hsz f [(40, 0), (41, 1)] rfl).trans (show f 1 = _ from hH.get 1 (41, 1) rfl)
                          refine small_v hsz [(40, _), (41, _)] ⟨some 2, (Op.indexAddr 23 (.tmp 0) (.tmp 1)), 0, "", #[], none⟩ [_, _, undef] 2 rfl rfl ⟨s40, s41, trivial⟩ rfl rfl hQ0 ?_
                          clear hQ0 hH s40 s41
                          intro Q hQ
                          repeat go_step
                          exact hQ _ _ (Grow.refl _) rfl rfl
                        refine obls_cons (fun f w' hR hH Q0 hQ0 => ?_) ?_
                        · skip
                          have s42 := (sv_at 42 2 hsz f [(42, 2)] rfl).trans (show f 2 = _ from hH.get 0 (42, 2) rfl)
                          refine small_v hsz [(42, _)] ⟨some 1, (Op.load 3 (.tmp 0)), 3, "", #[], none⟩ [_, undef] 1 rfl rfl ⟨s42, trivial⟩ rfl rfl hQ0 ?_
                          clear hQ0 hH s42
                          intro Q hQ
                          have y0 := hR.cell HX0.out
                          repeat go_step
                          exact hQ _ _ (Grow.refl _) rfl rfl
                        refine obls_cons (fun f w' hR hH Q0 hQ0 => ?_) ?_
                        · skip
                          have s43 := (sv_at 43 3 hsz f [(43, 3)] rfl).trans (show f 3 = _ from hH.get 0 (43, 3) rfl)
                          refine small_v hsz [(43, _)] ⟨some 1, (Op.binOp BinOp.eql 3 (.tmp 0) (Operand.const (Value.int IntKind.i64 0)) 3), 4, "", #[], none⟩ [_, undef] 1 rfl rfl ⟨s43, trivial⟩ rfl rfl hQ0 ?_
                          clear hQ0 hH s43
                          intro Q hQ
                          repeat go_step
                          exact hQ _ _ (Grow.refl _) rfl rfl
                        refine obls_cons (fun f w' hR hH Q0 hQ0 => ?_) ?_
                        · skip
                          have s44 := (sv_at 44 4 hsz f [(44, 4)] rfl).trans (show f 4 = _ from hH.get 0 (44, 4) rfl)
                          refine small_v hsz [(44, _)] ⟨some 1, (Op.move (.tmp 0)), 4, "", #[], none⟩ [_, undef] 1 rfl rfl ⟨s44, trivial⟩ rfl rfl hQ0 ?_
                          clear hQ0 hH s44
                          intro Q hQ
                          repeat go_step
                          exact hQ _ _ (Grow.refl _) rfl rfl
                        refine obls_cons (fun f w' hR hH Q0 hQ0 => ?_) ?_
                        · skip
                          have s0 := sv_off f [(45, 5)] e0 rfl
                          have s45 := (sv_at 45 5 hsz f [(45, 5)] rfl).trans (show f 5 = _ from hH.get 0 (45, 5) rfl)
                          first
                            | exact skip_v hsz rfl ((wanted_some (b := false) rfl rfl s45).trans rfl) hQ0 (Grow.refl _) rfl
                            | exact skip_v hsz rfl (wanted_undef rfl rfl s45) hQ0 (Grow.refl _) rfl
                            | refine small_v hsz [(0, _)] ⟨some 1, (Op.move (.tmp 0)), 25, "", #[], none⟩ [_, undef] 1 rfl ((wanted_some (b := true) rfl rfl s45).trans rfl) ⟨s0, trivial⟩ rfl rfl hQ0 ?_
                              clear hQ0 hH s0 s45
                              intro Q hQ
                              repeat go_step
                              exact hQ _ _ (Grow.refl _) rfl rfl
                        refine obls_cons (fun f w' hR hH Q0 hQ0 => ?_) ?_
                        · skip
                          have s1 := sv_off f [(45, 5)] e1 rfl
                          have s45 := (sv_at 45 5 hsz f [(45, 5)] rfl).trans (show f 5 = _ from hH.get 0 (45, 5) rfl)
                          first
                            | exact skip_v hsz rfl ((wanted_some (b := false) rfl rfl s45).trans rfl) hQ0 (Grow.refl _) rfl
                            | exact skip_v hsz rfl (wanted_undef rfl rfl s45) hQ0 (Grow.refl _) rfl
                            | refine small_v hsz [(1, _)] ⟨some 1, (Op.move (.tmp 0)), 23, "", #[], none⟩ [_, undef] 1 rfl ((wanted_some (b := true) rfl rfl s45).trans rfl) ⟨s1, trivial⟩ rfl rfl hQ0 ?_
                              clear hQ0 hH s1 s45
                              intro Q hQ
                              repeat go_step
                              exact hQ _ _ (Grow.refl _) rfl rfl
                        refine obls_cons (fun f w' hR hH Q0 hQ0 => ?_) ?_
                        · skip
                          have s8 := sv_off f [(45, 5)] e8 rfl
                          have s45 := (sv_at 45 5 hsz f [(45, 5)] rfl).trans (show f 5 = _ from hH.get 0 (45, 5) rfl)
                          first
                            | exact skip_v hsz rfl ((wanted_some (b := false) rfl rfl s45).trans rfl) hQ0 (Grow.refl _) rfl
                            | exact skip_v hsz rfl (wanted_undef rfl rfl s45) hQ0 (Grow.refl _) rfl
                            | refine small_v hsz [(8, _)] ⟨some 1, (Op.move (.tmp 0)), 23, "", #[], none⟩ [_, undef] 1 rfl ((wanted_some (b := true) rfl rfl s45).trans rfl) ⟨s8, trivial⟩ rfl rfl hQ0 ?_
                              clear hQ0 hH s8 s45
                              intro Q hQ
                              repeat go_step
                              exact hQ _ _ (Grow.refl _) rfl rfl
                        refine obls_cons (fun f w' hR hH Q0 hQ0 => ?_) ?_
                        · skip
                          have s9 := sv_off f [(45, 5)] e9 rfl
                          have s45 := (sv_at 45 5 hsz f [(45, 5)] rfl).trans (show f 5 = _ from hH.get 0 (45, 5) rfl)
                          first
                            | exact skip_v hsz rfl ((wanted_some (b := false) rfl rfl s45).trans rfl) hQ0 (Grow.refl _) rfl
                            | exact skip_v hsz rfl (wanted_undef rfl rfl s45) hQ0 (Grow.refl _) rfl
                            | refine small_v hsz [(9, _)] ⟨some 1, (Op.move (.tmp 0)), 3, "", #[], none⟩ [_, undef] 1 rfl ((wanted_some (b := true) rfl rfl s45).trans rfl) ⟨s9, trivial⟩ rfl rfl hQ0 ?_
                              clear hQ0 hH s9 s45
                              intro Q hQ
                              repeat go_step
                              exact hQ _ _ (Grow.refl _) rfl rfl
                        refine obls_cons (fun f w' hR hH Q0 hQ0 => ?_) ?_
                        · skip
                          have s48 := (sv_at 48 8 hsz f [(48, 8), (49, 9), (45, 5)] rfl).trans (show f 8 = _ from hH.get 0 (48, 8) rfl)
                          have s49 := (sv_at 49 9 hsz f [(48, 8), (49, 9), (45, 5)] rfl).trans (show f 9 = _ from hH.get 1 (49, 9) rfl)
                          have s45 := (sv_at 45 5 hsz f [(48, 8), (49, 9), (45, 5)] rfl).trans (show f 5 = _ from hH.get 2 (45, 5) rfl)
                          first
                            | exact skip_v hsz rfl ((wanted_some (b := false) rfl rfl s45).trans rfl) hQ0 (Grow.refl _) rfl
                            | exact skip_v hsz rfl (wanted_undef rfl rfl s45) hQ0 (Grow.refl _) rfl
                            | refine small_v hsz [(48, _), (49, _)] ⟨some 2, (Op.indexAddr 23 (.tmp 0) (.tmp 1)), 0, "", #[], none⟩ [_, _, undef] 2 rfl ((wanted_some (b := true) rfl rfl s45).trans rfl) ⟨s48, s49, trivial⟩ rfl rfl hQ0 ?_
                              clear hQ0 hH s48 s49 s45
                              intro Q hQ
                              repeat go_step
                              exact hQ _ _ (Grow.refl _) rfl rfl
                        refine obls_cons (fun f w' hR hH Q0 hQ0 => ?_) ?_
                        · skip
                          have s50 := (sv_at 50 10 hsz f [(50, 10), (45, 5)] rfl).trans (show f 10 = _ from hH.get 0 (50, 10) rfl)
                          have s45 := (sv_at 45 5 hsz f [(50, 10), (45, 5)] rfl).trans (show f 5 = _ from hH.get 1 (45, 5) rfl)
                          first
                            | exact skip_v hsz rfl ((wanted_some (b := false) rfl rfl s45).trans rfl) hQ0 (Grow.refl _) rfl
                            | exact skip_v hsz rfl (wanted_undef rfl rfl s45) hQ0 (Grow.refl _) rfl
                            | refine small_v hsz [(50, _)] ⟨some 1, (Op.load 3 (.tmp 0)), 3, "", #[], none⟩ [_, undef] 1 rfl ((wanted_some (b := true) rfl rfl s45).trans rfl) ⟨s50, trivial⟩ rfl rfl hQ0 ?_
                              clear hQ0 hH s50 s45
                              intro Q hQ
                              have y1 := hR.cell HC8.out
                              repeat go_step
                              exact hQ _ _ (Grow.refl _) rfl rfl
                        refine obls_cons (fun f w' hR hH Q0 hQ0 => ?_) ?_
                        · skip
                          have s47 := (sv_at 47 7 hsz f [(47, 7), (51, 11), (45, 5)] rfl).trans (show f 7 = _ from hH.get 0 (47, 7) rfl)
                          have s51 := (sv_at 51 11 hsz f [(47, 7), (51, 11), (45, 5)] rfl).trans (show f 11 = _ from hH.get 1 (51, 11) rfl)
                          have s45 := (sv_at 45 5 hsz f [(47, 7), (51, 11), (45, 5)] rfl).trans (show f 5 = _ from hH.get 2 (45, 5) rfl)
                          first
                            | exact skip_v hsz rfl ((wanted_some (b := false) rfl rfl s45).trans rfl) hQ0 (Grow.refl _) rfl
                            | exact skip_v hsz rfl (wanted_undef rfl rfl s45) hQ0 (Grow.refl _) rfl
                            | refine small_v hsz [(47, _), (51, _)] ⟨some 2, (Op.indexAddr 23 (.tmp 0) (.tmp 1)), 0, "", #[], none⟩ [_, _, undef] 2 rfl ((wanted_some (b := true) rfl rfl s45).trans rfl) ⟨s47, s51, trivial⟩ rfl rfl hQ0 ?_
                              clear hQ0 hH s47 s51 s45
                              intro Q hQ
                              have hxn := HXN.out
                              repeat go_step
                              exact hQ _ _ (Grow.refl _) rfl rfl
                        refine obls_cons (fun f w' hR hH Q0 hQ0 => ?_) ?_
                        · skip
                          have s52 := (sv_at 52 12 hsz f [(52, 12), (45, 5)] rfl).trans (show f 12 = _ from hH.get 0 (52, 12) rfl)
                          have s45 := (sv_at 45 5 hsz f [(52, 12), (45, 5)] rfl).trans (show f 5 = _ from hH.get 1 (45, 5) rfl)
                          first
                            | exact skip_v hsz rfl ((wanted_some (b := false) rfl rfl s45).trans rfl) hQ0 (Grow.refl _) rfl
                            | exact skip_v hsz rfl (wanted_undef rfl rfl s45) hQ0 (Grow.refl _) rfl
                            | refine small_v hsz [(52, _)] ⟨some 1, (Op.load 3 (.tmp 0)), 3, "", #[], none⟩ [_, undef] 1 rfl ((wanted_some (b := true) rfl rfl s45).trans rfl) ⟨s52, trivial⟩ rfl rfl hQ0 ?_
                              clear hQ0 hH s52 s45
                              intro Q hQ
                              have y2 := hR.cell HCX.out
                              repeat go_step
                              exact hQ _ _ (Grow.refl _) rfl rfl
                        refine obls_cons (fun f w' hR hH Q0 hQ0 => ?_) ?_
                        · skip
                          have s1 := sv_off f [(45, 5)] e1 rfl
                          have s45 := (sv_at 45 5 hsz f [(45, 5)] rfl).trans (show f 5 = _ from hH.get 0 (45, 5) rfl)
                          first
                            | exact skip_v hsz rfl ((wanted_some (b := false) rfl rfl s45).trans rfl) hQ0 (Grow.refl _) rfl
                            | exact skip_v hsz rfl (wanted_undef rfl rfl s45) hQ0 (Grow.refl _) rfl
                            | refine small_v hsz [(1, _)] ⟨some 1, (Op.move (.tmp 0)), 23, "", #[], none⟩ [_, undef] 1 rfl ((wanted_some (b := true) rfl rfl s45).trans rfl) ⟨s1, trivial⟩ rfl rfl hQ0 ?_
                              clear hQ0 hH s1 s45
                              intro Q hQ
                              repeat go_step
                              exact hQ _ _ (Grow.refl _) rfl rfl
                        refine obls_cons (fun f w' hR hH Q0 hQ0 => ?_) ?_
                        · skip
                          have s10 := sv_off f [(45, 5)] e10 rfl
                          have s45 := (sv_at 45 5 hsz f [(45, 5)] rfl).trans (show f 5 = _ from hH.get 0 (45, 5) rfl)
                          first
                            | exact skip_v hsz rfl ((wanted_some (b := false) rfl rfl s45).trans rfl) hQ0 (Grow.refl _) rfl
                            | exact skip_v hsz rfl (wanted_undef rfl rfl s45) hQ0 (Grow.refl _) rfl
                            | refine small_v hsz [(10, _)] ⟨some 1, (Op.move (.tmp 0)), 3, "", #[], none⟩ [_, undef] 1 rfl ((wanted_some (b := true) rfl rfl s45).trans rfl) ⟨s10, trivial⟩ rfl rfl hQ0 ?_
                              clear hQ0 hH s10 s45
                              intro Q hQ
                              repeat go_step
                              exact hQ _ _ (Grow.refl _) rfl rfl
                        refine obls_cons (fun f w' hR hH Q0 hQ0 => ?_) ?_
                        · skip
                          have s54 := (sv_at 54 14 hsz f [(54, 14), (55, 15), (45, 5)] rfl).trans (show f 14 = _ from hH.get 0 (54, 14) rfl)
                          have s55 := (sv_at 55 15 hsz f [(54, 14), (55, 15), (45, 5)] rfl).trans (show f 15 = _ from hH.get 1 (55, 15) rfl)
                          have s45 := (sv_at 45 5 hsz f [(54, 14), (55, 15), (45, 5)] rfl).trans (show f 5 = _ from hH.get 2 (45, 5) rfl)
                          first
                            | exact skip_v hsz rfl ((wanted_some (b := false) rfl rfl s45).trans rfl) hQ0 (Grow.refl _) rfl
                            | exact skip_v hsz rfl (wanted_undef rfl rfl s45) hQ0 (Grow.refl _) rfl
                            | refine small_v hsz [(54, _), (55, _)] ⟨some 2, (Op.indexAddr 23 (.tmp 0) (.tmp 1)), 0, "", #[], none⟩ [_, _, undef] 2 rfl ((wanted_some (b := true) rfl rfl s45).trans rfl) ⟨s54, s55, trivial⟩ rfl rfl hQ0 ?_
                              clear hQ0 hH s54 s55 s45
                              intro Q hQ
                              repeat go_step
                              exact hQ _ _ (Grow.refl _) rfl rfl
                        refine obls_cons (fun f w' hR hH Q0 hQ0 => ?_) ?_
                        · skip
                          have s56 := (sv_at 56 16 hsz f [(56, 16), (45, 5)] rfl).trans (show f 16 = _ from hH.get 0 (56, 16) rfl)
                          have s45 := (sv_at 45 5 hsz f [(56, 16), (45, 5)] rfl).trans (show f 5 = _ from hH.get 1 (45, 5) rfl)
                          first
                            | exact skip_v hsz rfl ((wanted_some (b := false) rfl rfl s45).trans rfl) hQ0 (Grow.refl _) rfl
                            | exact skip_v hsz rfl (wanted_undef rfl rfl s45) hQ0 (Grow.refl _) rfl
                            | refine small_v hsz [(56, _)] ⟨some 1, (Op.load 3 (.tmp 0)), 3, "", #[], none⟩ [_, undef] 1 rfl ((wanted_some (b := true) rfl rfl s45).trans rfl) ⟨s56, trivial⟩ rfl rfl hQ0 ?_
                              clear hQ0 hH s56 s45
                              intro Q hQ
                              have y3 := hR.cell HCK.out
                              repeat go_step
                              exact hQ _ _ (Grow.refl _) rfl rfl
                        refine obls_cons (fun f w' hR hH Q0 hQ0 => ?_) ?_
                        · skip
                          have s46 := (sv_at 46 6 hsz f [(46, 6), (53, 13), (57, 17), (45, 5)] rfl).trans (show f 6 = _ from hH.get 0 (46, 6) rfl)
                          have s53 := (sv_at 53 13 hsz f [(46, 6), (53, 13), (57, 17), (45, 5)] rfl).trans (show f 13 = _ from hH.get 1 (53, 13) rfl)
                          have s57 := (sv_at 57 17 hsz f [(46, 6), (53, 13), (57, 17), (45, 5)] rfl).trans (show f 17 = _ from hH.get 2 (57, 17) rfl)
                          have s45 := (sv_at 45 5 hsz f [(46, 6), (53, 13), (57, 17), (45, 5)] rfl).trans (show f 5 = _ from hH.get 3 (45, 5) rfl)
                          first
                            | exact skip_v hsz rfl ((wanted_some (b := false) rfl rfl s45).trans rfl) hQ0 (Grow.refl _) rfl
                            | exact skip_v hsz rfl (wanted_undef rfl rfl s45) hQ0 (Grow.refl _) rfl
                            | refine small_v hsz [(46, _), (53, _), (57, _)] ⟨some 3, (Op.call (Call.mk (Callee.value (Operand.func 31)) #[(.tmp 0), (.tmp 1), (.tmp 2)] #[25, 3, 3])), 4, "", #[], none⟩ [_, _, _, undef] 3 rfl ((wanted_some (b := true) rfl rfl s45).trans rfl) ⟨s46, s53, s57, trivial⟩ rfl (ren_call rfl rfl) hQ0 ?_
                              clear hQ0 hH s46 s53 s57 s45
                              intro Q hQ
                              go_wp2_with (go_at_call 31; refine ((HH1.out w' hR)).mono ?_; rintro e w1 ⟨rfl, rfl⟩)
                              exact hQ _ _ (Grow.refl _) rfl rfl
                        refine obls_cons (fun f w' hR hH Q0 hQ0 => ?_) ?_
                        · skip
                          have s58 := (sv_at 58 18 hsz f [(58, 18), (45, 5)] rfl).trans (show f 18 = _ from hH.get 0 (58, 18) rfl)
                          have s45 := (sv_at 45 5 hsz f [(58, 18), (45, 5)] rfl).trans (show f 5 = _ from hH.get 1 (45, 5) rfl)
                          first
                            | exact skip_v hsz rfl ((wanted_some (b := false) rfl rfl s45).trans rfl) hQ0 (Grow.refl _) rfl
                            | exact skip_v hsz rfl (wanted_undef rfl rfl s45) hQ0 (Grow.refl _) rfl
                            | refine small_v hsz [(58, _)] ⟨some 1, (Op.move (.tmp 0)), 4, "", #[], none⟩ [_, undef] 1 rfl ((wanted_some (b := true) rfl rfl s45).trans rfl) ⟨s58, trivial⟩ rfl rfl hQ0 ?_
                              clear hQ0 hH s58 s45
                              intro Q hQ
                              repeat go_step
                              exact hQ _ _ (Grow.refl _) rfl rfl
                        refine obls_cons (fun f w' hR hH Q0 hQ0 => ?_) ?_
                        · skip
                          have s0 := sv_off f [(59, 19)] e0 rfl
                          have s59 := (sv_at 59 19 hsz f [(59, 19)] rfl).trans (show f 19 = _ from hH.get 0 (59, 19) rfl)
                          first
                            | exact skip_v hsz rfl ((wanted_some (b := true) rfl rfl s59).trans rfl) hQ0 (Grow.refl _) rfl
                            | exact skip_v hsz rfl (wanted_undef rfl rfl s59) hQ0 (Grow.refl _) rfl
                            | refine small_v hsz [(0, _)] ⟨some 1, (Op.move (.tmp 0)), 25, "", #[], none⟩ [_, undef] 1 rfl ((wanted_some (b := false) rfl rfl s59).trans rfl) ⟨s0, trivial⟩ rfl rfl hQ0 ?_
                              clear hQ0 hH s0 s59
                              intro Q hQ
                              repeat go_step
                              exact hQ _ _ (Grow.refl _) rfl rfl
                        refine obls_cons (fun f w' hR hH Q0 hQ0 => ?_) ?_
                        · skip
                          have s1 := sv_off f [(59, 19)] e1 rfl
                          have s59 := (sv_at 59 19 hsz f [(59, 19)] rfl).trans (show f 19 = _ from hH.get 0 (59, 19) rfl)
                          first
                            | exact skip_v hsz rfl ((wanted_some (b := true) rfl rfl s59).trans rfl) hQ0 (Grow.refl _) rfl
                            | exact skip_v hsz rfl (wanted_undef rfl rfl s59) hQ0 (Grow.refl _) rfl
                            | refine small_v hsz [(1, _)] ⟨some 1, (Op.move (.tmp 0)), 23, "", #[], none⟩ [_, undef] 1 rfl ((wanted_some (b := false) rfl rfl s59).trans rfl) ⟨s1, trivial⟩ rfl rfl hQ0 ?_
                              clear hQ0 hH s1 s59
                              intro Q hQ
                              repeat go_step
                              exact hQ _ _ (Grow.refl _) rfl rfl
                        refine obls_cons (fun f w' hR hH Q0 hQ0 => ?_) ?_
                        · skip
                          have s10 := sv_off f [(59, 19)] e10 rfl
                          have s59 := (sv_at 59 19 hsz f [(59, 19)] rfl).trans (show f 19 = _ from hH.get 0 (59, 19) rfl)
                          first
                            | exact skip_v hsz rfl ((wanted_some (b := true) rfl rfl s59).trans rfl) hQ0 (Grow.refl _) rfl
                            | exact skip_v hsz rfl (wanted_undef rfl rfl s59) hQ0 (Grow.refl _) rfl
                            | refine small_v hsz [(10, _)] ⟨some 1, (Op.move (.tmp 0)), 3, "", #[], none⟩ [_, undef] 1 rfl ((wanted_some (b := false) rfl rfl s59).trans rfl) ⟨s10, trivial⟩ rfl rfl hQ0 ?_
                              clear hQ0 hH s10 s59
                              intro Q hQ
                              repeat go_step
                              exact hQ _ _ (Grow.refl _) rfl rfl
                        refine obls_cons (fun f w' hR hH Q0 hQ0 => ?_) ?_
                        · skip
                          have s61 := (sv_at 61 21 hsz f [(61, 21), (62, 22), (59, 19)] rfl).trans (show f 21 = _ from hH.get 0 (61, 21) rfl)
                          have s62 := (sv_at 62 22 hsz f [(61, 21), (62, 22), (59, 19)] rfl).trans (show f 22 = _ from hH.get 1 (62, 22) rfl)
                          have s59 := (sv_at 59 19 hsz f [(61, 21), (62, 22), (59, 19)] rfl).trans (show f 19 = _ from hH.get 2 (59, 19) rfl)
                          first
                            | exact skip_v hsz rfl ((wanted_some (b := true) rfl rfl s59).trans rfl) hQ0 (Grow.refl _) rfl
                            | exact skip_v hsz rfl (wanted_undef rfl rfl s59) hQ0 (Grow.refl _) rfl
                            | refine small_v hsz [(61, _), (62, _)] ⟨some 2, (Op.indexAddr 23 (.tmp 0) (.tmp 1)), 0, "", #[], none⟩ [_, _, undef] 2 rfl ((wanted_some (b := false) rfl rfl s59).trans rfl) ⟨s61, s62, trivial⟩ rfl rfl hQ0 ?_
                              clear hQ0 hH s61 s62 s59
                              intro Q hQ
                              repeat go_step
                              exact hQ _ _ (Grow.refl _) rfl rfl
                        refine obls_cons (fun f w' hR hH Q0 hQ0 => ?_) ?_
                        · skip
                          have s63 := (sv_at 63 23 hsz f [(63, 23), (59, 19)] rfl).trans (show f 23 = _ from hH.get 0 (63, 23) rfl)
                          have s59 := (sv_at 59 19 hsz f [(63, 23), (59, 19)] rfl).trans (show f 19 = _ from hH.get 1 (59, 19) rfl)
                          first
                            | exact skip_v hsz rfl ((wanted_some (b := true) rfl rfl s59).trans rfl) hQ0 (Grow.refl _) rfl
                            | exact skip_v hsz rfl (wanted_undef rfl rfl s59) hQ0 (Grow.refl _) rfl
                            | refine small_v hsz [(63, _)] ⟨some 1, (Op.load 3 (.tmp 0)), 3, "", #[], none⟩ [_, undef] 1 rfl ((wanted_some (b := false) rfl rfl s59).trans rfl) ⟨s63, trivial⟩ rfl rfl hQ0 ?_
                              clear hQ0 hH s63 s59
                              intro Q hQ
                              have y3 := hR.cell HCK.out
                              repeat go_step
                              exact hQ _ _ (Grow.refl _) rfl rfl
                        refine obls_cons (fun f w' hR hH Q0 hQ0 => ?_) ?_
                        · skip
                          have s1 := sv_off f [(59, 19)] e1 rfl
                          have s59 := (sv_at 59 19 hsz f [(59, 19)] rfl).trans (show f 19 = _ from hH.get 0 (59, 19) rfl)
                          first
                            | exact skip_v hsz rfl ((wanted_some (b := true) rfl rfl s59).trans rfl) hQ0 (Grow.refl _) rfl
                            | exact skip_v hsz rfl (wanted_undef rfl rfl s59) hQ0 (Grow.refl _) rfl
                            | refine small_v hsz [(1, _)] ⟨some 1, (Op.move (.tmp 0)), 23, "", #[], none⟩ [_, undef] 1 rfl ((wanted_some (b := false) rfl rfl s59).trans rfl) ⟨s1, trivial⟩ rfl rfl hQ0 ?_
                              clear hQ0 hH s1 s59
                              intro Q hQ
                              repeat go_step
                              exact hQ _ _ (Grow.refl _) rfl rfl
                        refine obls_cons (fun f w' hR hH Q0 hQ0 => ?_) ?_
                        · skip
                          have s8 := sv_off f [(59, 19)] e8 rfl
                          have s59 := (sv_at 59 19 hsz f [(59, 19)] rfl).trans (show f 19 = _ from hH.get 0 (59, 19) rfl)
                          first
                            | exact skip_v hsz rfl ((wanted_some (b := true) rfl rfl s59).trans rfl) hQ0 (Grow.refl _) rfl
                            | exact skip_v hsz rfl (wanted_undef rfl rfl s59) hQ0 (Grow.refl _) rfl
                            | refine small_v hsz [(8, _)] ⟨some 1, (Op.move (.tmp 0)), 23, "", #[], none⟩ [_, undef] 1 rfl ((wanted_some (b := false) rfl rfl s59).trans rfl) ⟨s8, trivial⟩ rfl rfl hQ0 ?_
                              clear hQ0 hH s8 s59
                              intro Q hQ
                              repeat go_step
                              exact hQ _ _ (Grow.refl _) rfl rfl
                        refine obls_cons (fun f w' hR hH Q0 hQ0 => ?_) ?_
                        · skip
                          have s9 := sv_off f [(59, 19)] e9 rfl
                          have s59 := (sv_at 59 19 hsz f [(59, 19)] rfl).trans (show f 19 = _ from hH.get 0 (59, 19) rfl)
                          first
                            | exact skip_v hsz rfl ((wanted_some (b := true) rfl rfl s59).trans rfl) hQ0 (Grow.refl _) rfl
                            | exact skip_v hsz rfl (wanted_undef rfl rfl s59) hQ0 (Grow.refl _) rfl
                            | refine small_v hsz [(9, _)] ⟨some 1, (Op.move (.tmp 0)), 3, "", #[], none⟩ [_, undef] 1 rfl ((wanted_some (b := false) rfl rfl s59).trans rfl) ⟨s9, trivial⟩ rfl rfl hQ0 ?_
                              clear hQ0 hH s9 s59
                              intro Q hQ
                              repeat go_step
                              exact hQ _ _ (Grow.refl _) rfl rfl
                        refine obls_cons (fun f w' hR hH Q0 hQ0 => ?_) ?_
                        · skip
                          have s66 := (sv_at 66 26 hsz f [(66, 26), (67, 27), (59, 19)] rfl).trans (show f 26 = _ from hH.get 0 (66, 26) rfl)
                          have s67 := (sv_at 67 27 hsz f [(66, 26), (67, 27), (59, 19)] rfl).trans (show f 27 = _ from hH.get 1 (67, 27) rfl)
                          have s59 := (sv_at 59 19 hsz f [(66, 26), (67, 27), (59, 19)] rfl).trans (show f 19 = _ from hH.get 2 (59, 19) rfl)
                          first
                            | exact skip_v hsz rfl ((wanted_some (b := true) rfl rfl s59).trans rfl) hQ0 (Grow.refl _) rfl
                            | exact skip_v hsz rfl (wanted_undef rfl rfl s59) hQ0 (Grow.refl _) rfl
                            | refine small_v hsz [(66, _), (67, _)] ⟨some 2, (Op.indexAddr 23 (.tmp 0) (.tmp 1)), 0, "", #[], none⟩ [_, _, undef] 2 rfl ((wanted_some (b := false) rfl rfl s59).trans rfl) ⟨s66, s67, trivial⟩ rfl rfl hQ0 ?_
                              clear hQ0 hH s66 s67 s59
                              intro Q hQ
                              repeat go_step
                              exact hQ _ _ (Grow.refl _) rfl rfl
                        refine obls_cons (fun f w' hR hH Q0 hQ0 => ?_) ?_
                        · skip
                          have s68 := (sv_at 68 28 hsz f [(68, 28), (59, 19)] rfl).trans (show f 28 = _ from hH.get 0 (68, 28) rfl)
                          have s59 := (sv_at 59 19 hsz f [(68, 28), (59, 19)] rfl).trans (show f 19 = _ from hH.get 1 (59, 19) rfl)
                          first
                            | exact skip_v hsz rfl ((wanted_some (b := true) rfl rfl s59).trans rfl) hQ0 (Grow.refl _) rfl
                            | exact skip_v hsz rfl (wanted_undef rfl rfl s59) hQ0 (Grow.refl _) rfl
                            | refine small_v hsz [(68, _)] ⟨some 1, (Op.load 3 (.tmp 0)), 3, "", #[], none⟩ [_, undef] 1 rfl ((wanted_some (b := false) rfl rfl s59).trans rfl) ⟨s68, trivial⟩ rfl rfl hQ0 ?_
                              clear hQ0 hH s68 s59
                              intro Q hQ
                              have y1 := hR.cell HC8.out
                              repeat go_step
                              exact hQ _ _ (Grow.refl _) rfl rfl
                        refine obls_cons (fun f w' hR hH Q0 hQ0 => ?_) ?_
                        · skip
                          have s65 := (sv_at 65 25 hsz f [(65, 25), (69, 29), (59, 19)] rfl).trans (show f 25 = _ from hH.get 0 (65, 25) rfl)
                          have s69 := (sv_at 69 29 hsz f [(65, 25), (69, 29), (59, 19)] rfl).trans (show f 29 = _ from hH.get 1 (69, 29) rfl)
                          have s59 := (sv_at 59 19 hsz f [(65, 25), (69, 29), (59, 19)] rfl).trans (show f 19 = _ from hH.get 2 (59, 19) rfl)
                          first
                            | exact skip_v hsz rfl ((wanted_some (b := true) rfl rfl s59).trans rfl) hQ0 (Grow.refl _) rfl
                            | exact skip_v hsz rfl (wanted_undef rfl rfl s59) hQ0 (Grow.refl _) rfl
                            | refine small_v hsz [(65, _), (69, _)] ⟨some 2, (Op.indexAddr 23 (.tmp 0) (.tmp 1)), 0, "", #[], none⟩ [_, _, undef] 2 rfl ((wanted_some (b := false) rfl rfl s59).trans rfl) ⟨s65, s69, trivial⟩ rfl rfl hQ0 ?_
                              clear hQ0 hH s65 s69 s59
                              intro Q hQ
                              have hxn := HXN.out
                              repeat go_step
                              exact hQ _ _ (Grow.refl _) rfl rfl
                        refine obls_cons (fun f w' hR hH Q0 hQ0 => ?_) ?_
                        · skip
                          have s70 := (sv_at 70 30 hsz f [(70, 30), (59, 19)] rfl).trans (show f 30 = _ from hH.get 0 (70, 30) rfl)
                          have s59 := (sv_at 59 19 hsz f [(70, 30), (59, 19)] rfl).trans (show f 19 = _ from hH.get 1 (59, 19) rfl)
                          first
                            | exact skip_v hsz rfl ((wanted_some (b := true) rfl rfl s59).trans rfl) hQ0 (Grow.refl _) rfl
                            | exact skip_v hsz rfl (wanted_undef rfl rfl s59) hQ0 (Grow.refl _) rfl
                            | refine small_v hsz [(70, _)] ⟨some 1, (Op.load 3 (.tmp 0)), 3, "", #[], none⟩ [_, undef] 1 rfl ((wanted_some (b := false) rfl rfl s59).trans rfl) ⟨s70, trivial⟩ rfl rfl hQ0 ?_
                              clear hQ0 hH s70 s59
                              intro Q hQ
                              have y2 := hR.cell HCX.out
                              repeat go_step
                              exact hQ _ _ (Grow.refl _) rfl rfl
                        refine obls_cons (fun f w' hR hH Q0 hQ0 => ?_) ?_
                        · skip
                          have s60 := (sv_at 60 20 hsz f [(60, 20), (64, 24), (71, 31), (59, 19)] rfl).trans (show f 20 = _ from hH.get 0 (60, 20) rfl)
                          have s64 := (sv_at 64 24 hsz f [(60, 20), (64, 24), (71, 31), (59, 19)] rfl).trans (show f 24 = _ from hH.get 1 (64, 24) rfl)
                          have s71 := (sv_at 71 31 hsz f [(60, 20), (64, 24), (71, 31), (59, 19)] rfl).trans (show f 31 = _ from hH.get 2 (71, 31) rfl)
                          have s59 := (sv_at 59 19 hsz f [(60, 20), (64, 24), (71, 31), (59, 19)] rfl).trans (show f 19 = _ from hH.get 3 (59, 19) rfl)
                          first
                            | exact skip_v hsz rfl ((wanted_some (b := true) rfl rfl s59).trans rfl) hQ0 (Grow.refl _) rfl
                            | exact skip_v hsz rfl (wanted_undef rfl rfl s59) hQ0 (Grow.refl _) rfl
                            | refine small_v hsz [(60, _), (64, _), (71, _)] ⟨some 3, (Op.call (Call.mk (Callee.value (Operand.func 31)) #[(.tmp 0), (.tmp 1), (.tmp 2)] #[25, 3, 3])), 4, "", #[], none⟩ [_, _, _, undef] 3 rfl ((wanted_some (b := false) rfl rfl s59).trans rfl) ⟨s60, s64, s71, trivial⟩ rfl (ren_call rfl rfl) hQ0 ?_
                              clear hQ0 hH s60 s64 s71 s59
                              intro Q hQ
                              go_wp2_with (go_at_call 31; refine ((HH2.out w' hR)).mono ?_; rintro e w1 ⟨rfl, rfl⟩)
                              exact hQ _ _ (Grow.refl _) rfl rfl
                        refine obls_cons (fun f w' hR hH Q0 hQ0 => ?_) ?_
                        · skip
                          have s59 := (sv_at 59 19 hsz f [(59, 19), (72, 32), (45, 5)] rfl).trans (show f 19 = _ from hH.get 0 (59, 19) rfl)
                          have s72 := (sv_at 72 32 hsz f [(59, 19), (72, 32), (45, 5)] rfl).trans (show f 32 = _ from hH.get 1 (72, 32) rfl)
                          have s45 := (sv_at 45 5 hsz f [(59, 19), (72, 32), (45, 5)] rfl).trans (show f 5 = _ from hH.get 2 (45, 5) rfl)
                          first
                            | exact skip_v hsz rfl ((wanted_some (b := false) rfl rfl s45).trans rfl) hQ0 (Grow.refl _) rfl
                            | exact skip_v hsz rfl (wanted_undef rfl rfl s45) hQ0 (Grow.refl _) rfl
                            | refine small_v hsz [(59, _), (72, _)] ⟨some 2, (Op.pick (.tmp 0) (Operand.const (Value.bool true)) (.tmp 1)), 4, "", #[], none⟩ [_, _, undef] 2 rfl ((wanted_some (b := true) rfl rfl s45).trans rfl) ⟨s59, s72, trivial⟩ rfl rfl hQ0 ?_
                              clear hQ0 hH s59 s72 s45
                              intro Q hQ
                              repeat go_step
                              exact hQ _ _ (Grow.refl _) rfl rfl
                        refine obls_cons (fun f w' hR hH Q0 hQ0 => ?_) ?_
                        · skip
                          have s45 := (sv_at 45 5 hsz f [(45, 5), (73, 33)] rfl).trans (show f 5 = _ from hH.get 0 (45, 5) rfl)
                          have s73 := (sv_at 73 33 hsz f [(45, 5), (73, 33)] rfl).trans (show f 33 = _ from hH.get 1 (73, 33) rfl)
                          refine small_v hsz [(45, _), (73, _)] ⟨some 2, (Op.pick (.tmp 0) (.tmp 1) (Operand.const (Value.bool false))), 4, "", #[], none⟩ [_, _, undef] 2 rfl rfl ⟨s45, s73, trivial⟩ rfl rfl hQ0 ?_
                          clear hQ0 hH s45 s73
                          intro Q hQ
                          repeat go_step
                          exact hQ _ _ (Grow.refl _) rfl rfl
                        exact obls_nil
                      case mono => exact ⟨Mono.veq _, Mono.veq _, Mono.veq _, Mono.veq _, Mono.veq _, Mono.veq _, Mono.veq _, Mono.veq _, Mono.veq _, Mono.veq _, Mono.veq _, Mono.veq _, Mono.veq _, Mono.veq _, Mono.veq _, Mono.veq _, Mono.veq _, Mono.veq _, Mono.veq _, Mono.veq _, Mono.veq _, Mono.veq _, Mono.veq _, Mono.veq _, Mono.veq _, Mono.veq _, Mono.veq _, Mono.veq _, Mono.veq _, Mono.veq _, Mono.veq _, Mono.veq _, Mono.veq _, Mono.veq _, Mono.veq _, trivial⟩
                      case tail =>
                        intro f w' hR hH
                        have q34 := hH.get 34 (74, 34) rfl
                        clear hH
                        refine wpList_merge (idx := [none, none, none, none, none, none, none, none, none, none, none, none, none, none, none, none, none, none, none, none, none, none, none, none, none, none, none, none, none, none, none, none, none, none, none, none, none, none, none, none, some 0, some 1, some 2, some 3, some 4, some 5, some 6, some 7, some 8, some 9, some 10, some 11, some 12, some 13, some 14, some 15, some 16, some 17, some 18, some 19, some 20, some 21, some 22, some 23, some 24, some 25, some 26, some 27, some 28, some 29, some 30, some 31, some 32, some 33, some 34, none, none, none, none, none, none, none, none, none, none, none, none, none, none, none, none]) (by kernel_rfl) ?_; show wpList _ _ _ [] ⟨#[_, _, _, _, _, _, _, _, _, _, _, _, _, _, _, _, _, _, _, _, _, _, _, _, _, _, _, _, _, _, _, _, _, _, _, _, _, _, _, _, f 0, f 1, f 2, f 3, f 4, f 5, f 6, f 7, f 8, f 9, f 10, f 11, f 12, f 13, f 14, f 15, f 16, f 17, f 18, f 19, f 20, f 21, f 22, f 23, f 24, f 25, f 26, f 27, f 28, f 29, f 30, f 31, f 32, f 33, f 34, _, _, _, _, _, _, _, _, _, _, _, _, _, _, _, _], _⟩ _
                        rw [show f 34 = _ from q34]
                        clear q34
                        have hi9 := HIN.out.grow HWA.out hR
                        have z0 : w'.cell? ⟨bs, k, none⟩ = some (.int .i64 0) := hR.cell HX0.out
                        have f0 := hi9.seen.free k
                        obtain ⟨W4, hW4⟩ : ∃ W, W = w'.setCell ⟨bs, k, none⟩ (.int .i64 1) := ⟨_, rfl⟩
                        have hm9 : InS w wa bs n (.slice (some ⟨b8, off8, none⟩) lo c8) lo o (fun j => S j || j == k) W4 := by rw [hW4]; exact hi9.mark HBW.out HBR.out
                        have HM9 := Lib.hid hm9
                        have HW4 := Lib.hid hW4
                        clear hi9 hW4 hm9 hR
                        try dsimp only
                        repeat (first | with_reducible (refine wp_region_cut (k := 17) ?_) | go_values | go_guarded | go_step | go_upon | go_back)
                        rw [← HW4.out]
                        unfold Cut
                        clear z0 f0
                        have gq : Grow W4 (W4.alloc (.cells #[.int .i64 (k : Int)] 3)) := Grow.alloc _ _
                        have ho9 := own_grow HM9.out.own gq
                        have hsz9 : wa.heap.size ≤ (W4.alloc (.cells #[.int .i64 (k : Int)] 3)).heap.size := Nat.le_trans HM9.out.kp.size gq.size
                        have HO9 := Lib.hid ho9
                        have HSZ9 := Lib.hid hsz9
                        have HGQ := Lib.hid gq
                        clear ho9 hsz9 gq
                        go_wp2_with (at_builtin; refine wpList_append_row rfl _ _ _ rfl wa.heap.size 3 _ _ 1 8 Try.underlying23 iI iIz iIs iIb rfl (by decide) (.slice (some ⟨b8, off8, none⟩) lo c8) lo (o.map nv) rfl HO9.out (some ⟨W4.heap.size, 0, none⟩) 1 1 [.int .i64 (k : Int)] rfl (Row.new W4 [.int .i64 (k : Int)] 3 (0, 0)) one1 (by have := HLO.out; unfold maxLen; omega) (by have := HLO.out; omega) HSZ9.out ?_; intro v1 w1 hown1 hgb1 hnb1; obtain ⟨Aw, cw, rfl, -, -, -⟩ := own_form hown1)
                        have hap := (HM9.out.grow HWA.out HGQ.out).app HWA.out HBR.out hgb1 hown1
                        have HAP := Lib.hid hap
                        clear hown1 hgb1 hnb1 hap
                        go_roundw
                        case rel => exact ⟨k + 1, lo + 1, o ++ [k], _, _, by have := HLK.out; omega, by have := HLA.out; omega, by go_num, rfl, HAP.out, HSD.out.add HX.out (by rw [HLL.out]; exact HLK.out) (by rw [nr_at HZX.out.1 HZX.out.2, HN.out]; unfold nearI; rw [← HQ2.out, Bool.or_true]) HS.out⟩
                        case measure => have := HLK.out; simp [intOf] <;> omega
                  · go_wp2_with fail
                    apply (fun (v0 v1 v2 v3 v4 v5 v6 v7 v8 v9 v10 v11 v12 v13 v14 v15 v16 v17 v18 v19 v20 v21 v22 v23 v24 v25 v26 v27 v28 v29 v30 v31 v32 v33 v34 : Value) mono obl tail => wp_region_par (R := Grow) (Φ := phi [veq v0, veq v1, veq v2, veq v3, veq v4, veq v5, veq v6, veq v7, veq v8, veq v9, veq v10, veq v11, veq v12, veq v13, veq v14, veq v15, veq v16, veq v17, veq v18, veq v19, veq v20, veq v21, veq v22, veq v23, veq v24, veq v25, veq v26, veq v27, veq v28, veq v29, veq v30, veq v31, veq v32, veq v33, veq v34]) (m := 35) (dls := [[], [], [(40, 0), (41, 1)], [(42, 2)], [(43, 3)], [(44, 4)], [(45, 5)], [(45, 5)], [(45, 5)], [(45, 5)], [(48, 8), (49, 9), (45, 5)], [(50, 10), (45, 5)], [(47, 7), (51, 11), (45, 5)], [(52, 12), (45, 5)], [(45, 5)], [(45, 5)], [(54, 14), (55, 15), (45, 5)], [(56, 16), (45, 5)], [(46, 6), (53, 13), (57, 17), (45, 5)], [(58, 18), (45, 5)], [(59, 19)], [(59, 19)], [(59, 19)], [(61, 21), (62, 22), (59, 19)], [(63, 23), (59, 19)], [(59, 19)], [(59, 19)], [(59, 19)], [(66, 26), (67, 27), (59, 19)], [(68, 28), (59, 19)], [(65, 25), (69, 29), (59, 19)], [(70, 30), (59, 19)], [(60, 20), (64, 24), (71, 31), (59, 19)], [(59, 19), (72, 32), (45, 5)], [(45, 5), (73, 33)]]) (ds := [40, 41, 42, 43, 44, 45, 46, 47, 48, 49, 50, 51, 52, 53, 54, 55, 56, 57, 58, 59, 60, 61, 62, 63, 64, 65, 66, 67, 68, 69, 70, 71, 72, 73, 74]) (by kernel_rfl) (by kernel_rfl) (by decide) rfl (Grow.drew _) (fun _ _ _ => Grow.trans) (mono_phi mono) obl tail)
                    case obl =>
                      refine obls_frame (fun a1 ha => ?_)
                      have hsz := rd_size (n := 91) ha rfl
                      have e6 := rd_slot 6 ha rfl
                      have e10 := rd_slot 10 ha rfl
                      have e0 := rd_slot 0 ha rfl
                      have e1 := rd_slot 1 ha rfl
                      have e8 := rd_slot 8 ha rfl
                      have e9 := rd_slot 9 ha rfl
                      clear ha
                      refine obls_cons (fun f w' hR hH Q0 hQ0 => ?_) ?_
                      · skip
                        have s6 := sv_off f [] e6 rfl
                        refine small_v hsz [(6, _)] ⟨some 1, (Op.move (.tmp 0)), 23, "", #[], none⟩ [_, undef] 1 rfl rfl ⟨s6, trivial⟩ rfl rfl hQ0 ?_
                        clear hQ0 hH s6
                        intro Q hQ
                        repeat go_step
                        exact hQ _ _ (Grow.refl _) rfl rfl
                      refine obls_cons (fun f w' hR hH Q0 hQ0 => ?_) ?_
                      · skip
                        have s10 := sv_off f [] e10 rfl
                        refine small_v hsz [(10, _)] ⟨some 1, (Op.move (.tmp 0)), 3, "", #[], none⟩ [_, undef] 1 rfl rfl ⟨s10, trivial⟩ rfl rfl hQ0 ?_
                        clear hQ0 hH s10
                        intro Q hQ
                        repeat go_step
                        exact hQ _ _ (Grow.refl _) rfl rfl
                      refine obls_cons (fun f w' hR hH Q0 hQ0 => ?_) ?_
                      · skip
                        have s40 := (sv_at 40 0 hsz f [(40, 0), (41, 1)] rfl).trans (show f 0 = _ from hH.get 0 (40, 0) rfl)
                        have s41 := (sv_at 41 1 hsz f [(40, 0), (41, 1)] rfl).trans (show f 1 = _ from hH.get 1 (41, 1) rfl)
                        refine small_v hsz [(40, _), (41, _)] ⟨some 2, (Op.indexAddr 23 (.tmp 0) (.tmp 1)), 0, "", #[], none⟩ [_, _, undef] 2 rfl rfl ⟨s40, s41, trivial⟩ rfl rfl hQ0 ?_
                        clear hQ0 hH s40 s41
                        intro Q hQ
                        repeat go_step
                        exact hQ _ _ (Grow.refl _) rfl rfl
                      refine obls_cons (fun f w' hR hH Q0 hQ0 => ?_) ?_
                      · skip
                        have s42 := (sv_at 42 2 hsz f [(42, 2)] rfl).trans (show f 2 = _ from hH.get 0 (42, 2) rfl)
                        refine small_v hsz [(42, _)] ⟨some 1, (Op.load 3 (.tmp 0)), 3, "", #[], none⟩ [_, undef] 1 rfl rfl ⟨s42, trivial⟩ rfl rfl hQ0 ?_
                        clear hQ0 hH s42
                        intro Q hQ
                        have y0 := hR.cell HX0.out
                        repeat go_step
                        exact hQ _ _ (Grow.refl _) rfl rfl
                      refine obls_cons (fun f w' hR hH Q0 hQ0 => ?_) ?_
                      · skip
                        have s43 := (sv_at 43 3 hsz f [(43, 3)] rfl).trans (show f 3 = _ from hH.get 0 (43, 3) rfl)
                        refine small_v hsz [(43, _)] ⟨some 1, (Op.binOp BinOp.eql 3 (.tmp 0) (Operand.const (Value.int IntKind.i64 0)) 3), 4, "", #[], none⟩ [_, undef] 1 rfl rfl ⟨s43, trivial⟩ rfl rfl hQ0 ?_
                        clear hQ0 hH s43
                        intro Q hQ
                        repeat go_step
                        exact hQ _ _ (Grow.refl _) rfl rfl
                      refine obls_cons (fun f w' hR hH Q0 hQ0 => ?_) ?_
                      · skip
                        have s44 := (sv_at 44 4 hsz f [(44, 4)] rfl).trans (show f 4 = _ from hH.get 0 (44, 4) rfl)
                        refine small_v hsz [(44, _)] ⟨some 1, (Op.move (.tmp 0)), 4, "", #[], none⟩ [_, undef] 1 rfl rfl ⟨s44, trivial⟩ rfl rfl hQ0 ?_
                        clear hQ0 hH s44
                        intro Q hQ
                        repeat go_step
                        exact hQ _ _ (Grow.refl _) rfl rfl
                      refine obls_cons (fun f w' hR hH Q0 hQ0 => ?_) ?_
                      · skip
                        have s0 := sv_off f [(45, 5)] e0 rfl
                        have s45 := (sv_at 45 5 hsz f [(45, 5)] rfl).trans (show f 5 = _ from hH.get 0 (45, 5) rfl)
                        first
                          | exact skip_v hsz rfl ((wanted_some (b := false) rfl rfl s45).trans rfl) hQ0 (Grow.refl _) rfl
                          | exact skip_v hsz rfl (wanted_undef rfl rfl s45) hQ0 (Grow.refl _) rfl
                          | refine small_v hsz [(0, _)] ⟨some 1, (Op.move (.tmp 0)), 25, "", #[], none⟩ [_, undef] 1 rfl ((wanted_some (b := true) rfl rfl s45).trans rfl) ⟨s0, trivial⟩ rfl rfl hQ0 ?_
                            clear hQ0 hH s0 s45
                            intro Q hQ
                            repeat go_step
                            exact hQ _ _ (Grow.refl _) rfl rfl
                      refine obls_cons (fun f w' hR hH Q0 hQ0 => ?_) ?_
                      · skip
                        have s1 := sv_off f [(45, 5)] e1 rfl
                        have s45 := (sv_at 45 5 hsz f [(45, 5)] rfl).trans (show f 5 = _ from hH.get 0 (45, 5) rfl)
                        first
                          | exact skip_v hsz rfl ((wanted_some (b := false) rfl rfl s45).trans rfl) hQ0 (Grow.refl _) rfl
                          | exact skip_v hsz rfl (wanted_undef rfl rfl s45) hQ0 (Grow.refl _) rfl
                          | refine small_v hsz [(1, _)] ⟨some 1, (Op.move (.tmp 0)), 23, "", #[], none⟩ [_, undef] 1 rfl ((wanted_some (b := true) rfl rfl s45).trans rfl) ⟨s1, trivial⟩ rfl rfl hQ0 ?_
                            clear hQ0 hH s1 s45
                            intro Q hQ
                            repeat go_step
                            exact hQ _ _ (Grow.refl _) rfl rfl
                      refine obls_cons (fun f w' hR hH Q0 hQ0 => ?_) ?_
                      · skip
                        have s8 := sv_off f [(45, 5)] e8 rfl
                        have s45 := (sv_at 45 5 hsz f [(45, 5)] rfl).trans (show f 5 = _ from hH.get 0 (45, 5) rfl)
                        first
                          | exact skip_v hsz rfl ((wanted_some (b := false) rfl rfl s45).trans rfl) hQ0 (Grow.refl _) rfl
                          | exact skip_v hsz rfl (wanted_undef rfl rfl s45) hQ0 (Grow.refl _) rfl
                          | refine small_v hsz [(8, _)] ⟨some 1, (Op.move (.tmp 0)), 23, "", #[], none⟩ [_, undef] 1 rfl ((wanted_some (b := true) rfl rfl s45).trans rfl) ⟨s8, trivial⟩ rfl rfl hQ0 ?_
                            clear hQ0 hH s8 s45
                            intro Q hQ
                            repeat go_step
                            exact hQ _ _ (Grow.refl _) rfl rfl
                      refine obls_cons (fun f w' hR hH Q0 hQ0 => ?_) ?_
                      · skip
                        have s9 := sv_off f [(45, 5)] e9 rfl
                        have s45 := (sv_at 45 5 hsz f [(45, 5)] rfl).trans (show f 5 = _ from hH.get 0 (45, 5) rfl)
                        first
                          | exact skip_v hsz rfl ((wanted_some (b := false) rfl rfl s45).trans rfl) hQ0 (Grow.refl _) rfl
                          | exact skip_v hsz rfl (wanted_undef rfl rfl s45) hQ0 (Grow.refl _) rfl
                          | refine small_v hsz [(9, _)] ⟨some 1, (Op.move (.tmp 0)), 3, "", #[], none⟩ [_, undef] 1 rfl ((wanted_some (b := true) rfl rfl s45).trans rfl) ⟨s9, trivial⟩ rfl rfl hQ0 ?_
                            clear hQ0 hH s9 s45
                            intro Q hQ
                            repeat go_step
                            exact hQ _ _ (Grow.refl _) rfl rfl
                      refine obls_cons (fun f w' hR hH Q0 hQ0 => ?_) ?_
                      · skip
                        have s48 := (sv_at 48 8 hsz f [(48, 8), (49, 9), (45, 5)] rfl).trans (show f 8 = _ from hH.get 0 (48, 8) rfl)
                        have s49 := (sv_at 49 9 hsz f [(48, 8), (49, 9), (45, 5)] rfl).trans (show f 9 = _ from hH.get 1 (49, 9) rfl)
                        have s45 := (sv_at 45 5 hsz f [(48, 8), (49, 9), (45, 5)] rfl).trans (show f 5 = _ from hH.get 2 (45, 5) rfl)
                        first
                          | exact skip_v hsz rfl ((wanted_some (b := false) rfl rfl s45).trans rfl) hQ0 (Grow.refl _) rfl
                          | exact skip_v hsz rfl (wanted_undef rfl rfl s45) hQ0 (Grow.refl _) rfl
                          | refine small_v hsz [(48, _), (49, _)] ⟨some 2, (Op.indexAddr 23 (.tmp 0) (.tmp 1)), 0, "", #[], none⟩ [_, _, undef] 2 rfl ((wanted_some (b := true) rfl rfl s45).trans rfl) ⟨s48, s49, trivial⟩ rfl rfl hQ0 ?_
                            clear hQ0 hH s48 s49 s45
                            intro Q hQ
                            repeat go_step
                            exact hQ _ _ (Grow.refl _) rfl rfl
                      refine obls_cons (fun f w' hR hH Q0 hQ0 => ?_) ?_
                      · skip
                        have s50 := (sv_at 50 10 hsz f [(50, 10), (45, 5)] rfl).trans (show f 10 = _ from hH.get 0 (50, 10) rfl)
                        have s45 := (sv_at 45 5 hsz f [(50, 10), (45, 5)] rfl).trans (show f 5 = _ from hH.get 1 (45, 5) rfl)
                        first
                          | exact skip_v hsz rfl ((wanted_some (b := false) rfl rfl s45).trans rfl) hQ0 (Grow.refl _) rfl
                          | exact skip_v hsz rfl (wanted_undef rfl rfl s45) hQ0 (Grow.refl _) rfl
                          | refine small_v hsz [(50, _)] ⟨some 1, (Op.load 3 (.tmp 0)), 3, "", #[], none⟩ [_, undef] 1 rfl ((wanted_some (b := true) rfl rfl s45).trans rfl) ⟨s50, trivial⟩ rfl rfl hQ0 ?_
                            clear hQ0 hH s50 s45
                            intro Q hQ
                            have y1 := hR.cell HC8.out
                            repeat go_step
                            exact hQ _ _ (Grow.refl _) rfl rfl
                      refine obls_cons (fun f w' hR hH Q0 hQ0 => ?_) ?_
                      · skip
                        have s47 := (sv_at 47 7 hsz f [(47, 7), (51, 11), (45, 5)] rfl).trans (show f 7 = _ from hH.get 0 (47, 7) rfl)
                        have s51 := (sv_at 51 11 hsz f [(47, 7), (51, 11), (45, 5)] rfl).trans (show f 11 = _ from hH.get 1 (51, 11) rfl)
                        have s45 := (sv_at 45 5 hsz f [(47, 7), (51, 11), (45, 5)] rfl).trans (show f 5 = _ from hH.get 2 (45, 5) rfl)
                        first
                          | exact skip_v hsz rfl ((wanted_some (b := false) rfl rfl s45).trans rfl) hQ0 (Grow.refl _) rfl
                          | exact skip_v hsz rfl (wanted_undef rfl rfl s45) hQ0 (Grow.refl _) rfl
                          | refine small_v hsz [(47, _), (51, _)] ⟨some 2, (Op.indexAddr 23 (.tmp 0) (.tmp 1)), 0, "", #[], none⟩ [_, _, undef] 2 rfl ((wanted_some (b := true) rfl rfl s45).trans rfl) ⟨s47, s51, trivial⟩ rfl rfl hQ0 ?_
                            clear hQ0 hH s47 s51 s45
                            intro Q hQ
                            have hxn := HXN.out
                            repeat go_step
                            exact hQ _ _ (Grow.refl _) rfl rfl
                      refine obls_cons (fun f w' hR hH Q0 hQ0 => ?_) ?_
                      · skip
                        have s52 := (sv_at 52 12 hsz f [(52, 12), (45, 5)] rfl).trans (show f 12 = _ from hH.get 0 (52, 12) rfl)
                        have s45 := (sv_at 45 5 hsz f [(52, 12), (45, 5)] rfl).trans (show f 5 = _ from hH.get 1 (45, 5) rfl)
                        first
                          | exact skip_v hsz rfl ((wanted_some (b := false) rfl rfl s45).trans rfl) hQ0 (Grow.refl _) rfl
                          | exact skip_v hsz rfl (wanted_undef rfl rfl s45) hQ0 (Grow.refl _) rfl
                          | refine small_v hsz [(52, _)] ⟨some 1, (Op.load 3 (.tmp 0)), 3, "", #[], none⟩ [_, undef] 1 rfl ((wanted_some (b := true) rfl rfl s45).trans rfl) ⟨s52, trivial⟩ rfl rfl hQ0 ?_
                            clear hQ0 hH s52 s45
                            intro Q hQ
                            have y2 := hR.cell HCX.out
                            repeat go_step
                            exact hQ _ _ (Grow.refl _) rfl rfl
                      refine obls_cons (fun f w' hR hH Q0 hQ0 => ?_) ?_
                      · skip
                        have s1 := sv_off f [(45, 5)] e1 rfl
                        have s45 := (sv_at 45 5 hsz f [(45, 5)] rfl).trans (show f 5 = _ from hH.get 0 (45, 5) rfl)
                        first
                          | exact skip_v hsz rfl ((wanted_some (b := false) rfl rfl s45).trans rfl) hQ0 (Grow.refl _) rfl
                          | exact skip_v hsz rfl (wanted_undef rfl rfl s45) hQ0 (Grow.refl _) rfl
                          | refine small_v hsz [(1, _)] ⟨some 1, (Op.move (.tmp 0)), 23, "", #[], none⟩ [_, undef] 1 rfl ((wanted_some (b := true) rfl rfl s45).trans rfl) ⟨s1, trivial⟩ rfl rfl hQ0 ?_
                            clear hQ0 hH s1 s45
                            intro Q hQ
                            repeat go_step
                            exact hQ _ _ (Grow.refl _) rfl rfl
                      refine obls_cons (fun f w' hR hH Q0 hQ0 => ?_) ?_
                      · skip
                        have s10 := sv_off f [(45, 5)] e10 rfl
                        have s45 := (sv_at 45 5 hsz f [(45, 5)] rfl).trans (show f 5 = _ from hH.get 0 (45, 5) rfl)
                        first
                          | exact skip_v hsz rfl ((wanted_some (b := false) rfl rfl s45).trans rfl) hQ0 (Grow.refl _) rfl
                          | exact skip_v hsz rfl (wanted_undef rfl rfl s45) hQ0 (Grow.refl _) rfl
                          | refine small_v hsz [(10, _)] ⟨some 1, (Op.move (.tmp 0)), 3, "", #[], none⟩ [_, undef] 1 rfl ((wanted_some (b := true) rfl rfl s45).trans rfl) ⟨s10, trivial⟩ rfl rfl hQ0 ?_
                            clear hQ0 hH s10 s45
                            intro Q hQ
                            repeat go_step
                            exact hQ _ _ (Grow.refl _) rfl rfl
                      refine obls_cons (fun f w' hR hH Q0 hQ0 => ?_) ?_
                      · skip
                        have s54 := (sv_at 54 14 hsz f [(54, 14), (55, 15), (45, 5)] rfl).trans (show f 14 = _ from hH.get 0 (54, 14) rfl)
                        have s55 := (sv_at 55 15 hsz f [(54, 14), (55, 15), (45, 5)] rfl).trans (show f 15 = _ from hH.get 1 (55, 15) rfl)
                        have s45 := (sv_at 45 5 hsz f [(54, 14), (55, 15), (45, 5)] rfl).trans (show f 5 = _ from hH.get 2 (45, 5) rfl)
                        first
                          | exact skip_v hsz rfl ((wanted_some (b := false) rfl rfl s45).trans rfl) hQ0 (Grow.refl _) rfl
                          | exact skip_v hsz rfl (wanted_undef rfl rfl s45) hQ0 (Grow.refl _) rfl
                          | refine small_v hsz [(54, _), (55, _)] ⟨some 2, (Op.indexAddr 23 (.tmp 0) (.tmp 1)), 0, "", #[], none⟩ [_, _, undef] 2 rfl ((wanted_some (b := true) rfl rfl s45).trans rfl) ⟨s54, s55, trivial⟩ rfl rfl hQ0 ?_
                            clear hQ0 hH s54 s55 s45
                            intro Q hQ
                            repeat go_step
                            exact hQ _ _ (Grow.refl _) rfl rfl
                      refine obls_cons (fun f w' hR hH Q0 hQ0 => ?_) ?_
                      · skip
                        have s56 := (sv_at 56 16 hsz f [(56, 16), (45, 5)] rfl).trans (show f 16 = _ from hH.get 0 (56, 16) rfl)
                        have s45 := (sv_at 45 5 hsz f [(56, 16), (45, 5)] rfl).trans (show f 5 = _ from hH.get 1 (45, 5) rfl)
                        first
                          | exact skip_v hsz rfl ((wanted_some (b := false) rfl rfl s45).trans rfl) hQ0 (Grow.refl _) rfl
                          | exact skip_v hsz rfl (wanted_undef rfl rfl s45) hQ0 (Grow.refl _) rfl
                          | refine small_v hsz [(56, _)] ⟨some 1, (Op.load 3 (.tmp 0)), 3, "", #[], none⟩ [_, undef] 1 rfl ((wanted_some (b := true) rfl rfl s45).trans rfl) ⟨s56, trivial⟩ rfl rfl hQ0 ?_
                            clear hQ0 hH s56 s45
                            intro Q hQ
                            have y3 := hR.cell HCK.out
                            repeat go_step
                            exact hQ _ _ (Grow.refl _) rfl rfl
                      refine obls_cons (fun f w' hR hH Q0 hQ0 => ?_) ?_
                      · skip
                        have s46 := (sv_at 46 6 hsz f [(46, 6), (53, 13), (57, 17), (45, 5)] rfl).trans (show f 6 = _ from hH.get 0 (46, 6) rfl)
                        have s53 := (sv_at 53 13 hsz f [(46, 6), (53, 13), (57, 17), (45, 5)] rfl).trans (show f 13 = _ from hH.get 1 (53, 13) rfl)
                        have s57 := (sv_at 57 17 hsz f [(46, 6), (53, 13), (57, 17), (45, 5)] rfl).trans (show f 17 = _ from hH.get 2 (57, 17) rfl)
                        have s45 := (sv_at 45 5 hsz f [(46, 6), (53, 13), (57, 17), (45, 5)] rfl).trans (show f 5 = _ from hH.get 3 (45, 5) rfl)
                        first
                          | exact skip_v hsz rfl ((wanted_some (b := false) rfl rfl s45).trans rfl) hQ0 (Grow.refl _) rfl
                          | exact skip_v hsz rfl (wanted_undef rfl rfl s45) hQ0 (Grow.refl _) rfl
                          | refine small_v hsz [(46, _), (53, _), (57, _)] ⟨some 3, (Op.call (Call.mk (Callee.value (Operand.func 31)) #[(.tmp 0), (.tmp 1), (.tmp 2)] #[25, 3, 3])), 4, "", #[], none⟩ [_, _, _, undef] 3 rfl ((wanted_some (b := true) rfl rfl s45).trans rfl) ⟨s46, s53, s57, trivial⟩ rfl (ren_call rfl rfl) hQ0 ?_
                            clear hQ0 hH s46 s53 s57 s45
                            intro Q hQ
                            go_wp2_with (go_at_call 31; refine ((HH1.out w' hR)).mono ?_; rintro e w1 ⟨rfl, rfl⟩)
                            exact hQ _ _ (Grow.refl _) rfl rfl
                      refine obls_cons (fun f w' hR hH Q0 hQ0 => ?_) ?_
                      · skip
                        have s58 := (sv_at 58 18 hsz f [(58, 18), (45, 5)] rfl).trans (show f 18 = _ from hH.get 0 (58, 18) rfl)
                        have s45 := (sv_at 45 5 hsz f [(58, 18), (45, 5)] rfl).trans (show f 5 = _ from hH.get 1 (45, 5) rfl)
                        first
                          | exact skip_v hsz rfl ((wanted_some (b := false) rfl rfl s45).trans rfl) hQ0 (Grow.refl _) rfl
                          | exact skip_v hsz rfl (wanted_undef rfl rfl s45) hQ0 (Grow.refl _) rfl
                          | refine small_v hsz [(58, _)] ⟨some 1, (Op.move (.tmp 0)), 4, "", #[], none⟩ [_, undef] 1 rfl ((wanted_some (b := true) rfl rfl s45).trans rfl) ⟨s58, trivial⟩ rfl rfl hQ0 ?_
                            clear hQ0 hH s58 s45
                            intro Q hQ
                            repeat go_step
                            exact hQ _ _ (Grow.refl _) rfl rfl
                      refine obls_cons (fun f w' hR hH Q0 hQ0 => ?_) ?_
                      · skip
                        have s0 := sv_off f [(59, 19)] e0 rfl
                        have s59 := (sv_at 59 19 hsz f [(59, 19)] rfl).trans (show f 19 = _ from hH.get 0 (59, 19) rfl)
                        first
                          | exact skip_v hsz rfl ((wanted_some (b := true) rfl rfl s59).trans rfl) hQ0 (Grow.refl _) rfl
                          | exact skip_v hsz rfl (wanted_undef rfl rfl s59) hQ0 (Grow.refl _) rfl
                          | refine small_v hsz [(0, _)] ⟨some 1, (Op.move (.tmp 0)), 25, "", #[], none⟩ [_, undef] 1 rfl ((wanted_some (b := false) rfl rfl s59).trans rfl) ⟨s0, trivial⟩ rfl rfl hQ0 ?_
                            clear hQ0 hH s0 s59
                            intro Q hQ
                            repeat go_step
                            exact hQ _ _ (Grow.refl _) rfl rfl
                      refine obls_cons (fun f w' hR hH Q0 hQ0 => ?_) ?_
                      · skip
                        have s1 := sv_off f [(59, 19)] e1 rfl
                        have s59 := (sv_at 59 19 hsz f [(59, 19)] rfl).trans (show f 19 = _ from hH.get 0 (59, 19) rfl)
                        first
                          | exact skip_v hsz rfl ((wanted_some (b := true) rfl rfl s59).trans rfl) hQ0 (Grow.refl _) rfl
                          | exact skip_v hsz rfl (wanted_undef rfl rfl s59) hQ0 (Grow.refl _) rfl
                          | refine small_v hsz [(1, _)] ⟨some 1, (Op.move (.tmp 0)), 23, "", #[], none⟩ [_, undef] 1 rfl ((wanted_some (b := false) rfl rfl s59).trans rfl) ⟨s1, trivial⟩ rfl rfl hQ0 ?_
                            clear hQ0 hH s1 s59
                            intro Q hQ
                            repeat go_step
                            exact hQ _ _ (Grow.refl _) rfl rfl
                      refine obls_cons (fun f w' hR hH Q0 hQ0 => ?_) ?_
                      · skip
                        have s10 := sv_off f [(59, 19)] e10 rfl
                        have s59 := (sv_at 59 19 hsz f [(59, 19)] rfl).trans (show f 19 = _ from hH.get 0 (59, 19) rfl)
                        first
                          | exact skip_v hsz rfl ((wanted_some (b := true) rfl rfl s59).trans rfl) hQ0 (Grow.refl _) rfl
                          | exact skip_v hsz rfl (wanted_undef rfl rfl s59) hQ0 (Grow.refl _) rfl
                          | refine small_v hsz [(10, _)] ⟨some 1, (Op.move (.tmp 0)), 3, "", #[], none⟩ [_, undef] 1 rfl ((wanted_some (b := false) rfl rfl s59).trans rfl) ⟨s10, trivial⟩ rfl rfl hQ0 ?_
                            clear hQ0 hH s10 s59
                            intro Q hQ
                            repeat go_step
                            exact hQ _ _ (Grow.refl _) rfl rfl
                      refine obls_cons (fun f w' hR hH Q0 hQ0 => ?_) ?_
                      · skip
                        have s61 := (sv_at 61 21 hsz f [(61, 21), (62, 22), (59, 19)] rfl).trans (show f 21 = _ from hH.get 0 (61, 21) rfl)
                        have s62 := (sv_at 62 22 hsz f [(61, 21), (62, 22), (59, 19)] rfl).trans (show f 22 = _ from hH.get 1 (62, 22) rfl)
                        have s59 := (sv_at 59 19 hsz f [(61, 21), (62, 22), (59, 19)] rfl).trans (show f 19 = _ from hH.get 2 (59, 19) rfl)
                        first
                          | exact skip_v hsz rfl ((wanted_some (b := true) rfl rfl s59).trans rfl) hQ0 (Grow.refl _) rfl
                          | exact skip_v hsz rfl (wanted_undef rfl rfl s59) hQ0 (Grow.refl _) rfl
                          | refine small_v hsz [(61, _), (62, _)] ⟨some 2, (Op.indexAddr 23 (.tmp 0) (.tmp 1)), 0, "", #[], none⟩ [_, _, undef] 2 rfl ((wanted_some (b := false) rfl rfl s59).trans rfl) ⟨s61, s62, trivial⟩ rfl rfl hQ0 ?_
                            clear hQ0 hH s61 s62 s59
                            intro Q hQ
                            repeat go_step
                            exact hQ _ _ (Grow.refl _) rfl rfl
                      refine obls_cons (fun f w' hR hH Q0 hQ0 => ?_) ?_
                      · skip
                        have s63 := (sv_at 63 23 hsz f [(63, 23), (59, 19)] rfl).trans (show f 23 = _ from hH.get 0 (63, 23) rfl)
                        have s59 := (sv_at 59 19 hsz f [(63, 23), (59, 19)] rfl).trans (show f 19 = _ from hH.get 1 (59, 19) rfl)
                        first
                          | exact skip_v hsz rfl ((wanted_some (b := true) rfl rfl s59).trans rfl) hQ0 (Grow.refl _) rfl
                          | exact skip_v hsz rfl (wanted_undef rfl rfl s59) hQ0 (Grow.refl _) rfl
                          | refine small_v hsz [(63, _)] ⟨some 1, (Op.load 3 (.tmp 0)), 3, "", #[], none⟩ [_, undef] 1 rfl ((wanted_some (b := false) rfl rfl s59).trans rfl) ⟨s63, trivial⟩ rfl rfl hQ0 ?_
                            clear hQ0 hH s63 s59
                            intro Q hQ
                            repeat go_step
                            exact hQ _ _ (Grow.refl _) rfl rfl
                      refine obls_cons (fun f w' hR hH Q0 hQ0 => ?_) ?_
                      · skip
                        have s1 := sv_off f [(59, 19)] e1 rfl
                        have s59 := (sv_at 59 19 hsz f [(59, 19)] rfl).trans (show f 19 = _ from hH.get 0 (59, 19) rfl)
                        first
                          | exact skip_v hsz rfl ((wanted_some (b := true) rfl rfl s59).trans rfl) hQ0 (Grow.refl _) rfl
                          | exact skip_v hsz rfl (wanted_undef rfl rfl s59) hQ0 (Grow.refl _) rfl
                          | refine small_v hsz [(1, _)] ⟨some 1, (Op.move (.tmp 0)), 23, "", #[], none⟩ [_, undef] 1 rfl ((wanted_some (b := false) rfl rfl s59).trans rfl) ⟨s1, trivial⟩ rfl rfl hQ0 ?_
                            clear hQ0 hH s1 s59
                            intro Q hQ
                            repeat go_step
                            exact hQ _ _ (Grow.refl _) rfl rfl
                      refine obls_cons (fun f w' hR hH Q0 hQ0 => ?_) ?_
                      · skip
                        have s8 := sv_off f [(59, 19)] e8 rfl
                        have s59 := (sv_at 59 19 hsz f [(59, 19)] rfl).trans (show f 19 = _ from hH.get 0 (59, 19) rfl)
                        first
                          | exact skip_v hsz rfl ((wanted_some (b := true) rfl rfl s59).trans rfl) hQ0 (Grow.refl _) rfl
                          | exact skip_v hsz rfl (wanted_undef rfl rfl s59) hQ0 (Grow.refl _) rfl
                          | refine small_v hsz [(8, _)] ⟨some 1, (Op.move (.tmp 0)), 23, "", #[], none⟩ [_, undef] 1 rfl ((wanted_some (b := false) rfl rfl s59).trans rfl) ⟨s8, trivial⟩ rfl rfl hQ0 ?_
                            clear hQ0 hH s8 s59
                            intro Q hQ
                            repeat go_step
                            exact hQ _ _ (Grow.refl _) rfl rfl
                      refine obls_cons (fun f w' hR hH Q0 hQ0 => ?_) ?_
                      · skip
                        have s9 := sv_off f [(59, 19)] e9 rfl
                        have s59 := (sv_at 59 19 hsz f [(59, 19)] rfl).trans (show f 19 = _ from hH.get 0 (59, 19) rfl)
                        first
                          | exact skip_v hsz rfl ((wanted_some (b := true) rfl rfl s59).trans rfl) hQ0 (Grow.refl _) rfl
                          | exact skip_v hsz rfl (wanted_undef rfl rfl s59) hQ0 (Grow.refl _) rfl
                          | refine small_v hsz [(9, _)] ⟨some 1, (Op.move (.tmp 0)), 3, "", #[], none⟩ [_, undef] 1 rfl ((wanted_some (b := false) rfl rfl s59).trans rfl) ⟨s9, trivial⟩ rfl rfl hQ0 ?_
                            clear hQ0 hH s9 s59
                            intro Q hQ
                            repeat go_step
                            exact hQ _ _ (Grow.refl _) rfl rfl
                      refine obls_cons (fun f w' hR hH Q0 hQ0 => ?_) ?_
                      · skip
                        have s66 := (sv_at 66 26 hsz f [(66, 26), (67, 27), (59, 19)] rfl).trans (show f 26 = _ from hH.get 0 (66, 26) rfl)
                        have s67 := (sv_at 67 27 hsz f [(66, 26), (67, 27), (59, 19)] rfl).trans (show f 27 = _ from hH.get 1 (67, 27) rfl)
                        have s59 := (sv_at 59 19 hsz f [(66, 26), (67, 27), (59, 19)] rfl).trans (show f 19 = _ from hH.get 2 (59, 19) rfl)
                        first
                          | exact skip_v hsz rfl ((wanted_some (b := true) rfl rfl s59).trans rfl) hQ0 (Grow.refl _) rfl
                          | exact skip_v hsz rfl (wanted_undef rfl rfl s59) hQ0 (Grow.refl _) rfl
                          | refine small_v hsz [(66, _), (67, _)] ⟨some 2, (Op.indexAddr 23 (.tmp 0) (.tmp 1)), 0, "", #[], none⟩ [_, _, undef] 2 rfl ((wanted_some (b := false) rfl rfl s59).trans rfl) ⟨s66, s67, trivial⟩ rfl rfl hQ0 ?_
                            clear hQ0 hH s66 s67 s59
                            intro Q hQ
                            repeat go_step
                            exact hQ _ _ (Grow.refl _) rfl rfl
                      refine obls_cons (fun f w' hR hH Q0 hQ0 => ?_) ?_
                      · skip
                        have s68 := (sv_at 68 28 hsz f [(68, 28), (59, 19)] rfl).trans (show f 28 = _ from hH.get 0 (68, 28) rfl)
                        have s59 := (sv_at 59 19 hsz f [(68, 28), (59, 19)] rfl).trans (show f 19 = _ from hH.get 1 (59, 19) rfl)
                        first
                          | exact skip_v hsz rfl ((wanted_some (b := true) rfl rfl s59).trans rfl) hQ0 (Grow.refl _) rfl
                          | exact skip_v hsz rfl (wanted_undef rfl rfl s59) hQ0 (Grow.refl _) rfl
                          | refine small_v hsz [(68, _)] ⟨some 1, (Op.load 3 (.tmp 0)), 3, "", #[], none⟩ [_, undef] 1 rfl ((wanted_some (b := false) rfl rfl s59).trans rfl) ⟨s68, trivial⟩ rfl rfl hQ0 ?_
                            clear hQ0 hH s68 s59
                            intro Q hQ
                            repeat go_step
                            exact hQ _ _ (Grow.refl _) rfl rfl
                      refine obls_cons (fun f w' hR hH Q0 hQ0 => ?_) ?_
                      · skip
                        have s65 := (sv_at 65 25 hsz f [(65, 25), (69, 29), (59, 19)] rfl).trans (show f 25 = _ from hH.get 0 (65, 25) rfl)
                        have s69 := (sv_at 69 29 hsz f [(65, 25), (69, 29), (59, 19)] rfl).trans (show f 29 = _ from hH.get 1 (69, 29) rfl)
                        have s59 := (sv_at 59 19 hsz f [(65, 25), (69, 29), (59, 19)] rfl).trans (show f 19 = _ from hH.get 2 (59, 19) rfl)
                        first
                          | exact skip_v hsz rfl ((wanted_some (b := true) rfl rfl s59).trans rfl) hQ0 (Grow.refl _) rfl
                          | exact skip_v hsz rfl (wanted_undef rfl rfl s59) hQ0 (Grow.refl _) rfl
                          | refine small_v hsz [(65, _), (69, _)] ⟨some 2, (Op.indexAddr 23 (.tmp 0) (.tmp 1)), 0, "", #[], none⟩ [_, _, undef] 2 rfl ((wanted_some (b := false) rfl rfl s59).trans rfl) ⟨s65, s69, trivial⟩ rfl rfl hQ0 ?_
                            clear hQ0 hH s65 s69 s59
                            intro Q hQ
                            repeat go_step
                            exact hQ _ _ (Grow.refl _) rfl rfl
                      refine obls_cons (fun f w' hR hH Q0 hQ0 => ?_) ?_
                      · skip
                        have s70 := (sv_at 70 30 hsz f [(70, 30), (59, 19)] rfl).trans (show f 30 = _ from hH.get 0 (70, 30) rfl)
                        have s59 := (sv_at 59 19 hsz f [(70, 30), (59, 19)] rfl).trans (show f 19 = _ from hH.get 1 (59, 19) rfl)
                        first
                          | exact skip_v hsz rfl ((wanted_some (b := true) rfl rfl s59).trans rfl) hQ0 (Grow.refl _) rfl
                          | exact skip_v hsz rfl (wanted_undef rfl rfl s59) hQ0 (Grow.refl _) rfl
                          | refine small_v hsz [(70, _)] ⟨some 1, (Op.load 3 (.tmp 0)), 3, "", #[], none⟩ [_, undef] 1 rfl ((wanted_some (b := false) rfl rfl s59).trans rfl) ⟨s70, trivial⟩ rfl rfl hQ0 ?_
                            clear hQ0 hH s70 s59
                            intro Q hQ
                            repeat go_step
                            exact hQ _ _ (Grow.refl _) rfl rfl
                      refine obls_cons (fun f w' hR hH Q0 hQ0 => ?_) ?_
                      · skip
                        have s60 := (sv_at 60 20 hsz f [(60, 20), (64, 24), (71, 31), (59, 19)] rfl).trans (show f 20 = _ from hH.get 0 (60, 20) rfl)
                        have s64 := (sv_at 64 24 hsz f [(60, 20), (64, 24), (71, 31), (59, 19)] rfl).trans (show f 24 = _ from hH.get 1 (64, 24) rfl)
                        have s71 := (sv_at 71 31 hsz f [(60, 20), (64, 24), (71, 31), (59, 19)] rfl).trans (show f 31 = _ from hH.get 2 (71, 31) rfl)
                        have s59 := (sv_at 59 19 hsz f [(60, 20), (64, 24), (71, 31), (59, 19)] rfl).trans (show f 19 = _ from hH.get 3 (59, 19) rfl)
                        first
                          | exact skip_v hsz rfl ((wanted_some (b := true) rfl rfl s59).trans rfl) hQ0 (Grow.refl _) rfl
                          | exact skip_v hsz rfl (wanted_undef rfl rfl s59) hQ0 (Grow.refl _) rfl
                          | refine small_v hsz [(60, _), (64, _), (71, _)] ⟨some 3, (Op.call (Call.mk (Callee.value (Operand.func 31)) #[(.tmp 0), (.tmp 1), (.tmp 2)] #[25, 3, 3])), 4, "", #[], none⟩ [_, _, _, undef] 3 rfl ((wanted_some (b := false) rfl rfl s59).trans rfl) ⟨s60, s64, s71, trivial⟩ rfl (ren_call rfl rfl) hQ0 ?_
                            clear hQ0 hH s60 s64 s71 s59
                            intro Q hQ
                            repeat go_step
                            exact hQ _ _ (Grow.refl _) rfl rfl
                      refine obls_cons (fun f w' hR hH Q0 hQ0 => ?_) ?_
                      · skip
                        have s59 := (sv_at 59 19 hsz f [(59, 19), (72, 32), (45, 5)] rfl).trans (show f 19 = _ from hH.get 0 (59, 19) rfl)
                        have s72 := (sv_at 72 32 hsz f [(59, 19), (72, 32), (45, 5)] rfl).trans (show f 32 = _ from hH.get 1 (72, 32) rfl)
                        have s45 := (sv_at 45 5 hsz f [(59, 19), (72, 32), (45, 5)] rfl).trans (show f 5 = _ from hH.get 2 (45, 5) rfl)
                        first
                          | exact skip_v hsz rfl ((wanted_some (b := false) rfl rfl s45).trans rfl) hQ0 (Grow.refl _) rfl
                          | exact skip_v hsz rfl (wanted_undef rfl rfl s45) hQ0 (Grow.refl _) rfl
                          | refine small_v hsz [(59, _), (72, _)] ⟨some 2, (Op.pick (.tmp 0) (Operand.const (Value.bool true)) (.tmp 1)), 4, "", #[], none⟩ [_, _, undef] 2 rfl ((wanted_some (b := true) rfl rfl s45).trans rfl) ⟨s59, s72, trivial⟩ rfl rfl hQ0 ?_
                            clear hQ0 hH s59 s72 s45
                            intro Q hQ
                            repeat go_step
                            exact hQ _ _ (Grow.refl _) rfl rfl
                      refine obls_cons (fun f w' hR hH Q0 hQ0 => ?_) ?_
                      · skip
                        have s45 := (sv_at 45 5 hsz f [(45, 5), (73, 33)] rfl).trans (show f 5 = _ from hH.get 0 (45, 5) rfl)
                        have s73 := (sv_at 73 33 hsz f [(45, 5), (73, 33)] rfl).trans (show f 33 = _ from hH.get 1 (73, 33) rfl)
                        refine small_v hsz [(45, _), (73, _)] ⟨some 2, (Op.pick (.tmp 0) (.tmp 1) (Operand.const (Value.bool false))), 4, "", #[], none⟩ [_, _, undef] 2 rfl rfl ⟨s45, s73, trivial⟩ rfl rfl hQ0 ?_
                        clear hQ0 hH s45 s73
                        intro Q hQ
                        repeat go_step
                        exact hQ _ _ (Grow.refl _) rfl rfl
                      exact obls_nil
                    case mono => exact ⟨Mono.veq _, Mono.veq _, Mono.veq _, Mono.veq _, Mono.veq _, Mono.veq _, Mono.veq _, Mono.veq _, Mono.veq _, Mono.veq _, Mono.veq _, Mono.veq _, Mono.veq _, Mono.veq _, Mono.veq _, Mono.veq _, Mono.veq _, Mono.veq _, Mono.veq _, Mono.veq _, Mono.veq _, Mono.veq _, Mono.veq _, Mono.veq _, Mono.veq _, Mono.veq _, Mono.veq _, Mono.veq _, Mono.veq _, Mono.veq _, Mono.veq _, Mono.veq _, Mono.veq _, Mono.veq _, Mono.veq _, trivial⟩
                    case tail =>
                      intro f w' hR hH
                      have q34 := hH.get 34 (74, 34) rfl
                      clear hH
                      refine wpList_merge (idx := [none, none, none, none, none, none, none, none, none, none, none, none, none, none, none, none, none, none, none, none, none, none, none, none, none, none, none, none, none, none, none, none, none, none, none, none, none, none, none, none, some 0, some 1, some 2, some 3, some 4, some 5, some 6, some 7, some 8, some 9, some 10, some 11, some 12, some 13, some 14, some 15, some 16, some 17, some 18, some 19, some 20, some 21, some 22, some 23, some 24, some 25, some 26, some 27, some 28, some 29, some 30, some 31, some 32, some 33, some 34, none, none, none, none, none, none, none, none, none, none, none, none, none, none, none, none]) (by kernel_rfl) ?_; show wpList _ _ _ [] ⟨#[_, _, _, _, _, _, _, _, _, _, _, _, _, _, _, _, _, _, _, _, _, _, _, _, _, _, _, _, _, _, _, _, _, _, _, _, _, _, _, _, f 0, f 1, f 2, f 3, f 4, f 5, f 6, f 7, f 8, f 9, f 10, f 11, f 12, f 13, f 14, f 15, f 16, f 17, f 18, f 19, f 20, f 21, f 22, f 23, f 24, f 25, f 26, f 27, f 28, f 29, f 30, f 31, f 32, f 33, f 34, _, _, _, _, _, _, _, _, _, _, _, _, _, _, _, _], _⟩ _
                      rw [show f 34 = _ from q34]
                      clear q34
                      have hi9 := HIN.out.grow HWA.out hR
                      have z0 : w'.cell? ⟨bs, k, none⟩ = some (.int .i64 0) := hR.cell HX0.out
                      have f0 := hi9.seen.free k
                      obtain ⟨W4, hW4⟩ : ∃ W, W = w'.setCell ⟨bs, k, none⟩ (.int .i64 1) := ⟨_, rfl⟩
                      have hm9 : InS w wa bs n (.slice (some ⟨b8, off8, none⟩) lo c8) lo o (fun j => S j || j == k) W4 := by rw [hW4]; exact hi9.mark HBW.out HBR.out
                      have HM9 := Lib.hid hm9
                      have HW4 := Lib.hid hW4
                      clear hi9 hW4 hm9 hR
                      try dsimp only
                      repeat (first | with_reducible (refine wp_region_cut (k := 17) ?_) | go_values | go_guarded | go_step | go_upon | go_back)
                      rw [← HW4.out]
                      unfold Cut
                      clear z0 f0
                      have gq : Grow W4 (W4.alloc (.cells #[.int .i64 (k : Int)] 3)) := Grow.alloc _ _
                      have ho9 := own_grow HM9.out.own gq
                      have hsz9 : wa.heap.size ≤ (W4.alloc (.cells #[.int .i64 (k : Int)] 3)).heap.size := Nat.le_trans HM9.out.kp.size gq.size
                      have HO9 := Lib.hid ho9
                      have HSZ9 := Lib.hid hsz9
                      have HGQ := Lib.hid gq
                      clear ho9 hsz9 gq
                      go_wp2_with (at_builtin; refine wpList_append_row rfl _ _ _ rfl wa.heap.size 3 _ _ 1 8 Try.underlying23 iI iIz iIs iIb rfl (by decide) (.slice (some ⟨b8, off8, none⟩) lo c8) lo (o.map nv) rfl HO9.out (some ⟨W4.heap.size, 0, none⟩) 1 1 [.int .i64 (k : Int)] rfl (Row.new W4 [.int .i64 (k : Int)] 3 (0, 0)) one1 (by have := HLO.out; unfold maxLen; omega) (by have := HLO.out; omega) HSZ9.out ?_; intro v1 w1 hown1 hgb1 hnb1; obtain ⟨Aw, cw, rfl, -, -, -⟩ := own_form hown1)
                      have hap := (HM9.out.grow HWA.out HGQ.out).app HWA.out HBR.out hgb1 hown1
                      have HAP := Lib.hid hap
                      clear hown1 hgb1 hnb1 hap
                      go_roundw
                      case rel => exact ⟨k + 1, lo + 1, o ++ [k], _, _, by have := HLK.out; omega, by have := HLA.out; omega, by go_num, rfl, HAP.out, HSD.out.add HX.out (by rw [HLL.out]; exact HLK.out) (by rw [nr_at HZX.out.1 HZX.out.2, HN.out]; unfold nearI; rw [← HQ1.out]; rfl) HS.out⟩
                      case measure => have := HLK.out; simp [intOf] <;> omega
                · have HX0 : Hid (wr.cell? ⟨bs, k, none⟩ = some (.int .i64 1)) := Lib.hid hx0
                  clear hx0
                  go_wp2_with fail
                  apply (fun (v0 v1 v2 v3 v4 v5 v6 v7 v8 v9 v10 v11 v12 v13 v14 v15 v16 v17 v18 v19 v20 v21 v22 v23 v24 v25 v26 v27 v28 v29 v30 v31 v32 v33 v34 : Value) mono obl tail => wp_region_par (R := Grow) (Φ := phi [veq v0, veq v1, veq v2, veq v3, veq v4, veq v5, veq v6, veq v7, veq v8, veq v9, veq v10, veq v11, veq v12, veq v13, veq v14, veq v15, veq v16, veq v17, veq v18, veq v19, veq v20, veq v21, veq v22, veq v23, veq v24, veq v25, veq v26, veq v27, veq v28, veq v29, veq v30, veq v31, veq v32, veq v33, veq v34]) (m := 35) (dls := [[], [], [(40, 0), (41, 1)], [(42, 2)], [(43, 3)], [(44, 4)], [(45, 5)], [(45, 5)], [(45, 5)], [(45, 5)], [(48, 8), (49, 9), (45, 5)], [(50, 10), (45, 5)], [(47, 7), (51, 11), (45, 5)], [(52, 12), (45, 5)], [(45, 5)], [(45, 5)], [(54, 14), (55, 15), (45, 5)], [(56, 16), (45, 5)], [(46, 6), (53, 13), (57, 17), (45, 5)], [(58, 18), (45, 5)], [(59, 19)], [(59, 19)], [(59, 19)], [(61, 21), (62, 22), (59, 19)], [(63, 23), (59, 19)], [(59, 19)], [(59, 19)], [(59, 19)], [(66, 26), (67, 27), (59, 19)], [(68, 28), (59, 19)], [(65, 25), (69, 29), (59, 19)], [(70, 30), (59, 19)], [(60, 20), (64, 24), (71, 31), (59, 19)], [(59, 19), (72, 32), (45, 5)], [(45, 5), (73, 33)]]) (ds := [40, 41, 42, 43, 44, 45, 46, 47, 48, 49, 50, 51, 52, 53, 54, 55, 56, 57, 58, 59, 60, 61, 62, 63, 64, 65, 66, 67, 68, 69, 70, 71, 72, 73, 74]) (by kernel_rfl) (by kernel_rfl) (by decide) rfl (Grow.drew _) (fun _ _ _ => Grow.trans) (mono_phi mono) obl tail)
                  case obl =>
                    refine obls_frame (fun a1 ha => ?_)
                    have hsz := rd_size (n := 91) ha rfl
                    have e6 := rd_slot 6 ha rfl
                    have e10 := rd_slot 10 ha rfl
                    have e0 := rd_slot 0 ha rfl
                    have e1 := rd_slot 1 ha rfl
                    have e8 := rd_slot 8 ha rfl
                    have e9 := rd_slot 9 ha rfl
                    clear ha
                    refine obls_cons (fun f w' hR hH Q0 hQ0 => ?_) ?_
                    · skip
                      have s6 := sv_off f [] e6 rfl
                      refine small_v hsz [(6, _)] ⟨some 1, (Op.move (.tmp 0)), 23, "", #[], none⟩ [_, undef] 1 rfl rfl ⟨s6, trivial⟩ rfl rfl hQ0 ?_
                      clear hQ0 hH s6
                      intro Q hQ
                      repeat go_step
                      exact hQ _ _ (Grow.refl _) rfl rfl
                    refine obls_cons (fun f w' hR hH Q0 hQ0 => ?_) ?_
                    · skip
                      have s10 := sv_off f [] e10 rfl
                      refine small_v hsz [(10, _)] ⟨some 1, (Op.move (.tmp 0)), 3, "", #[], none⟩ [_, undef] 1 rfl rfl ⟨s10, trivial⟩ rfl rfl hQ0 ?_
                      clear hQ0 hH s10
                      intro Q hQ
                      repeat go_step
                      exact hQ _ _ (Grow.refl _) rfl rfl
                    refine obls_cons (fun f w' hR hH Q0 hQ0 => ?_) ?_
                    · skip
                      have s40 := (sv_at 40 0 hsz f [(40, 0), (41, 1)] rfl).trans (show f 0 = _ from hH.get 0 (40, 0) rfl)
                      have s41 := (sv_at 41 1 hsz f [(40, 0), (41, 1)] rfl).trans (show f 1 = _ from hH.get 1 (41, 1) rfl)
                      refine small_v hsz [(40, _), (41, _)] ⟨some 2, (Op.indexAddr 23 (.tmp 0) (.tmp 1)), 0, "", #[], none⟩ [_, _, undef] 2 rfl rfl ⟨s40, s41, trivial⟩ rfl rfl hQ0 ?_
                      clear hQ0 hH s40 s41
                      intro Q hQ
                      repeat go_step
                      exact hQ _ _ (Grow.refl _) rfl rfl
                    refine obls_cons (fun f w' hR hH Q0 hQ0 => ?_) ?_
                    · skip
                      have s42 := (sv_at 42 2 hsz f [(42, 2)] rfl).trans (show f 2 = _ from hH.get 0 (42, 2) rfl)
                      refine small_v hsz [(42, _)] ⟨some 1, (Op.load 3 (.tmp 0)), 3, "", #[], none⟩ [_, undef] 1 rfl rfl ⟨s42, trivial⟩ rfl rfl hQ0 ?_
                      clear hQ0 hH s42
                      intro Q hQ
                      have y0 := hR.cell HX0.out
                      repeat go_step
                      exact hQ _ _ (Grow.refl _) rfl rfl
                    refine obls_cons (fun f w' hR hH Q0 hQ0 => ?_) ?_
                    · skip
                      have s43 := (sv_at 43 3 hsz f [(43, 3)] rfl).trans (show f 3 = _ from hH.get 0 (43, 3) rfl)
                      refine small_v hsz [(43, _)] ⟨some 1, (Op.binOp BinOp.eql 3 (.tmp 0) (Operand.const (Value.int IntKind.i64 0)) 3), 4, "", #[], none⟩ [_, undef] 1 rfl rfl ⟨s43, trivial⟩ rfl rfl hQ0 ?_
                      clear hQ0 hH s43
                      intro Q hQ
                      repeat go_step
                      exact hQ _ _ (Grow.refl _) rfl rfl
                    refine obls_cons (fun f w' hR hH Q0 hQ0 => ?_) ?_
                    · skip
                      have s44 := (sv_at 44 4 hsz f [(44, 4)] rfl).trans (show f 4 = _ from hH.get 0 (44, 4) rfl)
                      refine small_v hsz [(44, _)] ⟨some 1, (Op.move (.tmp 0)), 4, "", #[], none⟩ [_, undef] 1 rfl rfl ⟨s44, trivial⟩ rfl rfl hQ0 ?_
                      clear hQ0 hH s44
                      intro Q hQ
                      repeat go_step
                      exact hQ _ _ (Grow.refl _) rfl rfl
                    refine obls_cons (fun f w' hR hH Q0 hQ0 => ?_) ?_
                    · skip
                      have s0 := sv_off f [(45, 5)] e0 rfl
                      have s45 := (sv_at 45 5 hsz f [(45, 5)] rfl).trans (show f 5 = _ from hH.get 0 (45, 5) rfl)
                      first
                        | exact skip_v hsz rfl ((wanted_some (b := false) rfl rfl s45).trans rfl) hQ0 (Grow.refl _) rfl
                        | exact skip_v hsz rfl (wanted_undef rfl rfl s45) hQ0 (Grow.refl _) rfl
                        | refine small_v hsz [(0, _)] ⟨some 1, (Op.move (.tmp 0)), 25, "", #[], none⟩ [_, undef] 1 rfl ((wanted_some (b := true) rfl rfl s45).trans rfl) ⟨s0, trivial⟩ rfl rfl hQ0 ?_
                          clear hQ0 hH s0 s45
                          intro Q hQ
                          repeat go_step
                          exact hQ _ _ (Grow.refl _) rfl rfl
                    refine obls_cons (fun f w' hR hH Q0 hQ0 => ?_) ?_
                    · skip
                      have s1 := sv_off f [(45, 5)] e1 rfl
                      have s45 := (sv_at 45 5 hsz f [(45, 5)] rfl).trans (show f 5 = _ from hH.get 0 (45, 5) rfl)
                      first
                        | exact skip_v hsz rfl ((wanted_some (b := false) rfl rfl s45).trans rfl) hQ0 (Grow.refl _) rfl
                        | exact skip_v hsz rfl (wanted_undef rfl rfl s45) hQ0 (Grow.refl _) rfl
                        | refine small_v hsz [(1, _)] ⟨some 1, (Op.move (.tmp 0)), 23, "", #[], none⟩ [_, undef] 1 rfl ((wanted_some (b := true) rfl rfl s45).trans rfl) ⟨s1, trivial⟩ rfl rfl hQ0 ?_
                          clear hQ0 hH s1 s45
                          intro Q hQ
                          repeat go_step
                          exact hQ _ _ (Grow.refl _) rfl rfl
                    refine obls_cons (fun f w' hR hH Q0 hQ0 => ?_) ?_
                    · skip
                      have s8 := sv_off f [(45, 5)] e8 rfl
                      have s45 := (sv_at 45 5 hsz f [(45, 5)] rfl).trans (show f 5 = _ from hH.get 0 (45, 5) rfl)
                      first
                        | exact skip_v hsz rfl ((wanted_some (b := false) rfl rfl s45).trans rfl) hQ0 (Grow.refl _) rfl
                        | exact skip_v hsz rfl (wanted_undef rfl rfl s45) hQ0 (Grow.refl _) rfl
                        | refine small_v hsz [(8, _)] ⟨some 1, (Op.move (.tmp 0)), 23, "", #[], none⟩ [_, undef] 1 rfl ((wanted_some (b := true) rfl rfl s45).trans rfl) ⟨s8, trivial⟩ rfl rfl hQ0 ?_
                          clear hQ0 hH s8 s45
                          intro Q hQ
                          repeat go_step
                          exact hQ _ _ (Grow.refl _) rfl rfl
                    refine obls_cons (fun f w' hR hH Q0 hQ0 => ?_) ?_
                    · skip
                      have s9 := sv_off f [(45, 5)] e9 rfl
                      have s45 := (sv_at 45 5 hsz f [(45, 5)] rfl).trans (show f 5 = _ from hH.get 0 (45, 5) rfl)
                      first
                        | exact skip_v hsz rfl ((wanted_some (b := false) rfl rfl s45).trans rfl) hQ0 (Grow.refl _) rfl
                        | exact skip_v hsz rfl (wanted_undef rfl rfl s45) hQ0 (Grow.refl _) rfl
                        | refine small_v hsz [(9, _)] ⟨some 1, (Op.move (.tmp 0)), 3, "", #[], none⟩ [_, undef] 1 rfl ((wanted_some (b := true) rfl rfl s45).trans rfl) ⟨s9, trivial⟩ rfl rfl hQ0 ?_
                          clear hQ0 hH s9 s45
                          intro Q hQ
                          repeat go_step
                          exact hQ _ _ (Grow.refl _) rfl rfl
                    refine obls_cons (fun f w' hR hH Q0 hQ0 => ?_) ?_
                    · skip
                      have s48 := (sv_at 48 8 hsz f [(48, 8), (49, 9), (45, 5)] rfl).trans (show f 8 = _ from hH.get 0 (48, 8) rfl)
                      have s49 := (sv_at 49 9 hsz f [(48, 8), (49, 9), (45, 5)] rfl).trans (show f 9 = _ from hH.get 1 (49, 9) rfl)
                      have s45 := (sv_at 45 5 hsz f [(48, 8), (49, 9), (45, 5)] rfl).trans (show f 5 = _ from hH.get 2 (45, 5) rfl)
                      first
                        | exact skip_v hsz rfl ((wanted_some (b := false) rfl rfl s45).trans rfl) hQ0 (Grow.refl _) rfl
                        | exact skip_v hsz rfl (wanted_undef rfl rfl s45) hQ0 (Grow.refl _) rfl
                        | refine small_v hsz [(48, _), (49, _)] ⟨some 2, (Op.indexAddr 23 (.tmp 0) (.tmp 1)), 0, "", #[], none⟩ [_, _, undef] 2 rfl ((wanted_some (b := true) rfl rfl s45).trans rfl) ⟨s48, s49, trivial⟩ rfl rfl hQ0 ?_
                          clear hQ0 hH s48 s49 s45
                          intro Q hQ
                          repeat go_step
                          exact hQ _ _ (Grow.refl _) rfl rfl
                    refine obls_cons (fun f w' hR hH Q0 hQ0 => ?_) ?_
                    · skip
                      have s50 := (sv_at 50 10 hsz f [(50, 10), (45, 5)] rfl).trans (show f 10 = _ from hH.get 0 (50, 10) rfl)
                      have s45 := (sv_at 45 5 hsz f [(50, 10), (45, 5)] rfl).trans (show f 5 = _ from hH.get 1 (45, 5) rfl)
                      first
                        | exact skip_v hsz rfl ((wanted_some (b := false) rfl rfl s45).trans rfl) hQ0 (Grow.refl _) rfl
                        | exact skip_v hsz rfl (wanted_undef rfl rfl s45) hQ0 (Grow.refl _) rfl
                        | refine small_v hsz [(50, _)] ⟨some 1, (Op.load 3 (.tmp 0)), 3, "", #[], none⟩ [_, undef] 1 rfl ((wanted_some (b := true) rfl rfl s45).trans rfl) ⟨s50, trivial⟩ rfl rfl hQ0 ?_
                          clear hQ0 hH s50 s45
                          intro Q hQ
                          repeat go_step
                          exact hQ _ _ (Grow.refl _) rfl rfl
                    refine obls_cons (fun f w' hR hH Q0 hQ0 => ?_) ?_
                    · skip
                      have s47 := (sv_at 47 7 hsz f [(47, 7), (51, 11), (45, 5)] rfl).trans (show f 7 = _ from hH.get 0 (47, 7) rfl)
                      have s51 := (sv_at 51 11 hsz f [(47, 7), (51, 11), (45, 5)] rfl).trans (show f 11 = _ from hH.get 1 (51, 11) rfl)
                      have s45 := (sv_at 45 5 hsz f [(47, 7), (51, 11), (45, 5)] rfl).trans (show f 5 = _ from hH.get 2 (45, 5) rfl)
                      first
                        | exact skip_v hsz rfl ((wanted_some (b := false) rfl rfl s45).trans rfl) hQ0 (Grow.refl _) rfl
                        | exact skip_v hsz rfl (wanted_undef rfl rfl s45) hQ0 (Grow.refl _) rfl
                        | refine small_v hsz [(47, _), (51, _)] ⟨some 2, (Op.indexAddr 23 (.tmp 0) (.tmp 1)), 0, "", #[], none⟩ [_, _, undef] 2 rfl ((wanted_some (b := true) rfl rfl s45).trans rfl) ⟨s47, s51, trivial⟩ rfl rfl hQ0 ?_
                          clear hQ0 hH s47 s51 s45
                          intro Q hQ
                          repeat go_step
                          exact hQ _ _ (Grow.refl _) rfl rfl
                    refine obls_cons (fun f w' hR hH Q0 hQ0 => ?_) ?_
                    · skip
                      have s52 := (sv_at 52 12 hsz f [(52, 12), (45, 5)] rfl).trans (show f 12 = _ from hH.get 0 (52, 12) rfl)
                      have s45 := (sv_at 45 5 hsz f [(52, 12), (45, 5)] rfl).trans (show f 5 = _ from hH.get 1 (45, 5) rfl)
                      first
                        | exact skip_v hsz rfl ((wanted_some (b := false) rfl rfl s45).trans rfl) hQ0 (Grow.refl _) rfl
                        | exact skip_v hsz rfl (wanted_undef rfl rfl s45) hQ0 (Grow.refl _) rfl
                        | refine small_v hsz [(52, _)] ⟨some 1, (Op.load 3 (.tmp 0)), 3, "", #[], none⟩ [_, undef] 1 rfl ((wanted_some (b := true) rfl rfl s45).trans rfl) ⟨s52, trivial⟩ rfl rfl hQ0 ?_
                          clear hQ0 hH s52 s45
                          intro Q hQ
                          repeat go_step
                          exact hQ _ _ (Grow.refl _) rfl rfl
                    refine obls_cons (fun f w' hR hH Q0 hQ0 => ?_) ?_
                    · skip
                      have s1 := sv_off f [(45, 5)] e1 rfl
                      have s45 := (sv_at 45 5 hsz f [(45, 5)] rfl).trans (show f 5 = _ from hH.get 0 (45, 5) rfl)
                      first
                        | exact skip_v hsz rfl ((wanted_some (b := false) rfl rfl s45).trans rfl) hQ0 (Grow.refl _) rfl
                        | exact skip_v hsz rfl (wanted_undef rfl rfl s45) hQ0 (Grow.refl _) rfl
                        | refine small_v hsz [(1, _)] ⟨some 1, (Op.move (.tmp 0)), 23, "", #[], none⟩ [_, undef] 1 rfl ((wanted_some (b := true) rfl rfl s45).trans rfl) ⟨s1, trivial⟩ rfl rfl hQ0 ?_
                          clear hQ0 hH s1 s45
                          intro Q hQ
                          repeat go_step
                          exact hQ _ _ (Grow.refl _) rfl rfl
                    refine obls_cons (fun f w' hR hH Q0 hQ0 => ?_) ?_
                    · skip
                      have s10 := sv_off f [(45, 5)] e10 rfl
                      have s45 := (sv_at 45 5 hsz f [(45, 5)] rfl).trans (show f 5 = _ from hH.get 0 (45, 5) rfl)
                      first
                        | exact skip_v hsz rfl ((wanted_some (b := false) rfl rfl s45).trans rfl) hQ0 (Grow.refl _) rfl
                        | exact skip_v hsz rfl (wanted_undef rfl rfl s45) hQ0 (Grow.refl _) rfl
                        | refine small_v hsz [(10, _)] ⟨some 1, (Op.move (.tmp 0)), 3, "", #[], none⟩ [_, undef] 1 rfl ((wanted_some (b := true) rfl rfl s45).trans rfl) ⟨s10, trivial⟩ rfl rfl hQ0 ?_
                          clear hQ0 hH s10 s45
                          intro Q hQ
                          repeat go_step
                          exact hQ _ _ (Grow.refl _) rfl rfl
                    refine obls_cons (fun f w' hR hH Q0 hQ0 => ?_) ?_
                    · skip
                      have s54 := (sv_at 54 14 hsz f [(54, 14), (55, 15), (45, 5)] rfl).trans (show f 14 = _ from hH.get 0 (54, 14) rfl)
                      have s55 := (sv_at 55 15 hsz f [(54, 14), (55, 15), (45, 5)] rfl).trans (show f 15 = _ from hH.get 1 (55, 15) rfl)
                      have s45 := (sv_at 45 5 hsz f [(54, 14), (55, 15), (45, 5)] rfl).trans (show f 5 = _ from hH.get 2 (45, 5) rfl)
                      first
                        | exact skip_v hsz rfl ((wanted_some (b := false) rfl rfl s45).trans rfl) hQ0 (Grow.refl _) rfl
                        | exact skip_v hsz rfl (wanted_undef rfl rfl s45) hQ0 (Grow.refl _) rfl
                        | refine small_v hsz [(54, _), (55, _)] ⟨some 2, (Op.indexAddr 23 (.tmp 0) (.tmp 1)), 0, "", #[], none⟩ [_, _, undef] 2 rfl ((wanted_some (b := true) rfl rfl s45).trans rfl) ⟨s54, s55, trivial⟩ rfl rfl hQ0 ?_
                          clear hQ0 hH s54 s55 s45
                          intro Q hQ
                          repeat go_step
                          exact hQ _ _ (Grow.refl _) rfl rfl
                    refine obls_cons (fun f w' hR hH Q0 hQ0 => ?_) ?_
                    · skip
                      have s56 := (sv_at 56 16 hsz f [(56, 16), (45, 5)] rfl).trans (show f 16 = _ from hH.get 0 (56, 16) rfl)
                      have s45 := (sv_at 45 5 hsz f [(56, 16), (45, 5)] rfl).trans (show f 5 = _ from hH.get 1 (45, 5) rfl)
                      first
                        | exact skip_v hsz rfl ((wanted_some (b := false) rfl rfl s45).trans rfl) hQ0 (Grow.refl _) rfl
                        | exact skip_v hsz rfl (wanted_undef rfl rfl s45) hQ0 (Grow.refl _) rfl
                        | refine small_v hsz [(56, _)] ⟨some 1, (Op.load 3 (.tmp 0)), 3, "", #[], none⟩ [_, undef] 1 rfl ((wanted_some (b := true) rfl rfl s45).trans rfl) ⟨s56, trivial⟩ rfl rfl hQ0 ?_
                          clear hQ0 hH s56 s45
                          intro Q hQ
                          repeat go_step
                          exact hQ _ _ (Grow.refl _) rfl rfl
                    refine obls_cons (fun f w' hR hH Q0 hQ0 => ?_) ?_
                    · skip
                      have s46 := (sv_at 46 6 hsz f [(46, 6), (53, 13), (57, 17), (45, 5)] rfl).trans (show f 6 = _ from hH.get 0 (46, 6) rfl)
                      have s53 := (sv_at 53 13 hsz f [(46, 6), (53, 13), (57, 17), (45, 5)] rfl).trans (show f 13 = _ from hH.get 1 (53, 13) rfl)
                      have s57 := (sv_at 57 17 hsz f [(46, 6), (53, 13), (57, 17), (45, 5)] rfl).trans (show f 17 = _ from hH.get 2 (57, 17) rfl)
                      have s45 := (sv_at 45 5 hsz f [(46, 6), (53, 13), (57, 17), (45, 5)] rfl).trans (show f 5 = _ from hH.get 3 (45, 5) rfl)
                      first
                        | exact skip_v hsz rfl ((wanted_some (b := false) rfl rfl s45).trans rfl) hQ0 (Grow.refl _) rfl
                        | exact skip_v hsz rfl (wanted_undef rfl rfl s45) hQ0 (Grow.refl _) rfl
                        | refine small_v hsz [(46, _), (53, _), (57, _)] ⟨some 3, (Op.call (Call.mk (Callee.value (Operand.func 31)) #[(.tmp 0), (.tmp 1), (.tmp 2)] #[25, 3, 3])), 4, "", #[], none⟩ [_, _, _, undef] 3 rfl ((wanted_some (b := true) rfl rfl s45).trans rfl) ⟨s46, s53, s57, trivial⟩ rfl (ren_call rfl rfl) hQ0 ?_
                          clear hQ0 hH s46 s53 s57 s45
                          intro Q hQ
                          repeat go_step
                          exact hQ _ _ (Grow.refl _) rfl rfl
                    refine obls_cons (fun f w' hR hH Q0 hQ0 => ?_) ?_
                    · skip
                      have s58 := (sv_at 58 18 hsz f [(58, 18), (45, 5)] rfl).trans (show f 18 = _ from hH.get 0 (58, 18) rfl)
                      have s45 := (sv_at 45 5 hsz f [(58, 18), (45, 5)] rfl).trans (show f 5 = _ from hH.get 1 (45, 5) rfl)
                      first
                        | exact skip_v hsz rfl ((wanted_some (b := false) rfl rfl s45).trans rfl) hQ0 (Grow.refl _) rfl
                        | exact skip_v hsz rfl (wanted_undef rfl rfl s45) hQ0 (Grow.refl _) rfl
                        | refine small_v hsz [(58, _)] ⟨some 1, (Op.move (.tmp 0)), 4, "", #[], none⟩ [_, undef] 1 rfl ((wanted_some (b := true) rfl rfl s45).trans rfl) ⟨s58, trivial⟩ rfl rfl hQ0 ?_
                          clear hQ0 hH s58 s45
                          intro Q hQ
                          repeat go_step
                          exact hQ _ _ (Grow.refl _) rfl rfl
                    refine obls_cons (fun f w' hR hH Q0 hQ0 => ?_) ?_
                    · skip
                      have s0 := sv_off f [(59, 19)] e0 rfl
                      have s59 := (sv_at 59 19 hsz f [(59, 19)] rfl).trans (show f 19 = _ from hH.get 0 (59, 19) rfl)
                      first
                        | exact skip_v hsz rfl ((wanted_some (b := true) rfl rfl s59).trans rfl) hQ0 (Grow.refl _) rfl
                        | exact skip_v hsz rfl (wanted_undef rfl rfl s59) hQ0 (Grow.refl _) rfl
                        | refine small_v hsz [(0, _)] ⟨some 1, (Op.move (.tmp 0)), 25, "", #[], none⟩ [_, undef] 1 rfl ((wanted_some (b := false) rfl rfl s59).trans rfl) ⟨s0, trivial⟩ rfl rfl hQ0 ?_
                          clear hQ0 hH s0 s59
                          intro Q hQ
                          repeat go_step
                          exact hQ _ _ (Grow.refl _) rfl rfl
                    refine obls_cons (fun f w' hR hH Q0 hQ0 => ?_) ?_
                    · skip
                      have s1 := sv_off f [(59, 19)] e1 rfl
                      have s59 := (sv_at 59 19 hsz f [(59, 19)] rfl).trans (show f 19 = _ from hH.get 0 (59, 19) rfl)
                      first
                        | exact skip_v hsz rfl ((wanted_some (b := true) rfl rfl s59).trans rfl) hQ0 (Grow.refl _) rfl
                        | exact skip_v hsz rfl (wanted_undef rfl rfl s59) hQ0 (Grow.refl _) rfl
                        | refine small_v hsz [(1, _)] ⟨some 1, (Op.move (.tmp 0)), 23, "", #[], none⟩ [_, undef] 1 rfl ((wanted_some (b := false) rfl rfl s59).trans rfl) ⟨s1, trivial⟩ rfl rfl hQ0 ?_
                          clear hQ0 hH s1 s59
                          intro Q hQ
                          repeat go_step
                          exact hQ _ _ (Grow.refl _) rfl rfl
                    refine obls_cons (fun f w' hR hH Q0 hQ0 => ?_) ?_
                    · skip
                      have s10 := sv_off f [(59, 19)] e10 rfl
                      have s59 := (sv_at 59 19 hsz f [(59, 19)] rfl).trans (show f 19 = _ from hH.get 0 (59, 19) rfl)
                      first
                        | exact skip_v hsz rfl ((wanted_some (b := true) rfl rfl s59).trans rfl) hQ0 (Grow.refl _) rfl
                        | exact skip_v hsz rfl (wanted_undef rfl rfl s59) hQ0 (Grow.refl _) rfl
                        | refine small_v hsz [(10, _)] ⟨some 1, (Op.move (.tmp 0)), 3, "", #[], none⟩ [_, undef] 1 rfl ((wanted_some (b := false) rfl rfl s59).trans rfl) ⟨s10, trivial⟩ rfl rfl hQ0 ?_
                          clear hQ0 hH s10 s59
                          intro Q hQ
                          repeat go_step
                          exact hQ _ _ (Grow.refl _) rfl rfl
                    refine obls_cons (fun f w' hR hH Q0 hQ0 => ?_) ?_
                    · skip
                      have s61 := (sv_at 61 21 hsz f [(61, 21), (62, 22), (59, 19)] rfl).trans (show f 21 = _ from hH.get 0 (61, 21) rfl)
                      have s62 := (sv_at 62 22 hsz f [(61, 21), (62, 22), (59, 19)] rfl).trans (show f 22 = _ from hH.get 1 (62, 22) rfl)
                      have s59 := (sv_at 59 19 hsz f [(61, 21), (62, 22), (59, 19)] rfl).trans (show f 19 = _ from hH.get 2 (59, 19) rfl)
                      first
                        | exact skip_v hsz rfl ((wanted_some (b := true) rfl rfl s59).trans rfl) hQ0 (Grow.refl _) rfl
                        | exact skip_v hsz rfl (wanted_undef rfl rfl s59) hQ0 (Grow.refl _) rfl
                        | refine small_v hsz [(61, _), (62, _)] ⟨some 2, (Op.indexAddr 23 (.tmp 0) (.tmp 1)), 0, "", #[], none⟩ [_, _, undef] 2 rfl ((wanted_some (b := false) rfl rfl s59).trans rfl) ⟨s61, s62, trivial⟩ rfl rfl hQ0 ?_
                          clear hQ0 hH s61 s62 s59
                          intro Q hQ
                          repeat go_step
                          exact hQ _ _ (Grow.refl _) rfl rfl
                    refine obls_cons (fun f w' hR hH Q0 hQ0 => ?_) ?_
                    · skip
                      have s63 := (sv_at 63 23 hsz f [(63, 23), (59, 19)] rfl).trans (show f 23 = _ from hH.get 0 (63, 23) rfl)
                      have s59 := (sv_at 59 19 hsz f [(63, 23), (59, 19)] rfl).trans (show f 19 = _ from hH.get 1 (59, 19) rfl)
                      first
                        | exact skip_v hsz rfl ((wanted_some (b := true) rfl rfl s59).trans rfl) hQ0 (Grow.refl _) rfl
                        | exact skip_v hsz rfl (wanted_undef rfl rfl s59) hQ0 (Grow.refl _) rfl
                        | refine small_v hsz [(63, _)] ⟨some 1, (Op.load 3 (.tmp 0)), 3, "", #[], none⟩ [_, undef] 1 rfl ((wanted_some (b := false) rfl rfl s59).trans rfl) ⟨s63, trivial⟩ rfl rfl hQ0 ?_
                          clear hQ0 hH s63 s59
                          intro Q hQ
                          repeat go_step
                          exact hQ _ _ (Grow.refl _) rfl rfl
                    refine obls_cons (fun f w' hR hH Q0 hQ0 => ?_) ?_
                    · skip
                      have s1 := sv_off f [(59, 19)] e1 rfl
                      have s59 := (sv_at 59 19 hsz f [(59, 19)] rfl).trans (show f 19 = _ from hH.get 0 (59, 19) rfl)
                      first
                        | exact skip_v hsz rfl ((wanted_some (b := true) rfl rfl s59).trans rfl) hQ0 (Grow.refl _) rfl
                        | exact skip_v hsz rfl (wanted_undef rfl rfl s59) hQ0 (Grow.refl _) rfl
                        | refine small_v hsz [(1, _)] ⟨some 1, (Op.move (.tmp 0)), 23, "", #[], none⟩ [_, undef] 1 rfl ((wanted_some (b := false) rfl rfl s59).trans rfl) ⟨s1, trivial⟩ rfl rfl hQ0 ?_
                          clear hQ0 hH s1 s59
                          intro Q hQ
                          repeat go_step
                          exact hQ _ _ (Grow.refl _) rfl rfl
                    refine obls_cons (fun f w' hR hH Q0 hQ0 => ?_) ?_
                    · skip
                      have s8 := sv_off f [(59, 19)] e8 rfl
                      have s59 := (sv_at 59 19 hsz f [(59, 19)] rfl).trans (show f 19 = _ from hH.get 0 (59, 19) rfl)
                      first
                        | exact skip_v hsz rfl ((wanted_some (b := true) rfl rfl s59).trans rfl) hQ0 (Grow.refl _) rfl
                        | exact skip_v hsz rfl (wanted_undef rfl rfl s59) hQ0 (Grow.refl _) rfl
                        | refine small_v hsz [(8, _)] ⟨some 1, (Op.move (.tmp 0)), 23, "", #[], none⟩ [_, undef] 1 rfl ((wanted_some (b := false) rfl rfl s59).trans rfl) ⟨s8, trivial⟩ rfl rfl hQ0 ?_
                          clear hQ0 hH s8 s59
                          intro Q hQ
                          repeat go_step
                          exact hQ _ _ (Grow.refl _) rfl rfl
                    refine obls_cons (fun f w' hR hH Q0 hQ0 => ?_) ?_
                    · skip
                      have s9 := sv_off f [(59, 19)] e9 rfl
                      have s59 := (sv_at 59 19 hsz f [(59, 19)] rfl).trans (show f 19 = _ from hH.get 0 (59, 19) rfl)
                      first
                        | exact skip_v hsz rfl ((wanted_some (b := true) rfl rfl s59).trans rfl) hQ0 (Grow.refl _) rfl
                        | exact skip_v hsz rfl (wanted_undef rfl rfl s59) hQ0 (Grow.refl _) rfl
                        | refine small_v hsz [(9, _)] ⟨some 1, (Op.move (.tmp 0)), 3, "", #[], none⟩ [_, undef] 1 rfl ((wanted_some (b := false) rfl rfl s59).trans rfl) ⟨s9, trivial⟩ rfl rfl hQ0 ?_
                          clear hQ0 hH s9 s59
                          intro Q hQ
                          repeat go_step
                          exact hQ _ _ (Grow.refl _) rfl rfl
                    refine obls_cons (fun f w' hR hH Q0 hQ0 => ?_) ?_
                    · skip
                      have s66 := (sv_at 66 26 hsz f [(66, 26), (67, 27), (59, 19)] rfl).trans (show f 26 = _ from hH.get 0 (66, 26) rfl)
                      have s67 := (sv_at 67 27 hsz f [(66, 26), (67, 27), (59, 19)] rfl).trans (show f 27 = _ from hH.get 1 (67, 27) rfl)
                      have s59 := (sv_at 59 19 hsz f [(66, 26), (67, 27), (59, 19)] rfl).trans (show f 19 = _ from hH.get 2 (59, 19) rfl)
                      first
                        | exact skip_v hsz rfl ((wanted_some (b := true) rfl rfl s59).trans rfl) hQ0 (Grow.refl _) rfl
                        | exact skip_v hsz rfl (wanted_undef rfl rfl s59) hQ0 (Grow.refl _) rfl
                        | refine small_v hsz [(66, _), (67, _)] ⟨some 2, (Op.indexAddr 23 (.tmp 0) (.tmp 1)), 0, "", #[], none⟩ [_, _, undef] 2 rfl ((wanted_some (b := false) rfl rfl s59).trans rfl) ⟨s66, s67, trivial⟩ rfl rfl hQ0 ?_
                          clear hQ0 hH s66 s67 s59
                          intro Q hQ
                          repeat go_step
                          exact hQ _ _ (Grow.refl _) rfl rfl
                    refine obls_cons (fun f w' hR hH Q0 hQ0 => ?_) ?_
                    · skip
                      have s68 := (sv_at 68 28 hsz f [(68, 28), (59, 19)] rfl).trans (show f 28 = _ from hH.get 0 (68, 28) rfl)
                      have s59 := (sv_at 59 19 hsz f [(68, 28), (59, 19)] rfl).trans (show f 19 = _ from hH.get 1 (59, 19) rfl)
                      first
                        | exact skip_v hsz rfl ((wanted_some (b := true) rfl rfl s59).trans rfl) hQ0 (Grow.refl _) rfl
                        | exact skip_v hsz rfl (wanted_undef rfl rfl s59) hQ0 (Grow.refl _) rfl
                        | refine small_v hsz [(68, _)] ⟨some 1, (Op.load 3 (.tmp 0)), 3, "", #[], none⟩ [_, undef] 1 rfl ((wanted_some (b := false) rfl rfl s59).trans rfl) ⟨s68, trivial⟩ rfl rfl hQ0 ?_
                          clear hQ0 hH s68 s59
                          intro Q hQ
                          repeat go_step
                          exact hQ _ _ (Grow.refl _) rfl rfl
                    refine obls_cons (fun f w' hR hH Q0 hQ0 => ?_) ?_
                    · skip
                      have s65 := (sv_at 65 25 hsz f [(65, 25), (69, 29), (59, 19)] rfl).trans (show f 25 = _ from hH.get 0 (65, 25) rfl)
                      have s69 := (sv_at 69 29 hsz f [(65, 25), (69, 29), (59, 19)] rfl).trans (show f 29 = _ from hH.get 1 (69, 29) rfl)
                      have s59 := (sv_at 59 19 hsz f [(65, 25), (69, 29), (59, 19)] rfl).trans (show f 19 = _ from hH.get 2 (59, 19) rfl)
                      first
                        | exact skip_v hsz rfl ((wanted_some (b := true) rfl rfl s59).trans rfl) hQ0 (Grow.refl _) rfl
                        | exact skip_v hsz rfl (wanted_undef rfl rfl s59) hQ0 (Grow.refl _) rfl
                        | refine small_v hsz [(65, _), (69, _)] ⟨some 2, (Op.indexAddr 23 (.tmp 0) (.tmp 1)), 0, "", #[], none⟩ [_, _, undef] 2 rfl ((wanted_some (b := false) rfl rfl s59).trans rfl) ⟨s65, s69, trivial⟩ rfl rfl hQ0 ?_
                          clear hQ0 hH s65 s69 s59
                          intro Q hQ
                          repeat go_step
                          exact hQ _ _ (Grow.refl _) rfl rfl
                    refine obls_cons (fun f w' hR hH Q0 hQ0 => ?_) ?_
                    · skip
                      have s70 := (sv_at 70 30 hsz f [(70, 30), (59, 19)] rfl).trans (show f 30 = _ from hH.get 0 (70, 30) rfl)
                      have s59 := (sv_at 59 19 hsz f [(70, 30), (59, 19)] rfl).trans (show f 19 = _ from hH.get 1 (59, 19) rfl)
                      first
                        | exact skip_v hsz rfl ((wanted_some (b := true) rfl rfl s59).trans rfl) hQ0 (Grow.refl _) rfl
                        | exact skip_v hsz rfl (wanted_undef rfl rfl s59) hQ0 (Grow.refl _) rfl
                        | refine small_v hsz [(70, _)] ⟨some 1, (Op.load 3 (.tmp 0)), 3, "", #[], none⟩ [_, undef] 1 rfl ((wanted_some (b := false) rfl rfl s59).trans rfl) ⟨s70, trivial⟩ rfl rfl hQ0 ?_
                          clear hQ0 hH s70 s59
                          intro Q hQ
                          repeat go_step
                          exact hQ _ _ (Grow.refl _) rfl rfl
                    refine obls_cons (fun f w' hR hH Q0 hQ0 => ?_) ?_
                    · skip
                      have s60 := (sv_at 60 20 hsz f [(60, 20), (64, 24), (71, 31), (59, 19)] rfl).trans (show f 20 = _ from hH.get 0 (60, 20) rfl)
                      have s64 := (sv_at 64 24 hsz f [(60, 20), (64, 24), (71, 31), (59, 19)] rfl).trans (show f 24 = _ from hH.get 1 (64, 24) rfl)
                      have s71 := (sv_at 71 31 hsz f [(60, 20), (64, 24), (71, 31), (59, 19)] rfl).trans (show f 31 = _ from hH.get 2 (71, 31) rfl)
                      have s59 := (sv_at 59 19 hsz f [(60, 20), (64, 24), (71, 31), (59, 19)] rfl).trans (show f 19 = _ from hH.get 3 (59, 19) rfl)
                      first
                        | exact skip_v hsz rfl ((wanted_some (b := true) rfl rfl s59).trans rfl) hQ0 (Grow.refl _) rfl
                        | exact skip_v hsz rfl (wanted_undef rfl rfl s59) hQ0 (Grow.refl _) rfl
                        | refine small_v hsz [(60, _), (64, _), (71, _)] ⟨some 3, (Op.call (Call.mk (Callee.value (Operand.func 31)) #[(.tmp 0), (.tmp 1), (.tmp 2)] #[25, 3, 3])), 4, "", #[], none⟩ [_, _, _, undef] 3 rfl ((wanted_some (b := false) rfl rfl s59).trans rfl) ⟨s60, s64, s71, trivial⟩ rfl (ren_call rfl rfl) hQ0 ?_
                          clear hQ0 hH s60 s64 s71 s59
                          intro Q hQ
                          repeat go_step
                          exact hQ _ _ (Grow.refl _) rfl rfl
                    refine obls_cons (fun f w' hR hH Q0 hQ0 => ?_) ?_
                    · skip
                      have s59 := (sv_at 59 19 hsz f [(59, 19), (72, 32), (45, 5)] rfl).trans (show f 19 = _ from hH.get 0 (59, 19) rfl)
                      have s72 := (sv_at 72 32 hsz f [(59, 19), (72, 32), (45, 5)] rfl).trans (show f 32 = _ from hH.get 1 (72, 32) rfl)
                      have s45 := (sv_at 45 5 hsz f [(59, 19), (72, 32), (45, 5)] rfl).trans (show f 5 = _ from hH.get 2 (45, 5) rfl)
                      first
                        | exact skip_v hsz rfl ((wanted_some (b := false) rfl rfl s45).trans rfl) hQ0 (Grow.refl _) rfl
                        | exact skip_v hsz rfl (wanted_undef rfl rfl s45) hQ0 (Grow.refl _) rfl
                        | refine small_v hsz [(59, _), (72, _)] ⟨some 2, (Op.pick (.tmp 0) (Operand.const (Value.bool true)) (.tmp 1)), 4, "", #[], none⟩ [_, _, undef] 2 rfl ((wanted_some (b := true) rfl rfl s45).trans rfl) ⟨s59, s72, trivial⟩ rfl rfl hQ0 ?_
                          clear hQ0 hH s59 s72 s45
                          intro Q hQ
                          repeat go_step
                          exact hQ _ _ (Grow.refl _) rfl rfl
                    refine obls_cons (fun f w' hR hH Q0 hQ0 => ?_) ?_
                    · skip
                      have s45 := (sv_at 45 5 hsz f [(45, 5), (73, 33)] rfl).trans (show f 5 = _ from hH.get 0 (45, 5) rfl)
                      have s73 := (sv_at 73 33 hsz f [(45, 5), (73, 33)] rfl).trans (show f 33 = _ from hH.get 1 (73, 33) rfl)
                      refine small_v hsz [(45, _), (73, _)] ⟨some 2, (Op.pick (.tmp 0) (.tmp 1) (Operand.const (Value.bool false))), 4, "", #[], none⟩ [_, _, undef] 2 rfl rfl ⟨s45, s73, trivial⟩ rfl rfl hQ0 ?_
                      clear hQ0 hH s45 s73
                      intro Q hQ
                      repeat go_step
                      exact hQ _ _ (Grow.refl _) rfl rfl
                    exact obls_nil
                  case mono => exact ⟨Mono.veq _, Mono.veq _, Mono.veq _, Mono.veq _, Mono.veq _, Mono.veq _, Mono.veq _, Mono.veq _, Mono.veq _, Mono.veq _, Mono.veq _, Mono.veq _, Mono.veq _, Mono.veq _, Mono.veq _, Mono.veq _, Mono.veq _, Mono.veq _, Mono.veq _, Mono.veq _, Mono.veq _, Mono.veq _, Mono.veq _, Mono.veq _, Mono.veq _, Mono.veq _, Mono.veq _, Mono.veq _, Mono.veq _, Mono.veq _, Mono.veq _, Mono.veq _, Mono.veq _, Mono.veq _, Mono.veq _, trivial⟩
                  case tail =>
                    intro f w' hR hH
                    have q34 := hH.get 34 (74, 34) rfl
                    clear hH
                    refine wpList_merge (idx := [none, none, none, none, none, none, none, none, none, none, none, none, none, none, none, none, none, none, none, none, none, none, none, none, none, none, none, none, none, none, none, none, none, none, none, none, none, none, none, none, some 0, some 1, some 2, some 3, some 4, some 5, some 6, some 7, some 8, some 9, some 10, some 11, some 12, some 13, some 14, some 15, some 16, some 17, some 18, some 19, some 20, some 21, some 22, some 23, some 24, some 25, some 26, some 27, some 28, some 29, some 30, some 31, some 32, some 33, some 34, none, none, none, none, none, none, none, none, none, none, none, none, none, none, none, none]) (by kernel_rfl) ?_; show wpList _ _ _ [] ⟨#[_, _, _, _, _, _, _, _, _, _, _, _, _, _, _, _, _, _, _, _, _, _, _, _, _, _, _, _, _, _, _, _, _, _, _, _, _, _, _, _, f 0, f 1, f 2, f 3, f 4, f 5, f 6, f 7, f 8, f 9, f 10, f 11, f 12, f 13, f 14, f 15, f 16, f 17, f 18, f 19, f 20, f 21, f 22, f 23, f 24, f 25, f 26, f 27, f 28, f 29, f 30, f 31, f 32, f 33, f 34, _, _, _, _, _, _, _, _, _, _, _, _, _, _, _, _], _⟩ _
                    rw [show f 34 = _ from q34]
                    clear q34
                    have HI9 := Lib.hid (HIN.out.grow HWA.out hR)
                    clear hR
                    go_wp2_with fail
                    go_roundw
                    case rel => exact ⟨k + 1, lo, o, S, _, by have := HLK.out; omega, HLA.out, by go_num, rfl, HI9.out, HSD.out.skip HX.out fun h => HS.out⟩
                    case measure => have := HLK.out; simp [intOf] <;> omega
              · obtain rfl : k = n := by omega
                have t2 : decide (k < k) = false := decide_eq_false hlk
                obtain ⟨A8, c8, rfl, -, -, -⟩ := own_form hin.own
                have HIN := Lib.hid hin
                have HSD := Lib.hid (hsd.next (by rw [HLL.out]; exact Nat.le_refl _))
                have HLA := Lib.hid hla
                have hat9 : at_ < k := by omega
                clear hin hsd hlk hk hlo hla
                go_wp2_with fail
                go_roundw
                case rel => exact ⟨at_ + 1, lo, o, S, _, by have := HLA.out; omega, by go_num, rfl, HIN.out, HSD.out⟩
                case measure => simp [intOf] <;> omega
          · have ta : decide (at_ < lo) = false := decide_eq_false hla
            have ta' : decide ((at_ : Int) < (lo : Int)) = false := decide_eq_false (by omega)
            have hperm := hsd.perm HSYM.out (by rw [← hin.len]; omega) HSN.out
            have hlt9 : i < n := HLT.out
            have ho8 : wb.ownsRow wa.heap.size 3 1 v8 o.length (o.map nv) := by rw [← hin.len]; exact hin.own
            have h0o : 0 < o.length := (List.getElem?_eq_some_iff.1 hsd.fst).1
            have hso := sort_any wb wa.heap.size v8 o (sideL N l i) ho8 h0o (by rw [← hin.len]; omega) hperm (sideL_lt N l i)
            rw [← hin.len] at hso
            obtain ⟨A8, c8, rfl, -, -, -⟩ := own_form hin.own
            have HSO := Lib.hid hso
            have HIN := Lib.hid hin
            have HSD := Lib.hid hsd
            have HAL := Lib.hid (fun k hk => hsd.all HSYM.out (by rw [← hin.len]; omega) HSN.out (k := k) hk)
            have HPL : Hid (lo = (sideL N l i).length) := Lib.hid (by rw [hperm.length_eq]; exact hin.len)
            clear hperm ho8 h0o hso hin hsd hat hla hlo hlt9
            go_wp2_with fail
            refine HSO.out.mono ?_
            rintro e w5 ⟨rfl, ho5, hk5⟩
            have hkB : Keep w.heap.size (fun j => (Value.slice A8 lo c8).ownBlock ≠ some j) wb w5 := hk5 w.heap.size (fun j hj => Nat.le_trans HOUT.out.g.size (own_base ho5 j hj))
            have hw5 : Keep w.heap.size (fun j => j ≠ bs ∧ j < wa.heap.size) wa w5 := HIN.out.kp.trans (hkB.less fun j hj e => by have := own_base ho5 j e; have := hj.2; omega)
            have hs5 : Blk w5 bs 3 (seenL n (seenTo N l (i + 1))) := by
              rw [← seenL_ext fun k hk => HAL.out k (by rw [HLL.out]; exact hk)]
              exact hkB.blk HIN.out.seen fun e => by have := own_base ho5 bs e; have := HBR.out; omega
            have hiv : IV w5 bs (.slice A8 lo c8) (sideL N l i) := by
              obtain ⟨A9, c9, e9, h1, h2, h3⟩ := own_form ho5
              rw [HPL.out, Nat.mul_one] at h3
              refine ⟨A8, c8, by rw [HPL.out], by injection e9 with _ _ e9; rw [← HPL.out, e9]; exact h1, by injection e9 with _ _ e9; rw [e9]; exact h2, by injection e9 with e9; rw [e9]; exact h3, fun hn ad had => ?_⟩
              rcases ho5.2 with ⟨e8, -⟩ | ⟨g', cap, cur, e8, hb, h5, -⟩
              · injection e8 with e8; rw [e8] at had; cases had
              · injection e8 with e8
                rw [e8] at had
                injection had with had
                subst had
                exact ⟨Nat.lt_of_lt_of_le HBR.out hb, cur.toList, by unfold Blk; rw [h5]⟩
            have hvo : ∀ k, v.ownBlock = some k → k ≠ bs ∧ k < wa.heap.size := fun k hk => by
              refine ⟨fun e => ?_, ltOwn HOUT.out.own k hk⟩
              rcases HOUT.out.own.2 with ⟨e8, -⟩ | ⟨g', cap, cur, e8, -, h5, -⟩
              · rw [e8] at hk; cases hk
              · rw [e8] at hk
                injection hk with hk
                have hk : g' = k := hk
                subst hk; subst e
                have h6 := HOUT.out.seen
                unfold Blk at h6
                rw [h5] at h6
                injection h6 with h6
                injection h6 with _ h6 _
                exact absurd h6 (by decide)
            have hov : w5.ownsRow w.heap.size TI 1 v m vs := hw5.own HOUT.out.own hvo
            have HOV := Lib.hid hov
            have HVO := Lib.hid hvo
            have HW5 := Lib.hid hw5
            have HS5 := Lib.hid hs5
            have HIV := Lib.hid hiv
            have hmn0 := List.length_filter_le (fun j => (List.range j).all fun f => !conn N l f j) (List.range i)
            rw [List.length_range] at hmn0
            have hmn : m ≤ i := by rw [HOUT.out.len]; exact hmn0
            have HMN := Lib.hid hmn
            obtain ⟨Av, cv, rfl, -, -, -⟩ := own_form hov
            have gq : Grow w5 (w5.alloc (.cells #[.slice A8 lo c8] TI)) := Grow.alloc _ _
            have hszq : w.heap.size ≤ (w5.alloc (.cells #[.slice A8 lo c8] TI)).heap.size := Nat.le_trans (Nat.le_trans HOUT.out.g.size hw5.size) gq.size
            have HGQ := Lib.hid gq
            have HSZQ := Lib.hid hszq
            clear ho5 hk5 hkB hw5 hs5 hiv hvo hov hmn hmn0 gq hszq HSO
            go_wp2_with (at_builtin; refine wpList_append_row rfl _ _ _ rfl w.heap.size TI _ _ 1 24 Try.underlying67 iL iLz iLs iLb rfl (by decide) (.slice Av m cv) m vs rfl (own_grow HOV.out HGQ.out) (some ⟨w5.heap.size, 0, none⟩) 1 1 [.slice A8 lo c8] rfl (Row.new w5 [.slice A8 lo c8] TI (0, 0)) (by intro u hu; rw [List.mem_singleton.1 hu]; rfl) (by have := HMN.out; have := HLT.out; unfold maxLen; omega) (by have := HMN.out; have := HLT.out; omega) HSZQ.out ?_; intro v1 w1 hown1 hgb1 hnb1; obtain ⟨Aw, cw, rfl, -, -, -⟩ := own_form hown1)
            have hgW : Grow w (w5.alloc (.cells #[.slice A8 lo c8] TI)) := (HW5.out.grow HOUT.out.g rfl).trans HGQ.out
            have hos2 : OutS w bs n (i + 1) N l (.slice Aw (m + 1) cw) (m + 1) (vs ++ [.slice A8 lo c8]) w1 := by
              have hfn := firstsTo_new HSN.out
              have hkk : ∀ k cs, Blk (w5.alloc (.cells #[.slice A8 lo c8] TI)) k 3 cs → w1.heap[k]? = (w5.alloc (.cells #[.slice A8 lo c8] TI)).heap[k]? := fun k cs hb => hgb1.block k hb.lt fun e => by
                rcases (own_grow HOV.out HGQ.out).2 with ⟨e8, -⟩ | ⟨g', cap, cur, e8, -, h5, -⟩
                · rw [e8] at e; cases e
                · rw [e8] at e
                  injection e with e
                  have e : k = g' := e
                  subst e
                  unfold Blk at hb
                  rw [h5] at hb
                  injection hb with hb
                  injection hb with _ hb _
                  exact absurd hb (by decide)
              have hsq := HS5.out.grow HGQ.out
              refine ⟨grow_by hgW hgb1 (own_base HOV.out), (hkk bs _ hsq).trans hsq, hown1, by rw [hfn, List.length_append, ← HOUT.out.len]; rfl, fun j u f hu hf => ?_⟩
              have hvl : vs.length = m := by have := HOV.out.1; rwa [Nat.mul_one] at this
              rw [hfn] at hf
              rcases Nat.lt_or_ge j m with hj | hj
              · rw [List.getElem?_append_left (by omega)] at hu
                rw [List.getElem?_append_left (by rw [← HOUT.out.len]; exact hj)] at hf
                have h1 := HOUT.out.ivs j u f hu hf
                have h2 : IV w5 bs u (sideL N l f) := h1.keep fun k cs hb hbk => HW5.out.2 k ⟨by omega, hbk.lt⟩ hbk.lt
                exact (h2.grow HGQ.out).keep fun k cs _ hb => hkk k cs hb
              · rw [List.getElem?_append_right (by omega)] at hu
                rw [List.getElem?_append_right (by rw [← HOUT.out.len]; exact hj)] at hf
                have hj0 : j = m := by
                  have := (List.getElem?_eq_some_iff.1 hu).1
                  simp at this
                  omega
                subst hj0
                rw [hvl, Nat.sub_self, List.getElem?_cons_zero, Option.some.injEq] at hu
                rw [← HOUT.out.len, Nat.sub_self, List.getElem?_cons_zero, Option.some.injEq] at hf
                subst hu; subst hf
                exact (HIV.out.grow HGQ.out).keep fun k cs _ hb => hkk k cs hb
            have HO2 := Lib.hid hos2
            clear hown1 hgb1 hnb1 hgW hos2
            go_roundw
            case rel => exact ⟨i + 1, m + 1, _, _, by have := HLT.out; omega, by go_num, rfl, HO2.out⟩
            case measure => have := HLT.out; simp [intOf] <;> omega
    · obtain rfl : i = n := by omega
      have t1 : decide (i < i) = false := decide_eq_false hlt
      have hm : m = mf := by have h1 := hos.len; rw [HMF.out, ← firstsTo_end, HLL.out]; exact h1
      subst hm
      have HO := Lib.hid hos
      obtain ⟨Av, cv, rfl, -, -, -⟩ := own_form hos.own
      clear hos hlt hi
      go_wp2_with fail
      go_ret
      exact ⟨_, vs, rfl, HO.out⟩
end Go.Proofs.Ytbcifodifadoiaa.bk
