/- The walk of NetPlays. -/
import Derived.Test.YtmekdhlcflielaaNtPl
import Derived.Test.YtmekdhlcflielaaNtQ
namespace Go.Proofs.Ytmekdhlcflielaa.ntL
open Go Go.RowKit Go.Par Go.Kit Go.Proofs.Ytmekdhlcflielaa.mpA Go.Proofs.Ytmekdhlcflielaa.cl Go.Proofs.Ytmekdhlcflielaa.nt

theorem undAp : Try.prog.underlying TA = some (.struct (Try.prog.fieldsOf TA)) := by kernel_rfl
theorem sizeAp : (Try.prog.info? TA).map (·.size) = some 7 := by kernel_rfl
/-- what NetPlays keeps from round to round -/
structure PlI (w : World) (B g bm N cnt b6 : Nat) (lv : Value) (ps : List PkR) (C : Cuts) (cs : List (Nat × Nat)) (A1 : Option Addr) (l1 c1 : Nat) (A2 : Option Addr) (l2 c2 : Nat) : Prop where
  net : NetI w B g bm N cnt lv ps C
  bx : Blk w b6 TR [.int .i64 (N : Int), .slice A1 l1 c1, .slice A2 l2 c2]
  ref : RefN w (.slice A1 l1 c1) (.slice A2 l2 c2) (ps.map pkOf) cs
  rc : RelC C cs
  fr : From1 (ps.map pkOf)
  b6B : B ≤ b6
theorem PlI.grow {w w' : World} {B g bm N cnt b6 : Nat} {lv : Value} {ps : List PkR} {C : Cuts} {cs : List (Nat × Nat)} {A1 A2 : Option Addr} {l1 c1 l2 c2 : Nat} (h : PlI w B g bm N cnt b6 lv ps C cs A1 l1 c1 A2 l2 c2) (hg : Grow w w') : PlI w' B g bm N cnt b6 lv ps C cs A1 l1 c1 A2 l2 c2 :=
  ⟨h.net.grow hg, h.bx.grow hg, h.ref.grow hg, h.rc, h.fr, h.b6B⟩
theorem PlI.len {w : World} {B g bm N cnt b6 : Nat} {lv : Value} {ps : List PkR} {C : Cuts} {cs : List (Nat × Nat)} {A1 A2 : Option Addr} {l1 c1 l2 c2 : Nat} (h : PlI w B g bm N cnt b6 lv ps C cs A1 l1 c1 A2 l2 c2) : l1 = ps.length := by
  obtain ⟨A, c, e, -⟩ := h.ref.l
  injection e with _ e _
  rw [e, List.length_map]
/-- what told hands back: a net, an error, a packet -/
def T6 (n : Nat) (ps : List Pk) (cs : List (Nat × Nat)) (er : Nat) (p : Pk) : Value → Nat → World → Prop := fun u b w =>
  ∃ A1 l1 c1 A2 l2 c2, u = .tuple #[.agg #[.int .i64 (n : Int), .slice A1 l1 c1, .slice A2 l2 c2], .int .i64 (er : Int), .agg #[.int .u8 (p.fr : Int), .int .u8 (p.to : Int), .string (str p.b), .bool p.sp]] ∧ (b = 0 → RefN w (.slice A1 l1 c1) (.slice A2 l2 c2) ps cs)
def N7 (n : Nat) (ps : List Pk) (cs : List (Nat × Nat)) : Value → Nat → World → Prop := fun u b w =>
  ∃ A1 l1 c1 A2 l2 c2, u = .agg #[.int .i64 (n : Int), .slice A1 l1 c1, .slice A2 l2 c2] ∧ (b = 0 → RefN w (.slice A1 l1 c1) (.slice A2 l2 c2) ps cs)
def P10 (B n : Nat) (ps : List Pk) (cs : List (Nat × Nat)) : Value → Nat → World → Prop := fun u b w =>
  ∃ g, u = .pointer (some ⟨g, 0, none⟩) ∧ B ≤ g ∧ (b = 0 → Blk w g TR zR) ∧ (b = 1 → ∃ A1 l1 c1 A2 l2 c2, Blk w g TR [.int .i64 (n : Int), .slice A1 l1 c1, .slice A2 l2 c2] ∧ RefN w (.slice A1 l1 c1) (.slice A2 l2 c2) ps cs)
def P11 (B : Nat) : Value → Nat → World → Prop := fun u _ w => ∃ g, u = .pointer (some ⟨g, 0, none⟩) ∧ B ≤ g ∧ Blk w g TP zP
/-- the net's box is stored -/
def Rp8 (n : Nat) (ps : List Pk) (cs : List (Nat × Nat)) (f : Nat → Value) (w w' : World) : Prop :=
  ∃ g A1 l1 c1 A2 l2 c2, f 10 = .pointer (some ⟨g, 0, none⟩) ∧ Blk w g TR zR ∧ w' = w.setRow g [.int .i64 (n : Int), .slice A1 l1 c1, .slice A2 l2 c2].toArray ∧ RefN w' (.slice A1 l1 c1) (.slice A2 l2 c2) ps cs
theorem T6.mono {n n' : Nat} {ps ps' : List Pk} {cs cs' : List (Nat × Nat)} {er : Nat} {p : Pk} {i : Nat} : Mono2 Grow (Rp8 n' ps' cs') i (T6 n ps cs er p) :=
  ⟨fun _ _ _ _ ⟨A1, l1, c1, A2, l2, c2, e, h⟩ hg => ⟨A1, l1, c1, A2, l2, c2, e, fun hb => (h hb).grow hg⟩, fun _ _ _ _ ⟨A1, l1, c1, A2, l2, c2, e, _⟩ _ => ⟨A1, l1, c1, A2, l2, c2, e, fun hb => absurd hb (by omega)⟩⟩
theorem N7.mono {n n' : Nat} {ps ps' : List Pk} {cs cs' : List (Nat × Nat)} {i : Nat} : Mono2 Grow (Rp8 n' ps' cs') i (N7 n ps cs) :=
  ⟨fun _ _ _ _ ⟨A1, l1, c1, A2, l2, c2, e, h⟩ hg => ⟨A1, l1, c1, A2, l2, c2, e, fun hb => (h hb).grow hg⟩, fun _ _ _ _ ⟨A1, l1, c1, A2, l2, c2, e, _⟩ _ => ⟨A1, l1, c1, A2, l2, c2, e, fun hb => absurd hb (by omega)⟩⟩
theorem P10.mono {B n : Nat} {ps : List Pk} {cs : List (Nat × Nat)} : Mono2 Grow (Rp8 n ps cs) 10 (P10 B n ps cs) :=
  ⟨fun _ _ _ _ ⟨g, e, hB, h0, h1⟩ hg => ⟨g, e, hB, fun hb => (h0 hb).grow hg, fun hb => let ⟨A1, l1, c1, A2, l2, c2, h2, h3⟩ := h1 hb; ⟨A1, l1, c1, A2, l2, c2, h2.grow hg, h3.grow hg⟩⟩,
   fun f b _ _ ⟨g, e, hB, _, _⟩ ⟨g', A1, l1, c1, A2, l2, c2, e', hb, hw, hr⟩ => ⟨g, e, hB, fun h => absurd h (by omega), fun _ => ⟨A1, l1, c1, A2, l2, c2, by
     rw [e] at e'
     injection e' with e'
     injection e' with e'
     injection e' with e'
     subst e'
     rw [hw]
     exact hb.setRow _, hr⟩⟩⟩
theorem P11.mono {B n : Nat} {ps : List Pk} {cs : List (Nat × Nat)} {i : Nat} : Mono2 Grow (Rp8 n ps cs) i (P11 B) :=
  ⟨fun _ _ _ _ ⟨g, e, hB, h⟩ hg => ⟨g, e, hB, h.grow hg⟩, fun _ _ _ _ ⟨g, e, hB, h⟩ ⟨g', A1, l1, c1, A2, l2, c2, _, hb, hw, _⟩ => ⟨g, e, hB, by
    rw [hw]
    exact h.farRow (fun e2 => absurd (Blk.ty_eq (e2 ▸ h) hb) (by decide)) _⟩⟩
set_option maxRecDepth 100000 in
set_option maxHeartbeats 8000000 in
theorem plays_walk (x : Int) (hlo : -9223372036854775808 ≤ x) (hhi : x ≤ 9223372036854775807) (A : Option Addr) (n c : Nat) (ac : List Act) (w : World) (ha : Acts w A n ac) (hn : n ≤ maxLen) :
    Calls Try.prog 4 #[.int .i64 x, .slice A n c] w fun e w' => e = .returned (.bool true) ∧ Grow w w' := by
  have HF := Lib.hid (few_any A n c ac w w ha (Grow.refl w) hn)
  have HA := Lib.hid ha
  rcases hfew : fewB ac with _ | _
  · have HWK := Lib.hid (works_any w)
    rw [hfew] at HF
    clear ha hfew hlo hhi
    unfold maxLen at hn
    go_enter Try.func4, Try.ntmps4
    go_wp2_with fail
    refine HF.out.mono ?_
    rintro e w' ⟨rfl, rfl⟩
    go_wp2_with fail
    refine HWK.out.mono ?_
    rintro e w1 ⟨rfl, hg1⟩
    go_wp2_with fail
    go_ret
    exact ⟨rfl, hg1⟩
  · have HFW := Lib.hid (few_get hfew)
    rw [hfew] at HF
    have hn60 : n ≤ 60 := by have := HFW.out.1; have := HA.out.1; omega
    obtain ⟨N, hN⟩ : ∃ N, N = clamp64 x := ⟨_, rfl⟩
    have HNW := Lib.hid (new_any x w)
    have HRN : Hid (∀ w, Calls Try.prog 15 #[.int .i64 x] w fun e w' => e = .returned (.agg #[.int .i64 (N : Int), .slice none 0 0, .slice none 0 0]) ∧ Grow w w') := Lib.hid fun w => rnew_any w x hlo hhi N (by rw [hN]; unfold clamp64; omega)
    rw [← hN] at HNW
    clear ha hfew hn hlo hhi hN
    go_enter Try.func4, Try.ntmps4
    go_wp2_with fail
    refine HF.out.mono ?_
    rintro e w' ⟨rfl, rfl⟩
    go_wp2_with fail
    refine HNW.out.mono ?_
    rintro e w1 ⟨g, bm, rfl, hn1, hg1⟩
    go_wp2_with fail
    refine (HRN.out w1).mono ?_
    rintro e w2 ⟨rfl, hg2⟩
    obtain ⟨b6, hb6⟩ : ∃ b, b = w2.heap.size := ⟨_, rfl⟩
    obtain ⟨W3, hW3⟩ : ∃ W, W = (w2.alloc (.cells zR.toArray TR)).setRow b6 [.int .i64 (N : Int), .slice none 0 0, .slice none 0 0].toArray := ⟨_, rfl⟩
    have hb2 : Blk (w2.alloc (.cells zR.toArray TR)) b6 TR zR := Blk.new _ _ _ _ rfl hb6
    have hg3 : Grow w2 W3 := by rw [hW3]; exact Grow.setRow (Grow.alloc _ _) (by omega) _
    have hpl : PlI W3 w.heap.size g bm N 0 b6 (.slice none 0 0) [] (fun _ _ => false) [] none 0 0 none 0 0 :=
      ⟨hn1.grow (hg2.trans hg3), by rw [hW3]; exact hb2.setRow _, ⟨LV.nil _ _ _, LV.nil _ _ _⟩, RelC.nil, (by intro p hp; cases hp), by have := (hg1.trans hg2).size; omega⟩
    have HPL := Lib.hid hpl
    have HB2 := Lib.hid hb2
    have HB6 := Lib.hid hb6
    have HW3 := Lib.hid hW3
    have HG3 := Lib.hid (hg1.trans (hg2.trans hg3))
    clear hn1 hg1 hg2 hb6 hW3 hb2 hg3 hpl HNW HRN HF
    go_wp2_with (rw [← HB6.out]; refine store_blk rfl _ _ _ rfl b6 [.int .i64 (N : Int), .slice none 0 0, .slice none 0 0] rfl rfl _ _ HB2.out (by rw [sizeR]; rfl) rfl rfl ?_; rw [← HW3.out])
    go_loopw [7] (fun i' wr => ∃ (k cnt : Nat) (lv : Value) (ps : List PkR) (C : Cuts) (cs : List (Nat × Nat)) (A1 : Option Addr) (l1 c1 : Nat) (A2 : Option Addr) (l2 c2 : Nat), k ≤ n ∧ i' = .int .i64 (k : Int) ∧ PlI wr w.heap.size g bm N cnt b6 lv ps C cs A1 l1 c1 A2 l2 c2 ∧ cnt ≤ k ∧ cs.length ≤ k ∧ Grow w wr) (fun i' _ => n - (intOf i').toNat)
    case atStart => exact ⟨0, 0, _, [], _, [], _, _, _, _, _, _, by omega, rfl, HPL.out, by omega, by simp, HG3.out⟩
    case round =>
      clear HPL HG3 HB2 HW3
      obtain ⟨k, cnt, lv, ps, C, cs, A1, l1, c1, A2, l2, c2, hkl, rfl, hI, hcn, hcs, hg⟩ := hrel
      by_cases hlt : k < n
      · obtain ⟨b, off, a, A', n', c', rfl, hx, hc, b1, b2, b3, b4⟩ := HA.out.at_ (Grow.refl w) hlt
        have HX := Lib.hid hx
        have HC : Hid (∀ w', Grow w w' → ∀ i u, (actRow (.slice A' n' c') a)[i]? = some u → w'.cell? ⟨b, off + k * 7 + i, none⟩ = some u) := Lib.hid fun w' hg i u hu => hg.cell (hc i u hu)
        have HB := Lib.hid b3
        have HOK := Lib.hid b4
        have HI := Lib.hid hI
        have HG := Lib.hid hg
        have HN := Lib.hid (And.intro hcn (And.intro hcs (And.intro hlt (And.intro b1 b2))))
        have t1 : decide (k < n) = true := decide_eq_true hlt
        have t2 : decide ((k : Int) < (n : Int)) = true := decide_eq_true (by omega)
        have hll : a.l.length ≤ 1000 := by have := HFW.out.2 a (List.mem_of_getElem? hx); omega
        have HDO := Lib.hid (do_all hI.net (by omega) a b4 A' n' c' (Sl.mk (b3.grow hg) b1 b2) hll)
        have hgrow := HG.out
        have hcw := HC.out wr HG.out
        have HCW := Lib.hid hcw
        clear hx hc b1 b2 b3 b4 hI hg hcn hcs hcw hgrow
        go_wp2_with (refine load_cells rfl _ _ rfl b (off + k * 7) rfl _ _ HCW.out undAp rfl (by rw [sizeAp]; rfl) ?_)
        refine HDO.out.mono ?_
        rintro e w5 ⟨⟨u5, rfl, hbv⟩, hnx⟩
        obtain ⟨⟨L', C', er, pk⟩, hd⟩ : ∃ d, d = doS N C (ps.map pkOf) a := ⟨_, rfl⟩
        rw [← hd] at hbv hnx ⊢
        dsimp only at hbv hnx ⊢
        obtain ⟨cnt', lv', ps1, hct, hn5, hps1, hk5, -⟩ := hnx
        have hkn := HI.out.net.off HI.out.bx (by decide) (by decide)
        have hbx5 := hk5.blk HI.out.bx hkn
        have href5 := HI.out.ref.keep hk5 (fun g' cs' hb => HI.out.net.off hb (by decide) (by decide)) (fun g' cs' hb => HI.out.net.off hb (by decide) (by decide))
        have hg5 := hk5.grow HG.out rfl
        obtain ⟨A5, c5, rfl, hbv5⟩ := hbv
        obtain ⟨n5, hn5'⟩ : ∃ q, q = pk.b.length := ⟨_, rfl⟩
        obtain ⟨b9, hb9⟩ : ∃ b, b = w5.heap.size := ⟨_, rfl⟩
        obtain ⟨W7, hW7⟩ : ∃ W, W = w5.alloc (.cells #[.int .u8 (pk.fr : Int), .int .u8 (pk.to : Int), .slice A5 n5 c5, .bool pk.sp] TK) := ⟨_, rfl⟩
        have hg57 : Grow w5 W7 := by rw [hW7]; exact Grow.alloc _ _
        have hb97 : Blk W7 b9 TK [.int .u8 (pk.fr : Int), .int .u8 (pk.to : Int), .slice A5 n5 c5, .bool pk.sp] := by rw [hW7]; exact Blk.new _ _ _ _ rfl hb9
        have HNET := Lib.hid (hn5.grow hg57)
        have HBX := Lib.hid (hbx5.grow hg57)
        have HREF := Lib.hid (href5.grow hg57)
        have HG7 := Lib.hid (hg5.trans hg57)
        have HBV : Hid (BV W7 (.slice A5 n5 c5) pk.b) := Lib.hid (BV.grow ⟨A5, c5, by rw [hn5'], hbv5⟩ hg57)
        have HD := Lib.hid hd
        have HPS1 := Lib.hid hps1
        have HCT := Lib.hid hct
        have HB9 := Lib.hid hb9
        have HB97 := Lib.hid hb97
        have HW7 := Lib.hid hW7
        have HN5 := Lib.hid hn5'
        clear hd hct hn5 hps1 hk5 hkn hbx5 href5 hg5 hbv5 hb9 hW7 hg57 hb97 HDO
        rw [← hn5']
        clear hn5'
        go_wp2_with fail
        rw [← HB9.out, ← HW7.out]
        have hstep := HI.out.rc.step N (ps.map pkOf) a
        rw [← HD.out] at hstep
        obtain ⟨cs', hcs'⟩ : ∃ q, q = (toldS N cs (ps.map pkOf) a).2.1 := ⟨_, rfl⟩
        have htd : toldS N cs (ps.map pkOf) a = (L', cs', er, pk) := by
          rw [hcs']
          exact Prod.ext hstep.1.symm (Prod.ext rfl hstep.2.1.symm)
        have HRC : Hid (RelC C' cs' ∧ cs'.length ≤ cs.length + 1 ∧ From1 L') := Lib.hid ⟨by rw [hcs']; exact hstep.2.2.1, by rw [hcs']; exact hstep.2.2.2, by
          have := HI.out.fr.step N C a
          rw [← HD.out] at this
          exact this⟩
        have HTD : Hid (∀ w', Grow W7 w' → Calls Try.prog 17 #[.agg #[.int .i64 (N : Int), .slice A1 l1 c1, .slice A2 l2 c2], .agg (actRow (.slice A' n' c') a).toArray] w' fun e w9 => (∃ A1 l1 c1 A2 l2 c2, e = .returned (.tuple #[.agg #[.int .i64 (N : Int), .slice A1 l1 c1, .slice A2 l2 c2], .int .i64 (er : Int), .agg #[.int .u8 (pk.fr : Int), .int .u8 (pk.to : Int), .string (str pk.b), .bool pk.sp]]) ∧ RefN w9 (.slice A1 l1 c1) (.slice A2 l2 c2) L' cs') ∧ Grow w' w9) := Lib.hid fun w' hg => by
          have h9 := told_any w' N _ _ (ps.map pkOf) cs (HREF.out.grow hg) (by rw [List.length_map]; exact HI.out.net.len) (by have := HN.out.2.1; omega) (fun p hp => by
            obtain ⟨q, hq, rfl⟩ := List.mem_map.1 hp
            have := HI.out.net.ok q hq
            exact ⟨this.fr, this.to, this.len⟩) a HOK.out A' n' c' (HB.out.grow (HG7.out.trans hg))
          rw [htd] at h9
          exact h9
        clear hstep hcs' htd HCW
        apply (fun (v0 v1 v2 v3 v4 v8 v9 v13 : Value) mono draw obl tail => wp_region_piv (I := fun _ => Grow W7) (G := Grow) (Rp := Rp8 N L' cs') (Φ := phi2 [veq2 v0, veq2 v1, veq2 v2, veq2 v3, veq2 v4, (T6 N L' cs' er pk), (T6 N L' cs' er pk), (N7 N L' cs'), veq2 v8, veq2 v9, (P10 W7.heap.size N L' cs'), (P11 W7.heap.size), (veq2 undef), veq2 v13]) (m := 14) (ps := [12]) (qs := [(0, 0, false), (0, 0, false), (0, 0, false), (0, 0, false), (0, 0, false), (0, 0, false), (0, 0, false), (0, 0, false), (0, 1, false), (0, 1, false), (0, 0, false), (0, 0, false), (0, 0, true), (1, 1, false)]) (dls := [[], [], [], [(43, 1), (44, 2)], [(45, 3)], [(42, 0), (46, 4)], [(47, 5)], [(41, 6)], [(41, 6)], [(41, 6)], [], [], [(10, 10), (48, 7)], [(49, 8)]]) (ds := [42, 43, 44, 45, 46, 47, 41, 48, 49, 50, 10, 12, 174, 11]) (by kernel_rfl) (by kernel_rfl) (by kernel_rfl) (by decide) rfl rfl draw (mono2_phi mono) (piv2_phi mono) obl tail)
        case obl =>
          refine obls2_cons (fun b hb1 hb2 f w' hI hH Q hQ => ?_) ?_
          · skip
            obtain rfl : b = 0 := by omega
            clear hb1 hb2
            clear hH
            refine wpList_view ?_; show wpList _ _ _ [_] ⟨#[_, _, _, _, _, _, _, _, _, _, _, _, _, _, _, _, _, _, _, _, _, _, _, _, _, _, _, _, _, _, _, _, _, _, _, _, _, _, _, _, _, _, _, _, _, _, _, _, _, _, _, _, _, _, _, _, _, _, _, _, _, _, _, _, _, _, _, _, _, _, _, _, _, _, _, _, _, _, _, _, _, _, _, _, _, _, _, _, _, _, _, _, _, _, _, _, _, _, _, _, _, _, _, _, _, _, _, _, _, _, _, _, _, _, _, _, _, _, _, _, _, _, _, _, _, _, _, _, _, _, _, _, _, _, _, _, _, _, _, _, _, _, _, _, _, _, _, _, _, _, _, _, _, _, _, _, _, _, _, _, _], _⟩ _
            have y0 := (HBX.out.grow hI).cell (i := 0) rfl
            have y1 := (HBX.out.grow hI).cell (i := 1) rfl
            have y2 := (HBX.out.grow hI).cell (i := 2) rfl
            repeat (first | go_guarded | go_step)
            exact hQ _ _ hI (Grow.refl _) rfl rfl
          refine obls2_cons (fun b hb1 hb2 f w' hI hH Q hQ => ?_) ?_
          · skip
            obtain rfl : b = 0 := by omega
            clear hb1 hb2
            clear hH
            refine wpList_view ?_; show wpList _ _ _ [_] ⟨#[_, _, _, _, _, _, _, _, _, _, _, _, _, _, _, _, _, _, _, _, _, _, _, _, _, _, _, _, _, _, _, _, _, _, _, _, _, _, _, _, _, _, _, _, _, _, _, _, _, _, _, _, _, _, _, _, _, _, _, _, _, _, _, _, _, _, _, _, _, _, _, _, _, _, _, _, _, _, _, _, _, _, _, _, _, _, _, _, _, _, _, _, _, _, _, _, _, _, _, _, _, _, _, _, _, _, _, _, _, _, _, _, _, _, _, _, _, _, _, _, _, _, _, _, _, _, _, _, _, _, _, _, _, _, _, _, _, _, _, _, _, _, _, _, _, _, _, _, _, _, _, _, _, _, _, _, _, _, _, _, _], _⟩ _
            repeat (first | go_guarded | go_step)
            exact hQ _ _ hI (Grow.refl _) rfl rfl
          refine obls2_cons (fun b hb1 hb2 f w' hI hH Q hQ => ?_) ?_
          · skip
            obtain rfl : b = 0 := by omega
            clear hb1 hb2
            clear hH
            refine wpList_view ?_; show wpList _ _ _ [_] ⟨#[_, _, _, _, _, _, _, _, _, _, _, _, _, _, _, _, _, _, _, _, _, _, _, _, _, _, _, _, _, _, _, _, _, _, _, _, _, _, _, _, _, _, _, _, _, _, _, _, _, _, _, _, _, _, _, _, _, _, _, _, _, _, _, _, _, _, _, _, _, _, _, _, _, _, _, _, _, _, _, _, _, _, _, _, _, _, _, _, _, _, _, _, _, _, _, _, _, _, _, _, _, _, _, _, _, _, _, _, _, _, _, _, _, _, _, _, _, _, _, _, _, _, _, _, _, _, _, _, _, _, _, _, _, _, _, _, _, _, _, _, _, _, _, _, _, _, _, _, _, _, _, _, _, _, _, _, _, _, _, _, _], _⟩ _
            repeat (first | go_guarded | go_step)
            exact hQ _ _ hI (Grow.refl _) rfl rfl
          refine obls2_cons (fun b hb1 hb2 f w' hI hH Q hQ => ?_) ?_
          · skip
            obtain rfl : b = 0 := by omega
            clear hb1 hb2
            have h1 := hH.get 0 (43, 1) rfl
            have h2 := hH.get 1 (44, 2) rfl
            clear hH
            refine wpList_view ?_; show wpList _ _ _ [_] ⟨#[_, _, _, _, _, _, _, _, _, _, _, _, _, _, _, _, _, _, _, _, _, _, _, _, _, _, _, _, _, _, _, _, _, _, _, _, _, _, _, _, _, _, _, f 1, f 2, _, _, _, _, _, _, _, _, _, _, _, _, _, _, _, _, _, _, _, _, _, _, _, _, _, _, _, _, _, _, _, _, _, _, _, _, _, _, _, _, _, _, _, _, _, _, _, _, _, _, _, _, _, _, _, _, _, _, _, _, _, _, _, _, _, _, _, _, _, _, _, _, _, _, _, _, _, _, _, _, _, _, _, _, _, _, _, _, _, _, _, _, _, _, _, _, _, _, _, _, _, _, _, _, _, _, _, _, _, _, _, _, _, _, _, _], _⟩ _
            rw [show f 1 = _ from h1]
            rw [show f 2 = _ from h2]
            clear h1 h2
            repeat (first | go_guarded | go_step)
            exact hQ _ _ hI (Grow.refl _) rfl rfl
          refine obls2_cons (fun b hb1 hb2 f w' hI hH Q hQ => ?_) ?_
          · skip
            obtain rfl : b = 0 := by omega
            clear hb1 hb2
            have h3 := hH.get 0 (45, 3) rfl
            clear hH
            refine wpList_view ?_; show wpList _ _ _ [_] ⟨#[_, _, _, _, _, _, _, _, _, _, _, _, _, _, _, _, _, _, _, _, _, _, _, _, _, _, _, _, _, _, _, _, _, _, _, _, _, _, _, _, _, _, _, _, _, f 3, _, _, _, _, _, _, _, _, _, _, _, _, _, _, _, _, _, _, _, _, _, _, _, _, _, _, _, _, _, _, _, _, _, _, _, _, _, _, _, _, _, _, _, _, _, _, _, _, _, _, _, _, _, _, _, _, _, _, _, _, _, _, _, _, _, _, _, _, _, _, _, _, _, _, _, _, _, _, _, _, _, _, _, _, _, _, _, _, _, _, _, _, _, _, _, _, _, _, _, _, _, _, _, _, _, _, _, _, _, _, _, _, _, _, _], _⟩ _
            rw [show f 3 = _ from h3]
            clear h3
            have HCW := Lib.hid (HC.out w' (HG7.out.trans hI))
            have HIg := Lib.hid hI
            clear hI
            go_wp2_with (refine load_cells rfl _ _ rfl b (off + k * 7) rfl _ _ HCW.out undAp rfl (by rw [sizeAp]; rfl) ?_)
            exact hQ _ _ HIg.out (Grow.refl _) rfl rfl
          refine obls2_cons (fun b hb1 hb2 f w' hI hH Q hQ => ?_) ?_
          · skip
            obtain rfl : b = 0 := by omega
            clear hb1 hb2
            have h0 := hH.get 0 (42, 0) rfl
            have h4 := hH.get 1 (46, 4) rfl
            clear hH
            refine wpList_view ?_; show wpList _ _ _ [_] ⟨#[_, _, _, _, _, _, _, _, _, _, _, _, _, _, _, _, _, _, _, _, _, _, _, _, _, _, _, _, _, _, _, _, _, _, _, _, _, _, _, _, _, _, f 0, _, _, _, f 4, _, _, _, _, _, _, _, _, _, _, _, _, _, _, _, _, _, _, _, _, _, _, _, _, _, _, _, _, _, _, _, _, _, _, _, _, _, _, _, _, _, _, _, _, _, _, _, _, _, _, _, _, _, _, _, _, _, _, _, _, _, _, _, _, _, _, _, _, _, _, _, _, _, _, _, _, _, _, _, _, _, _, _, _, _, _, _, _, _, _, _, _, _, _, _, _, _, _, _, _, _, _, _, _, _, _, _, _, _, _, _, _, _, _], _⟩ _
            rw [show f 0 = _ from h0]
            rw [show f 4 = _ from h4]
            clear h0 h4
            have HTW := Lib.hid (HTD.out w' hI)
            have HIg := Lib.hid hI
            clear hI
            go_wp2_with (go_at_call 17; refine HTW.out.mono ?_; rintro e w1 ⟨⟨B1, m1, d1, B2, m2, d2, rfl, hr1⟩, hg1⟩)
            exact hQ _ _ (HIg.out.trans hg1) hg1 ⟨B1, m1, d1, B2, m2, d2, rfl, fun _ => hr1⟩ rfl
          refine obls2_cons (fun b hb1 hb2 f w' hI hH Q hQ => ?_) ?_
          · skip
            obtain rfl : b = 0 := by omega
            clear hb1 hb2
            have h5 := hH.get 0 (47, 5) rfl
            clear hH
            refine wpList_view ?_; show wpList _ _ _ [_] ⟨#[_, _, _, _, _, _, _, _, _, _, _, _, _, _, _, _, _, _, _, _, _, _, _, _, _, _, _, _, _, _, _, _, _, _, _, _, _, _, _, _, _, _, _, _, _, _, _, f 5, _, _, _, _, _, _, _, _, _, _, _, _, _, _, _, _, _, _, _, _, _, _, _, _, _, _, _, _, _, _, _, _, _, _, _, _, _, _, _, _, _, _, _, _, _, _, _, _, _, _, _, _, _, _, _, _, _, _, _, _, _, _, _, _, _, _, _, _, _, _, _, _, _, _, _, _, _, _, _, _, _, _, _, _, _, _, _, _, _, _, _, _, _, _, _, _, _, _, _, _, _, _, _, _, _, _, _, _, _, _, _, _, _], _⟩ _
            replace h5 : (T6 N L' cs' er pk) (f 5) 0 w' := h5
            obtain ⟨u5, hu5⟩ : ∃ u, u = f 5 := ⟨_, rfl⟩
            rw [← hu5]
            rw [← hu5] at h5
            clear hu5
            obtain ⟨B1, m1, d1, B2, m2, d2, rfl, hr1⟩ := h5
            have HR1 := Lib.hid hr1
            have HIg := Lib.hid hI
            clear hI hr1
            repeat (first | go_guarded | go_step)
            exact hQ _ _ HIg.out (Grow.refl _) ⟨B1, m1, d1, B2, m2, d2, rfl, HR1.out⟩ rfl
          refine obls2_cons (fun b hb1 hb2 f w' hI hH Q hQ => ?_) ?_
          · skip
            obtain rfl : b = 0 := by omega
            clear hb1 hb2
            have h6 := hH.get 0 (41, 6) rfl
            clear hH
            refine wpList_view ?_; show wpList _ _ _ [_] ⟨#[_, _, _, _, _, _, _, _, _, _, _, _, _, _, _, _, _, _, _, _, _, _, _, _, _, _, _, _, _, _, _, _, _, _, _, _, _, _, _, _, _, f 6, _, _, _, _, _, _, _, _, _, _, _, _, _, _, _, _, _, _, _, _, _, _, _, _, _, _, _, _, _, _, _, _, _, _, _, _, _, _, _, _, _, _, _, _, _, _, _, _, _, _, _, _, _, _, _, _, _, _, _, _, _, _, _, _, _, _, _, _, _, _, _, _, _, _, _, _, _, _, _, _, _, _, _, _, _, _, _, _, _, _, _, _, _, _, _, _, _, _, _, _, _, _, _, _, _, _, _, _, _, _, _, _, _, _, _, _, _, _, _], _⟩ _
            replace h6 : (T6 N L' cs' er pk) (f 6) 0 w' := h6
            obtain ⟨u6, hu6⟩ : ∃ u, u = f 6 := ⟨_, rfl⟩
            rw [← hu6]
            rw [← hu6] at h6
            clear hu6
            obtain ⟨B1, m1, d1, B2, m2, d2, rfl, hr1⟩ := h6
            have HR1 := Lib.hid hr1
            have HIg := Lib.hid hI
            clear hI hr1
            repeat (first | go_guarded | go_step)
            exact hQ _ _ HIg.out (Grow.refl _) ⟨B1, m1, d1, B2, m2, d2, rfl, HR1.out⟩ rfl
          refine obls2_cons (fun b hb1 hb2 f w' hI hH Q hQ => ?_) ?_
          · skip
            have h6 := hH.get 0 (41, 6) rfl
            clear hH
            refine wpList_view ?_; show wpList _ _ _ [_] ⟨#[_, _, _, _, _, _, _, _, _, _, _, _, _, _, _, _, _, _, _, _, _, _, _, _, _, _, _, _, _, _, _, _, _, _, _, _, _, _, _, _, _, f 6, _, _, _, _, _, _, _, _, _, _, _, _, _, _, _, _, _, _, _, _, _, _, _, _, _, _, _, _, _, _, _, _, _, _, _, _, _, _, _, _, _, _, _, _, _, _, _, _, _, _, _, _, _, _, _, _, _, _, _, _, _, _, _, _, _, _, _, _, _, _, _, _, _, _, _, _, _, _, _, _, _, _, _, _, _, _, _, _, _, _, _, _, _, _, _, _, _, _, _, _, _, _, _, _, _, _, _, _, _, _, _, _, _, _, _, _, _, _, _], _⟩ _
            replace h6 : (T6 N L' cs' er pk) (f 6) b w' := h6
            obtain ⟨u6, hu6⟩ : ∃ u, u = f 6 := ⟨_, rfl⟩
            rw [← hu6]
            rw [← hu6] at h6
            clear hu6
            obtain ⟨B1, m1, d1, B2, m2, d2, rfl, hr1⟩ := h6
            clear hr1
            repeat (first | go_guarded | go_step)
            exact hQ _ _ hI (Grow.refl _) rfl rfl
          refine obls2_cons (fun b hb1 hb2 f w' hI hH Q hQ => ?_) ?_
          · skip
            have h6 := hH.get 0 (41, 6) rfl
            clear hH
            refine wpList_view ?_; show wpList _ _ _ [_] ⟨#[_, _, _, _, _, _, _, _, _, _, _, _, _, _, _, _, _, _, _, _, _, _, _, _, _, _, _, _, _, _, _, _, _, _, _, _, _, _, _, _, _, f 6, _, _, _, _, _, _, _, _, _, _, _, _, _, _, _, _, _, _, _, _, _, _, _, _, _, _, _, _, _, _, _, _, _, _, _, _, _, _, _, _, _, _, _, _, _, _, _, _, _, _, _, _, _, _, _, _, _, _, _, _, _, _, _, _, _, _, _, _, _, _, _, _, _, _, _, _, _, _, _, _, _, _, _, _, _, _, _, _, _, _, _, _, _, _, _, _, _, _, _, _, _, _, _, _, _, _, _, _, _, _, _, _, _, _, _, _, _, _, _], _⟩ _
            replace h6 : (T6 N L' cs' er pk) (f 6) b w' := h6
            obtain ⟨u6, hu6⟩ : ∃ u, u = f 6 := ⟨_, rfl⟩
            rw [← hu6]
            rw [← hu6] at h6
            clear hu6
            obtain ⟨B1, m1, d1, B2, m2, d2, rfl, hr1⟩ := h6
            clear hr1
            repeat (first | go_guarded | go_step)
            exact hQ _ _ hI (Grow.refl _) rfl rfl
          refine obls2_cons (fun b hb1 hb2 f w' hI hH Q hQ => ?_) ?_
          · skip
            obtain rfl : b = 0 := by omega
            clear hb1 hb2
            clear hH
            refine wpList_view ?_; show wpList _ _ _ [_] ⟨#[_, _, _, _, _, _, _, _, _, _, _, _, _, _, _, _, _, _, _, _, _, _, _, _, _, _, _, _, _, _, _, _, _, _, _, _, _, _, _, _, _, _, _, _, _, _, _, _, _, _, _, _, _, _, _, _, _, _, _, _, _, _, _, _, _, _, _, _, _, _, _, _, _, _, _, _, _, _, _, _, _, _, _, _, _, _, _, _, _, _, _, _, _, _, _, _, _, _, _, _, _, _, _, _, _, _, _, _, _, _, _, _, _, _, _, _, _, _, _, _, _, _, _, _, _, _, _, _, _, _, _, _, _, _, _, _, _, _, _, _, _, _, _, _, _, _, _, _, _, _, _, _, _, _, _, _, _, _, _, _, _], _⟩ _
            have HIg := Lib.hid hI
            clear hI
            go_wp2_with fail
            exact hQ _ _ (HIg.out.trans (Grow.alloc _ _)) (Grow.alloc _ _) ⟨w'.heap.size, rfl, HIg.out.size, fun _ => Blk.new _ _ _ _ rfl rfl, fun h => absurd h (by decide)⟩ rfl
          refine obls2_cons (fun b hb1 hb2 f w' hI hH Q hQ => ?_) ?_
          · skip
            obtain rfl : b = 0 := by omega
            clear hb1 hb2
            clear hH
            refine wpList_view ?_; show wpList _ _ _ [_] ⟨#[_, _, _, _, _, _, _, _, _, _, _, _, _, _, _, _, _, _, _, _, _, _, _, _, _, _, _, _, _, _, _, _, _, _, _, _, _, _, _, _, _, _, _, _, _, _, _, _, _, _, _, _, _, _, _, _, _, _, _, _, _, _, _, _, _, _, _, _, _, _, _, _, _, _, _, _, _, _, _, _, _, _, _, _, _, _, _, _, _, _, _, _, _, _, _, _, _, _, _, _, _, _, _, _, _, _, _, _, _, _, _, _, _, _, _, _, _, _, _, _, _, _, _, _, _, _, _, _, _, _, _, _, _, _, _, _, _, _, _, _, _, _, _, _, _, _, _, _, _, _, _, _, _, _, _, _, _, _, _, _, _], _⟩ _
            have HIg := Lib.hid hI
            clear hI
            go_wp2_with fail
            exact hQ _ _ (HIg.out.trans (Grow.alloc _ _)) (Grow.alloc _ _) ⟨w'.heap.size, rfl, HIg.out.size, Blk.new _ _ _ _ rfl rfl⟩ rfl
          refine oblsP_cons (fun f w' hI hH Q hQ => ?_) ?_
          · skip
            have h10 := hH.get 0 (10, 10) rfl
            have h7 := hH.get 1 (48, 7) rfl
            clear hH
            refine wpList_view ?_; show wpList _ _ _ [_] ⟨#[_, _, _, _, _, _, _, _, _, _, f 10, _, _, _, _, _, _, _, _, _, _, _, _, _, _, _, _, _, _, _, _, _, _, _, _, _, _, _, _, _, _, _, _, _, _, _, _, _, f 7, _, _, _, _, _, _, _, _, _, _, _, _, _, _, _, _, _, _, _, _, _, _, _, _, _, _, _, _, _, _, _, _, _, _, _, _, _, _, _, _, _, _, _, _, _, _, _, _, _, _, _, _, _, _, _, _, _, _, _, _, _, _, _, _, _, _, _, _, _, _, _, _, _, _, _, _, _, _, _, _, _, _, _, _, _, _, _, _, _, _, _, _, _, _, _, _, _, _, _, _, _, _, _, _, _, _, _, _, _, _, _, _], _⟩ _
            replace h10 : (P10 W7.heap.size N L' cs') (f 10) 0 w' := h10
            obtain ⟨u10, hu10⟩ : ∃ u, u = f 10 := ⟨_, rfl⟩
            rw [← hu10]
            rw [← hu10] at h10
            have HU10 : Hid (f 10 = u10) := Lib.hid hu10.symm
            clear hu10
            replace h7 : (N7 N L' cs') (f 7) 0 w' := h7
            obtain ⟨u7, hu7⟩ : ∃ u, u = f 7 := ⟨_, rfl⟩
            rw [← hu7]
            rw [← hu7] at h7
            have HU7 : Hid (f 7 = u7) := Lib.hid hu7.symm
            clear hu7
            obtain ⟨g10, rfl, hB10, hb10, -⟩ := h10
            obtain ⟨B1, m1, d1, B2, m2, d2, rfl, hr1⟩ := h7
            have HR1 := Lib.hid (hr1 rfl)
            have HB10 := Lib.hid (hb10 rfl)
            have HIg := Lib.hid hI
            clear hI hr1 hb10
            go_wp2_with (refine store_blk rfl _ _ _ rfl g10 [.int .i64 (N : Int), .slice B1 m1 d1, .slice B2 m2 d2] rfl rfl _ _ HB10.out (by rw [sizeR]; rfl) rfl rfl ?_)
            exact hQ _ _ (Grow.setRow HIg.out hB10 _) ⟨g10, B1, m1, d1, B2, m2, d2, HU10.out, HB10.out, rfl, HR1.out.away HB10.out _⟩ rfl rfl
          refine obls2_cons (fun b hb1 hb2 f w' hI hH Q hQ => ?_) ?_
          · skip
            obtain rfl : b = 1 := by omega
            clear hb1 hb2
            have h8 := hH.get 0 (49, 8) rfl
            clear hH
            refine wpList_view ?_; show wpList _ _ _ [_] ⟨#[_, _, _, _, _, _, _, _, _, _, _, _, _, _, _, _, _, _, _, _, _, _, _, _, _, _, _, _, _, _, _, _, _, _, _, _, _, _, _, _, _, _, _, _, _, _, _, _, _, f 8, _, _, _, _, _, _, _, _, _, _, _, _, _, _, _, _, _, _, _, _, _, _, _, _, _, _, _, _, _, _, _, _, _, _, _, _, _, _, _, _, _, _, _, _, _, _, _, _, _, _, _, _, _, _, _, _, _, _, _, _, _, _, _, _, _, _, _, _, _, _, _, _, _, _, _, _, _, _, _, _, _, _, _, _, _, _, _, _, _, _, _, _, _, _, _, _, _, _, _, _, _, _, _, _, _, _, _, _, _, _, _], _⟩ _
            rw [show f 8 = _ from h8]
            clear h8
            repeat (first | go_guarded | go_step)
            exact hQ _ _ hI (Grow.refl _) rfl rfl
          exact obls2_nil
        case draw =>
          exact Grow.drew _
        case mono => exact ⟨Mono2.veq _, Mono2.veq _, Mono2.veq _, Mono2.veq _, Mono2.veq _, T6.mono, T6.mono, N7.mono, Mono2.veq _, Mono2.veq _, P10.mono, P11.mono, Mono2.veq _, Mono2.veq _, trivial⟩
        case tail =>
          intro f w' hI hH
          have q9 := hH.get 9 (50, 9) rfl
          have q10 : (P10 W7.heap.size N L' cs') (f 10) 1 w' := hH.get 10 (10, 10) rfl
          have q11 : (P11 W7.heap.size) (f 11) 1 w' := hH.get 11 (12, 11) rfl
          have q13 := hH.get 13 (11, 13) rfl
          clear hH
          refine wpList_merge (idx := [none, none, none, none, none, none, none, none, none, none, some 10, some 13, some 11, none, none, none, none, none, none, none, none, none, none, none, none, none, none, none, none, none, none, none, none, none, none, none, none, none, none, none, none, some 6, some 0, some 1, some 2, some 3, some 4, some 5, some 7, some 8, some 9, none, none, none, none, none, none, none, none, none, none, none, none, none, none, none, none, none, none, none, none, none, none, none, none, none, none, none, none, none, none, none, none, none, none, none, none, none, none, none, none, none, none, none, none, none, none, none, none, none, none, none, none, none, none, none, none, none, none, none, none, none, none, none, none, none, none, none, none, none, none, none, none, none, none, none, none, none, none, none, none, none, none, none, none, none, none, none, none, none, none, none, none, none, none, none, none, none, none, none, none, none, none, none, none, none, none, none, none, none, none]) (by kernel_rfl) ?_; show wpList _ _ _ [_] ⟨#[_, _, _, _, _, _, _, _, _, _, f 10, f 13, f 11, _, _, _, _, _, _, _, _, _, _, _, _, _, _, _, _, _, _, _, _, _, _, _, _, _, _, _, _, f 6, f 0, f 1, f 2, f 3, f 4, f 5, f 7, f 8, f 9, _, _, _, _, _, _, _, _, _, _, _, _, _, _, _, _, _, _, _, _, _, _, _, _, _, _, _, _, _, _, _, _, _, _, _, _, _, _, _, _, _, _, _, _, _, _, _, _, _, _, _, _, _, _, _, _, _, _, _, _, _, _, _, _, _, _, _, _, _, _, _, _, _, _, _, _, _, _, _, _, _, _, _, _, _, _, _, _, _, _, _, _, _, _, _, _, _, _, _, _, _, _, _, _, _, _, _, _, _, _], _⟩ _
          rw [show f 9 = _ from q9]
          rw [show f 13 = _ from q13]
          clear q9 q13
          generalize f 10 = x10 at *
          generalize f 11 = x11 at *
          obtain ⟨g10, rfl, hB10, -, h10⟩ := q10
          obtain ⟨B1, m1, d1, B2, m2, d2, hb10, hr10⟩ := h10 rfl
          obtain ⟨g12, rfl, hB12, hb12⟩ := q11
          clear h10
          obtain ⟨W8, hW8⟩ : ∃ W, W = w'.setRow g12 [.int .u8 (pk.fr : Int), .int .u8 (pk.to : Int), .string (str pk.b), .bool pk.sp].toArray := ⟨_, rfl⟩
          have hg78 : Grow W7 W8 := by rw [hW8]; exact Grow.setRow hI hB12 _
          have h12 : Blk W8 g12 TP [.int .u8 (pk.fr : Int), .int .u8 (pk.to : Int), .string (str pk.b), .bool pk.sp] := by rw [hW8]; exact hb12.setRow _
          have h10 : Blk W8 g10 TR [.int .i64 (N : Int), .slice B1 m1 d1, .slice B2 m2 d2] := by rw [hW8]; exact hb10.farRow (fun e2 => absurd (Blk.ty_eq (e2 ▸ hb10) hb12) (by decide)) _
          have r10 : RefN W8 (.slice B1 m1 d1) (.slice B2 m2 d2) L' cs' := by rw [hW8]; exact hr10.awayP HRC.out.2.2 hb12 _
          have bx8 := HBX.out.grow hg78
          have n8 := HNET.out.grow hg78
          obtain ⟨W9, hW9⟩ : ∃ W, W = W8.setRow b6 [.int .i64 (N : Int), .slice B1 m1 d1, .slice B2 m2 d2].toArray := ⟨_, rfl⟩
          have hpl9 : PlI W9 w.heap.size g bm N cnt' b6 lv' ps1 C' cs' B1 m1 d1 B2 m2 d2 := by
            rw [hW9]
            exact ⟨n8.box bx8 (by decide) (n8.off bx8 (by decide) (by decide)) HI.out.b6B _, bx8.setRow _, by rw [HPS1.out]; exact r10.away bx8 _, HRC.out.1, by rw [HPS1.out]; exact HRC.out.2.2, HI.out.b6B⟩
          have h129 : Blk W9 g12 TP [.int .u8 (pk.fr : Int), .int .u8 (pk.to : Int), .string (str pk.b), .bool pk.sp] := by rw [hW9]; exact h12.farRow (fun e2 => absurd (Blk.ty_eq (e2 ▸ h12) bx8) (by decide)) _
          have hb99 : Blk W9 b9 TK [.int .u8 (pk.fr : Int), .int .u8 (pk.to : Int), .slice A5 n5 c5, .bool pk.sp] := by rw [hW9]; exact (HB97.out.grow hg78).farRow (fun e2 => absurd (Blk.ty_eq (e2 ▸ (HB97.out.grow hg78)) bx8) (by decide)) _
          have hbv9 : BV W9 (.slice A5 n5 c5) pk.b := by
            rw [hW9]
            exact (HBV.out.grow hg78).keep (Keep.setRow (B := 0) (K := fun x => x ≠ b6) (Keep.refl W8) (Nat.zero_le _) (fun hn => hn rfl) _) fun j cs hb e => by
              subst e
              exact absurd (Blk.ty_eq bx8 hb) (by decide)
          have HG9 : Hid (Grow w W9) := Lib.hid (by rw [hW9]; exact Grow.setRow (HG7.out.trans hg78) HI.out.b6B _)
          have hsl9 : Sl W9 (.slice A5 n5 c5) pk.b := by
            obtain ⟨A8, c8, e8, h1, h2, h3, -⟩ := hbv9
            cases e8
            exact ⟨A5, _, c5, rfl, h1, h2, h3⟩
          have HSM : Hid (∀ w', Grow W9 w' → Calls Try.prog 18 #[.agg #[.int .u8 (pk.fr : Int), .int .u8 (pk.to : Int), .slice A5 n5 c5, .bool pk.sp], .agg #[.int .u8 (pk.fr : Int), .int .u8 (pk.to : Int), .string (str pk.b), .bool pk.sp]] w' fun e w9 => e = .returned (.bool true) ∧ Grow w' w9) := Lib.hid fun w' hg => by
            have h := same_any w' pk.fr pk.to pk.fr pk.to (.slice A5 n5 c5) pk.b pk.b pk.sp pk.sp (hsl9.grow hg)
            rw [decide_eq_true (And.intro rfl (And.intro rfl (And.intro rfl rfl)))] at h
            exact h
          have hml : m1 = ps1.length := hpl9.len
          have HLN : Hid (∀ w', Grow W9 w' → Calls Try.prog 9 #[.pointer (some ⟨g, 0, none⟩)] w' fun e w9 => e = .returned (.int .i64 (m1 : Int)) ∧ w' = w9) := Lib.hid fun w' hg => by
            rw [hml]
            exact len_any w' _ _ _ _ _ _ _ _ (hpl9.net.grow hg)
          obtain ⟨wh, hwh⟩ : ∃ q, q = wholeR N cs' a.a a.b := ⟨_, rfl⟩
          have HWN : Hid (∀ w', Grow W9 w' → Calls Try.prog 19 #[.pointer (some ⟨g, 0, none⟩), .int .u8 (a.a : Int), .int .u8 (a.b : Int)] w' fun e w9 => e = .returned (.bool wh) ∧ Grow w' w9) := Lib.hid fun w' hg => by
            rw [hwh, ← hpl9.rc.whole]
            exact whole_any w' _ _ _ _ _ _ _ _ (hpl9.net.grow hg) a.a a.b HOK.out.a HOK.out.b
          have HWR : Hid (∀ w', Grow W9 w' → Calls Try.prog 20 #[.agg #[.int .i64 (N : Int), .slice B1 m1 d1, .slice B2 m2 d2], .int .u8 (a.a : Int), .int .u8 (a.b : Int)] w' fun e w9 => e = .returned (.bool wh) ∧ Grow w' w9) := Lib.hid fun w' hg => by
            rw [hwh]
            exact rwhole_any w' N a.a a.b _ _ cs' (hpl9.ref.c.grow hg) HOK.out.a HOK.out.b
          have v0 := h10.cell (i := 0) rfl
          have v1 := h10.cell (i := 1) rfl
          have v2 := h10.cell (i := 2) rfl
          have HPL9 := Lib.hid hpl9
          have HML := Lib.hid hml
          have H129 := Lib.hid h129
          have HB99 := Lib.hid hb99
          have HB12 := Lib.hid hb12
          have HBX8 := Lib.hid bx8
          have HW8 := Lib.hid hW8
          have HW9 := Lib.hid hW9
          have HRB := Lib.hid HPL9.out.bx
          have HCT9 : Hid (cnt' ≤ k + 1 ∧ cs'.length ≤ k + 1) := Lib.hid (by have := HCT.out; have := HRC.out.2.1; have := HN.out.1; have := HN.out.2.1; omega)
          clear hI hB10 hB12 hb10 hb12 hr10 hg78 h12 h10 r10 bx8 n8 hW8 hW9 hpl9 h129 hb99 hbv9 hsl9 hml hwh HNET HBX HREF HBV HD HPS1 HCT HTD HB97 HW7 HN5 HB9 HRC
          go_wp2_with (first | (refine store_blk rfl _ _ _ rfl g12 [.int .u8 (pk.fr : Int), .int .u8 (pk.to : Int), .string (str pk.b), .bool pk.sp] rfl rfl _ _ HB12.out (by rw [sizeP]; rfl) rfl rfl ?_; rw [← HW8.out]) | (refine store_blk rfl _ _ _ rfl b6 [.int .i64 (N : Int), .slice B1 m1 d1, .slice B2 m2 d2] rfl rfl _ _ HBX8.out (by rw [sizeR]; rfl) rfl rfl ?_; rw [← HW9.out]))
          clear v0 v1 v2 HB12 HBX8 HW8 HW9
          apply (fun (v0 v1 v2 v3 v4 v5 v6 v7 v8 v9 v10 v11 v12 v13 v14 v15 v16 v17 v18 v19 v20 v21 v22 v23 v24 v25 v26 v27 v28 v29 v30 v31 v32 v33 v34 v35 v36 v37 v38 v39 v40 v41 v42 v43 : Value) mono obl tail => wp_region_par (R := Grow) (Φ := phi [veq v0, veq v1, veq v2, veq v3, veq v4, veq v5, veq v6, veq v7, veq v8, veq v9, veq v10, veq v11, veq v12, veq v13, veq v14, veq v15, veq v16, veq v17, veq v18, veq v19, veq v20, veq v21, veq v22, veq v23, veq v24, veq v25, veq v26, veq v27, veq v28, veq v29, veq v30, veq v31, veq v32, veq v33, veq v34, veq v35, veq v36, veq v37, veq v38, veq v39, veq v40, veq v41, veq v42, veq v43]) (m := 44) (dls := [[], [], [(52, 0), (53, 1)], [(54, 2)], [(55, 3)], [(55, 3)], [(56, 4), (57, 5), (55, 3)], [(58, 6), (55, 3)], [(55, 3), (59, 7)], [(60, 8)], [(61, 9)], [(62, 10), (61, 9)], [(61, 9)], [(64, 12), (61, 9)], [(65, 13), (61, 9)], [(63, 11), (66, 14), (61, 9)], [(61, 9), (67, 15)], [(68, 16)], [(69, 17)], [(69, 17)], [(69, 17)], [(71, 19), (72, 20), (69, 17)], [(73, 21), (69, 17)], [(74, 22), (69, 17)], [(69, 17)], [(69, 17)], [(76, 24), (77, 25), (69, 17)], [(78, 26), (69, 17)], [(79, 27), (69, 17)], [(70, 18), (75, 23), (80, 28), (69, 17)], [(69, 17)], [(69, 17)], [(69, 17)], [(83, 31), (84, 32), (69, 17)], [(85, 33), (69, 17)], [(86, 34), (69, 17)], [(69, 17)], [(69, 17)], [(88, 36), (89, 37), (69, 17)], [(90, 38), (69, 17)], [(91, 39), (69, 17)], [(82, 30), (87, 35), (92, 40), (69, 17)], [(81, 29), (93, 41), (69, 17)], [(69, 17), (94, 42)]]) (ds := [52, 53, 54, 55, 56, 57, 58, 59, 60, 61, 62, 63, 64, 65, 66, 67, 68, 69, 70, 71, 72, 73, 74, 75, 76, 77, 78, 79, 80, 81, 82, 83, 84, 85, 86, 87, 88, 89, 90, 91, 92, 93, 94, 95]) (by kernel_rfl) (by kernel_rfl) (by decide) rfl (Grow.drew _) (fun _ _ _ => Grow.trans) (mono_phi mono) obl tail)
          case obl =>
            refine obls_frame (fun a1 ha => ?_)
            have hsz := rd_size (n := 161) ha rfl
            have e8 := rd_slot 8 ha rfl
            have e11 := rd_slot 11 ha rfl
            have e9 := rd_slot 9 ha rfl
            have e12 := rd_slot 12 ha rfl
            have e5 := rd_slot 5 ha rfl
            have e6 := rd_slot 6 ha rfl
            have e1 := rd_slot 1 ha rfl
            have e7 := rd_slot 7 ha rfl
            clear ha
            refine obls_cons (fun f w' hR hH Q0 hQ0 => ?_) ?_
            · skip
              have s8 := sv_off f [] e8 rfl
              refine small_v hsz [(8, _)] ⟨some 1, (Op.move (.tmp 0)), 24, "", #[], none⟩ [_, undef] 1 rfl rfl ⟨s8, trivial⟩ rfl rfl hQ0 ?_
              clear hQ0 hH s8
              intro Q hQ
              repeat go_step
              exact hQ _ _ (Grow.refl _) rfl rfl
            refine obls_cons (fun f w' hR hH Q0 hQ0 => ?_) ?_
            · skip
              have s11 := sv_off f [] e11 rfl
              refine small_v hsz [(11, _)] ⟨some 1, (Op.move (.tmp 0)), 3, "", #[], none⟩ [_, undef] 1 rfl rfl ⟨s11, trivial⟩ rfl rfl hQ0 ?_
              clear hQ0 hH s11
              intro Q hQ
              repeat go_step
              exact hQ _ _ (Grow.refl _) rfl rfl
            refine obls_cons (fun f w' hR hH Q0 hQ0 => ?_) ?_
            · skip
              have s52 := (sv_at 52 0 hsz f [(52, 0), (53, 1)] rfl).trans (show f 0 = _ from hH.get 0 (52, 0) rfl)
              have s53 := (sv_at 53 1 hsz f [(52, 0), (53, 1)] rfl).trans (show f 1 = _ from hH.get 1 (53, 1) rfl)
              refine small_v hsz [(52, _), (53, _)] ⟨some 2, (Op.binOp BinOp.neq 3 (.tmp 0) (.tmp 1) 3), 4, "", #[], none⟩ [_, _, undef] 2 rfl rfl ⟨s52, s53, trivial⟩ rfl rfl hQ0 ?_
              clear hQ0 hH s52 s53
              intro Q hQ
              repeat go_step
              exact hQ _ _ (Grow.refl _) rfl rfl
            refine obls_cons (fun f w' hR hH Q0 hQ0 => ?_) ?_
            · skip
              have s54 := (sv_at 54 2 hsz f [(54, 2)] rfl).trans (show f 2 = _ from hH.get 0 (54, 2) rfl)
              refine small_v hsz [(54, _)] ⟨some 1, (Op.move (.tmp 0)), 4, "", #[], none⟩ [_, undef] 1 rfl rfl ⟨s54, trivial⟩ rfl rfl hQ0 ?_
              clear hQ0 hH s54
              intro Q hQ
              repeat go_step
              exact hQ _ _ (Grow.refl _) rfl rfl
            refine obls_cons (fun f w' hR hH Q0 hQ0 => ?_) ?_
            · skip
              have s9 := sv_off f [(55, 3)] e9 rfl
              have s55 := (sv_at 55 3 hsz f [(55, 3)] rfl).trans (show f 3 = _ from hH.get 0 (55, 3) rfl)
              first
                | exact skip_v hsz rfl ((wanted_some (b := true) rfl rfl s55).trans rfl) hQ0 (Grow.refl _) rfl
                | refine small_v hsz [(9, _)] ⟨some 1, (Op.load 30 (.tmp 0)), 30, "", #[], none⟩ [_, undef] 1 rfl ((wanted_some (b := false) rfl rfl s55).trans rfl) ⟨s9, trivial⟩ rfl rfl hQ0 ?_
                  clear hQ0 hH s9 s55
                  intro Q hQ
                  have y0 := (HB99.out.grow hR).cell (i := 0) rfl
                  have y1 := (HB99.out.grow hR).cell (i := 1) rfl
                  have y2 := (HB99.out.grow hR).cell (i := 2) rfl
                  have y3 := (HB99.out.grow hR).cell (i := 3) rfl
                  repeat go_step
                  exact hQ _ _ (Grow.refl _) rfl rfl
            refine obls_cons (fun f w' hR hH Q0 hQ0 => ?_) ?_
            · skip
              have s12 := sv_off f [(55, 3)] e12 rfl
              have s55 := (sv_at 55 3 hsz f [(55, 3)] rfl).trans (show f 3 = _ from hH.get 0 (55, 3) rfl)
              first
                | exact skip_v hsz rfl ((wanted_some (b := true) rfl rfl s55).trans rfl) hQ0 (Grow.refl _) rfl
                | refine small_v hsz [(12, _)] ⟨some 1, (Op.load 48 (.tmp 0)), 48, "", #[], none⟩ [_, undef] 1 rfl ((wanted_some (b := false) rfl rfl s55).trans rfl) ⟨s12, trivial⟩ rfl rfl hQ0 ?_
                  clear hQ0 hH s12 s55
                  intro Q hQ
                  have y0 := (H129.out.grow hR).cell (i := 0) rfl
                  have y1 := (H129.out.grow hR).cell (i := 1) rfl
                  have y2 := (H129.out.grow hR).cell (i := 2) rfl
                  have y3 := (H129.out.grow hR).cell (i := 3) rfl
                  repeat go_step
                  exact hQ _ _ (Grow.refl _) rfl rfl
            refine obls_cons (fun f w' hR hH Q0 hQ0 => ?_) ?_
            · skip
              have s56 := (sv_at 56 4 hsz f [(56, 4), (57, 5), (55, 3)] rfl).trans (show f 4 = _ from hH.get 0 (56, 4) rfl)
              have s57 := (sv_at 57 5 hsz f [(56, 4), (57, 5), (55, 3)] rfl).trans (show f 5 = _ from hH.get 1 (57, 5) rfl)
              have s55 := (sv_at 55 3 hsz f [(56, 4), (57, 5), (55, 3)] rfl).trans (show f 3 = _ from hH.get 2 (55, 3) rfl)
              first
                | exact skip_v hsz rfl ((wanted_some (b := true) rfl rfl s55).trans rfl) hQ0 (Grow.refl _) rfl
                | refine small_v hsz [(56, _), (57, _)] ⟨some 2, (Op.call (Call.mk (Callee.value (Operand.func 18)) #[(.tmp 0), (.tmp 1)] #[30, 48])), 4, "", #[], none⟩ [_, _, undef] 2 rfl ((wanted_some (b := false) rfl rfl s55).trans rfl) ⟨s56, s57, trivial⟩ rfl (ren_call rfl rfl) hQ0 ?_
                  clear hQ0 hH s56 s57 s55
                  intro Q hQ
                  go_wp2_with (go_at_call 18; refine ((HSM.out w' hR)).mono ?_; rintro e w1 ⟨rfl, hg1⟩)
                  exact hQ _ _ hg1 rfl rfl
            refine obls_cons (fun f w' hR hH Q0 hQ0 => ?_) ?_
            · skip
              have s58 := (sv_at 58 6 hsz f [(58, 6), (55, 3)] rfl).trans (show f 6 = _ from hH.get 0 (58, 6) rfl)
              have s55 := (sv_at 55 3 hsz f [(58, 6), (55, 3)] rfl).trans (show f 3 = _ from hH.get 1 (55, 3) rfl)
              first
                | exact skip_v hsz rfl ((wanted_some (b := true) rfl rfl s55).trans rfl) hQ0 (Grow.refl _) rfl
                | refine small_v hsz [(58, _)] ⟨some 1, (Op.unOp UnOp.not 4 (.tmp 0)), 4, "", #[], none⟩ [_, undef] 1 rfl ((wanted_some (b := false) rfl rfl s55).trans rfl) ⟨s58, trivial⟩ rfl rfl hQ0 ?_
                  clear hQ0 hH s58 s55
                  intro Q hQ
                  repeat go_step
                  exact hQ _ _ (Grow.refl _) rfl rfl
            refine obls_cons (fun f w' hR hH Q0 hQ0 => ?_) ?_
            · skip
              have s55 := (sv_at 55 3 hsz f [(55, 3), (59, 7)] rfl).trans (show f 3 = _ from hH.get 0 (55, 3) rfl)
              have s59 := (sv_at 59 7 hsz f [(55, 3), (59, 7)] rfl).trans (show f 7 = _ from hH.get 1 (59, 7) rfl)
              refine small_v hsz [(55, _), (59, _)] ⟨some 2, (Op.pick (.tmp 0) (Operand.const (Value.bool true)) (.tmp 1)), 4, "", #[], none⟩ [_, _, undef] 2 rfl rfl ⟨s55, s59, trivial⟩ rfl rfl hQ0 ?_
              clear hQ0 hH s55 s59
              intro Q hQ
              repeat go_step
              exact hQ _ _ (Grow.refl _) rfl rfl
            refine obls_cons (fun f w' hR hH Q0 hQ0 => ?_) ?_
            · skip
              have s60 := (sv_at 60 8 hsz f [(60, 8)] rfl).trans (show f 8 = _ from hH.get 0 (60, 8) rfl)
              refine small_v hsz [(60, _)] ⟨some 1, (Op.move (.tmp 0)), 4, "", #[], none⟩ [_, undef] 1 rfl rfl ⟨s60, trivial⟩ rfl rfl hQ0 ?_
              clear hQ0 hH s60
              intro Q hQ
              repeat go_step
              exact hQ _ _ (Grow.refl _) rfl rfl
            refine obls_cons (fun f w' hR hH Q0 hQ0 => ?_) ?_
            · skip
              have s5 := sv_off f [(61, 9)] e5 rfl
              have s61 := (sv_at 61 9 hsz f [(61, 9)] rfl).trans (show f 9 = _ from hH.get 0 (61, 9) rfl)
              first
                | exact skip_v hsz rfl ((wanted_some (b := true) rfl rfl s61).trans rfl) hQ0 (Grow.refl _) rfl
                | refine small_v hsz [(5, _)] ⟨some 1, (Op.move (.tmp 0)), 22, "", #[], none⟩ [_, undef] 1 rfl ((wanted_some (b := false) rfl rfl s61).trans rfl) ⟨s5, trivial⟩ rfl rfl hQ0 ?_
                  clear hQ0 hH s5 s61
                  intro Q hQ
                  repeat go_step
                  exact hQ _ _ (Grow.refl _) rfl rfl
            refine obls_cons (fun f w' hR hH Q0 hQ0 => ?_) ?_
            · skip
              have s62 := (sv_at 62 10 hsz f [(62, 10), (61, 9)] rfl).trans (show f 10 = _ from hH.get 0 (62, 10) rfl)
              have s61 := (sv_at 61 9 hsz f [(62, 10), (61, 9)] rfl).trans (show f 9 = _ from hH.get 1 (61, 9) rfl)
              first
                | exact skip_v hsz rfl ((wanted_some (b := true) rfl rfl s61).trans rfl) hQ0 (Grow.refl _) rfl
                | refine small_v hsz [(62, _)] ⟨some 1, (Op.call (Call.mk (Callee.value (Operand.func 9)) #[(.tmp 0)] #[22])), 3, "", #[], none⟩ [_, undef] 1 rfl ((wanted_some (b := false) rfl rfl s61).trans rfl) ⟨s62, trivial⟩ rfl (ren_call rfl rfl) hQ0 ?_
                  clear hQ0 hH s62 s61
                  intro Q hQ
                  go_wp2_with (go_at_call 9; refine ((HLN.out w' hR)).mono ?_; rintro e w1 ⟨rfl, rfl⟩)
                  exact hQ _ _ (Grow.refl _) rfl rfl
            refine obls_cons (fun f w' hR hH Q0 hQ0 => ?_) ?_
            · skip
              have s6 := sv_off f [(61, 9)] e6 rfl
              have s61 := (sv_at 61 9 hsz f [(61, 9)] rfl).trans (show f 9 = _ from hH.get 0 (61, 9) rfl)
              first
                | exact skip_v hsz rfl ((wanted_some (b := true) rfl rfl s61).trans rfl) hQ0 (Grow.refl _) rfl
                | refine small_v hsz [(6, _)] ⟨some 1, (Op.fieldAddr 40 (.tmp 0) 1), 0, "", #[], none⟩ [_, undef] 1 rfl ((wanted_some (b := false) rfl rfl s61).trans rfl) ⟨s6, trivial⟩ rfl rfl hQ0 ?_
                  clear hQ0 hH s6 s61
                  intro Q hQ
                  repeat go_step
                  exact hQ _ _ (Grow.refl _) rfl rfl
            refine obls_cons (fun f w' hR hH Q0 hQ0 => ?_) ?_
            · skip
              have s64 := (sv_at 64 12 hsz f [(64, 12), (61, 9)] rfl).trans (show f 12 = _ from hH.get 0 (64, 12) rfl)
              have s61 := (sv_at 61 9 hsz f [(64, 12), (61, 9)] rfl).trans (show f 9 = _ from hH.get 1 (61, 9) rfl)
              first
                | exact skip_v hsz rfl ((wanted_some (b := true) rfl rfl s61).trans rfl) hQ0 (Grow.refl _) rfl
                | refine small_v hsz [(64, _)] ⟨some 1, (Op.load 37 (.tmp 0)), 37, "", #[], none⟩ [_, undef] 1 rfl ((wanted_some (b := false) rfl rfl s61).trans rfl) ⟨s64, trivial⟩ rfl rfl hQ0 ?_
                  clear hQ0 hH s64 s61
                  intro Q hQ
                  have y1 := (HRB.out.grow hR).cell (i := 1) rfl
                  repeat go_step
                  exact hQ _ _ (Grow.refl _) rfl rfl
            refine obls_cons (fun f w' hR hH Q0 hQ0 => ?_) ?_
            · skip
              have s65 := (sv_at 65 13 hsz f [(65, 13), (61, 9)] rfl).trans (show f 13 = _ from hH.get 0 (65, 13) rfl)
              have s61 := (sv_at 61 9 hsz f [(65, 13), (61, 9)] rfl).trans (show f 9 = _ from hH.get 1 (61, 9) rfl)
              first
                | exact skip_v hsz rfl ((wanted_some (b := true) rfl rfl s61).trans rfl) hQ0 (Grow.refl _) rfl
                | refine small_v hsz [(65, _)] ⟨some 1, (Op.call (Call.mk (Callee.builtin Builtin.len) #[(.tmp 0)] #[37])), 3, "", #[], none⟩ [_, undef] 1 rfl ((wanted_some (b := false) rfl rfl s61).trans rfl) ⟨s65, trivial⟩ rfl (ren_builtin rfl rfl) hQ0 ?_
                  clear hQ0 hH s65 s61
                  intro Q hQ
                  repeat go_step
                  exact hQ _ _ (Grow.refl _) rfl rfl
            refine obls_cons (fun f w' hR hH Q0 hQ0 => ?_) ?_
            · skip
              have s63 := (sv_at 63 11 hsz f [(63, 11), (66, 14), (61, 9)] rfl).trans (show f 11 = _ from hH.get 0 (63, 11) rfl)
              have s66 := (sv_at 66 14 hsz f [(63, 11), (66, 14), (61, 9)] rfl).trans (show f 14 = _ from hH.get 1 (66, 14) rfl)
              have s61 := (sv_at 61 9 hsz f [(63, 11), (66, 14), (61, 9)] rfl).trans (show f 9 = _ from hH.get 2 (61, 9) rfl)
              first
                | exact skip_v hsz rfl ((wanted_some (b := true) rfl rfl s61).trans rfl) hQ0 (Grow.refl _) rfl
                | refine small_v hsz [(63, _), (66, _)] ⟨some 2, (Op.binOp BinOp.neq 3 (.tmp 0) (.tmp 1) 3), 4, "", #[], none⟩ [_, _, undef] 2 rfl ((wanted_some (b := false) rfl rfl s61).trans rfl) ⟨s63, s66, trivial⟩ rfl rfl hQ0 ?_
                  clear hQ0 hH s63 s66 s61
                  intro Q hQ
                  repeat go_step
                  exact hQ _ _ (Grow.refl _) rfl rfl
            refine obls_cons (fun f w' hR hH Q0 hQ0 => ?_) ?_
            · skip
              have s61 := (sv_at 61 9 hsz f [(61, 9), (67, 15)] rfl).trans (show f 9 = _ from hH.get 0 (61, 9) rfl)
              have s67 := (sv_at 67 15 hsz f [(61, 9), (67, 15)] rfl).trans (show f 15 = _ from hH.get 1 (67, 15) rfl)
              refine small_v hsz [(61, _), (67, _)] ⟨some 2, (Op.pick (.tmp 0) (Operand.const (Value.bool true)) (.tmp 1)), 4, "", #[], none⟩ [_, _, undef] 2 rfl rfl ⟨s61, s67, trivial⟩ rfl rfl hQ0 ?_
              clear hQ0 hH s61 s67
              intro Q hQ
              repeat go_step
              exact hQ _ _ (Grow.refl _) rfl rfl
            refine obls_cons (fun f w' hR hH Q0 hQ0 => ?_) ?_
            · skip
              have s68 := (sv_at 68 16 hsz f [(68, 16)] rfl).trans (show f 16 = _ from hH.get 0 (68, 16) rfl)
              refine small_v hsz [(68, _)] ⟨some 1, (Op.move (.tmp 0)), 4, "", #[], none⟩ [_, undef] 1 rfl rfl ⟨s68, trivial⟩ rfl rfl hQ0 ?_
              clear hQ0 hH s68
              intro Q hQ
              repeat go_step
              exact hQ _ _ (Grow.refl _) rfl rfl
            refine obls_cons (fun f w' hR hH Q0 hQ0 => ?_) ?_
            · skip
              have s5 := sv_off f [(69, 17)] e5 rfl
              have s69 := (sv_at 69 17 hsz f [(69, 17)] rfl).trans (show f 17 = _ from hH.get 0 (69, 17) rfl)
              first
                | exact skip_v hsz rfl ((wanted_some (b := true) rfl rfl s69).trans rfl) hQ0 (Grow.refl _) rfl
                | refine small_v hsz [(5, _)] ⟨some 1, (Op.move (.tmp 0)), 22, "", #[], none⟩ [_, undef] 1 rfl ((wanted_some (b := false) rfl rfl s69).trans rfl) ⟨s5, trivial⟩ rfl rfl hQ0 ?_
                  clear hQ0 hH s5 s69
                  intro Q hQ
                  repeat go_step
                  exact hQ _ _ (Grow.refl _) rfl rfl
            refine obls_cons (fun f w' hR hH Q0 hQ0 => ?_) ?_
            · skip
              have s1 := sv_off f [(69, 17)] e1 rfl
              have s69 := (sv_at 69 17 hsz f [(69, 17)] rfl).trans (show f 17 = _ from hH.get 0 (69, 17) rfl)
              first
                | exact skip_v hsz rfl ((wanted_some (b := true) rfl rfl s69).trans rfl) hQ0 (Grow.refl _) rfl
                | refine small_v hsz [(1, _)] ⟨some 1, (Op.move (.tmp 0)), 35, "", #[], none⟩ [_, undef] 1 rfl ((wanted_some (b := false) rfl rfl s69).trans rfl) ⟨s1, trivial⟩ rfl rfl hQ0 ?_
                  clear hQ0 hH s1 s69
                  intro Q hQ
                  repeat go_step
                  exact hQ _ _ (Grow.refl _) rfl rfl
            refine obls_cons (fun f w' hR hH Q0 hQ0 => ?_) ?_
            · skip
              have s7 := sv_off f [(69, 17)] e7 rfl
              have s69 := (sv_at 69 17 hsz f [(69, 17)] rfl).trans (show f 17 = _ from hH.get 0 (69, 17) rfl)
              first
                | exact skip_v hsz rfl ((wanted_some (b := true) rfl rfl s69).trans rfl) hQ0 (Grow.refl _) rfl
                | refine small_v hsz [(7, _)] ⟨some 1, (Op.move (.tmp 0)), 3, "", #[], none⟩ [_, undef] 1 rfl ((wanted_some (b := false) rfl rfl s69).trans rfl) ⟨s7, trivial⟩ rfl rfl hQ0 ?_
                  clear hQ0 hH s7 s69
                  intro Q hQ
                  repeat go_step
                  exact hQ _ _ (Grow.refl _) rfl rfl
            refine obls_cons (fun f w' hR hH Q0 hQ0 => ?_) ?_
            · skip
              have s71 := (sv_at 71 19 hsz f [(71, 19), (72, 20), (69, 17)] rfl).trans (show f 19 = _ from hH.get 0 (71, 19) rfl)
              have s72 := (sv_at 72 20 hsz f [(71, 19), (72, 20), (69, 17)] rfl).trans (show f 20 = _ from hH.get 1 (72, 20) rfl)
              have s69 := (sv_at 69 17 hsz f [(71, 19), (72, 20), (69, 17)] rfl).trans (show f 17 = _ from hH.get 2 (69, 17) rfl)
              first
                | exact skip_v hsz rfl ((wanted_some (b := true) rfl rfl s69).trans rfl) hQ0 (Grow.refl _) rfl
                | refine small_v hsz [(71, _), (72, _)] ⟨some 2, (Op.indexAddr 35 (.tmp 0) (.tmp 1)), 0, "", #[], none⟩ [_, _, undef] 2 rfl ((wanted_some (b := false) rfl rfl s69).trans rfl) ⟨s71, s72, trivial⟩ rfl rfl hQ0 ?_
                  clear hQ0 hH s71 s72 s69
                  intro Q hQ
                  repeat go_step
                  exact hQ _ _ (Grow.refl _) rfl rfl
            refine obls_cons (fun f w' hR hH Q0 hQ0 => ?_) ?_
            · skip
              have s73 := (sv_at 73 21 hsz f [(73, 21), (69, 17)] rfl).trans (show f 21 = _ from hH.get 0 (73, 21) rfl)
              have s69 := (sv_at 69 17 hsz f [(73, 21), (69, 17)] rfl).trans (show f 17 = _ from hH.get 1 (69, 17) rfl)
              first
                | exact skip_v hsz rfl ((wanted_some (b := true) rfl rfl s69).trans rfl) hQ0 (Grow.refl _) rfl
                | refine small_v hsz [(73, _)] ⟨some 1, (Op.fieldAddr 46 (.tmp 0) 1), 0, "", #[], none⟩ [_, undef] 1 rfl ((wanted_some (b := false) rfl rfl s69).trans rfl) ⟨s73, trivial⟩ rfl rfl hQ0 ?_
                  clear hQ0 hH s73 s69
                  intro Q hQ
                  repeat go_step
                  exact hQ _ _ (Grow.refl _) rfl rfl
            refine obls_cons (fun f w' hR hH Q0 hQ0 => ?_) ?_
            · skip
              have s74 := (sv_at 74 22 hsz f [(74, 22), (69, 17)] rfl).trans (show f 22 = _ from hH.get 0 (74, 22) rfl)
              have s69 := (sv_at 69 17 hsz f [(74, 22), (69, 17)] rfl).trans (show f 17 = _ from hH.get 1 (69, 17) rfl)
              first
                | exact skip_v hsz rfl ((wanted_some (b := true) rfl rfl s69).trans rfl) hQ0 (Grow.refl _) rfl
                | refine small_v hsz [(74, _)] ⟨some 1, (Op.load 5 (.tmp 0)), 5, "", #[], none⟩ [_, undef] 1 rfl ((wanted_some (b := false) rfl rfl s69).trans rfl) ⟨s74, trivial⟩ rfl rfl hQ0 ?_
                  clear hQ0 hH s74 s69
                  intro Q hQ
                  have y1 := HC.out w' (HG9.out.trans hR) 1 _ rfl
                  repeat go_step
                  exact hQ _ _ (Grow.refl _) rfl rfl
            refine obls_cons (fun f w' hR hH Q0 hQ0 => ?_) ?_
            · skip
              have s1 := sv_off f [(69, 17)] e1 rfl
              have s69 := (sv_at 69 17 hsz f [(69, 17)] rfl).trans (show f 17 = _ from hH.get 0 (69, 17) rfl)
              first
                | exact skip_v hsz rfl ((wanted_some (b := true) rfl rfl s69).trans rfl) hQ0 (Grow.refl _) rfl
                | refine small_v hsz [(1, _)] ⟨some 1, (Op.move (.tmp 0)), 35, "", #[], none⟩ [_, undef] 1 rfl ((wanted_some (b := false) rfl rfl s69).trans rfl) ⟨s1, trivial⟩ rfl rfl hQ0 ?_
                  clear hQ0 hH s1 s69
                  intro Q hQ
                  repeat go_step
                  exact hQ _ _ (Grow.refl _) rfl rfl
            refine obls_cons (fun f w' hR hH Q0 hQ0 => ?_) ?_
            · skip
              have s7 := sv_off f [(69, 17)] e7 rfl
              have s69 := (sv_at 69 17 hsz f [(69, 17)] rfl).trans (show f 17 = _ from hH.get 0 (69, 17) rfl)
              first
                | exact skip_v hsz rfl ((wanted_some (b := true) rfl rfl s69).trans rfl) hQ0 (Grow.refl _) rfl
                | refine small_v hsz [(7, _)] ⟨some 1, (Op.move (.tmp 0)), 3, "", #[], none⟩ [_, undef] 1 rfl ((wanted_some (b := false) rfl rfl s69).trans rfl) ⟨s7, trivial⟩ rfl rfl hQ0 ?_
                  clear hQ0 hH s7 s69
                  intro Q hQ
                  repeat go_step
                  exact hQ _ _ (Grow.refl _) rfl rfl
            refine obls_cons (fun f w' hR hH Q0 hQ0 => ?_) ?_
            · skip
              have s76 := (sv_at 76 24 hsz f [(76, 24), (77, 25), (69, 17)] rfl).trans (show f 24 = _ from hH.get 0 (76, 24) rfl)
              have s77 := (sv_at 77 25 hsz f [(76, 24), (77, 25), (69, 17)] rfl).trans (show f 25 = _ from hH.get 1 (77, 25) rfl)
              have s69 := (sv_at 69 17 hsz f [(76, 24), (77, 25), (69, 17)] rfl).trans (show f 17 = _ from hH.get 2 (69, 17) rfl)
              first
                | exact skip_v hsz rfl ((wanted_some (b := true) rfl rfl s69).trans rfl) hQ0 (Grow.refl _) rfl
                | refine small_v hsz [(76, _), (77, _)] ⟨some 2, (Op.indexAddr 35 (.tmp 0) (.tmp 1)), 0, "", #[], none⟩ [_, _, undef] 2 rfl ((wanted_some (b := false) rfl rfl s69).trans rfl) ⟨s76, s77, trivial⟩ rfl rfl hQ0 ?_
                  clear hQ0 hH s76 s77 s69
                  intro Q hQ
                  repeat go_step
                  exact hQ _ _ (Grow.refl _) rfl rfl
            refine obls_cons (fun f w' hR hH Q0 hQ0 => ?_) ?_
            · skip
              have s78 := (sv_at 78 26 hsz f [(78, 26), (69, 17)] rfl).trans (show f 26 = _ from hH.get 0 (78, 26) rfl)
              have s69 := (sv_at 69 17 hsz f [(78, 26), (69, 17)] rfl).trans (show f 17 = _ from hH.get 1 (69, 17) rfl)
              first
                | exact skip_v hsz rfl ((wanted_some (b := true) rfl rfl s69).trans rfl) hQ0 (Grow.refl _) rfl
                | refine small_v hsz [(78, _)] ⟨some 1, (Op.fieldAddr 46 (.tmp 0) 2), 0, "", #[], none⟩ [_, undef] 1 rfl ((wanted_some (b := false) rfl rfl s69).trans rfl) ⟨s78, trivial⟩ rfl rfl hQ0 ?_
                  clear hQ0 hH s78 s69
                  intro Q hQ
                  repeat go_step
                  exact hQ _ _ (Grow.refl _) rfl rfl
            refine obls_cons (fun f w' hR hH Q0 hQ0 => ?_) ?_
            · skip
              have s79 := (sv_at 79 27 hsz f [(79, 27), (69, 17)] rfl).trans (show f 27 = _ from hH.get 0 (79, 27) rfl)
              have s69 := (sv_at 69 17 hsz f [(79, 27), (69, 17)] rfl).trans (show f 17 = _ from hH.get 1 (69, 17) rfl)
              first
                | exact skip_v hsz rfl ((wanted_some (b := true) rfl rfl s69).trans rfl) hQ0 (Grow.refl _) rfl
                | refine small_v hsz [(79, _)] ⟨some 1, (Op.load 5 (.tmp 0)), 5, "", #[], none⟩ [_, undef] 1 rfl ((wanted_some (b := false) rfl rfl s69).trans rfl) ⟨s79, trivial⟩ rfl rfl hQ0 ?_
                  clear hQ0 hH s79 s69
                  intro Q hQ
                  have y1 := HC.out w' (HG9.out.trans hR) 2 _ rfl
                  repeat go_step
                  exact hQ _ _ (Grow.refl _) rfl rfl
            refine obls_cons (fun f w' hR hH Q0 hQ0 => ?_) ?_
            · skip
              have s70 := (sv_at 70 18 hsz f [(70, 18), (75, 23), (80, 28), (69, 17)] rfl).trans (show f 18 = _ from hH.get 0 (70, 18) rfl)
              have s75 := (sv_at 75 23 hsz f [(70, 18), (75, 23), (80, 28), (69, 17)] rfl).trans (show f 23 = _ from hH.get 1 (75, 23) rfl)
              have s80 := (sv_at 80 28 hsz f [(70, 18), (75, 23), (80, 28), (69, 17)] rfl).trans (show f 28 = _ from hH.get 2 (80, 28) rfl)
              have s69 := (sv_at 69 17 hsz f [(70, 18), (75, 23), (80, 28), (69, 17)] rfl).trans (show f 17 = _ from hH.get 3 (69, 17) rfl)
              first
                | exact skip_v hsz rfl ((wanted_some (b := true) rfl rfl s69).trans rfl) hQ0 (Grow.refl _) rfl
                | refine small_v hsz [(70, _), (75, _), (80, _)] ⟨some 3, (Op.call (Call.mk (Callee.value (Operand.func 19)) #[(.tmp 0), (.tmp 1), (.tmp 2)] #[22, 5, 5])), 4, "", #[], none⟩ [_, _, _, undef] 3 rfl ((wanted_some (b := false) rfl rfl s69).trans rfl) ⟨s70, s75, s80, trivial⟩ rfl (ren_call rfl rfl) hQ0 ?_
                  clear hQ0 hH s70 s75 s80 s69
                  intro Q hQ
                  go_wp2_with (go_at_call 19; refine ((HWN.out w' hR)).mono ?_; rintro e w1 ⟨rfl, hg1⟩)
                  exact hQ _ _ hg1 rfl rfl
            refine obls_cons (fun f w' hR hH Q0 hQ0 => ?_) ?_
            · skip
              have s6 := sv_off f [(69, 17)] e6 rfl
              have s69 := (sv_at 69 17 hsz f [(69, 17)] rfl).trans (show f 17 = _ from hH.get 0 (69, 17) rfl)
              first
                | exact skip_v hsz rfl ((wanted_some (b := true) rfl rfl s69).trans rfl) hQ0 (Grow.refl _) rfl
                | refine small_v hsz [(6, _)] ⟨some 1, (Op.load 40 (.tmp 0)), 40, "", #[], none⟩ [_, undef] 1 rfl ((wanted_some (b := false) rfl rfl s69).trans rfl) ⟨s6, trivial⟩ rfl rfl hQ0 ?_
                  clear hQ0 hH s6 s69
                  intro Q hQ
                  have y0 := (HRB.out.grow hR).cell (i := 0) rfl
                  have y1 := (HRB.out.grow hR).cell (i := 1) rfl
                  have y2 := (HRB.out.grow hR).cell (i := 2) rfl
                  repeat go_step
                  exact hQ _ _ (Grow.refl _) rfl rfl
            refine obls_cons (fun f w' hR hH Q0 hQ0 => ?_) ?_
            · skip
              have s1 := sv_off f [(69, 17)] e1 rfl
              have s69 := (sv_at 69 17 hsz f [(69, 17)] rfl).trans (show f 17 = _ from hH.get 0 (69, 17) rfl)
              first
                | exact skip_v hsz rfl ((wanted_some (b := true) rfl rfl s69).trans rfl) hQ0 (Grow.refl _) rfl
                | refine small_v hsz [(1, _)] ⟨some 1, (Op.move (.tmp 0)), 35, "", #[], none⟩ [_, undef] 1 rfl ((wanted_some (b := false) rfl rfl s69).trans rfl) ⟨s1, trivial⟩ rfl rfl hQ0 ?_
                  clear hQ0 hH s1 s69
                  intro Q hQ
                  repeat go_step
                  exact hQ _ _ (Grow.refl _) rfl rfl
            refine obls_cons (fun f w' hR hH Q0 hQ0 => ?_) ?_
            · skip
              have s7 := sv_off f [(69, 17)] e7 rfl
              have s69 := (sv_at 69 17 hsz f [(69, 17)] rfl).trans (show f 17 = _ from hH.get 0 (69, 17) rfl)
              first
                | exact skip_v hsz rfl ((wanted_some (b := true) rfl rfl s69).trans rfl) hQ0 (Grow.refl _) rfl
                | refine small_v hsz [(7, _)] ⟨some 1, (Op.move (.tmp 0)), 3, "", #[], none⟩ [_, undef] 1 rfl ((wanted_some (b := false) rfl rfl s69).trans rfl) ⟨s7, trivial⟩ rfl rfl hQ0 ?_
                  clear hQ0 hH s7 s69
                  intro Q hQ
                  repeat go_step
                  exact hQ _ _ (Grow.refl _) rfl rfl
            refine obls_cons (fun f w' hR hH Q0 hQ0 => ?_) ?_
            · skip
              have s83 := (sv_at 83 31 hsz f [(83, 31), (84, 32), (69, 17)] rfl).trans (show f 31 = _ from hH.get 0 (83, 31) rfl)
              have s84 := (sv_at 84 32 hsz f [(83, 31), (84, 32), (69, 17)] rfl).trans (show f 32 = _ from hH.get 1 (84, 32) rfl)
              have s69 := (sv_at 69 17 hsz f [(83, 31), (84, 32), (69, 17)] rfl).trans (show f 17 = _ from hH.get 2 (69, 17) rfl)
              first
                | exact skip_v hsz rfl ((wanted_some (b := true) rfl rfl s69).trans rfl) hQ0 (Grow.refl _) rfl
                | refine small_v hsz [(83, _), (84, _)] ⟨some 2, (Op.indexAddr 35 (.tmp 0) (.tmp 1)), 0, "", #[], none⟩ [_, _, undef] 2 rfl ((wanted_some (b := false) rfl rfl s69).trans rfl) ⟨s83, s84, trivial⟩ rfl rfl hQ0 ?_
                  clear hQ0 hH s83 s84 s69
                  intro Q hQ
                  repeat go_step
                  exact hQ _ _ (Grow.refl _) rfl rfl
            refine obls_cons (fun f w' hR hH Q0 hQ0 => ?_) ?_
            · skip
              have s85 := (sv_at 85 33 hsz f [(85, 33), (69, 17)] rfl).trans (show f 33 = _ from hH.get 0 (85, 33) rfl)
              have s69 := (sv_at 69 17 hsz f [(85, 33), (69, 17)] rfl).trans (show f 17 = _ from hH.get 1 (69, 17) rfl)
              first
                | exact skip_v hsz rfl ((wanted_some (b := true) rfl rfl s69).trans rfl) hQ0 (Grow.refl _) rfl
                | refine small_v hsz [(85, _)] ⟨some 1, (Op.fieldAddr 46 (.tmp 0) 1), 0, "", #[], none⟩ [_, undef] 1 rfl ((wanted_some (b := false) rfl rfl s69).trans rfl) ⟨s85, trivial⟩ rfl rfl hQ0 ?_
                  clear hQ0 hH s85 s69
                  intro Q hQ
                  repeat go_step
                  exact hQ _ _ (Grow.refl _) rfl rfl
            refine obls_cons (fun f w' hR hH Q0 hQ0 => ?_) ?_
            · skip
              have s86 := (sv_at 86 34 hsz f [(86, 34), (69, 17)] rfl).trans (show f 34 = _ from hH.get 0 (86, 34) rfl)
              have s69 := (sv_at 69 17 hsz f [(86, 34), (69, 17)] rfl).trans (show f 17 = _ from hH.get 1 (69, 17) rfl)
              first
                | exact skip_v hsz rfl ((wanted_some (b := true) rfl rfl s69).trans rfl) hQ0 (Grow.refl _) rfl
                | refine small_v hsz [(86, _)] ⟨some 1, (Op.load 5 (.tmp 0)), 5, "", #[], none⟩ [_, undef] 1 rfl ((wanted_some (b := false) rfl rfl s69).trans rfl) ⟨s86, trivial⟩ rfl rfl hQ0 ?_
                  clear hQ0 hH s86 s69
                  intro Q hQ
                  have y1 := HC.out w' (HG9.out.trans hR) 1 _ rfl
                  repeat go_step
                  exact hQ _ _ (Grow.refl _) rfl rfl
            refine obls_cons (fun f w' hR hH Q0 hQ0 => ?_) ?_
            · skip
              have s1 := sv_off f [(69, 17)] e1 rfl
              have s69 := (sv_at 69 17 hsz f [(69, 17)] rfl).trans (show f 17 = _ from hH.get 0 (69, 17) rfl)
              first
                | exact skip_v hsz rfl ((wanted_some (b := true) rfl rfl s69).trans rfl) hQ0 (Grow.refl _) rfl
                | refine small_v hsz [(1, _)] ⟨some 1, (Op.move (.tmp 0)), 35, "", #[], none⟩ [_, undef] 1 rfl ((wanted_some (b := false) rfl rfl s69).trans rfl) ⟨s1, trivial⟩ rfl rfl hQ0 ?_
                  clear hQ0 hH s1 s69
                  intro Q hQ
                  repeat go_step
                  exact hQ _ _ (Grow.refl _) rfl rfl
            refine obls_cons (fun f w' hR hH Q0 hQ0 => ?_) ?_
            · skip
              have s7 := sv_off f [(69, 17)] e7 rfl
              have s69 := (sv_at 69 17 hsz f [(69, 17)] rfl).trans (show f 17 = _ from hH.get 0 (69, 17) rfl)
              first
                | exact skip_v hsz rfl ((wanted_some (b := true) rfl rfl s69).trans rfl) hQ0 (Grow.refl _) rfl
                | refine small_v hsz [(7, _)] ⟨some 1, (Op.move (.tmp 0)), 3, "", #[], none⟩ [_, undef] 1 rfl ((wanted_some (b := false) rfl rfl s69).trans rfl) ⟨s7, trivial⟩ rfl rfl hQ0 ?_
                  clear hQ0 hH s7 s69
                  intro Q hQ
                  repeat go_step
                  exact hQ _ _ (Grow.refl _) rfl rfl
            refine obls_cons (fun f w' hR hH Q0 hQ0 => ?_) ?_
            · skip
              have s88 := (sv_at 88 36 hsz f [(88, 36), (89, 37), (69, 17)] rfl).trans (show f 36 = _ from hH.get 0 (88, 36) rfl)
              have s89 := (sv_at 89 37 hsz f [(88, 36), (89, 37), (69, 17)] rfl).trans (show f 37 = _ from hH.get 1 (89, 37) rfl)
              have s69 := (sv_at 69 17 hsz f [(88, 36), (89, 37), (69, 17)] rfl).trans (show f 17 = _ from hH.get 2 (69, 17) rfl)
              first
                | exact skip_v hsz rfl ((wanted_some (b := true) rfl rfl s69).trans rfl) hQ0 (Grow.refl _) rfl
                | refine small_v hsz [(88, _), (89, _)] ⟨some 2, (Op.indexAddr 35 (.tmp 0) (.tmp 1)), 0, "", #[], none⟩ [_, _, undef] 2 rfl ((wanted_some (b := false) rfl rfl s69).trans rfl) ⟨s88, s89, trivial⟩ rfl rfl hQ0 ?_
                  clear hQ0 hH s88 s89 s69
                  intro Q hQ
                  repeat go_step
                  exact hQ _ _ (Grow.refl _) rfl rfl
            refine obls_cons (fun f w' hR hH Q0 hQ0 => ?_) ?_
            · skip
              have s90 := (sv_at 90 38 hsz f [(90, 38), (69, 17)] rfl).trans (show f 38 = _ from hH.get 0 (90, 38) rfl)
              have s69 := (sv_at 69 17 hsz f [(90, 38), (69, 17)] rfl).trans (show f 17 = _ from hH.get 1 (69, 17) rfl)
              first
                | exact skip_v hsz rfl ((wanted_some (b := true) rfl rfl s69).trans rfl) hQ0 (Grow.refl _) rfl
                | refine small_v hsz [(90, _)] ⟨some 1, (Op.fieldAddr 46 (.tmp 0) 2), 0, "", #[], none⟩ [_, undef] 1 rfl ((wanted_some (b := false) rfl rfl s69).trans rfl) ⟨s90, trivial⟩ rfl rfl hQ0 ?_
                  clear hQ0 hH s90 s69
                  intro Q hQ
                  repeat go_step
                  exact hQ _ _ (Grow.refl _) rfl rfl
            refine obls_cons (fun f w' hR hH Q0 hQ0 => ?_) ?_
            · skip
              have s91 := (sv_at 91 39 hsz f [(91, 39), (69, 17)] rfl).trans (show f 39 = _ from hH.get 0 (91, 39) rfl)
              have s69 := (sv_at 69 17 hsz f [(91, 39), (69, 17)] rfl).trans (show f 17 = _ from hH.get 1 (69, 17) rfl)
              first
                | exact skip_v hsz rfl ((wanted_some (b := true) rfl rfl s69).trans rfl) hQ0 (Grow.refl _) rfl
                | refine small_v hsz [(91, _)] ⟨some 1, (Op.load 5 (.tmp 0)), 5, "", #[], none⟩ [_, undef] 1 rfl ((wanted_some (b := false) rfl rfl s69).trans rfl) ⟨s91, trivial⟩ rfl rfl hQ0 ?_
                  clear hQ0 hH s91 s69
                  intro Q hQ
                  have y1 := HC.out w' (HG9.out.trans hR) 2 _ rfl
                  repeat go_step
                  exact hQ _ _ (Grow.refl _) rfl rfl
            refine obls_cons (fun f w' hR hH Q0 hQ0 => ?_) ?_
            · skip
              have s82 := (sv_at 82 30 hsz f [(82, 30), (87, 35), (92, 40), (69, 17)] rfl).trans (show f 30 = _ from hH.get 0 (82, 30) rfl)
              have s87 := (sv_at 87 35 hsz f [(82, 30), (87, 35), (92, 40), (69, 17)] rfl).trans (show f 35 = _ from hH.get 1 (87, 35) rfl)
              have s92 := (sv_at 92 40 hsz f [(82, 30), (87, 35), (92, 40), (69, 17)] rfl).trans (show f 40 = _ from hH.get 2 (92, 40) rfl)
              have s69 := (sv_at 69 17 hsz f [(82, 30), (87, 35), (92, 40), (69, 17)] rfl).trans (show f 17 = _ from hH.get 3 (69, 17) rfl)
              first
                | exact skip_v hsz rfl ((wanted_some (b := true) rfl rfl s69).trans rfl) hQ0 (Grow.refl _) rfl
                | refine small_v hsz [(82, _), (87, _), (92, _)] ⟨some 3, (Op.call (Call.mk (Callee.value (Operand.func 20)) #[(.tmp 0), (.tmp 1), (.tmp 2)] #[40, 5, 5])), 4, "", #[], none⟩ [_, _, _, undef] 3 rfl ((wanted_some (b := false) rfl rfl s69).trans rfl) ⟨s82, s87, s92, trivial⟩ rfl (ren_call rfl rfl) hQ0 ?_
                  clear hQ0 hH s82 s87 s92 s69
                  intro Q hQ
                  go_wp2_with (go_at_call 20; refine ((HWR.out w' hR)).mono ?_; rintro e w1 ⟨rfl, hg1⟩)
                  exact hQ _ _ hg1 rfl rfl
            refine obls_cons (fun f w' hR hH Q0 hQ0 => ?_) ?_
            · skip
              have s81 := (sv_at 81 29 hsz f [(81, 29), (93, 41), (69, 17)] rfl).trans (show f 29 = _ from hH.get 0 (81, 29) rfl)
              have s93 := (sv_at 93 41 hsz f [(81, 29), (93, 41), (69, 17)] rfl).trans (show f 41 = _ from hH.get 1 (93, 41) rfl)
              have s69 := (sv_at 69 17 hsz f [(81, 29), (93, 41), (69, 17)] rfl).trans (show f 17 = _ from hH.get 2 (69, 17) rfl)
              first
                | exact skip_v hsz rfl ((wanted_some (b := true) rfl rfl s69).trans rfl) hQ0 (Grow.refl _) rfl
                | refine small_v hsz [(81, _), (93, _)] ⟨some 2, (Op.binOp BinOp.neq 4 (.tmp 0) (.tmp 1) 4), 4, "", #[], none⟩ [_, _, undef] 2 rfl ((wanted_some (b := false) rfl rfl s69).trans rfl) ⟨s81, s93, trivial⟩ rfl rfl hQ0 ?_
                  clear hQ0 hH s81 s93 s69
                  intro Q hQ
                  repeat go_step
                  exact hQ _ _ (Grow.refl _) rfl rfl
            refine obls_cons (fun f w' hR hH Q0 hQ0 => ?_) ?_
            · skip
              have s69 := (sv_at 69 17 hsz f [(69, 17), (94, 42)] rfl).trans (show f 17 = _ from hH.get 0 (69, 17) rfl)
              have s94 := (sv_at 94 42 hsz f [(69, 17), (94, 42)] rfl).trans (show f 42 = _ from hH.get 1 (94, 42) rfl)
              refine small_v hsz [(69, _), (94, _)] ⟨some 2, (Op.pick (.tmp 0) (Operand.const (Value.bool true)) (.tmp 1)), 4, "", #[], none⟩ [_, _, undef] 2 rfl rfl ⟨s69, s94, trivial⟩ rfl rfl hQ0 ?_
              clear hQ0 hH s69 s94
              intro Q hQ
              repeat go_step
              exact hQ _ _ (Grow.refl _) rfl rfl
            exact obls_nil
          case mono => exact ⟨Mono.veq _, Mono.veq _, Mono.veq _, Mono.veq _, Mono.veq _, Mono.veq _, Mono.veq _, Mono.veq _, Mono.veq _, Mono.veq _, Mono.veq _, Mono.veq _, Mono.veq _, Mono.veq _, Mono.veq _, Mono.veq _, Mono.veq _, Mono.veq _, Mono.veq _, Mono.veq _, Mono.veq _, Mono.veq _, Mono.veq _, Mono.veq _, Mono.veq _, Mono.veq _, Mono.veq _, Mono.veq _, Mono.veq _, Mono.veq _, Mono.veq _, Mono.veq _, Mono.veq _, Mono.veq _, Mono.veq _, Mono.veq _, Mono.veq _, Mono.veq _, Mono.veq _, Mono.veq _, Mono.veq _, Mono.veq _, Mono.veq _, Mono.veq _, trivial⟩
          case tail =>
            intro f w' hR hH
            have q43 := hH.get 43 (95, 43) rfl
            clear hH
            refine wpList_merge (idx := [none, none, none, none, none, none, none, none, none, none, none, none, none, none, none, none, none, none, none, none, none, none, none, none, none, none, none, none, none, none, none, none, none, none, none, none, none, none, none, none, none, none, none, none, none, none, none, none, none, none, none, none, some 0, some 1, some 2, some 3, some 4, some 5, some 6, some 7, some 8, some 9, some 10, some 11, some 12, some 13, some 14, some 15, some 16, some 17, some 18, some 19, some 20, some 21, some 22, some 23, some 24, some 25, some 26, some 27, some 28, some 29, some 30, some 31, some 32, some 33, some 34, some 35, some 36, some 37, some 38, some 39, some 40, some 41, some 42, some 43, none, none, none, none, none, none, none, none, none, none, none, none, none, none, none, none, none, none, none, none, none, none, none, none, none, none, none, none, none, none, none, none, none, none, none, none, none, none, none, none, none, none, none, none, none, none, none, none, none, none, none, none, none, none, none, none, none, none, none, none, none, none, none, none, none]) (by kernel_rfl) ?_; show wpList _ _ _ [] ⟨#[_, _, _, _, _, _, _, _, _, _, _, _, _, _, _, _, _, _, _, _, _, _, _, _, _, _, _, _, _, _, _, _, _, _, _, _, _, _, _, _, _, _, _, _, _, _, _, _, _, _, _, _, f 0, f 1, f 2, f 3, f 4, f 5, f 6, f 7, f 8, f 9, f 10, f 11, f 12, f 13, f 14, f 15, f 16, f 17, f 18, f 19, f 20, f 21, f 22, f 23, f 24, f 25, f 26, f 27, f 28, f 29, f 30, f 31, f 32, f 33, f 34, f 35, f 36, f 37, f 38, f 39, f 40, f 41, f 42, f 43, _, _, _, _, _, _, _, _, _, _, _, _, _, _, _, _, _, _, _, _, _, _, _, _, _, _, _, _, _, _, _, _, _, _, _, _, _, _, _, _, _, _, _, _, _, _, _, _, _, _, _, _, _, _, _, _, _, _, _, _, _, _, _, _, _], _⟩ _
            rw [show f 43 = _ from q43]
            clear q43
            have HPL := Lib.hid (HPL9.out.grow hR)
            have HG10 := Lib.hid (HG9.out.trans hR)
            have hml4 : m1 ≤ 4096 := by rw [HML.out]; exact HPL9.out.net.len
            clear hR HPL9 HSM HLN HWN HWR HB99 H129 HRB HG9
            go_wp2_with fail
            go_loopw [13] (fun i' wx => ∃ k2 : Nat, k2 ≤ m1 ∧ i' = .int .i64 (k2 : Int) ∧ PlI wx w.heap.size g bm N cnt' b6 lv' ps1 C' cs' B1 m1 d1 B2 m2 d2 ∧ Grow w wx) (fun i' _ => m1 - (intOf i').toNat)
            case atStart => exact ⟨0, by omega, rfl, HPL.out, HG10.out⟩
            case round =>
              clear HPL HG10
              obtain ⟨k2, hk2, rfl, hI6, hg6⟩ := hrel
              have y1 := hI6.bx.cell (i := 1) rfl
              have HI6 := Lib.hid hI6
              have HG6 := Lib.hid hg6
              clear hI6 hg6
              by_cases hlt2 : k2 < m1
              · have t7 : decide (k2 < m1) = true := decide_eq_true hlt2
                have t8 : decide ((k2 : Int) < (m1 : Int)) = true := decide_eq_true (by omega)
                obtain ⟨p6, hp6⟩ : ∃ q, ps1[k2]? = some q := ⟨_, List.getElem?_eq_getElem (by have := HML.out; omega)⟩
                have HAT := Lib.hid (at_yes wr _ _ _ _ _ _ _ _ HI6.out.net k2 p6 hp6)
                obtain ⟨bb, offb, eB, hcc⟩ : ∃ bb offb, B1 = some ⟨bb, offb, none⟩ ∧ ∀ j u, (rrow (pkOf p6))[j]? = some u → wr.cell? ⟨bb, offb + k2 * 4 + j, none⟩ = some u := by
                  obtain ⟨A9, c9, e9, -, -, hr9, -⟩ := HI6.out.ref.l
                  injection e9 with e1 e2 e3
                  subst e1
                  obtain ⟨bb, offb, e, hc9⟩ := hr9.2 (by rw [List.length_map, ← HML.out]; omega)
                  exact ⟨bb, offb, e, fun j u hu => by rw [Nat.add_assoc]; exact hc9 _ _ (rrows_get (by rw [List.getElem?_map, hp6]; rfl) hu)⟩
                subst eB
                have HCC := Lib.hid hcc
                have HK2 := Lib.hid hlt2
                clear hcc hp6
                go_wp2_with fail
                refine HAT.out.mono ?_
                rintro e w6 ⟨v6, rfl, hown6, hg6⟩
                have hb6 : BV w6 v6 p6.b := BV.own hown6
                obtain ⟨b14, hb14⟩ : ∃ b, b = w6.heap.size := ⟨_, rfl⟩
                obtain ⟨W7, hW7⟩ : ∃ W, W = w6.alloc (.cells #[.int .u8 (p6.fr : Int), .int .u8 (p6.to : Int), v6, .bool p6.sp] TK) := ⟨_, rfl⟩
                have hgA : Grow w6 W7 := by rw [hW7]; exact Grow.alloc _ _
                have hbx : Blk W7 b14 TK [.int .u8 (p6.fr : Int), .int .u8 (p6.to : Int), v6, .bool p6.sp] := by rw [hW7]; exact Blk.new _ _ _ _ rfl hb14
                have hsl7 : Sl W7 v6 p6.b := by
                  obtain ⟨A8, c8, e8, h1, h2, h3, -⟩ := hb6.grow hgA
                  exact ⟨A8, _, c8, e8, h1, h2, h3⟩
                have HSM : Hid (∀ w', Grow W7 w' → Calls Try.prog 18 #[.agg #[.int .u8 (p6.fr : Int), .int .u8 (p6.to : Int), v6, .bool p6.sp], .agg #[.int .u8 (p6.fr : Int), .int .u8 (p6.to : Int), .string (str p6.b), .bool p6.sp]] w' fun e w9 => e = .returned (.bool true) ∧ Grow w' w9) := Lib.hid fun w' hg => by
                  have h := same_any w' p6.fr p6.to p6.fr p6.to v6 p6.b p6.b p6.sp p6.sp (hsl7.grow hg)
                  rw [decide_eq_true (And.intro rfl (And.intro rfl (And.intro rfl rfl)))] at h
                  exact h
                have HI7 := Lib.hid (HI6.out.grow (hg6.trans hgA))
                have HG7 := Lib.hid (HG6.out.trans (hg6.trans hgA))
                have HC7 : Hid (∀ w', Grow W7 w' → ∀ j u, (rrow (pkOf p6))[j]? = some u → w'.cell? ⟨bb, offb + k2 * 4 + j, none⟩ = some u) := Lib.hid fun w' hg j u hu => (hg6.trans (hgA.trans hg)).cell (HCC.out j u hu)
                have HBX := Lib.hid hbx
                have HW7 := Lib.hid hW7
                have HB14 := Lib.hid hb14
                obtain ⟨A8, c8, rfl, -⟩ := hb6
                clear hown6 hg6 hb14 hW7 hgA hbx hsl7 HAT y1 HI6 HG6 HCC
                go_wp2_with fail
                rw [← HB14.out, ← HW7.out]
                apply (fun (v0 v1 v2 v3 v4 v5 v6 v7 v8 v9 v10 v11 : Value) mono obl tail => wp_region_par (R := Grow) (Φ := phi [veq v0, veq v1, veq v2, veq v3, veq v4, veq v5, veq v6, veq v7, veq v8, veq v9, veq v10, veq v11]) (m := 12) (dls := [[], [(109, 0)], [(110, 1)], [(111, 2)], [(111, 2)], [(113, 4), (111, 2)], [(111, 2)], [(114, 5), (115, 6), (111, 2)], [(116, 7), (111, 2)], [(112, 3), (117, 8), (111, 2)], [(118, 9), (111, 2)], [(111, 2), (119, 10)]]) (ds := [109, 110, 111, 112, 113, 114, 115, 116, 117, 118, 119, 120]) (by kernel_rfl) (by kernel_rfl) (by decide) rfl (Grow.drew _) (fun _ _ _ => Grow.trans) (mono_phi mono) obl tail)
                case obl =>
                  refine obls_frame (fun a1 ha => ?_)
                  have hsz := rd_size (n := 161) ha rfl
                  have e15 := rd_slot 15 ha rfl
                  have e14 := rd_slot 14 ha rfl
                  have e6 := rd_slot 6 ha rfl
                  have e13 := rd_slot 13 ha rfl
                  clear ha
                  refine obls_cons (fun f w' hR hH Q0 hQ0 => ?_) ?_
                  · skip
                    have s15 := sv_off f [] e15 rfl
                    refine small_v hsz [(15, _)] ⟨some 1, (Op.move (.tmp 0)), 4, "", #[], none⟩ [_, undef] 1 rfl rfl ⟨s15, trivial⟩ rfl rfl hQ0 ?_
                    clear hQ0 hH s15
                    intro Q hQ
                    repeat go_step
                    exact hQ _ _ (Grow.refl _) rfl rfl
                  refine obls_cons (fun f w' hR hH Q0 hQ0 => ?_) ?_
                  · skip
                    have s109 := (sv_at 109 0 hsz f [(109, 0)] rfl).trans (show f 0 = _ from hH.get 0 (109, 0) rfl)
                    refine small_v hsz [(109, _)] ⟨some 1, (Op.unOp UnOp.not 4 (.tmp 0)), 4, "", #[], none⟩ [_, undef] 1 rfl rfl ⟨s109, trivial⟩ rfl rfl hQ0 ?_
                    clear hQ0 hH s109
                    intro Q hQ
                    repeat go_step
                    exact hQ _ _ (Grow.refl _) rfl rfl
                  refine obls_cons (fun f w' hR hH Q0 hQ0 => ?_) ?_
                  · skip
                    have s110 := (sv_at 110 1 hsz f [(110, 1)] rfl).trans (show f 1 = _ from hH.get 0 (110, 1) rfl)
                    refine small_v hsz [(110, _)] ⟨some 1, (Op.move (.tmp 0)), 4, "", #[], none⟩ [_, undef] 1 rfl rfl ⟨s110, trivial⟩ rfl rfl hQ0 ?_
                    clear hQ0 hH s110
                    intro Q hQ
                    repeat go_step
                    exact hQ _ _ (Grow.refl _) rfl rfl
                  refine obls_cons (fun f w' hR hH Q0 hQ0 => ?_) ?_
                  · skip
                    have s14 := sv_off f [(111, 2)] e14 rfl
                    have s111 := (sv_at 111 2 hsz f [(111, 2)] rfl).trans (show f 2 = _ from hH.get 0 (111, 2) rfl)
                    first
                      | exact skip_v hsz rfl ((wanted_some (b := true) rfl rfl s111).trans rfl) hQ0 (Grow.refl _) rfl
                      | refine small_v hsz [(14, _)] ⟨some 1, (Op.load 30 (.tmp 0)), 30, "", #[], none⟩ [_, undef] 1 rfl ((wanted_some (b := false) rfl rfl s111).trans rfl) ⟨s14, trivial⟩ rfl rfl hQ0 ?_
                        clear hQ0 hH s14 s111
                        intro Q hQ
                        have y0 := (HBX.out.grow hR).cell (i := 0) rfl
                        have y1 := (HBX.out.grow hR).cell (i := 1) rfl
                        have y2 := (HBX.out.grow hR).cell (i := 2) rfl
                        have y3 := (HBX.out.grow hR).cell (i := 3) rfl
                        repeat go_step
                        exact hQ _ _ (Grow.refl _) rfl rfl
                  refine obls_cons (fun f w' hR hH Q0 hQ0 => ?_) ?_
                  · skip
                    have s6 := sv_off f [(111, 2)] e6 rfl
                    have s111 := (sv_at 111 2 hsz f [(111, 2)] rfl).trans (show f 2 = _ from hH.get 0 (111, 2) rfl)
                    first
                      | exact skip_v hsz rfl ((wanted_some (b := true) rfl rfl s111).trans rfl) hQ0 (Grow.refl _) rfl
                      | refine small_v hsz [(6, _)] ⟨some 1, (Op.fieldAddr 40 (.tmp 0) 1), 0, "", #[], none⟩ [_, undef] 1 rfl ((wanted_some (b := false) rfl rfl s111).trans rfl) ⟨s6, trivial⟩ rfl rfl hQ0 ?_
                        clear hQ0 hH s6 s111
                        intro Q hQ
                        repeat go_step
                        exact hQ _ _ (Grow.refl _) rfl rfl
                  refine obls_cons (fun f w' hR hH Q0 hQ0 => ?_) ?_
                  · skip
                    have s113 := (sv_at 113 4 hsz f [(113, 4), (111, 2)] rfl).trans (show f 4 = _ from hH.get 0 (113, 4) rfl)
                    have s111 := (sv_at 111 2 hsz f [(113, 4), (111, 2)] rfl).trans (show f 2 = _ from hH.get 1 (111, 2) rfl)
                    first
                      | exact skip_v hsz rfl ((wanted_some (b := true) rfl rfl s111).trans rfl) hQ0 (Grow.refl _) rfl
                      | refine small_v hsz [(113, _)] ⟨some 1, (Op.load 37 (.tmp 0)), 37, "", #[], none⟩ [_, undef] 1 rfl ((wanted_some (b := false) rfl rfl s111).trans rfl) ⟨s113, trivial⟩ rfl rfl hQ0 ?_
                        clear hQ0 hH s113 s111
                        intro Q hQ
                        have y1 := (HI7.out.bx.grow hR).cell (i := 1) rfl
                        repeat go_step
                        exact hQ _ _ (Grow.refl _) rfl rfl
                  refine obls_cons (fun f w' hR hH Q0 hQ0 => ?_) ?_
                  · skip
                    have s13 := sv_off f [(111, 2)] e13 rfl
                    have s111 := (sv_at 111 2 hsz f [(111, 2)] rfl).trans (show f 2 = _ from hH.get 0 (111, 2) rfl)
                    first
                      | exact skip_v hsz rfl ((wanted_some (b := true) rfl rfl s111).trans rfl) hQ0 (Grow.refl _) rfl
                      | refine small_v hsz [(13, _)] ⟨some 1, (Op.move (.tmp 0)), 3, "", #[], none⟩ [_, undef] 1 rfl ((wanted_some (b := false) rfl rfl s111).trans rfl) ⟨s13, trivial⟩ rfl rfl hQ0 ?_
                        clear hQ0 hH s13 s111
                        intro Q hQ
                        repeat go_step
                        exact hQ _ _ (Grow.refl _) rfl rfl
                  refine obls_cons (fun f w' hR hH Q0 hQ0 => ?_) ?_
                  · skip
                    have s114 := (sv_at 114 5 hsz f [(114, 5), (115, 6), (111, 2)] rfl).trans (show f 5 = _ from hH.get 0 (114, 5) rfl)
                    have s115 := (sv_at 115 6 hsz f [(114, 5), (115, 6), (111, 2)] rfl).trans (show f 6 = _ from hH.get 1 (115, 6) rfl)
                    have s111 := (sv_at 111 2 hsz f [(114, 5), (115, 6), (111, 2)] rfl).trans (show f 2 = _ from hH.get 2 (111, 2) rfl)
                    first
                      | exact skip_v hsz rfl ((wanted_some (b := true) rfl rfl s111).trans rfl) hQ0 (Grow.refl _) rfl
                      | refine small_v hsz [(114, _), (115, _)] ⟨some 2, (Op.indexAddr 37 (.tmp 0) (.tmp 1)), 0, "", #[], none⟩ [_, _, undef] 2 rfl ((wanted_some (b := false) rfl rfl s111).trans rfl) ⟨s114, s115, trivial⟩ rfl rfl hQ0 ?_
                        clear hQ0 hH s114 s115 s111
                        intro Q hQ
                        repeat go_step
                        exact hQ _ _ (Grow.refl _) rfl rfl
                  refine obls_cons (fun f w' hR hH Q0 hQ0 => ?_) ?_
                  · skip
                    have s116 := (sv_at 116 7 hsz f [(116, 7), (111, 2)] rfl).trans (show f 7 = _ from hH.get 0 (116, 7) rfl)
                    have s111 := (sv_at 111 2 hsz f [(116, 7), (111, 2)] rfl).trans (show f 2 = _ from hH.get 1 (111, 2) rfl)
                    first
                      | exact skip_v hsz rfl ((wanted_some (b := true) rfl rfl s111).trans rfl) hQ0 (Grow.refl _) rfl
                      | refine small_v hsz [(116, _)] ⟨some 1, (Op.load 48 (.tmp 0)), 48, "", #[], none⟩ [_, undef] 1 rfl ((wanted_some (b := false) rfl rfl s111).trans rfl) ⟨s116, trivial⟩ rfl rfl hQ0 ?_
                        clear hQ0 hH s116 s111
                        intro Q hQ
                        have y0 := HC7.out w' hR 0 _ rfl
                        have y1 := HC7.out w' hR 1 _ rfl
                        have y2 := HC7.out w' hR 2 _ rfl
                        have y3 := HC7.out w' hR 3 _ rfl
                        rw [Nat.add_zero] at y0
                        unfold pkOf at y0 y1 y2 y3
                        repeat go_step
                        exact hQ _ _ (Grow.refl _) rfl rfl
                  refine obls_cons (fun f w' hR hH Q0 hQ0 => ?_) ?_
                  · skip
                    have s112 := (sv_at 112 3 hsz f [(112, 3), (117, 8), (111, 2)] rfl).trans (show f 3 = _ from hH.get 0 (112, 3) rfl)
                    have s117 := (sv_at 117 8 hsz f [(112, 3), (117, 8), (111, 2)] rfl).trans (show f 8 = _ from hH.get 1 (117, 8) rfl)
                    have s111 := (sv_at 111 2 hsz f [(112, 3), (117, 8), (111, 2)] rfl).trans (show f 2 = _ from hH.get 2 (111, 2) rfl)
                    first
                      | exact skip_v hsz rfl ((wanted_some (b := true) rfl rfl s111).trans rfl) hQ0 (Grow.refl _) rfl
                      | refine small_v hsz [(112, _), (117, _)] ⟨some 2, (Op.call (Call.mk (Callee.value (Operand.func 18)) #[(.tmp 0), (.tmp 1)] #[30, 48])), 4, "", #[], none⟩ [_, _, undef] 2 rfl ((wanted_some (b := false) rfl rfl s111).trans rfl) ⟨s112, s117, trivial⟩ rfl (ren_call rfl rfl) hQ0 ?_
                        clear hQ0 hH s112 s117 s111
                        intro Q hQ
                        go_wp2_with (go_at_call 18; refine ((HSM.out w' hR)).mono ?_; rintro e w1 ⟨rfl, hg1⟩)
                        exact hQ _ _ hg1 rfl rfl
                  refine obls_cons (fun f w' hR hH Q0 hQ0 => ?_) ?_
                  · skip
                    have s118 := (sv_at 118 9 hsz f [(118, 9), (111, 2)] rfl).trans (show f 9 = _ from hH.get 0 (118, 9) rfl)
                    have s111 := (sv_at 111 2 hsz f [(118, 9), (111, 2)] rfl).trans (show f 2 = _ from hH.get 1 (111, 2) rfl)
                    first
                      | exact skip_v hsz rfl ((wanted_some (b := true) rfl rfl s111).trans rfl) hQ0 (Grow.refl _) rfl
                      | refine small_v hsz [(118, _)] ⟨some 1, (Op.unOp UnOp.not 4 (.tmp 0)), 4, "", #[], none⟩ [_, undef] 1 rfl ((wanted_some (b := false) rfl rfl s111).trans rfl) ⟨s118, trivial⟩ rfl rfl hQ0 ?_
                        clear hQ0 hH s118 s111
                        intro Q hQ
                        repeat go_step
                        exact hQ _ _ (Grow.refl _) rfl rfl
                  refine obls_cons (fun f w' hR hH Q0 hQ0 => ?_) ?_
                  · skip
                    have s111 := (sv_at 111 2 hsz f [(111, 2), (119, 10)] rfl).trans (show f 2 = _ from hH.get 0 (111, 2) rfl)
                    have s119 := (sv_at 119 10 hsz f [(111, 2), (119, 10)] rfl).trans (show f 10 = _ from hH.get 1 (119, 10) rfl)
                    refine small_v hsz [(111, _), (119, _)] ⟨some 2, (Op.pick (.tmp 0) (Operand.const (Value.bool true)) (.tmp 1)), 4, "", #[], none⟩ [_, _, undef] 2 rfl rfl ⟨s111, s119, trivial⟩ rfl rfl hQ0 ?_
                    clear hQ0 hH s111 s119
                    intro Q hQ
                    repeat go_step
                    exact hQ _ _ (Grow.refl _) rfl rfl
                  exact obls_nil
                case mono => exact ⟨Mono.veq _, Mono.veq _, Mono.veq _, Mono.veq _, Mono.veq _, Mono.veq _, Mono.veq _, Mono.veq _, Mono.veq _, Mono.veq _, Mono.veq _, Mono.veq _, trivial⟩
                case tail =>
                  intro f w' hR hH
                  have q11 := hH.get 11 (120, 11) rfl
                  clear hH
                  refine wpList_merge (idx := [none, none, none, none, none, none, none, none, none, none, none, none, none, none, none, none, none, none, none, none, none, none, none, none, none, none, none, none, none, none, none, none, none, none, none, none, none, none, none, none, none, none, none, none, none, none, none, none, none, none, none, none, none, none, none, none, none, none, none, none, none, none, none, none, none, none, none, none, none, none, none, none, none, none, none, none, none, none, none, none, none, none, none, none, none, none, none, none, none, none, none, none, none, none, none, none, none, none, none, none, none, none, none, none, none, none, none, none, none, some 0, some 1, some 2, some 3, some 4, some 5, some 6, some 7, some 8, some 9, some 10, some 11, none, none, none, none, none, none, none, none, none, none, none, none, none, none, none, none, none, none, none, none, none, none, none, none, none, none, none, none, none, none, none, none, none, none, none, none, none, none, none, none]) (by kernel_rfl) ?_; show wpList _ _ _ [] ⟨#[_, _, _, _, _, _, _, _, _, _, _, _, _, _, _, _, _, _, _, _, _, _, _, _, _, _, _, _, _, _, _, _, _, _, _, _, _, _, _, _, _, _, _, _, _, _, _, _, _, _, _, _, _, _, _, _, _, _, _, _, _, _, _, _, _, _, _, _, _, _, _, _, _, _, _, _, _, _, _, _, _, _, _, _, _, _, _, _, _, _, _, _, _, _, _, _, _, _, _, _, _, _, _, _, _, _, _, _, _, f 0, f 1, f 2, f 3, f 4, f 5, f 6, f 7, f 8, f 9, f 10, f 11, _, _, _, _, _, _, _, _, _, _, _, _, _, _, _, _, _, _, _, _, _, _, _, _, _, _, _, _, _, _, _, _, _, _, _, _, _, _, _, _], _⟩ _
                  rw [show f 11 = _ from q11]
                  clear q11
                  have HI8 := Lib.hid (HI7.out.grow hR)
                  have HG8 := Lib.hid (HG7.out.trans hR)
                  clear hR
                  go_wp2_with fail
                  go_roundw
                  case rel => exact ⟨k2 + 1, by have := HK2.out; omega, by go_num, HI8.out, HG8.out⟩
                  case measure => have := HK2.out; simp [intOf] <;> omega
              · have t7 : decide (k2 < m1) = false := decide_eq_false hlt2
                have t8 : decide ((k2 : Int) < (m1 : Int)) = false := decide_eq_false (by omega)
                clear hlt2 hk2
                have c3 := HC.out wr HG6.out 3 _ rfl
                obtain ⟨p, hp⟩ : ∃ p, p = (getK (ps1.map pkOf) a.K).getD zpk := ⟨_, rfl⟩
                obtain ⟨ok, hok⟩ : ∃ q, q = (getK (ps1.map pkOf) a.K).isSome := ⟨_, rfl⟩
                have HAT := Lib.hid (at_all HI6.out.net a.K p ok hp hok)
                obtain ⟨q1, hq1⟩ : ∃ q, q = decide ((0 : Int) ≤ a.K) := ⟨_, rfl⟩
                obtain ⟨q2, hq2⟩ : ∃ q, q = decide (a.K < (m1 : Int)) := ⟨_, rfl⟩
                have s1 := hq1.symm
                have s2 := hq2.symm
                have hoq : ok = (q1 && q2) := by
                  rw [hok, hq1, hq2]
                  by_cases h0 : 0 ≤ a.K
                  · rw [decide_eq_true h0, Bool.true_and]
                    by_cases h1 : a.K < (m1 : Int)
                    · rw [decide_eq_true h1]
                      unfold getK
                      rw [if_pos h0, List.getElem?_eq_getElem (by rw [List.length_map, ← HML.out]; omega)]
                      rfl
                    · rw [decide_eq_false h1, getK_none (.inr (by rw [List.length_map, ← HML.out]; omega))]
                      rfl
                  · rw [decide_eq_false h0, getK_none (.inl (by omega))]
                    rfl
                have hpz : ok = false → p = zpk := fun h => by
                  rw [hp]
                  rw [hok] at h
                  cases hgk : getK (ps1.map pkOf) a.K with
                  | none => rfl
                  | some v => rw [hgk] at h; cases h
                have HPZ := Lib.hid hpz
                clear hp hok hq1 hq2 hpz
                subst hoq
                go_wp2_with fail
                refine HAT.out.mono ?_
                rintro e w6 ⟨v6, rfl, hb6, hg6⟩
                obtain ⟨b16, hb16⟩ : ∃ b, b = w6.heap.size := ⟨_, rfl⟩
                obtain ⟨W7, hW7⟩ : ∃ W, W = w6.alloc (.cells #[.int .u8 (p.fr : Int), .int .u8 (p.to : Int), v6, .bool p.sp] TK) := ⟨_, rfl⟩
                have hgA : Grow w6 W7 := by rw [hW7]; exact Grow.alloc _ _
                have hbx : Blk W7 b16 TK [.int .u8 (p.fr : Int), .int .u8 (p.to : Int), v6, .bool p.sp] := by rw [hW7]; exact Blk.new _ _ _ _ rfl hb16
                have hsl7 : Sl W7 v6 p.b := by
                  obtain ⟨A8, c8, e8, h1, h2, h3, -⟩ := hb6.grow hgA
                  exact ⟨A8, _, c8, e8, h1, h2, h3⟩
                have HSZ : Hid ((q1 && q2) = false → ∀ w', Grow W7 w' → Calls Try.prog 18 #[.agg #[.int .u8 (p.fr : Int), .int .u8 (p.to : Int), v6, .bool p.sp], .agg #[.int .u8 0, .int .u8 0, .string ⟨#[]⟩, .bool false]] w' fun e w9 => e = .returned (.bool true) ∧ Grow w' w9) := Lib.hid fun hf w' hg => by
                  have h := same_any w' p.fr p.to 0 0 v6 p.b [] p.sp false (hsl7.grow hg)
                  rw [decide_eq_true (by rw [HPZ.out hf]; exact And.intro rfl (And.intro rfl (And.intro rfl rfl)))] at h
                  exact h
                have HI7 := Lib.hid (HI6.out.grow (hg6.trans hgA))
                have HG7 := Lib.hid (HG6.out.trans (hg6.trans hgA))
                have HBX16 := Lib.hid hbx
                have HW7 := Lib.hid hW7
                have HB16 := Lib.hid hb16
                obtain ⟨A8, c8, rfl, -⟩ := hb6
                clear hg6 hb16 hW7 hgA hbx hsl7 HAT y1 c3 HI6 HG6 HPZ
                go_wp2_with fail
                rw [← HB16.out, ← HW7.out]
                cases q1
                · skip
                  apply (fun (v0 v1 v2 v3 v4 v5 v6 v7 v8 v9 v10 v11 v12 v13 v14 v15 v16 v17 v18 v19 v20 v21 v22 v23 v24 v25 v26 v27 v28 : Value) mono obl tail => wp_region_par (R := Grow) (Φ := phi [veq v0, veq v1, veq v2, veq v3, veq v4, veq v5, veq v6, veq v7, veq v8, veq v9, veq v10, veq v11, veq v12, veq v13, veq v14, veq v15, veq v16, veq v17, veq v18, veq v19, veq v20, veq v21, veq v22, veq v23, veq v24, veq v25, veq v26, veq v27, veq v28]) (m := 29) (dls := [[], [], [], [(132, 1), (133, 2)], [(134, 3)], [(135, 4)], [(136, 5)], [(137, 6)], [(138, 7)], [(138, 7)], [(139, 8), (140, 9), (138, 7)], [(141, 10), (138, 7)], [(142, 11), (138, 7)], [(138, 7)], [(144, 13), (138, 7)], [(145, 14), (138, 7)], [(143, 12), (146, 15), (138, 7)], [(138, 7), (147, 16)], [(131, 0), (148, 17)], [(149, 18)], [(150, 19)], [(151, 20), (150, 19)], [(152, 21), (150, 19)], [(153, 22)], [(153, 22)], [(154, 23), (155, 24), (153, 22)], [(156, 25), (153, 22)], [(153, 22), (157, 26), (150, 19)], [(150, 19), (158, 27)]]) (ds := [131, 132, 133, 134, 135, 136, 137, 138, 139, 140, 141, 142, 143, 144, 145, 146, 147, 148, 149, 150, 151, 152, 153, 154, 155, 156, 157, 158, 159]) (by kernel_rfl) (by kernel_rfl) (by decide) rfl (Grow.drew _) (fun _ _ _ => Grow.trans) (mono_phi mono) obl tail)
                  case obl =>
                    refine obls_frame (fun a1 ha => ?_)
                    have hsz := rd_size (n := 161) ha rfl
                    have e17 := rd_slot 17 ha rfl
                    have e1 := rd_slot 1 ha rfl
                    have e7 := rd_slot 7 ha rfl
                    have e6 := rd_slot 6 ha rfl
                    have e16 := rd_slot 16 ha rfl
                    clear ha
                    refine obls_cons (fun f w' hR hH Q0 hQ0 => ?_) ?_
                    · skip
                      have s17 := sv_off f [] e17 rfl
                      refine small_v hsz [(17, _)] ⟨some 1, (Op.move (.tmp 0)), 4, "", #[], none⟩ [_, undef] 1 rfl rfl ⟨s17, trivial⟩ rfl rfl hQ0 ?_
                      clear hQ0 hH s17
                      intro Q hQ
                      repeat go_step
                      exact hQ _ _ (Grow.refl _) rfl rfl
                    refine obls_cons (fun f w' hR hH Q0 hQ0 => ?_) ?_
                    · skip
                      have s1 := sv_off f [] e1 rfl
                      refine small_v hsz [(1, _)] ⟨some 1, (Op.move (.tmp 0)), 35, "", #[], none⟩ [_, undef] 1 rfl rfl ⟨s1, trivial⟩ rfl rfl hQ0 ?_
                      clear hQ0 hH s1
                      intro Q hQ
                      repeat go_step
                      exact hQ _ _ (Grow.refl _) rfl rfl
                    refine obls_cons (fun f w' hR hH Q0 hQ0 => ?_) ?_
                    · skip
                      have s7 := sv_off f [] e7 rfl
                      refine small_v hsz [(7, _)] ⟨some 1, (Op.move (.tmp 0)), 3, "", #[], none⟩ [_, undef] 1 rfl rfl ⟨s7, trivial⟩ rfl rfl hQ0 ?_
                      clear hQ0 hH s7
                      intro Q hQ
                      repeat go_step
                      exact hQ _ _ (Grow.refl _) rfl rfl
                    refine obls_cons (fun f w' hR hH Q0 hQ0 => ?_) ?_
                    · skip
                      have s132 := (sv_at 132 1 hsz f [(132, 1), (133, 2)] rfl).trans (show f 1 = _ from hH.get 0 (132, 1) rfl)
                      have s133 := (sv_at 133 2 hsz f [(132, 1), (133, 2)] rfl).trans (show f 2 = _ from hH.get 1 (133, 2) rfl)
                      refine small_v hsz [(132, _), (133, _)] ⟨some 2, (Op.indexAddr 35 (.tmp 0) (.tmp 1)), 0, "", #[], none⟩ [_, _, undef] 2 rfl rfl ⟨s132, s133, trivial⟩ rfl rfl hQ0 ?_
                      clear hQ0 hH s132 s133
                      intro Q hQ
                      repeat go_step
                      exact hQ _ _ (Grow.refl _) rfl rfl
                    refine obls_cons (fun f w' hR hH Q0 hQ0 => ?_) ?_
                    · skip
                      have s134 := (sv_at 134 3 hsz f [(134, 3)] rfl).trans (show f 3 = _ from hH.get 0 (134, 3) rfl)
                      refine small_v hsz [(134, _)] ⟨some 1, (Op.fieldAddr 46 (.tmp 0) 3), 0, "", #[], none⟩ [_, undef] 1 rfl rfl ⟨s134, trivial⟩ rfl rfl hQ0 ?_
                      clear hQ0 hH s134
                      intro Q hQ
                      repeat go_step
                      exact hQ _ _ (Grow.refl _) rfl rfl
                    refine obls_cons (fun f w' hR hH Q0 hQ0 => ?_) ?_
                    · skip
                      have s135 := (sv_at 135 4 hsz f [(135, 4)] rfl).trans (show f 4 = _ from hH.get 0 (135, 4) rfl)
                      refine small_v hsz [(135, _)] ⟨some 1, (Op.load 3 (.tmp 0)), 3, "", #[], none⟩ [_, undef] 1 rfl rfl ⟨s135, trivial⟩ rfl rfl hQ0 ?_
                      clear hQ0 hH s135
                      intro Q hQ
                      have y3 := HC.out w' (HG7.out.trans hR) 3 _ rfl
                      repeat go_step
                      exact hQ _ _ (Grow.refl _) rfl rfl
                    refine obls_cons (fun f w' hR hH Q0 hQ0 => ?_) ?_
                    · skip
                      have s136 := (sv_at 136 5 hsz f [(136, 5)] rfl).trans (show f 5 = _ from hH.get 0 (136, 5) rfl)
                      refine small_v hsz [(136, _)] ⟨some 1, (Op.binOp BinOp.geq 3 (.tmp 0) (Operand.const (Value.int IntKind.i64 0)) 3), 4, "", #[], none⟩ [_, undef] 1 rfl rfl ⟨s136, trivial⟩ rfl rfl hQ0 ?_
                      clear hQ0 hH s136
                      intro Q hQ
                      repeat go_step
                      exact hQ _ _ (Grow.refl _) rfl rfl
                    refine obls_cons (fun f w' hR hH Q0 hQ0 => ?_) ?_
                    · skip
                      have s137 := (sv_at 137 6 hsz f [(137, 6)] rfl).trans (show f 6 = _ from hH.get 0 (137, 6) rfl)
                      refine small_v hsz [(137, _)] ⟨some 1, (Op.move (.tmp 0)), 4, "", #[], none⟩ [_, undef] 1 rfl rfl ⟨s137, trivial⟩ rfl rfl hQ0 ?_
                      clear hQ0 hH s137
                      intro Q hQ
                      repeat go_step
                      exact hQ _ _ (Grow.refl _) rfl rfl
                    refine obls_cons (fun f w' hR hH Q0 hQ0 => ?_) ?_
                    · skip
                      have s1 := sv_off f [(138, 7)] e1 rfl
                      have s138 := (sv_at 138 7 hsz f [(138, 7)] rfl).trans (show f 7 = _ from hH.get 0 (138, 7) rfl)
                      first
                        | exact skip_v hsz rfl ((wanted_some (b := false) rfl rfl s138).trans rfl) hQ0 (Grow.refl _) rfl
                        | refine small_v hsz [(1, _)] ⟨some 1, (Op.move (.tmp 0)), 35, "", #[], none⟩ [_, undef] 1 rfl ((wanted_some (b := true) rfl rfl s138).trans rfl) ⟨s1, trivial⟩ rfl rfl hQ0 ?_
                          clear hQ0 hH s1 s138
                          intro Q hQ
                          repeat go_step
                          exact hQ _ _ (Grow.refl _) rfl rfl
                    refine obls_cons (fun f w' hR hH Q0 hQ0 => ?_) ?_
                    · skip
                      have s7 := sv_off f [(138, 7)] e7 rfl
                      have s138 := (sv_at 138 7 hsz f [(138, 7)] rfl).trans (show f 7 = _ from hH.get 0 (138, 7) rfl)
                      first
                        | exact skip_v hsz rfl ((wanted_some (b := false) rfl rfl s138).trans rfl) hQ0 (Grow.refl _) rfl
                        | refine small_v hsz [(7, _)] ⟨some 1, (Op.move (.tmp 0)), 3, "", #[], none⟩ [_, undef] 1 rfl ((wanted_some (b := true) rfl rfl s138).trans rfl) ⟨s7, trivial⟩ rfl rfl hQ0 ?_
                          clear hQ0 hH s7 s138
                          intro Q hQ
                          repeat go_step
                          exact hQ _ _ (Grow.refl _) rfl rfl
                    refine obls_cons (fun f w' hR hH Q0 hQ0 => ?_) ?_
                    · skip
                      have s139 := (sv_at 139 8 hsz f [(139, 8), (140, 9), (138, 7)] rfl).trans (show f 8 = _ from hH.get 0 (139, 8) rfl)
                      have s140 := (sv_at 140 9 hsz f [(139, 8), (140, 9), (138, 7)] rfl).trans (show f 9 = _ from hH.get 1 (140, 9) rfl)
                      have s138 := (sv_at 138 7 hsz f [(139, 8), (140, 9), (138, 7)] rfl).trans (show f 7 = _ from hH.get 2 (138, 7) rfl)
                      first
                        | exact skip_v hsz rfl ((wanted_some (b := false) rfl rfl s138).trans rfl) hQ0 (Grow.refl _) rfl
                        | refine small_v hsz [(139, _), (140, _)] ⟨some 2, (Op.indexAddr 35 (.tmp 0) (.tmp 1)), 0, "", #[], none⟩ [_, _, undef] 2 rfl ((wanted_some (b := true) rfl rfl s138).trans rfl) ⟨s139, s140, trivial⟩ rfl rfl hQ0 ?_
                          clear hQ0 hH s139 s140 s138
                          intro Q hQ
                          repeat go_step
                          exact hQ _ _ (Grow.refl _) rfl rfl
                    refine obls_cons (fun f w' hR hH Q0 hQ0 => ?_) ?_
                    · skip
                      have s141 := (sv_at 141 10 hsz f [(141, 10), (138, 7)] rfl).trans (show f 10 = _ from hH.get 0 (141, 10) rfl)
                      have s138 := (sv_at 138 7 hsz f [(141, 10), (138, 7)] rfl).trans (show f 7 = _ from hH.get 1 (138, 7) rfl)
                      first
                        | exact skip_v hsz rfl ((wanted_some (b := false) rfl rfl s138).trans rfl) hQ0 (Grow.refl _) rfl
                        | refine small_v hsz [(141, _)] ⟨some 1, (Op.fieldAddr 46 (.tmp 0) 3), 0, "", #[], none⟩ [_, undef] 1 rfl ((wanted_some (b := true) rfl rfl s138).trans rfl) ⟨s141, trivial⟩ rfl rfl hQ0 ?_
                          clear hQ0 hH s141 s138
                          intro Q hQ
                          repeat go_step
                          exact hQ _ _ (Grow.refl _) rfl rfl
                    refine obls_cons (fun f w' hR hH Q0 hQ0 => ?_) ?_
                    · skip
                      have s142 := (sv_at 142 11 hsz f [(142, 11), (138, 7)] rfl).trans (show f 11 = _ from hH.get 0 (142, 11) rfl)
                      have s138 := (sv_at 138 7 hsz f [(142, 11), (138, 7)] rfl).trans (show f 7 = _ from hH.get 1 (138, 7) rfl)
                      first
                        | exact skip_v hsz rfl ((wanted_some (b := false) rfl rfl s138).trans rfl) hQ0 (Grow.refl _) rfl
                        | refine small_v hsz [(142, _)] ⟨some 1, (Op.load 3 (.tmp 0)), 3, "", #[], none⟩ [_, undef] 1 rfl ((wanted_some (b := true) rfl rfl s138).trans rfl) ⟨s142, trivial⟩ rfl rfl hQ0 ?_
                          clear hQ0 hH s142 s138
                          intro Q hQ
                          have y3 := HC.out w' (HG7.out.trans hR) 3 _ rfl
                          repeat go_step
                          exact hQ _ _ (Grow.refl _) rfl rfl
                    refine obls_cons (fun f w' hR hH Q0 hQ0 => ?_) ?_
                    · skip
                      have s6 := sv_off f [(138, 7)] e6 rfl
                      have s138 := (sv_at 138 7 hsz f [(138, 7)] rfl).trans (show f 7 = _ from hH.get 0 (138, 7) rfl)
                      first
                        | exact skip_v hsz rfl ((wanted_some (b := false) rfl rfl s138).trans rfl) hQ0 (Grow.refl _) rfl
                        | refine small_v hsz [(6, _)] ⟨some 1, (Op.fieldAddr 40 (.tmp 0) 1), 0, "", #[], none⟩ [_, undef] 1 rfl ((wanted_some (b := true) rfl rfl s138).trans rfl) ⟨s6, trivial⟩ rfl rfl hQ0 ?_
                          clear hQ0 hH s6 s138
                          intro Q hQ
                          repeat go_step
                          exact hQ _ _ (Grow.refl _) rfl rfl
                    refine obls_cons (fun f w' hR hH Q0 hQ0 => ?_) ?_
                    · skip
                      have s144 := (sv_at 144 13 hsz f [(144, 13), (138, 7)] rfl).trans (show f 13 = _ from hH.get 0 (144, 13) rfl)
                      have s138 := (sv_at 138 7 hsz f [(144, 13), (138, 7)] rfl).trans (show f 7 = _ from hH.get 1 (138, 7) rfl)
                      first
                        | exact skip_v hsz rfl ((wanted_some (b := false) rfl rfl s138).trans rfl) hQ0 (Grow.refl _) rfl
                        | refine small_v hsz [(144, _)] ⟨some 1, (Op.load 37 (.tmp 0)), 37, "", #[], none⟩ [_, undef] 1 rfl ((wanted_some (b := true) rfl rfl s138).trans rfl) ⟨s144, trivial⟩ rfl rfl hQ0 ?_
                          clear hQ0 hH s144 s138
                          intro Q hQ
                          have y1 := (HI7.out.bx.grow hR).cell (i := 1) rfl
                          repeat go_step
                          exact hQ _ _ (Grow.refl _) rfl rfl
                    refine obls_cons (fun f w' hR hH Q0 hQ0 => ?_) ?_
                    · skip
                      have s145 := (sv_at 145 14 hsz f [(145, 14), (138, 7)] rfl).trans (show f 14 = _ from hH.get 0 (145, 14) rfl)
                      have s138 := (sv_at 138 7 hsz f [(145, 14), (138, 7)] rfl).trans (show f 7 = _ from hH.get 1 (138, 7) rfl)
                      first
                        | exact skip_v hsz rfl ((wanted_some (b := false) rfl rfl s138).trans rfl) hQ0 (Grow.refl _) rfl
                        | refine small_v hsz [(145, _)] ⟨some 1, (Op.call (Call.mk (Callee.builtin Builtin.len) #[(.tmp 0)] #[37])), 3, "", #[], none⟩ [_, undef] 1 rfl ((wanted_some (b := true) rfl rfl s138).trans rfl) ⟨s145, trivial⟩ rfl (ren_builtin rfl rfl) hQ0 ?_
                          clear hQ0 hH s145 s138
                          intro Q hQ
                          repeat go_step
                          exact hQ _ _ (Grow.refl _) rfl rfl
                    refine obls_cons (fun f w' hR hH Q0 hQ0 => ?_) ?_
                    · skip
                      have s143 := (sv_at 143 12 hsz f [(143, 12), (146, 15), (138, 7)] rfl).trans (show f 12 = _ from hH.get 0 (143, 12) rfl)
                      have s146 := (sv_at 146 15 hsz f [(143, 12), (146, 15), (138, 7)] rfl).trans (show f 15 = _ from hH.get 1 (146, 15) rfl)
                      have s138 := (sv_at 138 7 hsz f [(143, 12), (146, 15), (138, 7)] rfl).trans (show f 7 = _ from hH.get 2 (138, 7) rfl)
                      first
                        | exact skip_v hsz rfl ((wanted_some (b := false) rfl rfl s138).trans rfl) hQ0 (Grow.refl _) rfl
                        | refine small_v hsz [(143, _), (146, _)] ⟨some 2, (Op.binOp BinOp.lss 3 (.tmp 0) (.tmp 1) 3), 4, "", #[], none⟩ [_, _, undef] 2 rfl ((wanted_some (b := true) rfl rfl s138).trans rfl) ⟨s143, s146, trivial⟩ rfl rfl hQ0 ?_
                          clear hQ0 hH s143 s146 s138
                          intro Q hQ
                          repeat go_step
                          exact hQ _ _ (Grow.refl _) rfl rfl
                    refine obls_cons (fun f w' hR hH Q0 hQ0 => ?_) ?_
                    · skip
                      have s138 := (sv_at 138 7 hsz f [(138, 7), (147, 16)] rfl).trans (show f 7 = _ from hH.get 0 (138, 7) rfl)
                      have s147 := (sv_at 147 16 hsz f [(138, 7), (147, 16)] rfl).trans (show f 16 = _ from hH.get 1 (147, 16) rfl)
                      refine small_v hsz [(138, _), (147, _)] ⟨some 2, (Op.pick (.tmp 0) (.tmp 1) (Operand.const (Value.bool false))), 4, "", #[], none⟩ [_, _, undef] 2 rfl rfl ⟨s138, s147, trivial⟩ rfl rfl hQ0 ?_
                      clear hQ0 hH s138 s147
                      intro Q hQ
                      repeat go_step
                      exact hQ _ _ (Grow.refl _) rfl rfl
                    refine obls_cons (fun f w' hR hH Q0 hQ0 => ?_) ?_
                    · skip
                      have s131 := (sv_at 131 0 hsz f [(131, 0), (148, 17)] rfl).trans (show f 0 = _ from hH.get 0 (131, 0) rfl)
                      have s148 := (sv_at 148 17 hsz f [(131, 0), (148, 17)] rfl).trans (show f 17 = _ from hH.get 1 (148, 17) rfl)
                      refine small_v hsz [(131, _), (148, _)] ⟨some 2, (Op.binOp BinOp.neq 4 (.tmp 0) (.tmp 1) 4), 4, "", #[], none⟩ [_, _, undef] 2 rfl rfl ⟨s131, s148, trivial⟩ rfl rfl hQ0 ?_
                      clear hQ0 hH s131 s148
                      intro Q hQ
                      repeat go_step
                      exact hQ _ _ (Grow.refl _) rfl rfl
                    refine obls_cons (fun f w' hR hH Q0 hQ0 => ?_) ?_
                    · skip
                      have s149 := (sv_at 149 18 hsz f [(149, 18)] rfl).trans (show f 18 = _ from hH.get 0 (149, 18) rfl)
                      refine small_v hsz [(149, _)] ⟨some 1, (Op.move (.tmp 0)), 4, "", #[], none⟩ [_, undef] 1 rfl rfl ⟨s149, trivial⟩ rfl rfl hQ0 ?_
                      clear hQ0 hH s149
                      intro Q hQ
                      repeat go_step
                      exact hQ _ _ (Grow.refl _) rfl rfl
                    refine obls_cons (fun f w' hR hH Q0 hQ0 => ?_) ?_
                    · skip
                      have s17 := sv_off f [(150, 19)] e17 rfl
                      have s150 := (sv_at 150 19 hsz f [(150, 19)] rfl).trans (show f 19 = _ from hH.get 0 (150, 19) rfl)
                      first
                        | exact skip_v hsz rfl ((wanted_some (b := true) rfl rfl s150).trans rfl) hQ0 (Grow.refl _) rfl
                        | refine small_v hsz [(17, _)] ⟨some 1, (Op.move (.tmp 0)), 4, "", #[], none⟩ [_, undef] 1 rfl ((wanted_some (b := false) rfl rfl s150).trans rfl) ⟨s17, trivial⟩ rfl rfl hQ0 ?_
                          clear hQ0 hH s17 s150
                          intro Q hQ
                          repeat go_step
                          exact hQ _ _ (Grow.refl _) rfl rfl
                    refine obls_cons (fun f w' hR hH Q0 hQ0 => ?_) ?_
                    · skip
                      have s151 := (sv_at 151 20 hsz f [(151, 20), (150, 19)] rfl).trans (show f 20 = _ from hH.get 0 (151, 20) rfl)
                      have s150 := (sv_at 150 19 hsz f [(151, 20), (150, 19)] rfl).trans (show f 19 = _ from hH.get 1 (150, 19) rfl)
                      first
                        | exact skip_v hsz rfl ((wanted_some (b := true) rfl rfl s150).trans rfl) hQ0 (Grow.refl _) rfl
                        | refine small_v hsz [(151, _)] ⟨some 1, (Op.unOp UnOp.not 4 (.tmp 0)), 4, "", #[], none⟩ [_, undef] 1 rfl ((wanted_some (b := false) rfl rfl s150).trans rfl) ⟨s151, trivial⟩ rfl rfl hQ0 ?_
                          clear hQ0 hH s151 s150
                          intro Q hQ
                          repeat go_step
                          exact hQ _ _ (Grow.refl _) rfl rfl
                    refine obls_cons (fun f w' hR hH Q0 hQ0 => ?_) ?_
                    · skip
                      have s152 := (sv_at 152 21 hsz f [(152, 21), (150, 19)] rfl).trans (show f 21 = _ from hH.get 0 (152, 21) rfl)
                      have s150 := (sv_at 150 19 hsz f [(152, 21), (150, 19)] rfl).trans (show f 19 = _ from hH.get 1 (150, 19) rfl)
                      first
                        | exact skip_v hsz rfl ((wanted_some (b := true) rfl rfl s150).trans rfl) hQ0 (Grow.refl _) rfl
                        | refine small_v hsz [(152, _)] ⟨some 1, (Op.move (.tmp 0)), 4, "", #[], none⟩ [_, undef] 1 rfl ((wanted_some (b := false) rfl rfl s150).trans rfl) ⟨s152, trivial⟩ rfl rfl hQ0 ?_
                          clear hQ0 hH s152 s150
                          intro Q hQ
                          repeat go_step
                          exact hQ _ _ (Grow.refl _) rfl rfl
                    refine obls_cons (fun f w' hR hH Q0 hQ0 => ?_) ?_
                    · skip
                      have s16 := sv_off f [(153, 22)] e16 rfl
                      have s153 := (sv_at 153 22 hsz f [(153, 22)] rfl).trans (show f 22 = _ from hH.get 0 (153, 22) rfl)
                      first
                        | exact skip_v hsz rfl ((wanted_some (b := false) rfl rfl s153).trans rfl) hQ0 (Grow.refl _) rfl
                        | refine small_v hsz [(16, _)] ⟨some 1, (Op.load 30 (.tmp 0)), 30, "", #[], none⟩ [_, undef] 1 rfl ((wanted_some (b := true) rfl rfl s153).trans rfl) ⟨s16, trivial⟩ rfl rfl hQ0 ?_
                          clear hQ0 hH s16 s153
                          intro Q hQ
                          have y0 := (HBX16.out.grow hR).cell (i := 0) rfl
                          have y1 := (HBX16.out.grow hR).cell (i := 1) rfl
                          have y2 := (HBX16.out.grow hR).cell (i := 2) rfl
                          have y3 := (HBX16.out.grow hR).cell (i := 3) rfl
                          repeat go_step
                          exact hQ _ _ (Grow.refl _) rfl rfl
                    refine obls_cons (fun f w' hR hH Q0 hQ0 => ?_) ?_
                    · skip
                      have s153 := (sv_at 153 22 hsz f [(153, 22)] rfl).trans (show f 22 = _ from hH.get 0 (153, 22) rfl)
                      first
                        | exact skip_v hsz rfl ((wanted_some (b := false) rfl rfl s153).trans rfl) hQ0 (Grow.refl _) rfl
                        | refine small_v hsz [] ⟨some 0, (Op.build 48 #[]), 48, "", #[], none⟩ [undef] 0 rfl ((wanted_some (b := true) rfl rfl s153).trans rfl) trivial rfl (ren_build rfl) hQ0 ?_
                          clear hQ0 hH s153
                          intro Q hQ
                          repeat go_step
                          exact hQ _ _ (Grow.refl _) rfl rfl
                    refine obls_cons (fun f w' hR hH Q0 hQ0 => ?_) ?_
                    · skip
                      have s154 := (sv_at 154 23 hsz f [(154, 23), (155, 24), (153, 22)] rfl).trans (show f 23 = _ from hH.get 0 (154, 23) rfl)
                      have s155 := (sv_at 155 24 hsz f [(154, 23), (155, 24), (153, 22)] rfl).trans (show f 24 = _ from hH.get 1 (155, 24) rfl)
                      have s153 := (sv_at 153 22 hsz f [(154, 23), (155, 24), (153, 22)] rfl).trans (show f 22 = _ from hH.get 2 (153, 22) rfl)
                      first
                        | exact skip_v hsz rfl ((wanted_some (b := false) rfl rfl s153).trans rfl) hQ0 (Grow.refl _) rfl
                        | refine small_v hsz [(154, _), (155, _)] ⟨some 2, (Op.call (Call.mk (Callee.value (Operand.func 18)) #[(.tmp 0), (.tmp 1)] #[30, 48])), 4, "", #[], none⟩ [_, _, undef] 2 rfl ((wanted_some (b := true) rfl rfl s153).trans rfl) ⟨s154, s155, trivial⟩ rfl (ren_call rfl rfl) hQ0 ?_
                          clear hQ0 hH s154 s155 s153
                          intro Q hQ
                          go_wp2_with (go_at_call 18; refine ((HSZ.out rfl w' hR)).mono ?_; rintro e w1 ⟨rfl, hg1⟩)
                          exact hQ _ _ hg1 rfl rfl
                    refine obls_cons (fun f w' hR hH Q0 hQ0 => ?_) ?_
                    · skip
                      have s156 := (sv_at 156 25 hsz f [(156, 25), (153, 22)] rfl).trans (show f 25 = _ from hH.get 0 (156, 25) rfl)
                      have s153 := (sv_at 153 22 hsz f [(156, 25), (153, 22)] rfl).trans (show f 22 = _ from hH.get 1 (153, 22) rfl)
                      first
                        | exact skip_v hsz rfl ((wanted_some (b := false) rfl rfl s153).trans rfl) hQ0 (Grow.refl _) rfl
                        | refine small_v hsz [(156, _)] ⟨some 1, (Op.unOp UnOp.not 4 (.tmp 0)), 4, "", #[], none⟩ [_, undef] 1 rfl ((wanted_some (b := true) rfl rfl s153).trans rfl) ⟨s156, trivial⟩ rfl rfl hQ0 ?_
                          clear hQ0 hH s156 s153
                          intro Q hQ
                          repeat go_step
                          exact hQ _ _ (Grow.refl _) rfl rfl
                    refine obls_cons (fun f w' hR hH Q0 hQ0 => ?_) ?_
                    · skip
                      have s153 := (sv_at 153 22 hsz f [(153, 22), (157, 26), (150, 19)] rfl).trans (show f 22 = _ from hH.get 0 (153, 22) rfl)
                      have s157 := (sv_at 157 26 hsz f [(153, 22), (157, 26), (150, 19)] rfl).trans (show f 26 = _ from hH.get 1 (157, 26) rfl)
                      have s150 := (sv_at 150 19 hsz f [(153, 22), (157, 26), (150, 19)] rfl).trans (show f 19 = _ from hH.get 2 (150, 19) rfl)
                      first
                        | exact skip_v hsz rfl ((wanted_some (b := true) rfl rfl s150).trans rfl) hQ0 (Grow.refl _) rfl
                        | refine small_v hsz [(153, _), (157, _)] ⟨some 2, (Op.pick (.tmp 0) (.tmp 1) (Operand.const (Value.bool false))), 4, "", #[], none⟩ [_, _, undef] 2 rfl ((wanted_some (b := false) rfl rfl s150).trans rfl) ⟨s153, s157, trivial⟩ rfl rfl hQ0 ?_
                          clear hQ0 hH s153 s157 s150
                          intro Q hQ
                          repeat go_step
                          exact hQ _ _ (Grow.refl _) rfl rfl
                    refine obls_cons (fun f w' hR hH Q0 hQ0 => ?_) ?_
                    · skip
                      have s150 := (sv_at 150 19 hsz f [(150, 19), (158, 27)] rfl).trans (show f 19 = _ from hH.get 0 (150, 19) rfl)
                      have s158 := (sv_at 158 27 hsz f [(150, 19), (158, 27)] rfl).trans (show f 27 = _ from hH.get 1 (158, 27) rfl)
                      refine small_v hsz [(150, _), (158, _)] ⟨some 2, (Op.pick (.tmp 0) (Operand.const (Value.bool true)) (.tmp 1)), 4, "", #[], none⟩ [_, _, undef] 2 rfl rfl ⟨s150, s158, trivial⟩ rfl rfl hQ0 ?_
                      clear hQ0 hH s150 s158
                      intro Q hQ
                      repeat go_step
                      exact hQ _ _ (Grow.refl _) rfl rfl
                    exact obls_nil
                  case mono => exact ⟨Mono.veq _, Mono.veq _, Mono.veq _, Mono.veq _, Mono.veq _, Mono.veq _, Mono.veq _, Mono.veq _, Mono.veq _, Mono.veq _, Mono.veq _, Mono.veq _, Mono.veq _, Mono.veq _, Mono.veq _, Mono.veq _, Mono.veq _, Mono.veq _, Mono.veq _, Mono.veq _, Mono.veq _, Mono.veq _, Mono.veq _, Mono.veq _, Mono.veq _, Mono.veq _, Mono.veq _, Mono.veq _, Mono.veq _, trivial⟩
                  case tail =>
                    intro f w' hR hH
                    have q28 := hH.get 28 (159, 28) rfl
                    clear hH
                    refine wpList_merge (idx := [none, none, none, none, none, none, none, none, none, none, none, none, none, none, none, none, none, none, none, none, none, none, none, none, none, none, none, none, none, none, none, none, none, none, none, none, none, none, none, none, none, none, none, none, none, none, none, none, none, none, none, none, none, none, none, none, none, none, none, none, none, none, none, none, none, none, none, none, none, none, none, none, none, none, none, none, none, none, none, none, none, none, none, none, none, none, none, none, none, none, none, none, none, none, none, none, none, none, none, none, none, none, none, none, none, none, none, none, none, none, none, none, none, none, none, none, none, none, none, none, none, none, none, none, none, none, none, none, none, none, none, some 0, some 1, some 2, some 3, some 4, some 5, some 6, some 7, some 8, some 9, some 10, some 11, some 12, some 13, some 14, some 15, some 16, some 17, some 18, some 19, some 20, some 21, some 22, some 23, some 24, some 25, some 26, some 27, some 28, none]) (by kernel_rfl) ?_; show wpList _ _ _ [] ⟨#[_, _, _, _, _, _, _, _, _, _, _, _, _, _, _, _, _, _, _, _, _, _, _, _, _, _, _, _, _, _, _, _, _, _, _, _, _, _, _, _, _, _, _, _, _, _, _, _, _, _, _, _, _, _, _, _, _, _, _, _, _, _, _, _, _, _, _, _, _, _, _, _, _, _, _, _, _, _, _, _, _, _, _, _, _, _, _, _, _, _, _, _, _, _, _, _, _, _, _, _, _, _, _, _, _, _, _, _, _, _, _, _, _, _, _, _, _, _, _, _, _, _, _, _, _, _, _, _, _, _, _, f 0, f 1, f 2, f 3, f 4, f 5, f 6, f 7, f 8, f 9, f 10, f 11, f 12, f 13, f 14, f 15, f 16, f 17, f 18, f 19, f 20, f 21, f 22, f 23, f 24, f 25, f 26, f 27, f 28, _], _⟩ _
                    rw [show f 28 = _ from q28]
                    clear q28
                    have HI8 := Lib.hid (HI7.out.grow hR)
                    have HG8 := Lib.hid (HG7.out.trans hR)
                    clear hR
                    go_wp2_with fail
                    go_roundw
                    case rel => exact ⟨k + 1, cnt', lv', ps1, C', cs', B1, m1, d1, B2, m2, d2, by have := HN.out.2.2.1; omega, by go_num, HI8.out, HCT9.out.1, HCT9.out.2, HG8.out⟩
                    case measure => have := HN.out.2.2.1; simp [intOf] <;> omega
                cases q2
                · skip
                  apply (fun (v0 v1 v2 v3 v4 v5 v6 v7 v8 v9 v10 v11 v12 v13 v14 v15 v16 v17 v18 v19 v20 v21 v22 v23 v24 v25 v26 v27 v28 : Value) mono obl tail => wp_region_par (R := Grow) (Φ := phi [veq v0, veq v1, veq v2, veq v3, veq v4, veq v5, veq v6, veq v7, veq v8, veq v9, veq v10, veq v11, veq v12, veq v13, veq v14, veq v15, veq v16, veq v17, veq v18, veq v19, veq v20, veq v21, veq v22, veq v23, veq v24, veq v25, veq v26, veq v27, veq v28]) (m := 29) (dls := [[], [], [], [(132, 1), (133, 2)], [(134, 3)], [(135, 4)], [(136, 5)], [(137, 6)], [(138, 7)], [(138, 7)], [(139, 8), (140, 9), (138, 7)], [(141, 10), (138, 7)], [(142, 11), (138, 7)], [(138, 7)], [(144, 13), (138, 7)], [(145, 14), (138, 7)], [(143, 12), (146, 15), (138, 7)], [(138, 7), (147, 16)], [(131, 0), (148, 17)], [(149, 18)], [(150, 19)], [(151, 20), (150, 19)], [(152, 21), (150, 19)], [(153, 22)], [(153, 22)], [(154, 23), (155, 24), (153, 22)], [(156, 25), (153, 22)], [(153, 22), (157, 26), (150, 19)], [(150, 19), (158, 27)]]) (ds := [131, 132, 133, 134, 135, 136, 137, 138, 139, 140, 141, 142, 143, 144, 145, 146, 147, 148, 149, 150, 151, 152, 153, 154, 155, 156, 157, 158, 159]) (by kernel_rfl) (by kernel_rfl) (by decide) rfl (Grow.drew _) (fun _ _ _ => Grow.trans) (mono_phi mono) obl tail)
                  case obl =>
                    refine obls_frame (fun a1 ha => ?_)
                    have hsz := rd_size (n := 161) ha rfl
                    have e17 := rd_slot 17 ha rfl
                    have e1 := rd_slot 1 ha rfl
                    have e7 := rd_slot 7 ha rfl
                    have e6 := rd_slot 6 ha rfl
                    have e16 := rd_slot 16 ha rfl
                    clear ha
                    refine obls_cons (fun f w' hR hH Q0 hQ0 => ?_) ?_
                    · skip
                      have s17 := sv_off f [] e17 rfl
                      refine small_v hsz [(17, _)] ⟨some 1, (Op.move (.tmp 0)), 4, "", #[], none⟩ [_, undef] 1 rfl rfl ⟨s17, trivial⟩ rfl rfl hQ0 ?_
                      clear hQ0 hH s17
                      intro Q hQ
                      repeat go_step
                      exact hQ _ _ (Grow.refl _) rfl rfl
                    refine obls_cons (fun f w' hR hH Q0 hQ0 => ?_) ?_
                    · skip
                      have s1 := sv_off f [] e1 rfl
                      refine small_v hsz [(1, _)] ⟨some 1, (Op.move (.tmp 0)), 35, "", #[], none⟩ [_, undef] 1 rfl rfl ⟨s1, trivial⟩ rfl rfl hQ0 ?_
                      clear hQ0 hH s1
                      intro Q hQ
                      repeat go_step
                      exact hQ _ _ (Grow.refl _) rfl rfl
                    refine obls_cons (fun f w' hR hH Q0 hQ0 => ?_) ?_
                    · skip
                      have s7 := sv_off f [] e7 rfl
                      refine small_v hsz [(7, _)] ⟨some 1, (Op.move (.tmp 0)), 3, "", #[], none⟩ [_, undef] 1 rfl rfl ⟨s7, trivial⟩ rfl rfl hQ0 ?_
                      clear hQ0 hH s7
                      intro Q hQ
                      repeat go_step
                      exact hQ _ _ (Grow.refl _) rfl rfl
                    refine obls_cons (fun f w' hR hH Q0 hQ0 => ?_) ?_
                    · skip
                      have s132 := (sv_at 132 1 hsz f [(132, 1), (133, 2)] rfl).trans (show f 1 = _ from hH.get 0 (132, 1) rfl)
                      have s133 := (sv_at 133 2 hsz f [(132, 1), (133, 2)] rfl).trans (show f 2 = _ from hH.get 1 (133, 2) rfl)
                      refine small_v hsz [(132, _), (133, _)] ⟨some 2, (Op.indexAddr 35 (.tmp 0) (.tmp 1)), 0, "", #[], none⟩ [_, _, undef] 2 rfl rfl ⟨s132, s133, trivial⟩ rfl rfl hQ0 ?_
                      clear hQ0 hH s132 s133
                      intro Q hQ
                      repeat go_step
                      exact hQ _ _ (Grow.refl _) rfl rfl
                    refine obls_cons (fun f w' hR hH Q0 hQ0 => ?_) ?_
                    · skip
                      have s134 := (sv_at 134 3 hsz f [(134, 3)] rfl).trans (show f 3 = _ from hH.get 0 (134, 3) rfl)
                      refine small_v hsz [(134, _)] ⟨some 1, (Op.fieldAddr 46 (.tmp 0) 3), 0, "", #[], none⟩ [_, undef] 1 rfl rfl ⟨s134, trivial⟩ rfl rfl hQ0 ?_
                      clear hQ0 hH s134
                      intro Q hQ
                      repeat go_step
                      exact hQ _ _ (Grow.refl _) rfl rfl
                    refine obls_cons (fun f w' hR hH Q0 hQ0 => ?_) ?_
                    · skip
                      have s135 := (sv_at 135 4 hsz f [(135, 4)] rfl).trans (show f 4 = _ from hH.get 0 (135, 4) rfl)
                      refine small_v hsz [(135, _)] ⟨some 1, (Op.load 3 (.tmp 0)), 3, "", #[], none⟩ [_, undef] 1 rfl rfl ⟨s135, trivial⟩ rfl rfl hQ0 ?_
                      clear hQ0 hH s135
                      intro Q hQ
                      have y3 := HC.out w' (HG7.out.trans hR) 3 _ rfl
                      repeat go_step
                      exact hQ _ _ (Grow.refl _) rfl rfl
                    refine obls_cons (fun f w' hR hH Q0 hQ0 => ?_) ?_
                    · skip
                      have s136 := (sv_at 136 5 hsz f [(136, 5)] rfl).trans (show f 5 = _ from hH.get 0 (136, 5) rfl)
                      refine small_v hsz [(136, _)] ⟨some 1, (Op.binOp BinOp.geq 3 (.tmp 0) (Operand.const (Value.int IntKind.i64 0)) 3), 4, "", #[], none⟩ [_, undef] 1 rfl rfl ⟨s136, trivial⟩ rfl rfl hQ0 ?_
                      clear hQ0 hH s136
                      intro Q hQ
                      repeat go_step
                      exact hQ _ _ (Grow.refl _) rfl rfl
                    refine obls_cons (fun f w' hR hH Q0 hQ0 => ?_) ?_
                    · skip
                      have s137 := (sv_at 137 6 hsz f [(137, 6)] rfl).trans (show f 6 = _ from hH.get 0 (137, 6) rfl)
                      refine small_v hsz [(137, _)] ⟨some 1, (Op.move (.tmp 0)), 4, "", #[], none⟩ [_, undef] 1 rfl rfl ⟨s137, trivial⟩ rfl rfl hQ0 ?_
                      clear hQ0 hH s137
                      intro Q hQ
                      repeat go_step
                      exact hQ _ _ (Grow.refl _) rfl rfl
                    refine obls_cons (fun f w' hR hH Q0 hQ0 => ?_) ?_
                    · skip
                      have s1 := sv_off f [(138, 7)] e1 rfl
                      have s138 := (sv_at 138 7 hsz f [(138, 7)] rfl).trans (show f 7 = _ from hH.get 0 (138, 7) rfl)
                      first
                        | exact skip_v hsz rfl ((wanted_some (b := false) rfl rfl s138).trans rfl) hQ0 (Grow.refl _) rfl
                        | refine small_v hsz [(1, _)] ⟨some 1, (Op.move (.tmp 0)), 35, "", #[], none⟩ [_, undef] 1 rfl ((wanted_some (b := true) rfl rfl s138).trans rfl) ⟨s1, trivial⟩ rfl rfl hQ0 ?_
                          clear hQ0 hH s1 s138
                          intro Q hQ
                          repeat go_step
                          exact hQ _ _ (Grow.refl _) rfl rfl
                    refine obls_cons (fun f w' hR hH Q0 hQ0 => ?_) ?_
                    · skip
                      have s7 := sv_off f [(138, 7)] e7 rfl
                      have s138 := (sv_at 138 7 hsz f [(138, 7)] rfl).trans (show f 7 = _ from hH.get 0 (138, 7) rfl)
                      first
                        | exact skip_v hsz rfl ((wanted_some (b := false) rfl rfl s138).trans rfl) hQ0 (Grow.refl _) rfl
                        | refine small_v hsz [(7, _)] ⟨some 1, (Op.move (.tmp 0)), 3, "", #[], none⟩ [_, undef] 1 rfl ((wanted_some (b := true) rfl rfl s138).trans rfl) ⟨s7, trivial⟩ rfl rfl hQ0 ?_
                          clear hQ0 hH s7 s138
                          intro Q hQ
                          repeat go_step
                          exact hQ _ _ (Grow.refl _) rfl rfl
                    refine obls_cons (fun f w' hR hH Q0 hQ0 => ?_) ?_
                    · skip
                      have s139 := (sv_at 139 8 hsz f [(139, 8), (140, 9), (138, 7)] rfl).trans (show f 8 = _ from hH.get 0 (139, 8) rfl)
                      have s140 := (sv_at 140 9 hsz f [(139, 8), (140, 9), (138, 7)] rfl).trans (show f 9 = _ from hH.get 1 (140, 9) rfl)
                      have s138 := (sv_at 138 7 hsz f [(139, 8), (140, 9), (138, 7)] rfl).trans (show f 7 = _ from hH.get 2 (138, 7) rfl)
                      first
                        | exact skip_v hsz rfl ((wanted_some (b := false) rfl rfl s138).trans rfl) hQ0 (Grow.refl _) rfl
                        | refine small_v hsz [(139, _), (140, _)] ⟨some 2, (Op.indexAddr 35 (.tmp 0) (.tmp 1)), 0, "", #[], none⟩ [_, _, undef] 2 rfl ((wanted_some (b := true) rfl rfl s138).trans rfl) ⟨s139, s140, trivial⟩ rfl rfl hQ0 ?_
                          clear hQ0 hH s139 s140 s138
                          intro Q hQ
                          repeat go_step
                          exact hQ _ _ (Grow.refl _) rfl rfl
                    refine obls_cons (fun f w' hR hH Q0 hQ0 => ?_) ?_
                    · skip
                      have s141 := (sv_at 141 10 hsz f [(141, 10), (138, 7)] rfl).trans (show f 10 = _ from hH.get 0 (141, 10) rfl)
                      have s138 := (sv_at 138 7 hsz f [(141, 10), (138, 7)] rfl).trans (show f 7 = _ from hH.get 1 (138, 7) rfl)
                      first
                        | exact skip_v hsz rfl ((wanted_some (b := false) rfl rfl s138).trans rfl) hQ0 (Grow.refl _) rfl
                        | refine small_v hsz [(141, _)] ⟨some 1, (Op.fieldAddr 46 (.tmp 0) 3), 0, "", #[], none⟩ [_, undef] 1 rfl ((wanted_some (b := true) rfl rfl s138).trans rfl) ⟨s141, trivial⟩ rfl rfl hQ0 ?_
                          clear hQ0 hH s141 s138
                          intro Q hQ
                          repeat go_step
                          exact hQ _ _ (Grow.refl _) rfl rfl
                    refine obls_cons (fun f w' hR hH Q0 hQ0 => ?_) ?_
                    · skip
                      have s142 := (sv_at 142 11 hsz f [(142, 11), (138, 7)] rfl).trans (show f 11 = _ from hH.get 0 (142, 11) rfl)
                      have s138 := (sv_at 138 7 hsz f [(142, 11), (138, 7)] rfl).trans (show f 7 = _ from hH.get 1 (138, 7) rfl)
                      first
                        | exact skip_v hsz rfl ((wanted_some (b := false) rfl rfl s138).trans rfl) hQ0 (Grow.refl _) rfl
                        | refine small_v hsz [(142, _)] ⟨some 1, (Op.load 3 (.tmp 0)), 3, "", #[], none⟩ [_, undef] 1 rfl ((wanted_some (b := true) rfl rfl s138).trans rfl) ⟨s142, trivial⟩ rfl rfl hQ0 ?_
                          clear hQ0 hH s142 s138
                          intro Q hQ
                          have y3 := HC.out w' (HG7.out.trans hR) 3 _ rfl
                          repeat go_step
                          exact hQ _ _ (Grow.refl _) rfl rfl
                    refine obls_cons (fun f w' hR hH Q0 hQ0 => ?_) ?_
                    · skip
                      have s6 := sv_off f [(138, 7)] e6 rfl
                      have s138 := (sv_at 138 7 hsz f [(138, 7)] rfl).trans (show f 7 = _ from hH.get 0 (138, 7) rfl)
                      first
                        | exact skip_v hsz rfl ((wanted_some (b := false) rfl rfl s138).trans rfl) hQ0 (Grow.refl _) rfl
                        | refine small_v hsz [(6, _)] ⟨some 1, (Op.fieldAddr 40 (.tmp 0) 1), 0, "", #[], none⟩ [_, undef] 1 rfl ((wanted_some (b := true) rfl rfl s138).trans rfl) ⟨s6, trivial⟩ rfl rfl hQ0 ?_
                          clear hQ0 hH s6 s138
                          intro Q hQ
                          repeat go_step
                          exact hQ _ _ (Grow.refl _) rfl rfl
                    refine obls_cons (fun f w' hR hH Q0 hQ0 => ?_) ?_
                    · skip
                      have s144 := (sv_at 144 13 hsz f [(144, 13), (138, 7)] rfl).trans (show f 13 = _ from hH.get 0 (144, 13) rfl)
                      have s138 := (sv_at 138 7 hsz f [(144, 13), (138, 7)] rfl).trans (show f 7 = _ from hH.get 1 (138, 7) rfl)
                      first
                        | exact skip_v hsz rfl ((wanted_some (b := false) rfl rfl s138).trans rfl) hQ0 (Grow.refl _) rfl
                        | refine small_v hsz [(144, _)] ⟨some 1, (Op.load 37 (.tmp 0)), 37, "", #[], none⟩ [_, undef] 1 rfl ((wanted_some (b := true) rfl rfl s138).trans rfl) ⟨s144, trivial⟩ rfl rfl hQ0 ?_
                          clear hQ0 hH s144 s138
                          intro Q hQ
                          have y1 := (HI7.out.bx.grow hR).cell (i := 1) rfl
                          repeat go_step
                          exact hQ _ _ (Grow.refl _) rfl rfl
                    refine obls_cons (fun f w' hR hH Q0 hQ0 => ?_) ?_
                    · skip
                      have s145 := (sv_at 145 14 hsz f [(145, 14), (138, 7)] rfl).trans (show f 14 = _ from hH.get 0 (145, 14) rfl)
                      have s138 := (sv_at 138 7 hsz f [(145, 14), (138, 7)] rfl).trans (show f 7 = _ from hH.get 1 (138, 7) rfl)
                      first
                        | exact skip_v hsz rfl ((wanted_some (b := false) rfl rfl s138).trans rfl) hQ0 (Grow.refl _) rfl
                        | refine small_v hsz [(145, _)] ⟨some 1, (Op.call (Call.mk (Callee.builtin Builtin.len) #[(.tmp 0)] #[37])), 3, "", #[], none⟩ [_, undef] 1 rfl ((wanted_some (b := true) rfl rfl s138).trans rfl) ⟨s145, trivial⟩ rfl (ren_builtin rfl rfl) hQ0 ?_
                          clear hQ0 hH s145 s138
                          intro Q hQ
                          repeat go_step
                          exact hQ _ _ (Grow.refl _) rfl rfl
                    refine obls_cons (fun f w' hR hH Q0 hQ0 => ?_) ?_
                    · skip
                      have s143 := (sv_at 143 12 hsz f [(143, 12), (146, 15), (138, 7)] rfl).trans (show f 12 = _ from hH.get 0 (143, 12) rfl)
                      have s146 := (sv_at 146 15 hsz f [(143, 12), (146, 15), (138, 7)] rfl).trans (show f 15 = _ from hH.get 1 (146, 15) rfl)
                      have s138 := (sv_at 138 7 hsz f [(143, 12), (146, 15), (138, 7)] rfl).trans (show f 7 = _ from hH.get 2 (138, 7) rfl)
                      first
                        | exact skip_v hsz rfl ((wanted_some (b := false) rfl rfl s138).trans rfl) hQ0 (Grow.refl _) rfl
                        | refine small_v hsz [(143, _), (146, _)] ⟨some 2, (Op.binOp BinOp.lss 3 (.tmp 0) (.tmp 1) 3), 4, "", #[], none⟩ [_, _, undef] 2 rfl ((wanted_some (b := true) rfl rfl s138).trans rfl) ⟨s143, s146, trivial⟩ rfl rfl hQ0 ?_
                          clear hQ0 hH s143 s146 s138
                          intro Q hQ
                          repeat go_step
                          exact hQ _ _ (Grow.refl _) rfl rfl
                    refine obls_cons (fun f w' hR hH Q0 hQ0 => ?_) ?_
                    · skip
                      have s138 := (sv_at 138 7 hsz f [(138, 7), (147, 16)] rfl).trans (show f 7 = _ from hH.get 0 (138, 7) rfl)
                      have s147 := (sv_at 147 16 hsz f [(138, 7), (147, 16)] rfl).trans (show f 16 = _ from hH.get 1 (147, 16) rfl)
                      refine small_v hsz [(138, _), (147, _)] ⟨some 2, (Op.pick (.tmp 0) (.tmp 1) (Operand.const (Value.bool false))), 4, "", #[], none⟩ [_, _, undef] 2 rfl rfl ⟨s138, s147, trivial⟩ rfl rfl hQ0 ?_
                      clear hQ0 hH s138 s147
                      intro Q hQ
                      repeat go_step
                      exact hQ _ _ (Grow.refl _) rfl rfl
                    refine obls_cons (fun f w' hR hH Q0 hQ0 => ?_) ?_
                    · skip
                      have s131 := (sv_at 131 0 hsz f [(131, 0), (148, 17)] rfl).trans (show f 0 = _ from hH.get 0 (131, 0) rfl)
                      have s148 := (sv_at 148 17 hsz f [(131, 0), (148, 17)] rfl).trans (show f 17 = _ from hH.get 1 (148, 17) rfl)
                      refine small_v hsz [(131, _), (148, _)] ⟨some 2, (Op.binOp BinOp.neq 4 (.tmp 0) (.tmp 1) 4), 4, "", #[], none⟩ [_, _, undef] 2 rfl rfl ⟨s131, s148, trivial⟩ rfl rfl hQ0 ?_
                      clear hQ0 hH s131 s148
                      intro Q hQ
                      repeat go_step
                      exact hQ _ _ (Grow.refl _) rfl rfl
                    refine obls_cons (fun f w' hR hH Q0 hQ0 => ?_) ?_
                    · skip
                      have s149 := (sv_at 149 18 hsz f [(149, 18)] rfl).trans (show f 18 = _ from hH.get 0 (149, 18) rfl)
                      refine small_v hsz [(149, _)] ⟨some 1, (Op.move (.tmp 0)), 4, "", #[], none⟩ [_, undef] 1 rfl rfl ⟨s149, trivial⟩ rfl rfl hQ0 ?_
                      clear hQ0 hH s149
                      intro Q hQ
                      repeat go_step
                      exact hQ _ _ (Grow.refl _) rfl rfl
                    refine obls_cons (fun f w' hR hH Q0 hQ0 => ?_) ?_
                    · skip
                      have s17 := sv_off f [(150, 19)] e17 rfl
                      have s150 := (sv_at 150 19 hsz f [(150, 19)] rfl).trans (show f 19 = _ from hH.get 0 (150, 19) rfl)
                      first
                        | exact skip_v hsz rfl ((wanted_some (b := true) rfl rfl s150).trans rfl) hQ0 (Grow.refl _) rfl
                        | refine small_v hsz [(17, _)] ⟨some 1, (Op.move (.tmp 0)), 4, "", #[], none⟩ [_, undef] 1 rfl ((wanted_some (b := false) rfl rfl s150).trans rfl) ⟨s17, trivial⟩ rfl rfl hQ0 ?_
                          clear hQ0 hH s17 s150
                          intro Q hQ
                          repeat go_step
                          exact hQ _ _ (Grow.refl _) rfl rfl
                    refine obls_cons (fun f w' hR hH Q0 hQ0 => ?_) ?_
                    · skip
                      have s151 := (sv_at 151 20 hsz f [(151, 20), (150, 19)] rfl).trans (show f 20 = _ from hH.get 0 (151, 20) rfl)
                      have s150 := (sv_at 150 19 hsz f [(151, 20), (150, 19)] rfl).trans (show f 19 = _ from hH.get 1 (150, 19) rfl)
                      first
                        | exact skip_v hsz rfl ((wanted_some (b := true) rfl rfl s150).trans rfl) hQ0 (Grow.refl _) rfl
                        | refine small_v hsz [(151, _)] ⟨some 1, (Op.unOp UnOp.not 4 (.tmp 0)), 4, "", #[], none⟩ [_, undef] 1 rfl ((wanted_some (b := false) rfl rfl s150).trans rfl) ⟨s151, trivial⟩ rfl rfl hQ0 ?_
                          clear hQ0 hH s151 s150
                          intro Q hQ
                          repeat go_step
                          exact hQ _ _ (Grow.refl _) rfl rfl
                    refine obls_cons (fun f w' hR hH Q0 hQ0 => ?_) ?_
                    · skip
                      have s152 := (sv_at 152 21 hsz f [(152, 21), (150, 19)] rfl).trans (show f 21 = _ from hH.get 0 (152, 21) rfl)
                      have s150 := (sv_at 150 19 hsz f [(152, 21), (150, 19)] rfl).trans (show f 19 = _ from hH.get 1 (150, 19) rfl)
                      first
                        | exact skip_v hsz rfl ((wanted_some (b := true) rfl rfl s150).trans rfl) hQ0 (Grow.refl _) rfl
                        | refine small_v hsz [(152, _)] ⟨some 1, (Op.move (.tmp 0)), 4, "", #[], none⟩ [_, undef] 1 rfl ((wanted_some (b := false) rfl rfl s150).trans rfl) ⟨s152, trivial⟩ rfl rfl hQ0 ?_
                          clear hQ0 hH s152 s150
                          intro Q hQ
                          repeat go_step
                          exact hQ _ _ (Grow.refl _) rfl rfl
                    refine obls_cons (fun f w' hR hH Q0 hQ0 => ?_) ?_
                    · skip
                      have s16 := sv_off f [(153, 22)] e16 rfl
                      have s153 := (sv_at 153 22 hsz f [(153, 22)] rfl).trans (show f 22 = _ from hH.get 0 (153, 22) rfl)
                      first
                        | exact skip_v hsz rfl ((wanted_some (b := false) rfl rfl s153).trans rfl) hQ0 (Grow.refl _) rfl
                        | refine small_v hsz [(16, _)] ⟨some 1, (Op.load 30 (.tmp 0)), 30, "", #[], none⟩ [_, undef] 1 rfl ((wanted_some (b := true) rfl rfl s153).trans rfl) ⟨s16, trivial⟩ rfl rfl hQ0 ?_
                          clear hQ0 hH s16 s153
                          intro Q hQ
                          have y0 := (HBX16.out.grow hR).cell (i := 0) rfl
                          have y1 := (HBX16.out.grow hR).cell (i := 1) rfl
                          have y2 := (HBX16.out.grow hR).cell (i := 2) rfl
                          have y3 := (HBX16.out.grow hR).cell (i := 3) rfl
                          repeat go_step
                          exact hQ _ _ (Grow.refl _) rfl rfl
                    refine obls_cons (fun f w' hR hH Q0 hQ0 => ?_) ?_
                    · skip
                      have s153 := (sv_at 153 22 hsz f [(153, 22)] rfl).trans (show f 22 = _ from hH.get 0 (153, 22) rfl)
                      first
                        | exact skip_v hsz rfl ((wanted_some (b := false) rfl rfl s153).trans rfl) hQ0 (Grow.refl _) rfl
                        | refine small_v hsz [] ⟨some 0, (Op.build 48 #[]), 48, "", #[], none⟩ [undef] 0 rfl ((wanted_some (b := true) rfl rfl s153).trans rfl) trivial rfl (ren_build rfl) hQ0 ?_
                          clear hQ0 hH s153
                          intro Q hQ
                          repeat go_step
                          exact hQ _ _ (Grow.refl _) rfl rfl
                    refine obls_cons (fun f w' hR hH Q0 hQ0 => ?_) ?_
                    · skip
                      have s154 := (sv_at 154 23 hsz f [(154, 23), (155, 24), (153, 22)] rfl).trans (show f 23 = _ from hH.get 0 (154, 23) rfl)
                      have s155 := (sv_at 155 24 hsz f [(154, 23), (155, 24), (153, 22)] rfl).trans (show f 24 = _ from hH.get 1 (155, 24) rfl)
                      have s153 := (sv_at 153 22 hsz f [(154, 23), (155, 24), (153, 22)] rfl).trans (show f 22 = _ from hH.get 2 (153, 22) rfl)
                      first
                        | exact skip_v hsz rfl ((wanted_some (b := false) rfl rfl s153).trans rfl) hQ0 (Grow.refl _) rfl
                        | refine small_v hsz [(154, _), (155, _)] ⟨some 2, (Op.call (Call.mk (Callee.value (Operand.func 18)) #[(.tmp 0), (.tmp 1)] #[30, 48])), 4, "", #[], none⟩ [_, _, undef] 2 rfl ((wanted_some (b := true) rfl rfl s153).trans rfl) ⟨s154, s155, trivial⟩ rfl (ren_call rfl rfl) hQ0 ?_
                          clear hQ0 hH s154 s155 s153
                          intro Q hQ
                          go_wp2_with (go_at_call 18; refine ((HSZ.out rfl w' hR)).mono ?_; rintro e w1 ⟨rfl, hg1⟩)
                          exact hQ _ _ hg1 rfl rfl
                    refine obls_cons (fun f w' hR hH Q0 hQ0 => ?_) ?_
                    · skip
                      have s156 := (sv_at 156 25 hsz f [(156, 25), (153, 22)] rfl).trans (show f 25 = _ from hH.get 0 (156, 25) rfl)
                      have s153 := (sv_at 153 22 hsz f [(156, 25), (153, 22)] rfl).trans (show f 22 = _ from hH.get 1 (153, 22) rfl)
                      first
                        | exact skip_v hsz rfl ((wanted_some (b := false) rfl rfl s153).trans rfl) hQ0 (Grow.refl _) rfl
                        | refine small_v hsz [(156, _)] ⟨some 1, (Op.unOp UnOp.not 4 (.tmp 0)), 4, "", #[], none⟩ [_, undef] 1 rfl ((wanted_some (b := true) rfl rfl s153).trans rfl) ⟨s156, trivial⟩ rfl rfl hQ0 ?_
                          clear hQ0 hH s156 s153
                          intro Q hQ
                          repeat go_step
                          exact hQ _ _ (Grow.refl _) rfl rfl
                    refine obls_cons (fun f w' hR hH Q0 hQ0 => ?_) ?_
                    · skip
                      have s153 := (sv_at 153 22 hsz f [(153, 22), (157, 26), (150, 19)] rfl).trans (show f 22 = _ from hH.get 0 (153, 22) rfl)
                      have s157 := (sv_at 157 26 hsz f [(153, 22), (157, 26), (150, 19)] rfl).trans (show f 26 = _ from hH.get 1 (157, 26) rfl)
                      have s150 := (sv_at 150 19 hsz f [(153, 22), (157, 26), (150, 19)] rfl).trans (show f 19 = _ from hH.get 2 (150, 19) rfl)
                      first
                        | exact skip_v hsz rfl ((wanted_some (b := true) rfl rfl s150).trans rfl) hQ0 (Grow.refl _) rfl
                        | refine small_v hsz [(153, _), (157, _)] ⟨some 2, (Op.pick (.tmp 0) (.tmp 1) (Operand.const (Value.bool false))), 4, "", #[], none⟩ [_, _, undef] 2 rfl ((wanted_some (b := false) rfl rfl s150).trans rfl) ⟨s153, s157, trivial⟩ rfl rfl hQ0 ?_
                          clear hQ0 hH s153 s157 s150
                          intro Q hQ
                          repeat go_step
                          exact hQ _ _ (Grow.refl _) rfl rfl
                    refine obls_cons (fun f w' hR hH Q0 hQ0 => ?_) ?_
                    · skip
                      have s150 := (sv_at 150 19 hsz f [(150, 19), (158, 27)] rfl).trans (show f 19 = _ from hH.get 0 (150, 19) rfl)
                      have s158 := (sv_at 158 27 hsz f [(150, 19), (158, 27)] rfl).trans (show f 27 = _ from hH.get 1 (158, 27) rfl)
                      refine small_v hsz [(150, _), (158, _)] ⟨some 2, (Op.pick (.tmp 0) (Operand.const (Value.bool true)) (.tmp 1)), 4, "", #[], none⟩ [_, _, undef] 2 rfl rfl ⟨s150, s158, trivial⟩ rfl rfl hQ0 ?_
                      clear hQ0 hH s150 s158
                      intro Q hQ
                      repeat go_step
                      exact hQ _ _ (Grow.refl _) rfl rfl
                    exact obls_nil
                  case mono => exact ⟨Mono.veq _, Mono.veq _, Mono.veq _, Mono.veq _, Mono.veq _, Mono.veq _, Mono.veq _, Mono.veq _, Mono.veq _, Mono.veq _, Mono.veq _, Mono.veq _, Mono.veq _, Mono.veq _, Mono.veq _, Mono.veq _, Mono.veq _, Mono.veq _, Mono.veq _, Mono.veq _, Mono.veq _, Mono.veq _, Mono.veq _, Mono.veq _, Mono.veq _, Mono.veq _, Mono.veq _, Mono.veq _, Mono.veq _, trivial⟩
                  case tail =>
                    intro f w' hR hH
                    have q28 := hH.get 28 (159, 28) rfl
                    clear hH
                    refine wpList_merge (idx := [none, none, none, none, none, none, none, none, none, none, none, none, none, none, none, none, none, none, none, none, none, none, none, none, none, none, none, none, none, none, none, none, none, none, none, none, none, none, none, none, none, none, none, none, none, none, none, none, none, none, none, none, none, none, none, none, none, none, none, none, none, none, none, none, none, none, none, none, none, none, none, none, none, none, none, none, none, none, none, none, none, none, none, none, none, none, none, none, none, none, none, none, none, none, none, none, none, none, none, none, none, none, none, none, none, none, none, none, none, none, none, none, none, none, none, none, none, none, none, none, none, none, none, none, none, none, none, none, none, none, none, some 0, some 1, some 2, some 3, some 4, some 5, some 6, some 7, some 8, some 9, some 10, some 11, some 12, some 13, some 14, some 15, some 16, some 17, some 18, some 19, some 20, some 21, some 22, some 23, some 24, some 25, some 26, some 27, some 28, none]) (by kernel_rfl) ?_; show wpList _ _ _ [] ⟨#[_, _, _, _, _, _, _, _, _, _, _, _, _, _, _, _, _, _, _, _, _, _, _, _, _, _, _, _, _, _, _, _, _, _, _, _, _, _, _, _, _, _, _, _, _, _, _, _, _, _, _, _, _, _, _, _, _, _, _, _, _, _, _, _, _, _, _, _, _, _, _, _, _, _, _, _, _, _, _, _, _, _, _, _, _, _, _, _, _, _, _, _, _, _, _, _, _, _, _, _, _, _, _, _, _, _, _, _, _, _, _, _, _, _, _, _, _, _, _, _, _, _, _, _, _, _, _, _, _, _, _, f 0, f 1, f 2, f 3, f 4, f 5, f 6, f 7, f 8, f 9, f 10, f 11, f 12, f 13, f 14, f 15, f 16, f 17, f 18, f 19, f 20, f 21, f 22, f 23, f 24, f 25, f 26, f 27, f 28, _], _⟩ _
                    rw [show f 28 = _ from q28]
                    clear q28
                    have HI8 := Lib.hid (HI7.out.grow hR)
                    have HG8 := Lib.hid (HG7.out.trans hR)
                    clear hR
                    go_wp2_with fail
                    go_roundw
                    case rel => exact ⟨k + 1, cnt', lv', ps1, C', cs', B1, m1, d1, B2, m2, d2, by have := HN.out.2.2.1; omega, by go_num, HI8.out, HCT9.out.1, HCT9.out.2, HG8.out⟩
                    case measure => have := HN.out.2.2.1; simp [intOf] <;> omega
                apply (fun (v0 v1 v2 v3 v4 v5 v6 v7 v8 v9 v10 v11 v12 v13 v14 v15 v16 v17 v18 v19 v20 v21 v22 v23 v24 v25 v26 v27 v28 : Value) mono obl tail => wp_region_par (R := Grow) (Φ := phi [veq v0, veq v1, veq v2, veq v3, veq v4, veq v5, veq v6, veq v7, veq v8, veq v9, veq v10, veq v11, veq v12, veq v13, veq v14, veq v15, veq v16, veq v17, veq v18, veq v19, veq v20, veq v21, veq v22, veq v23, veq v24, veq v25, veq v26, veq v27, veq v28]) (m := 29) (dls := [[], [], [], [(132, 1), (133, 2)], [(134, 3)], [(135, 4)], [(136, 5)], [(137, 6)], [(138, 7)], [(138, 7)], [(139, 8), (140, 9), (138, 7)], [(141, 10), (138, 7)], [(142, 11), (138, 7)], [(138, 7)], [(144, 13), (138, 7)], [(145, 14), (138, 7)], [(143, 12), (146, 15), (138, 7)], [(138, 7), (147, 16)], [(131, 0), (148, 17)], [(149, 18)], [(150, 19)], [(151, 20), (150, 19)], [(152, 21), (150, 19)], [(153, 22)], [(153, 22)], [(154, 23), (155, 24), (153, 22)], [(156, 25), (153, 22)], [(153, 22), (157, 26), (150, 19)], [(150, 19), (158, 27)]]) (ds := [131, 132, 133, 134, 135, 136, 137, 138, 139, 140, 141, 142, 143, 144, 145, 146, 147, 148, 149, 150, 151, 152, 153, 154, 155, 156, 157, 158, 159]) (by kernel_rfl) (by kernel_rfl) (by decide) rfl (Grow.drew _) (fun _ _ _ => Grow.trans) (mono_phi mono) obl tail)
                case obl =>
                  refine obls_frame (fun a1 ha => ?_)
                  have hsz := rd_size (n := 161) ha rfl
                  have e17 := rd_slot 17 ha rfl
                  have e1 := rd_slot 1 ha rfl
                  have e7 := rd_slot 7 ha rfl
                  have e6 := rd_slot 6 ha rfl
                  have e16 := rd_slot 16 ha rfl
                  clear ha
                  refine obls_cons (fun f w' hR hH Q0 hQ0 => ?_) ?_
                  · skip
                    have s17 := sv_off f [] e17 rfl
                    refine small_v hsz [(17, _)] ⟨some 1, (Op.move (.tmp 0)), 4, "", #[], none⟩ [_, undef] 1 rfl rfl ⟨s17, trivial⟩ rfl rfl hQ0 ?_
                    clear hQ0 hH s17
                    intro Q hQ
                    repeat go_step
                    exact hQ _ _ (Grow.refl _) rfl rfl
                  refine obls_cons (fun f w' hR hH Q0 hQ0 => ?_) ?_
                  · skip
                    have s1 := sv_off f [] e1 rfl
                    refine small_v hsz [(1, _)] ⟨some 1, (Op.move (.tmp 0)), 35, "", #[], none⟩ [_, undef] 1 rfl rfl ⟨s1, trivial⟩ rfl rfl hQ0 ?_
                    clear hQ0 hH s1
                    intro Q hQ
                    repeat go_step
                    exact hQ _ _ (Grow.refl _) rfl rfl
                  refine obls_cons (fun f w' hR hH Q0 hQ0 => ?_) ?_
                  · skip
                    have s7 := sv_off f [] e7 rfl
                    refine small_v hsz [(7, _)] ⟨some 1, (Op.move (.tmp 0)), 3, "", #[], none⟩ [_, undef] 1 rfl rfl ⟨s7, trivial⟩ rfl rfl hQ0 ?_
                    clear hQ0 hH s7
                    intro Q hQ
                    repeat go_step
                    exact hQ _ _ (Grow.refl _) rfl rfl
                  refine obls_cons (fun f w' hR hH Q0 hQ0 => ?_) ?_
                  · skip
                    have s132 := (sv_at 132 1 hsz f [(132, 1), (133, 2)] rfl).trans (show f 1 = _ from hH.get 0 (132, 1) rfl)
                    have s133 := (sv_at 133 2 hsz f [(132, 1), (133, 2)] rfl).trans (show f 2 = _ from hH.get 1 (133, 2) rfl)
                    refine small_v hsz [(132, _), (133, _)] ⟨some 2, (Op.indexAddr 35 (.tmp 0) (.tmp 1)), 0, "", #[], none⟩ [_, _, undef] 2 rfl rfl ⟨s132, s133, trivial⟩ rfl rfl hQ0 ?_
                    clear hQ0 hH s132 s133
                    intro Q hQ
                    repeat go_step
                    exact hQ _ _ (Grow.refl _) rfl rfl
                  refine obls_cons (fun f w' hR hH Q0 hQ0 => ?_) ?_
                  · skip
                    have s134 := (sv_at 134 3 hsz f [(134, 3)] rfl).trans (show f 3 = _ from hH.get 0 (134, 3) rfl)
                    refine small_v hsz [(134, _)] ⟨some 1, (Op.fieldAddr 46 (.tmp 0) 3), 0, "", #[], none⟩ [_, undef] 1 rfl rfl ⟨s134, trivial⟩ rfl rfl hQ0 ?_
                    clear hQ0 hH s134
                    intro Q hQ
                    repeat go_step
                    exact hQ _ _ (Grow.refl _) rfl rfl
                  refine obls_cons (fun f w' hR hH Q0 hQ0 => ?_) ?_
                  · skip
                    have s135 := (sv_at 135 4 hsz f [(135, 4)] rfl).trans (show f 4 = _ from hH.get 0 (135, 4) rfl)
                    refine small_v hsz [(135, _)] ⟨some 1, (Op.load 3 (.tmp 0)), 3, "", #[], none⟩ [_, undef] 1 rfl rfl ⟨s135, trivial⟩ rfl rfl hQ0 ?_
                    clear hQ0 hH s135
                    intro Q hQ
                    have y3 := HC.out w' (HG7.out.trans hR) 3 _ rfl
                    repeat go_step
                    exact hQ _ _ (Grow.refl _) rfl rfl
                  refine obls_cons (fun f w' hR hH Q0 hQ0 => ?_) ?_
                  · skip
                    have s136 := (sv_at 136 5 hsz f [(136, 5)] rfl).trans (show f 5 = _ from hH.get 0 (136, 5) rfl)
                    refine small_v hsz [(136, _)] ⟨some 1, (Op.binOp BinOp.geq 3 (.tmp 0) (Operand.const (Value.int IntKind.i64 0)) 3), 4, "", #[], none⟩ [_, undef] 1 rfl rfl ⟨s136, trivial⟩ rfl rfl hQ0 ?_
                    clear hQ0 hH s136
                    intro Q hQ
                    repeat go_step
                    exact hQ _ _ (Grow.refl _) rfl rfl
                  refine obls_cons (fun f w' hR hH Q0 hQ0 => ?_) ?_
                  · skip
                    have s137 := (sv_at 137 6 hsz f [(137, 6)] rfl).trans (show f 6 = _ from hH.get 0 (137, 6) rfl)
                    refine small_v hsz [(137, _)] ⟨some 1, (Op.move (.tmp 0)), 4, "", #[], none⟩ [_, undef] 1 rfl rfl ⟨s137, trivial⟩ rfl rfl hQ0 ?_
                    clear hQ0 hH s137
                    intro Q hQ
                    repeat go_step
                    exact hQ _ _ (Grow.refl _) rfl rfl
                  refine obls_cons (fun f w' hR hH Q0 hQ0 => ?_) ?_
                  · skip
                    have s1 := sv_off f [(138, 7)] e1 rfl
                    have s138 := (sv_at 138 7 hsz f [(138, 7)] rfl).trans (show f 7 = _ from hH.get 0 (138, 7) rfl)
                    first
                      | exact skip_v hsz rfl ((wanted_some (b := false) rfl rfl s138).trans rfl) hQ0 (Grow.refl _) rfl
                      | refine small_v hsz [(1, _)] ⟨some 1, (Op.move (.tmp 0)), 35, "", #[], none⟩ [_, undef] 1 rfl ((wanted_some (b := true) rfl rfl s138).trans rfl) ⟨s1, trivial⟩ rfl rfl hQ0 ?_
                        clear hQ0 hH s1 s138
                        intro Q hQ
                        repeat go_step
                        exact hQ _ _ (Grow.refl _) rfl rfl
                  refine obls_cons (fun f w' hR hH Q0 hQ0 => ?_) ?_
                  · skip
                    have s7 := sv_off f [(138, 7)] e7 rfl
                    have s138 := (sv_at 138 7 hsz f [(138, 7)] rfl).trans (show f 7 = _ from hH.get 0 (138, 7) rfl)
                    first
                      | exact skip_v hsz rfl ((wanted_some (b := false) rfl rfl s138).trans rfl) hQ0 (Grow.refl _) rfl
                      | refine small_v hsz [(7, _)] ⟨some 1, (Op.move (.tmp 0)), 3, "", #[], none⟩ [_, undef] 1 rfl ((wanted_some (b := true) rfl rfl s138).trans rfl) ⟨s7, trivial⟩ rfl rfl hQ0 ?_
                        clear hQ0 hH s7 s138
                        intro Q hQ
                        repeat go_step
                        exact hQ _ _ (Grow.refl _) rfl rfl
                  refine obls_cons (fun f w' hR hH Q0 hQ0 => ?_) ?_
                  · skip
                    have s139 := (sv_at 139 8 hsz f [(139, 8), (140, 9), (138, 7)] rfl).trans (show f 8 = _ from hH.get 0 (139, 8) rfl)
                    have s140 := (sv_at 140 9 hsz f [(139, 8), (140, 9), (138, 7)] rfl).trans (show f 9 = _ from hH.get 1 (140, 9) rfl)
                    have s138 := (sv_at 138 7 hsz f [(139, 8), (140, 9), (138, 7)] rfl).trans (show f 7 = _ from hH.get 2 (138, 7) rfl)
                    first
                      | exact skip_v hsz rfl ((wanted_some (b := false) rfl rfl s138).trans rfl) hQ0 (Grow.refl _) rfl
                      | refine small_v hsz [(139, _), (140, _)] ⟨some 2, (Op.indexAddr 35 (.tmp 0) (.tmp 1)), 0, "", #[], none⟩ [_, _, undef] 2 rfl ((wanted_some (b := true) rfl rfl s138).trans rfl) ⟨s139, s140, trivial⟩ rfl rfl hQ0 ?_
                        clear hQ0 hH s139 s140 s138
                        intro Q hQ
                        repeat go_step
                        exact hQ _ _ (Grow.refl _) rfl rfl
                  refine obls_cons (fun f w' hR hH Q0 hQ0 => ?_) ?_
                  · skip
                    have s141 := (sv_at 141 10 hsz f [(141, 10), (138, 7)] rfl).trans (show f 10 = _ from hH.get 0 (141, 10) rfl)
                    have s138 := (sv_at 138 7 hsz f [(141, 10), (138, 7)] rfl).trans (show f 7 = _ from hH.get 1 (138, 7) rfl)
                    first
                      | exact skip_v hsz rfl ((wanted_some (b := false) rfl rfl s138).trans rfl) hQ0 (Grow.refl _) rfl
                      | refine small_v hsz [(141, _)] ⟨some 1, (Op.fieldAddr 46 (.tmp 0) 3), 0, "", #[], none⟩ [_, undef] 1 rfl ((wanted_some (b := true) rfl rfl s138).trans rfl) ⟨s141, trivial⟩ rfl rfl hQ0 ?_
                        clear hQ0 hH s141 s138
                        intro Q hQ
                        repeat go_step
                        exact hQ _ _ (Grow.refl _) rfl rfl
                  refine obls_cons (fun f w' hR hH Q0 hQ0 => ?_) ?_
                  · skip
                    have s142 := (sv_at 142 11 hsz f [(142, 11), (138, 7)] rfl).trans (show f 11 = _ from hH.get 0 (142, 11) rfl)
                    have s138 := (sv_at 138 7 hsz f [(142, 11), (138, 7)] rfl).trans (show f 7 = _ from hH.get 1 (138, 7) rfl)
                    first
                      | exact skip_v hsz rfl ((wanted_some (b := false) rfl rfl s138).trans rfl) hQ0 (Grow.refl _) rfl
                      | refine small_v hsz [(142, _)] ⟨some 1, (Op.load 3 (.tmp 0)), 3, "", #[], none⟩ [_, undef] 1 rfl ((wanted_some (b := true) rfl rfl s138).trans rfl) ⟨s142, trivial⟩ rfl rfl hQ0 ?_
                        clear hQ0 hH s142 s138
                        intro Q hQ
                        have y3 := HC.out w' (HG7.out.trans hR) 3 _ rfl
                        repeat go_step
                        exact hQ _ _ (Grow.refl _) rfl rfl
                  refine obls_cons (fun f w' hR hH Q0 hQ0 => ?_) ?_
                  · skip
                    have s6 := sv_off f [(138, 7)] e6 rfl
                    have s138 := (sv_at 138 7 hsz f [(138, 7)] rfl).trans (show f 7 = _ from hH.get 0 (138, 7) rfl)
                    first
                      | exact skip_v hsz rfl ((wanted_some (b := false) rfl rfl s138).trans rfl) hQ0 (Grow.refl _) rfl
                      | refine small_v hsz [(6, _)] ⟨some 1, (Op.fieldAddr 40 (.tmp 0) 1), 0, "", #[], none⟩ [_, undef] 1 rfl ((wanted_some (b := true) rfl rfl s138).trans rfl) ⟨s6, trivial⟩ rfl rfl hQ0 ?_
                        clear hQ0 hH s6 s138
                        intro Q hQ
                        repeat go_step
                        exact hQ _ _ (Grow.refl _) rfl rfl
                  refine obls_cons (fun f w' hR hH Q0 hQ0 => ?_) ?_
                  · skip
                    have s144 := (sv_at 144 13 hsz f [(144, 13), (138, 7)] rfl).trans (show f 13 = _ from hH.get 0 (144, 13) rfl)
                    have s138 := (sv_at 138 7 hsz f [(144, 13), (138, 7)] rfl).trans (show f 7 = _ from hH.get 1 (138, 7) rfl)
                    first
                      | exact skip_v hsz rfl ((wanted_some (b := false) rfl rfl s138).trans rfl) hQ0 (Grow.refl _) rfl
                      | refine small_v hsz [(144, _)] ⟨some 1, (Op.load 37 (.tmp 0)), 37, "", #[], none⟩ [_, undef] 1 rfl ((wanted_some (b := true) rfl rfl s138).trans rfl) ⟨s144, trivial⟩ rfl rfl hQ0 ?_
                        clear hQ0 hH s144 s138
                        intro Q hQ
                        have y1 := (HI7.out.bx.grow hR).cell (i := 1) rfl
                        repeat go_step
                        exact hQ _ _ (Grow.refl _) rfl rfl
                  refine obls_cons (fun f w' hR hH Q0 hQ0 => ?_) ?_
                  · skip
                    have s145 := (sv_at 145 14 hsz f [(145, 14), (138, 7)] rfl).trans (show f 14 = _ from hH.get 0 (145, 14) rfl)
                    have s138 := (sv_at 138 7 hsz f [(145, 14), (138, 7)] rfl).trans (show f 7 = _ from hH.get 1 (138, 7) rfl)
                    first
                      | exact skip_v hsz rfl ((wanted_some (b := false) rfl rfl s138).trans rfl) hQ0 (Grow.refl _) rfl
                      | refine small_v hsz [(145, _)] ⟨some 1, (Op.call (Call.mk (Callee.builtin Builtin.len) #[(.tmp 0)] #[37])), 3, "", #[], none⟩ [_, undef] 1 rfl ((wanted_some (b := true) rfl rfl s138).trans rfl) ⟨s145, trivial⟩ rfl (ren_builtin rfl rfl) hQ0 ?_
                        clear hQ0 hH s145 s138
                        intro Q hQ
                        repeat go_step
                        exact hQ _ _ (Grow.refl _) rfl rfl
                  refine obls_cons (fun f w' hR hH Q0 hQ0 => ?_) ?_
                  · skip
                    have s143 := (sv_at 143 12 hsz f [(143, 12), (146, 15), (138, 7)] rfl).trans (show f 12 = _ from hH.get 0 (143, 12) rfl)
                    have s146 := (sv_at 146 15 hsz f [(143, 12), (146, 15), (138, 7)] rfl).trans (show f 15 = _ from hH.get 1 (146, 15) rfl)
                    have s138 := (sv_at 138 7 hsz f [(143, 12), (146, 15), (138, 7)] rfl).trans (show f 7 = _ from hH.get 2 (138, 7) rfl)
                    first
                      | exact skip_v hsz rfl ((wanted_some (b := false) rfl rfl s138).trans rfl) hQ0 (Grow.refl _) rfl
                      | refine small_v hsz [(143, _), (146, _)] ⟨some 2, (Op.binOp BinOp.lss 3 (.tmp 0) (.tmp 1) 3), 4, "", #[], none⟩ [_, _, undef] 2 rfl ((wanted_some (b := true) rfl rfl s138).trans rfl) ⟨s143, s146, trivial⟩ rfl rfl hQ0 ?_
                        clear hQ0 hH s143 s146 s138
                        intro Q hQ
                        repeat go_step
                        exact hQ _ _ (Grow.refl _) rfl rfl
                  refine obls_cons (fun f w' hR hH Q0 hQ0 => ?_) ?_
                  · skip
                    have s138 := (sv_at 138 7 hsz f [(138, 7), (147, 16)] rfl).trans (show f 7 = _ from hH.get 0 (138, 7) rfl)
                    have s147 := (sv_at 147 16 hsz f [(138, 7), (147, 16)] rfl).trans (show f 16 = _ from hH.get 1 (147, 16) rfl)
                    refine small_v hsz [(138, _), (147, _)] ⟨some 2, (Op.pick (.tmp 0) (.tmp 1) (Operand.const (Value.bool false))), 4, "", #[], none⟩ [_, _, undef] 2 rfl rfl ⟨s138, s147, trivial⟩ rfl rfl hQ0 ?_
                    clear hQ0 hH s138 s147
                    intro Q hQ
                    repeat go_step
                    exact hQ _ _ (Grow.refl _) rfl rfl
                  refine obls_cons (fun f w' hR hH Q0 hQ0 => ?_) ?_
                  · skip
                    have s131 := (sv_at 131 0 hsz f [(131, 0), (148, 17)] rfl).trans (show f 0 = _ from hH.get 0 (131, 0) rfl)
                    have s148 := (sv_at 148 17 hsz f [(131, 0), (148, 17)] rfl).trans (show f 17 = _ from hH.get 1 (148, 17) rfl)
                    refine small_v hsz [(131, _), (148, _)] ⟨some 2, (Op.binOp BinOp.neq 4 (.tmp 0) (.tmp 1) 4), 4, "", #[], none⟩ [_, _, undef] 2 rfl rfl ⟨s131, s148, trivial⟩ rfl rfl hQ0 ?_
                    clear hQ0 hH s131 s148
                    intro Q hQ
                    repeat go_step
                    exact hQ _ _ (Grow.refl _) rfl rfl
                  refine obls_cons (fun f w' hR hH Q0 hQ0 => ?_) ?_
                  · skip
                    have s149 := (sv_at 149 18 hsz f [(149, 18)] rfl).trans (show f 18 = _ from hH.get 0 (149, 18) rfl)
                    refine small_v hsz [(149, _)] ⟨some 1, (Op.move (.tmp 0)), 4, "", #[], none⟩ [_, undef] 1 rfl rfl ⟨s149, trivial⟩ rfl rfl hQ0 ?_
                    clear hQ0 hH s149
                    intro Q hQ
                    repeat go_step
                    exact hQ _ _ (Grow.refl _) rfl rfl
                  refine obls_cons (fun f w' hR hH Q0 hQ0 => ?_) ?_
                  · skip
                    have s17 := sv_off f [(150, 19)] e17 rfl
                    have s150 := (sv_at 150 19 hsz f [(150, 19)] rfl).trans (show f 19 = _ from hH.get 0 (150, 19) rfl)
                    first
                      | exact skip_v hsz rfl ((wanted_some (b := true) rfl rfl s150).trans rfl) hQ0 (Grow.refl _) rfl
                      | refine small_v hsz [(17, _)] ⟨some 1, (Op.move (.tmp 0)), 4, "", #[], none⟩ [_, undef] 1 rfl ((wanted_some (b := false) rfl rfl s150).trans rfl) ⟨s17, trivial⟩ rfl rfl hQ0 ?_
                        clear hQ0 hH s17 s150
                        intro Q hQ
                        repeat go_step
                        exact hQ _ _ (Grow.refl _) rfl rfl
                  refine obls_cons (fun f w' hR hH Q0 hQ0 => ?_) ?_
                  · skip
                    have s151 := (sv_at 151 20 hsz f [(151, 20), (150, 19)] rfl).trans (show f 20 = _ from hH.get 0 (151, 20) rfl)
                    have s150 := (sv_at 150 19 hsz f [(151, 20), (150, 19)] rfl).trans (show f 19 = _ from hH.get 1 (150, 19) rfl)
                    first
                      | exact skip_v hsz rfl ((wanted_some (b := true) rfl rfl s150).trans rfl) hQ0 (Grow.refl _) rfl
                      | refine small_v hsz [(151, _)] ⟨some 1, (Op.unOp UnOp.not 4 (.tmp 0)), 4, "", #[], none⟩ [_, undef] 1 rfl ((wanted_some (b := false) rfl rfl s150).trans rfl) ⟨s151, trivial⟩ rfl rfl hQ0 ?_
                        clear hQ0 hH s151 s150
                        intro Q hQ
                        repeat go_step
                        exact hQ _ _ (Grow.refl _) rfl rfl
                  refine obls_cons (fun f w' hR hH Q0 hQ0 => ?_) ?_
                  · skip
                    have s152 := (sv_at 152 21 hsz f [(152, 21), (150, 19)] rfl).trans (show f 21 = _ from hH.get 0 (152, 21) rfl)
                    have s150 := (sv_at 150 19 hsz f [(152, 21), (150, 19)] rfl).trans (show f 19 = _ from hH.get 1 (150, 19) rfl)
                    first
                      | exact skip_v hsz rfl ((wanted_some (b := true) rfl rfl s150).trans rfl) hQ0 (Grow.refl _) rfl
                      | refine small_v hsz [(152, _)] ⟨some 1, (Op.move (.tmp 0)), 4, "", #[], none⟩ [_, undef] 1 rfl ((wanted_some (b := false) rfl rfl s150).trans rfl) ⟨s152, trivial⟩ rfl rfl hQ0 ?_
                        clear hQ0 hH s152 s150
                        intro Q hQ
                        repeat go_step
                        exact hQ _ _ (Grow.refl _) rfl rfl
                  refine obls_cons (fun f w' hR hH Q0 hQ0 => ?_) ?_
                  · skip
                    have s16 := sv_off f [(153, 22)] e16 rfl
                    have s153 := (sv_at 153 22 hsz f [(153, 22)] rfl).trans (show f 22 = _ from hH.get 0 (153, 22) rfl)
                    first
                      | exact skip_v hsz rfl ((wanted_some (b := false) rfl rfl s153).trans rfl) hQ0 (Grow.refl _) rfl
                      | refine small_v hsz [(16, _)] ⟨some 1, (Op.load 30 (.tmp 0)), 30, "", #[], none⟩ [_, undef] 1 rfl ((wanted_some (b := true) rfl rfl s153).trans rfl) ⟨s16, trivial⟩ rfl rfl hQ0 ?_
                        clear hQ0 hH s16 s153
                        intro Q hQ
                        have y0 := (HBX16.out.grow hR).cell (i := 0) rfl
                        have y1 := (HBX16.out.grow hR).cell (i := 1) rfl
                        have y2 := (HBX16.out.grow hR).cell (i := 2) rfl
                        have y3 := (HBX16.out.grow hR).cell (i := 3) rfl
                        repeat go_step
                        exact hQ _ _ (Grow.refl _) rfl rfl
                  refine obls_cons (fun f w' hR hH Q0 hQ0 => ?_) ?_
                  · skip
                    have s153 := (sv_at 153 22 hsz f [(153, 22)] rfl).trans (show f 22 = _ from hH.get 0 (153, 22) rfl)
                    first
                      | exact skip_v hsz rfl ((wanted_some (b := false) rfl rfl s153).trans rfl) hQ0 (Grow.refl _) rfl
                      | refine small_v hsz [] ⟨some 0, (Op.build 48 #[]), 48, "", #[], none⟩ [undef] 0 rfl ((wanted_some (b := true) rfl rfl s153).trans rfl) trivial rfl (ren_build rfl) hQ0 ?_
                        clear hQ0 hH s153
                        intro Q hQ
                        repeat go_step
                        exact hQ _ _ (Grow.refl _) rfl rfl
                  refine obls_cons (fun f w' hR hH Q0 hQ0 => ?_) ?_
                  · skip
                    have s154 := (sv_at 154 23 hsz f [(154, 23), (155, 24), (153, 22)] rfl).trans (show f 23 = _ from hH.get 0 (154, 23) rfl)
                    have s155 := (sv_at 155 24 hsz f [(154, 23), (155, 24), (153, 22)] rfl).trans (show f 24 = _ from hH.get 1 (155, 24) rfl)
                    have s153 := (sv_at 153 22 hsz f [(154, 23), (155, 24), (153, 22)] rfl).trans (show f 22 = _ from hH.get 2 (153, 22) rfl)
                    first
                      | exact skip_v hsz rfl ((wanted_some (b := false) rfl rfl s153).trans rfl) hQ0 (Grow.refl _) rfl
                      | refine small_v hsz [(154, _), (155, _)] ⟨some 2, (Op.call (Call.mk (Callee.value (Operand.func 18)) #[(.tmp 0), (.tmp 1)] #[30, 48])), 4, "", #[], none⟩ [_, _, undef] 2 rfl ((wanted_some (b := true) rfl rfl s153).trans rfl) ⟨s154, s155, trivial⟩ rfl (ren_call rfl rfl) hQ0 ?_
                        clear hQ0 hH s154 s155 s153
                        intro Q hQ
                        repeat go_step
                        exact hQ _ _ (Grow.refl _) rfl rfl
                  refine obls_cons (fun f w' hR hH Q0 hQ0 => ?_) ?_
                  · skip
                    have s156 := (sv_at 156 25 hsz f [(156, 25), (153, 22)] rfl).trans (show f 25 = _ from hH.get 0 (156, 25) rfl)
                    have s153 := (sv_at 153 22 hsz f [(156, 25), (153, 22)] rfl).trans (show f 22 = _ from hH.get 1 (153, 22) rfl)
                    first
                      | exact skip_v hsz rfl ((wanted_some (b := false) rfl rfl s153).trans rfl) hQ0 (Grow.refl _) rfl
                      | refine small_v hsz [(156, _)] ⟨some 1, (Op.unOp UnOp.not 4 (.tmp 0)), 4, "", #[], none⟩ [_, undef] 1 rfl ((wanted_some (b := true) rfl rfl s153).trans rfl) ⟨s156, trivial⟩ rfl rfl hQ0 ?_
                        clear hQ0 hH s156 s153
                        intro Q hQ
                        repeat go_step
                        exact hQ _ _ (Grow.refl _) rfl rfl
                  refine obls_cons (fun f w' hR hH Q0 hQ0 => ?_) ?_
                  · skip
                    have s153 := (sv_at 153 22 hsz f [(153, 22), (157, 26), (150, 19)] rfl).trans (show f 22 = _ from hH.get 0 (153, 22) rfl)
                    have s157 := (sv_at 157 26 hsz f [(153, 22), (157, 26), (150, 19)] rfl).trans (show f 26 = _ from hH.get 1 (157, 26) rfl)
                    have s150 := (sv_at 150 19 hsz f [(153, 22), (157, 26), (150, 19)] rfl).trans (show f 19 = _ from hH.get 2 (150, 19) rfl)
                    first
                      | exact skip_v hsz rfl ((wanted_some (b := true) rfl rfl s150).trans rfl) hQ0 (Grow.refl _) rfl
                      | refine small_v hsz [(153, _), (157, _)] ⟨some 2, (Op.pick (.tmp 0) (.tmp 1) (Operand.const (Value.bool false))), 4, "", #[], none⟩ [_, _, undef] 2 rfl ((wanted_some (b := false) rfl rfl s150).trans rfl) ⟨s153, s157, trivial⟩ rfl rfl hQ0 ?_
                        clear hQ0 hH s153 s157 s150
                        intro Q hQ
                        repeat go_step
                        exact hQ _ _ (Grow.refl _) rfl rfl
                  refine obls_cons (fun f w' hR hH Q0 hQ0 => ?_) ?_
                  · skip
                    have s150 := (sv_at 150 19 hsz f [(150, 19), (158, 27)] rfl).trans (show f 19 = _ from hH.get 0 (150, 19) rfl)
                    have s158 := (sv_at 158 27 hsz f [(150, 19), (158, 27)] rfl).trans (show f 27 = _ from hH.get 1 (158, 27) rfl)
                    refine small_v hsz [(150, _), (158, _)] ⟨some 2, (Op.pick (.tmp 0) (Operand.const (Value.bool true)) (.tmp 1)), 4, "", #[], none⟩ [_, _, undef] 2 rfl rfl ⟨s150, s158, trivial⟩ rfl rfl hQ0 ?_
                    clear hQ0 hH s150 s158
                    intro Q hQ
                    repeat go_step
                    exact hQ _ _ (Grow.refl _) rfl rfl
                  exact obls_nil
                case mono => exact ⟨Mono.veq _, Mono.veq _, Mono.veq _, Mono.veq _, Mono.veq _, Mono.veq _, Mono.veq _, Mono.veq _, Mono.veq _, Mono.veq _, Mono.veq _, Mono.veq _, Mono.veq _, Mono.veq _, Mono.veq _, Mono.veq _, Mono.veq _, Mono.veq _, Mono.veq _, Mono.veq _, Mono.veq _, Mono.veq _, Mono.veq _, Mono.veq _, Mono.veq _, Mono.veq _, Mono.veq _, Mono.veq _, Mono.veq _, trivial⟩
                case tail =>
                  intro f w' hR hH
                  have q28 := hH.get 28 (159, 28) rfl
                  clear hH
                  refine wpList_merge (idx := [none, none, none, none, none, none, none, none, none, none, none, none, none, none, none, none, none, none, none, none, none, none, none, none, none, none, none, none, none, none, none, none, none, none, none, none, none, none, none, none, none, none, none, none, none, none, none, none, none, none, none, none, none, none, none, none, none, none, none, none, none, none, none, none, none, none, none, none, none, none, none, none, none, none, none, none, none, none, none, none, none, none, none, none, none, none, none, none, none, none, none, none, none, none, none, none, none, none, none, none, none, none, none, none, none, none, none, none, none, none, none, none, none, none, none, none, none, none, none, none, none, none, none, none, none, none, none, none, none, none, none, some 0, some 1, some 2, some 3, some 4, some 5, some 6, some 7, some 8, some 9, some 10, some 11, some 12, some 13, some 14, some 15, some 16, some 17, some 18, some 19, some 20, some 21, some 22, some 23, some 24, some 25, some 26, some 27, some 28, none]) (by kernel_rfl) ?_; show wpList _ _ _ [] ⟨#[_, _, _, _, _, _, _, _, _, _, _, _, _, _, _, _, _, _, _, _, _, _, _, _, _, _, _, _, _, _, _, _, _, _, _, _, _, _, _, _, _, _, _, _, _, _, _, _, _, _, _, _, _, _, _, _, _, _, _, _, _, _, _, _, _, _, _, _, _, _, _, _, _, _, _, _, _, _, _, _, _, _, _, _, _, _, _, _, _, _, _, _, _, _, _, _, _, _, _, _, _, _, _, _, _, _, _, _, _, _, _, _, _, _, _, _, _, _, _, _, _, _, _, _, _, _, _, _, _, _, _, f 0, f 1, f 2, f 3, f 4, f 5, f 6, f 7, f 8, f 9, f 10, f 11, f 12, f 13, f 14, f 15, f 16, f 17, f 18, f 19, f 20, f 21, f 22, f 23, f 24, f 25, f 26, f 27, f 28, _], _⟩ _
                  rw [show f 28 = _ from q28]
                  clear q28
                  have HI8 := Lib.hid (HI7.out.grow hR)
                  have HG8 := Lib.hid (HG7.out.trans hR)
                  clear hR
                  go_wp2_with fail
                  go_roundw
                  case rel => exact ⟨k + 1, cnt', lv', ps1, C', cs', B1, m1, d1, B2, m2, d2, by have := HN.out.2.2.1; omega, by go_num, HI8.out, HCT9.out.1, HCT9.out.2, HG8.out⟩
                  case measure => have := HN.out.2.2.1; simp [intOf] <;> omega
      · have t1 : decide (k < n) = false := decide_eq_false hlt
        have t2 : decide ((k : Int) < (n : Int)) = false := decide_eq_false (by omega)
        have HWK := Lib.hid (works_any wr)
        have HG := Lib.hid hg
        clear hI hcn hcs hg hlt hkl
        go_wp2_with fail
        refine HWK.out.mono ?_
        rintro e w2 ⟨rfl, hg2⟩
        have HG2 := Lib.hid (HG.out.trans hg2)
        clear hg2
        go_wp2_with fail
        go_ret
        exact ⟨rfl, HG2.out⟩
end Go.Proofs.Ytmekdhlcflielaa.ntL
