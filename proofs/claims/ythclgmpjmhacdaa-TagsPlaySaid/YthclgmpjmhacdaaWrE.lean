/- The walks of what writes. -/
import Derived.Test.YthclgmpjmhacdaaWr
import Derived.Test.YthclgmpjmhacdaaRdW2
namespace Go.Proofs.Ythclgmpjmhacdaa.bfW
open Go Go.RowKit Go.Par Go.Kit Vi Go.Proofs.Ythclgmpjmhacdaa.cl
open Go.Proofs.Ythclgmpjmhacdaa.viW hiding i8 i8s i8z i8b info8

abbrev TW : TypeId := 74
abbrev Wb (w : World) (B : Nat) (K : Nat → Prop) (g : Nat) (L : List UInt8) : Prop := Wr TW 5 w B K g L
def u64v (n : Nat) : Value := .int .u64 (n : Int)
def vbs (ns : List Nat) : List UInt8 := (ns.map vb).flatten
theorem vbs_snoc (ns : List Nat) (k x : Nat) (h : ns[k]? = some x) : vbs (ns.take (k + 1)) = vbs (ns.take k) ++ vb x := by
  unfold vbs; rw [List.take_add_one, h]; simp
theorem vbs_len : ∀ ns : List Nat, (vbs ns).length ≤ 10 * ns.length
  | [] => by simp [vbs]
  | n :: ns => by
    have := vbs_len ns; have := vb_len_le n
    simp only [vbs, List.map_cons, List.flatten_cons, List.length_append, List.length_cons] at *; omega
/-- what an append hands back -/
def App (B : Nat) (K : Nat → Prop) (g n : Nat) (L : List UInt8) : Value → World → Prop := fun v1 w1 => w1.ownsRow B 5 1 v1 n (u8s L) ∧ (∀ k, v1.ownBlock = some k → k ≠ g ∧ ¬ K k)
theorem App.mono {B : Nat} {K : Nat → Prop} {g n : Nat} {L : List UInt8} : Mono Grow (App B K g n L) := fun _ _ _ h hg => ⟨own_grow h.1 hg, h.2⟩

set_option maxRecDepth 100000 in
set_option maxHeartbeats 1000000 in
theorem num_w (w : World) (B : Nat) (K : Nat → Prop) (hK : ∀ k, K k → k < w.heap.size) (g : Nat) (L : List UInt8) (h : Wb w B K g L) (A : Option Addr) (n c : Nat) (ns : List Nat) (hb : Row w A n (ns.map u64v)) (hs : 0 < n → ∀ ad, A = some ad → ad.block < B ∨ K ad.block)
    (hlt : ∀ x ∈ ns, x < 18446744073709551616) (hlen : L.length + 10 * n ≤ 140737488355328) :
    Calls Try.prog 37 #[.pointer (some ⟨g, 0, none⟩), .slice A n c] w fun e w' => e = .returned (.tuple #[]) ∧ Wb w' B K g (L ++ vbs ns) ∧ Keep B K w w' := by
  have hnl : ns.length = n := by have := hb.1; simpa using this
  have HB := Lib.hid hb
  have HNL := Lib.hid hnl
  have HLT := Lib.hid hlt
  have HK := Lib.hid hK
  have HSS := Lib.hid hs
  have H0 := Lib.hid h
  clear hb hnl hlt hK hs h
  go_enter Try.func37, Try.ntmps37
  go_wp2_with fail
  go_loopw [10] (fun i wr => ∃ k : Nat, k ≤ n ∧ i = .int .i64 (k : Int) ∧ Wb wr B K g (L ++ vbs (ns.take k)) ∧ Keep B K w wr) (fun i _ => n - (intOf i).toNat)
  case atStart => exact ⟨0, by omega, rfl, by simpa [vbs] using H0.out, Keep.refl w⟩
  case round =>
    obtain ⟨k, hk, rfl, hw, hke⟩ := hrel
    by_cases hlt : k < n
    · have hrow := HB.out.keep hke HSS.out
      obtain ⟨b, off, u, rfl, hu, hcell⟩ := hrow.at_ hlt
      obtain ⟨x, hx, rfl⟩ : ∃ x, ns[k]? = some x ∧ u64v x = u := by simpa [List.getElem?_map] using hu
      have hx64 := HLT.out x (List.mem_of_getElem? hx)
      have hsn := vbs_snoc ns k x hx
      have hL1 := vbs_len (ns.take k)
      have hL2 := vb_len_le x
      rw [List.length_take] at hL1
      obtain ⟨Lk, hLk⟩ : ∃ Lk, Lk = L ++ vbs (ns.take k) := ⟨_, rfl⟩
      have hLl : Lk.length ≤ L.length + 10 * k := by rw [hLk, List.length_append]; have := HNL.out; omega
      rw [← hLk] at hw
      have HSN : Hid (L ++ vbs (ns.take (k + 1)) = Lk ++ vb x) := Lib.hid (by rw [hsn, hLk, List.append_assoc])
      have hsz := hw.size
      obtain ⟨v, h1, h2, h3, h4, h5⟩ := hw
      have c0 := h1.cell (i := 0) rfl
      have H1 := Lib.hid h1
      have H2 := Lib.hid h2
      have H5 := Lib.hid h5
      have HKE := Lib.hid hke
      have HKr : Hid (∀ k, K k → k < wr.heap.size) := Lib.hid fun k hk => by have := HK.out k hk; have := HKE.out.size; omega
      have hub : u64v x = .int .u64 (x : Int) := rfl
      rw [hub] at hcell
      obtain ⟨X, hX⟩ : ∃ X, X = vb x := ⟨_, rfl⟩
      have HBA := Lib.hid (fun W => bytes_any x hx64 W)
      rw [← hX] at HSN hL2 HBA
      clear hrow hu hx hsn hL1 hLk h1 h2 h5 hke hub hX H0
      go_wp2_with fail
      apply (fun (v0 v1 v2 v3 v4 v5 : Value) mono draw obl tail => wp_region_piv (I := two (Grow wr) (fun w1 => Blk w1 g TW [v] ∧ Keep B K w w1)) (G := Grow) (Rp := (fun _ _ _ => True)) (Φ := phi2 [veq2 v0, veq2 v1, veq2 v2, veq2 v3, veq2 v4, veq2 v5, (from2 0 (IsSl X)), (from2 1 (App B K g (Lk.length + X.length) (Lk ++ X)))]) (m := 8) (ps := [7]) (qs := [(0, 1, false), (0, 0, false), (0, 0, false), (0, 0, false), (0, 0, false), (0, 0, false), (0, 0, false), (0, 0, true)]) (dls := [[], [], [(15, 1)], [(16, 2)], [(17, 3)], [], [(19, 5)], [(18, 4), (20, 6)]]) (ds := [14, 15, 16, 17, 18, 19, 20, 21]) (by kernel_rfl) (by kernel_rfl) (by kernel_rfl) (by decide) rfl rfl draw (mono2_phi mono) (piv2_phi mono) obl tail)
      case obl =>
        refine obls2_cons (fun b hb1 hb2 f w' hI hH Q hQ => ?_) ?_
        · skip
          clear hH
          refine wpList_view ?_; show wpList _ _ _ [_] ⟨#[_, _, _, _, _, _, _, _, _, _, _, _, _, _, _, _, _, _, _, _, _, _, _, _, _], _⟩ _
          repeat (first | go_guarded | go_step)
          exact hQ _ _ hI (Grow.refl _) rfl rfl
        refine obls2_cons (fun b hb1 hb2 f w' hI hH Q hQ => ?_) ?_
        · skip
          obtain rfl : b = 0 := by omega
          clear hb1 hb2
          clear hH
          refine wpList_view ?_; show wpList _ _ _ [_] ⟨#[_, _, _, _, _, _, _, _, _, _, _, _, _, _, _, _, _, _, _, _, _, _, _, _, _], _⟩ _
          repeat (first | go_guarded | go_step)
          exact hQ _ _ hI (Grow.refl _) rfl rfl
        refine obls2_cons (fun b hb1 hb2 f w' hI hH Q hQ => ?_) ?_
        · skip
          obtain rfl : b = 0 := by omega
          clear hb1 hb2
          have h1 := hH.get 0 (15, 1) rfl
          clear hH
          refine wpList_view ?_; show wpList _ _ _ [_] ⟨#[_, _, _, _, _, _, _, _, _, _, _, _, _, _, _, f 1, _, _, _, _, _, _, _, _, _], _⟩ _
          rw [show f 1 = _ from h1]
          clear h1
          repeat (first | go_guarded | go_step)
          exact hQ _ _ hI (Grow.refl _) rfl rfl
        refine obls2_cons (fun b hb1 hb2 f w' hI hH Q hQ => ?_) ?_
        · skip
          obtain rfl : b = 0 := by omega
          clear hb1 hb2
          have h2 := hH.get 0 (16, 2) rfl
          clear hH
          refine wpList_view ?_; show wpList _ _ _ [_] ⟨#[_, _, _, _, _, _, _, _, _, _, _, _, _, _, _, _, f 2, _, _, _, _, _, _, _, _], _⟩ _
          rw [show f 2 = _ from h2]
          clear h2
          repeat (first | go_guarded | go_step)
          exact hQ _ _ hI (Grow.refl _) rfl rfl
        refine obls2_cons (fun b hb1 hb2 f w' hI hH Q hQ => ?_) ?_
        · skip
          obtain rfl : b = 0 := by omega
          clear hb1 hb2
          have h3 := hH.get 0 (17, 3) rfl
          clear hH
          refine wpList_view ?_; show wpList _ _ _ [_] ⟨#[_, _, _, _, _, _, _, _, _, _, _, _, _, _, _, _, _, f 3, _, _, _, _, _, _, _], _⟩ _
          rw [show f 3 = _ from h3]
          clear h3
          have c0' := hI.get0.cell c0
          repeat (first | go_guarded | go_step)
          exact hQ _ _ hI (Grow.refl _) rfl rfl
        refine obls2_cons (fun b hb1 hb2 f w' hI hH Q hQ => ?_) ?_
        · skip
          obtain rfl : b = 0 := by omega
          clear hb1 hb2
          clear hH
          refine wpList_view ?_; show wpList _ _ _ [_] ⟨#[_, _, _, _, _, _, _, _, _, _, _, _, _, _, _, _, _, _, _, _, _, _, _, _, _], _⟩ _
          repeat (first | go_guarded | go_step)
          exact hQ _ _ hI (Grow.refl _) rfl rfl
        refine obls2_cons (fun b hb1 hb2 f w' hI hH Q hQ => ?_) ?_
        · skip
          obtain rfl : b = 0 := by omega
          clear hb1 hb2
          have h5 := hH.get 0 (19, 5) rfl
          clear hH
          refine wpList_view ?_; show wpList _ _ _ [_] ⟨#[_, _, _, _, _, _, _, _, _, _, _, _, _, _, _, _, _, _, _, f 5, _, _, _, _, _], _⟩ _
          rw [show f 5 = _ from h5]
          clear h5
          go_wp2_with (go_at_call 61; refine (HBA.out _).mono ?_; rintro e w1 ⟨A1, c1, rfl, a1, a2, a3, a4⟩)
          exact hQ _ _ (two.zero (hI.get0.trans a4)) a4 (from2.mk ⟨A1, _, c1, rfl, a1, a2, a3⟩) rfl
        refine oblsP_cons (fun f w' hI hH Q hQ => ?_) ?_
        · skip
          have h4 := hH.get 0 (18, 4) rfl
          have h6 := hH.get 1 (20, 6) rfl
          clear hH
          refine wpList_view ?_; show wpList _ _ _ [_] ⟨#[_, _, _, _, _, _, _, _, _, _, _, _, _, _, _, _, _, _, f 4, _, f 6, _, _, _, _], _⟩ _
          rw [show f 4 = _ from h4]
          replace h6 : (from2 0 (IsSl X)) (f 6) 0 w' := h6
          obtain ⟨u6, hu6⟩ : ∃ u, u = f 6 := ⟨_, rfl⟩
          rw [← hu6]
          rw [← hu6] at h6
          have HU6 : Hid (f 6 = u6) := Lib.hid hu6.symm
          clear hu6
          clear h4
          obtain ⟨A1, n1, c1, rfl, -, -, hb1⟩ := h6.get
          have hG := hI.get0
          have hn1 := hb1.len
          subst hn1
          refine append_bytes Try.underlying22 i8 i8z i8s i8b rfl _ _ rfl B v Lk.length Lk (own_grow H2.out hG) rfl A1 X.length c1 X hb1 rfl (by omega) (Nat.le_trans hsz hG.size) ?_
          intro v2 w2 hown2 hgb2 hh2
          have hp := Wr.put1 (w := w') (Nat.le_trans hsz hG.size) (fun k hk => Nat.lt_of_lt_of_le (HKr.out k hk) hG.size) (H1.out.grow hG) (own_grow H2.out hG) H5.out hgb2 hh2
          exact hQ _ _ (two.one ⟨hp.1, (HKE.out.trans (Keep.of hG hsz)).trans hp.2.1⟩) trivial (from2.mk ⟨hown2, hp.2.2⟩) rfl
        exact obls2_nil
      case draw =>
        exact two.zero (Grow.drew _)
      case mono => exact ⟨Mono2.veq _, Mono2.veq _, Mono2.veq _, Mono2.veq _, Mono2.veq _, Mono2.veq _, Mono2.from IsSl.mono, Mono2.from App.mono, trivial⟩
      case tail =>
        intro f w' hI hH
        have q0 := hH.get 0 (14, 0) rfl
        have q7 : (from2 1 (App B K g (Lk.length + X.length) (Lk ++ X))) (f 7) 1 w' := hH.get 7 (21, 7) rfl
        clear hH
        refine wpList_merge (idx := [none, none, none, none, none, none, none, none, none, none, none, none, none, none, some 0, some 1, some 2, some 3, some 4, some 5, some 6, some 7, none, none, none]) (by kernel_rfl) ?_; show wpList _ _ _ [_, _, _] ⟨#[_, _, _, _, _, _, _, _, _, _, _, _, _, _, f 0, f 1, f 2, f 3, f 4, f 5, f 6, f 7, _, _, _], _⟩ _
        rw [show f 0 = _ from q0]
        clear q0
        generalize f 7 = x7 at *
        obtain ⟨hb7, hk7⟩ := hI.get1
        have q := q7.get
        have f7 := hb7.free 0
        have c7 := hb7.cell (i := 0) rfl
        obtain ⟨A7, cc7, e7, -, -, -⟩ := own_form q.1
        rw [e7] at q ⊢
        have hput := Wr.put2 hb7 q.1 h3 h4 q.2
        have HP := Lib.hid hput
        have HK7 := Lib.hid hk7
        clear hb7 hk7 q hput hI e7 q7
        go_wp2_with fail
        go_roundw
        case rel => exact ⟨k + 1, by omega, by go_num, by rw [HSN.out]; exact HP.out.1, HK7.out.trans HP.out.2⟩
        case measure => simp [intOf] <;> omega
    · obtain rfl : k = n := by omega
      have e : ns.take k = ns := List.take_of_length_le (by have := HNL.out; omega)
      rw [e] at hw
      have HW := Lib.hid hw
      clear e hw
      go_wp2_with fail
      exact bodyPost_end (results_none rfl _ _ _) rfl ⟨rfl, HW.out, hke⟩

set_option maxHeartbeats 400000 in
theorem byte_w (w : World) (B : Nat) (K : Nat → Prop) (hK : ∀ k, K k → k < w.heap.size) (g : Nat) (L : List UInt8) (h : Wb w B K g L) (A : Option Addr) (n c : Nat) (l : List UInt8) (hb : Bytes w A n l) (hlen : L.length + n ≤ 140737488355328) :
    Calls Try.prog 39 #[.pointer (some ⟨g, 0, none⟩), .slice A n c] w fun e w' => e = .returned (.tuple #[]) ∧ Wb w' B K g (L ++ l) ∧ Keep B K w w' := by
  have hsz := h.size
  obtain ⟨v, h1, h2, h3, h4, h5⟩ := h
  have c0 := h1.cell (i := 0) rfl
  have H1 := Lib.hid h1
  have H2 := Lib.hid h2
  have H5 := Lib.hid h5
  have HK := Lib.hid hK
  clear h1 h5 hK
  go_enter Try.func39, Try.ntmps39
  go_wp2_with (at_builtin; refine append_bytes Try.underlying22 i8 i8z i8s i8b rfl _ _ rfl B v L.length L h2 rfl A n c l hb rfl hlen hsz ?_; intro v1 w1 hown1 hgb1 hh1; obtain ⟨A1, cc1, rfl, -, -, -⟩ := own_form hown1; have hp := Wr.put1 hsz HK.out H1.out H2.out H5.out hgb1 hh1; have f7 := hp.1.free 0; have c7 := hp.1.cell (i := 0) rfl; have HP := Lib.hid hp; have HP2 := Lib.hid (Wr.put2 hp.1 hown1 h3 h4 hp.2.2); clear hp hown1 hgb1 hh1)
  exact bodyPost_end (results_none rfl _ _ _) rfl ⟨rfl, HP2.out.1, HP.out.2.1.trans HP2.out.2⟩

set_option maxRecDepth 100000 in
set_option maxHeartbeats 400000 in
theorem text_w (w : World) (B : Nat) (K : Nat → Prop) (hK : ∀ k, K k → k < w.heap.size) (g : Nat) (L : List UInt8) (h : Wb w B K g L) (l : List UInt8) (hlen : L.length + 10 + l.length ≤ 140737488355328) :
    Calls Try.prog 38 #[.pointer (some ⟨g, 0, none⟩), .string (str l)] w fun e w' => e = .returned (.tuple #[]) ∧ Wb w' B K g (L ++ (vb l.length ++ l)) ∧ Keep B K w w' := by
  have hsl := str_size l
  have hvl := vb_len_le l.length
  have hsz := h.size
  have hlt := h.lt
  have hgW : Grow w (w.alloc (.cells #[.int .u64 (l.length : Int)] 59)) := Grow.alloc w _
  have hrow : Row (w.alloc (.cells #[.int .u64 (l.length : Int)] 59)) (some ⟨w.heap.size, 0, none⟩) 1 ([l.length].map u64v) := Row.new w [.int .u64 (l.length : Int)] 59 (0, 0)
  have hK2 : ∀ k, (K k ∨ k = w.heap.size) → k < (w.alloc (.cells #[.int .u64 (l.length : Int)] 59)).heap.size := fun k hk => by
    rcases hk with hk | hk
    · have := hK k hk; simp; omega
    · simp; omega
  have hN := num_w (w.alloc (.cells #[.int .u64 (l.length : Int)] 59)) B (fun k => K k ∨ k = w.heap.size) hK2 g L ((h.more (fun k hk hlt => by rcases hk with hk | hk; exact hk; omega)).grow hgW) (some ⟨w.heap.size, 0, none⟩) 1 1 [l.length] hrow (fun _ ad had => by injection had with had; rw [← had]; exact .inr (.inr rfl)) (fun x hx => by simp at hx; omega) (by omega)
  rw [show vbs [l.length] = vb l.length by simp [vbs]] at hN
  obtain ⟨M, hM⟩ : ∃ M, M = vb l.length := ⟨_, rfl⟩
  rw [← hM] at hN hvl ⊢
  have HN := Lib.hid hN
  have HKA : Hid (Keep B K w (w.alloc (.cells #[.int .u64 (l.length : Int)] 59))) := Lib.hid (Keep.of hgW hsz)
  have HK := Lib.hid hK
  clear hN hrow hK2 hgW h hK hM
  go_enter Try.func38, Try.ntmps38
  go_wp2_with fail
  refine HN.out.mono ?_
  rintro e w1 ⟨rfl, hw1, hk1⟩
  have hke := HKA.out.trans (hk1.less (fun k hk => .inl hk))
  have hw1' : Wb w1 B K g (L ++ M) := hw1.more (fun k hk _ => .inl hk)
  have hsz1 := hw1'.size
  obtain ⟨v, h1, h2, h3, h4, h5⟩ := hw1'
  have c0 := h1.cell (i := 0) rfl
  have H1 := Lib.hid h1
  have H2 := Lib.hid h2
  have H5 := Lib.hid h5
  have HKE := Lib.hid hke
  have HKr : Hid (∀ k, K k → k < w1.heap.size) := Lib.hid fun k hk => by have := HK.out k hk; have := HKE.out.size; omega
  obtain ⟨L1, hL1⟩ : ∃ L1, L1 = L ++ M := ⟨_, rfl⟩
  have hll : L1.length + l.length ≤ 140737488355328 := by rw [hL1, List.length_append]; omega
  have HE : Hid (L ++ (M ++ l) = L1 ++ l) := Lib.hid (by rw [hL1, List.append_assoc])
  rw [← hL1] at h2 H2
  clear h1 h5 hke hw1 hk1 HN hL1
  go_wp2_with (at_builtin; refine append_string Try.underlying22 Try.underlying9 i8 i8z i8s i8b rfl _ _ rfl B v L1.length L1 h2 rfl l rfl hll hsz1 ?_; intro v1 w2 hown1 hgb1 hh1; obtain ⟨A1, cc1, rfl, -, -, -⟩ := own_form hown1; have hp := Wr.put1 hsz1 HKr.out H1.out H2.out H5.out hgb1 hh1; have f7 := hp.1.free 0; have c7 := hp.1.cell (i := 0) rfl; have HP := Lib.hid hp; have HP2 := Lib.hid (Wr.put2 hp.1 hown1 h3 h4 hp.2.2); clear hp hown1 hgb1 hh1)
  exact bodyPost_end (results_none rfl _ _ _) rfl ⟨rfl, by rw [HE.out]; exact HP2.out.1, (HKE.out.trans HP.out.2.1).trans HP2.out.2⟩

theorem bytes_w (w : World) (B : Nat) (K : Nat → Prop) (g : Nat) (L : List UInt8) (h : Wb w B K g L) (hL : L.length ≤ 140737488355328) :
    Calls Try.prog 40 #[.pointer (some ⟨g, 0, none⟩)] w fun e w' => ∃ v, e = .returned v ∧ w'.ownsRow w.heap.size 5 1 v L.length (u8s L) ∧ Grow w w' := by
  obtain ⟨v, h1, h2, h3⟩ := h
  obtain ⟨A, c, rfl, a1, a2, a3⟩ := own_form h2
  rw [Nat.mul_one] at a3
  have c0 := h1.cell (i := 0) rfl
  have HC := Lib.hid (clone_any A L.length c L w a3 hL)
  clear h1 h2 a3
  go_enter Try.func40, Try.ntmps40
  go_wp2_with fail
  refine HC.out.mono ?_
  rintro e w1 ⟨v1, rfl, ho, hg⟩
  obtain ⟨A1, c1, rfl, -, -, -⟩ := own_form ho
  have HO := Lib.hid ho
  clear ho
  go_wp2_with fail
  go_ret
  exact ⟨_, rfl, HO.out, hg⟩
set_option maxRecDepth 100000 in
set_option maxHeartbeats 400000 in
theorem ref_text_w (l : List UInt8) (hl : l.length ≤ 100000000) (w : World) :
    Calls Try.prog 52 #[.string (str l)] w fun e w' => ∃ v, e = .returned v ∧ w'.ownsRow w.heap.size 5 1 v (vb l.length ++ l).length (u8s (vb l.length ++ l)) ∧ Grow w w' := by
  have hsl := str_size l
  have hvl := vb_len_le l.length
  have HN := Lib.hid (ref_bytes_own l.length (by omega) w)
  obtain ⟨M, hM⟩ : ∃ M, M = vb l.length := ⟨_, rfl⟩
  rw [← hM] at HN hvl ⊢
  have HSL := Lib.hid hsl
  clear hM
  go_enter Try.func52, Try.ntmps52
  go_wp2_with fail
  refine HN.out.mono ?_
  rintro e w1 ⟨v1, rfl, ho, hg⟩
  obtain ⟨A1, c1, rfl, -, -, -⟩ := own_form ho
  have HO := Lib.hid ho
  have HG := Lib.hid hg
  clear ho hg HN
  go_wp2_with fail
  go_loopw [3, 4] (fun v i wr => ∃ k : Nat, k ≤ l.length ∧ i = .int .i64 (k : Int) ∧ wr.ownsRow w.heap.size 5 1 v (M.length + k) (u8s (M ++ l.take k)) ∧ Grow w wr) (fun _ i _ => l.length - (intOf i).toNat)
  case atStart => exact ⟨0, by omega, rfl, by simpa using HO.out, HG.out⟩
  case round =>
    obtain ⟨k, hk, rfl, ho, hg⟩ := hrel
    by_cases hlt : k < l.length
    · have hkl : k < (str l).size := by omega
      have hx : l[k]? = some l[k] := List.getElem?_eq_getElem hlt
      have hg0 : (str l)[k] = l[k] := rfl
      have HT1 : Hid (M ++ l.take (k + 1) = (M ++ l.take k) ++ [l[k]]) := Lib.hid (by rw [List.take_add_one, hx, List.append_assoc]; rfl)
      generalize l[k] = x at hg0 HT1
      have hxlt := x.toNat_lt
      have hown := ho
      have hsz : w.heap.size ≤ wr.heap.size := hg.size
      have HGR := Lib.hid hg
      clear hx ho hg HO HG
      go_wp2_with (at_builtin; refine append_fresh 1 Try.underlying22 i8 i8z i8s i8b rfl rfl _ _ rfl w.heap.size _ _ _ hown rfl rfl rfl ?_ ?_ ?_ ?_; (unfold maxLen; omega); omega; exact hsz; intro v1 w1 hown1 hgb1 hh1)
      go_roundw
      case rel =>
        refine ⟨k + 1, by omega, by go_num, ?_, grow_by (HGR.out.trans (Grow.alloc wr _)) hgb1 (own_base hown)⟩
        rw [HT1.out]
        simpa [u8s, u8v, Nat.add_assoc] using hown1
      case measure => simp [intOf] <;> omega
    · obtain rfl : k = l.length := by omega
      rw [List.take_length] at ho
      obtain ⟨A2, c2, rfl, -, -, -⟩ := own_form ho
      have HO2 := Lib.hid ho
      clear ho
      go_wp2_with fail
      go_ret
      exact ⟨_, rfl, by rw [List.length_append]; exact HO2.out, hg⟩
end Go.Proofs.Ythclgmpjmhacdaa.bfW
