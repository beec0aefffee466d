/- The walk of TagsBack. -/
import Derived.Test.YthclgmpjmhacdaaTgL
import Derived.Test.YthclgmpjmhacdaaTgA
import Derived.Test.YthclgmpjmhacdaaTgB
namespace Go.Proofs.Ythclgmpjmhacdaa.tg
open Go Go.RowKit Go.Par Go.Kit

theorem has_set (L : List Tag) (s : List UInt8) (v : List Int) : hasT (setT L s v) s = true := by
  unfold hasT setT
  rw [List.any_append, List.any_cons]
  simp
theorem allS {w : World} {B g bs bn n : Nat} {L : List Tag} (h : TagI w B g bs bn n L) (hn : n ≤ 1000000) : Calls Try.prog 25 #[.pointer (some ⟨g, 0, none⟩)] w fun e w' => ∃ A c, e = .returned (.slice A L.length c) ∧ Grow w w' := by
  refine (all_any h hn).mono ?_
  rintro e w1 ⟨v, rfl, ho, hg⟩
  obtain ⟨A, c, rfl, -, -, -⟩ := own_form ho
  exact ⟨A, c, rfl, hg⟩
def IsLen (n : Nat) (v : Value) (_ : World) : Prop := ∃ A c, v = .slice A n c
theorem IsLen.mono {n : Nat} : Mono Grow (IsLen n) := fun _ _ _ h _ => h
set_option maxRecDepth 100000 in
set_option maxHeartbeats 2000000 in
theorem back_walk (w : World) (A : Option Addr) (n c : Nat) (l : List Ac) (ha : Acts w A n l) (hn : n ≤ maxLen) (v : List Int) (hv : VecOk v) :
    Calls Try.prog 5 #[.slice A n c, vv v] w fun r w' => r = .returned (.bool true) ∧ Grow w w' := by
  have HN0 := Lib.hid hn
  have hvi := ints_ok hv
  have HSN := Lib.hid (fun w1 s => set_nil w1 s v)
  have HON := Lib.hid (fun w1 => of_nil w1 v)
  have HWN := Lib.hid (fun w1 => win_nil w1 v)
  unfold vv at HSN HON HWN ⊢
  obtain ⟨cv, hcv⟩ : ∃ A, A = ints .u16 v := ⟨_, rfl⟩
  rw [← hcv] at hvi HSN HON HWN ⊢
  obtain ⟨W0, hW0⟩ : ∃ W, W = w.alloc (.cells cv.toArray TV) := ⟨_, rfl⟩
  have hg0 : Grow w W0 := by rw [hW0]; exact Grow.alloc _ _
  obtain ⟨b0, hb0⟩ : ∃ b, b = w.heap.size := ⟨_, rfl⟩
  have hbx : Blk W0 b0 TV cv := by rw [hW0]; exact Blk.new _ _ _ _ rfl hb0
  have HG0 := Lib.hid hg0
  have HBX := Lib.hid hbx
  have HW0 := Lib.hid hW0
  have HB0 := Lib.hid hb0
  have HCV := Lib.hid hvi.1
  have HA := Lib.hid (ha.grow hg0)
  have HF := Lib.hid (few_any A n c l W0 (ha.grow hg0) hn)
  clear hcv hvi hW0 hb0 hbx hg0 ha hn hv
  go_enter Try.func5, Try.ntmps5
  try dsimp only
  repeat (first | with_reducible (refine wp_region_cut (k := 1) ?_) | go_values | go_guarded | go_step | go_upon | go_back)
  rw [← HW0.out, ← HB0.out]
  unfold Cut
  go_wp2_with fail
  refine HF.out.mono ?_
  rintro r w' ⟨⟨q, rfl, hq⟩, rfl⟩
  have HQ := Lib.hid hq
  clear hq
  cases q
  · go_wp2_with fail
    refine (works_any W0).mono ?_
    rintro r w1 ⟨rfl, hg1⟩
    have HG1 := Lib.hid hg1
    clear hg1
    go_wp2_with fail
    go_ret
    exact ⟨rfl, HG0.out.trans HG1.out⟩
  · have hn60 := (HQ.out rfl).1
    have HSM := Lib.hid (HQ.out rfl).2
    clear HQ
    go_wp2_with fail
    refine (new_any W0).mono ?_
    rintro e w1 ⟨g, bs, bn, rfl, ht1, hg1⟩
    have HT1 := Lib.hid ht1
    have HG1 := Lib.hid hg1
    clear ht1 hg1
    go_wp2_with fail
    go_loopw [6, 7, 8] (fun i' _ _ wr => ∃ k : Nat, k ≤ n ∧ i' = .int .i64 (k : Int) ∧ (∃ L, Hid (TagI wr W0.heap.size g bs bn (7 * k) L)) ∧ Hid (Grow W0 wr)) (fun i' _ _ _ => n - (intOf i').toNat)
    case atStart => exact ⟨0, by omega, rfl, ⟨_, Lib.hid HT1.out⟩, HG1⟩
    case round =>
      clear HT1 HG1
      obtain ⟨k, hk, rfl, ⟨L, HT⟩, HG⟩ := hrel
      obtain ⟨wa, rfl⟩ : ∃ wa, wa = wr := ⟨_, rfl⟩
      by_cases hlt : k < n
      · have t1 : decide (k < n) = true := decide_eq_true hlt
        obtain ⟨b, off, a, rfl, hx, hok, hc⟩ := (HA.out.grow HG.out).at_ hlt
        have hs60 : a.s.length ≤ maxLen := hok.s1
        have hva := hok.v1
        obtain ⟨nm, hnm⟩ : ∃ nm, nm = str a.s := ⟨_, rfl⟩
        have d1 := hc 1 _ rfl
        rw [← hnm] at d1
        have hio := ints_ok hva
        have hcv : ∀ j u, (ints .u16 a.v)[j]? = some u → wa.cell? ⟨b, off + k * 66 + 2 + j, none⟩ = some u := fun j u hu => by
          rw [Nat.add_assoc (off + k * 66), Nat.add_comm 2 j]
          exact hc (j + 2) u hu
        have hst := fun (w2 : World) (hg : Grow wa w2) => set_any (HT.out.grow hg) (by omega) a.s hs60 a.v hva
        have hgt := fun (w2 : World) (n2 : Nat) (L2 : List Tag) (h : TagI w2 W0.heap.size g bs bn n2 L2) => get_any h a.s hs60
        have heq : ∀ w1, (Op.equalIn 10000 TV (.agg (ints .u16 a.v).toArray) (.agg (ints .u16 a.v).toArray)).run Try.prog w1 = .ok true w1 := fun w1 => by rw [eqV w1 _ _ hva hva]; simp
        unfold vv at hst hgt
        obtain ⟨cs, hcs⟩ : ∃ cs, cs = ints .u16 a.v := ⟨_, rfl⟩
        obtain ⟨e, he⟩ : ∃ e, e = setE L a.s a.v := ⟨_, rfl⟩
        rw [← hcs] at hio hcv hst heq
        rw [← he, ← hnm] at hst
        have HHS : Hid (hasT (setT L a.s a.v) a.s = true) := Lib.hid (has_set _ _ _)
        have HGS : Hid (ints .u16 (getT (setT L a.s a.v) a.s) = cs) := Lib.hid (by rw [get_set, hcs])
        have HCC := Lib.hid hcv
        have HCS := Lib.hid hcs
        have HIO := Lib.hid hio
        have HST := Lib.hid hst
        have HGT := Lib.hid hgt
        have HNM := Lib.hid hnm
        have HX := Lib.hid hx
        have HD1 := Lib.hid d1
        clear hs60 hva hc hio hcv hst hgt hcs he hx hok hnm d1
        by_cases he : e = 0
        · subst he
          go_wp2_with fail
          apply (fun (v0 v1 v2 v3 v4 v5 v6 v7 v8 v9 v10 v11 v12 : Value) mono draw obl tail => wp_region_piv (I := Go.Kit.two (Grow wa) (fun w2 => TagI w2 W0.heap.size g bs bn (7 * k + 7) (setT L a.s a.v) ∧ Grow W0 w2)) (G := Grow) (Rp := (fun _ _ _ => True)) (Φ := phi2 [veq2 v0, veq2 v1, veq2 v2, veq2 v3, veq2 v4, veq2 v5, veq2 v6, veq2 v7, veq2 v8, veq2 v9, veq2 v10, veq2 v11, veq2 v12]) (m := 13) (ps := [11]) (qs := [(0, 0, false), (0, 0, false), (0, 0, false), (0, 0, false), (0, 0, false), (0, 0, false), (0, 0, false), (0, 0, false), (0, 0, false), (0, 0, false), (0, 0, false), (0, 0, true), (1, 1, false)]) (dls := [[], [], [], [(26, 1), (27, 2)], [(28, 3)], [(29, 4)], [], [], [(31, 6), (32, 7)], [(33, 8)], [(34, 9)], [(25, 0), (30, 5), (35, 10)], [(36, 11)]]) (ds := [25, 26, 27, 28, 29, 30, 31, 32, 33, 34, 35, 36, 37]) (by kernel_rfl) (by kernel_rfl) (by kernel_rfl) (by decide) rfl rfl draw (mono2_phi mono) (piv2_phi mono) obl tail)
          case obl =>
            refine obls2_cons (fun b hb1 hb2 f w' hI hH Q hQ => ?_) ?_
            · skip
              obtain rfl : b = 0 := by omega
              clear hb1 hb2
              clear hH
              refine wpList_view ?_; show wpList _ _ _ [_] ⟨#[_, _, _, _, _, _, _, _, _, _, _, _, _, _, _, _, _, _, _, _, _, _, _, _, _, _, _, _, _, _, _, _, _, _, _, _, _, _, _, _, _, _, _, _, _, _, _, _, _, _, _, _, _, _, _, _, _, _, _, _, _, _, _, _, _, _, _, _, _, _, _, _, _, _, _, _, _, _, _, _, _, _, _, _, _, _, _, _, _, _, _, _, _, _, _, _, _, _, _, _, _, _, _, _, _, _, _, _, _, _, _, _, _, _, _, _, _, _, _, _, _, _, _, _, _, _], _⟩ _
              repeat (first | go_guarded | go_step)
              exact hQ _ _ hI (Grow.refl _) rfl rfl
            refine obls2_cons (fun b hb1 hb2 f w' hI hH Q hQ => ?_) ?_
            · skip
              obtain rfl : b = 0 := by omega
              clear hb1 hb2
              clear hH
              refine wpList_view ?_; show wpList _ _ _ [_] ⟨#[_, _, _, _, _, _, _, _, _, _, _, _, _, _, _, _, _, _, _, _, _, _, _, _, _, _, _, _, _, _, _, _, _, _, _, _, _, _, _, _, _, _, _, _, _, _, _, _, _, _, _, _, _, _, _, _, _, _, _, _, _, _, _, _, _, _, _, _, _, _, _, _, _, _, _, _, _, _, _, _, _, _, _, _, _, _, _, _, _, _, _, _, _, _, _, _, _, _, _, _, _, _, _, _, _, _, _, _, _, _, _, _, _, _, _, _, _, _, _, _, _, _, _, _, _, _], _⟩ _
              repeat (first | go_guarded | go_step)
              exact hQ _ _ hI (Grow.refl _) rfl rfl
            refine obls2_cons (fun b hb1 hb2 f w' hI hH Q hQ => ?_) ?_
            · skip
              obtain rfl : b = 0 := by omega
              clear hb1 hb2
              clear hH
              refine wpList_view ?_; show wpList _ _ _ [_] ⟨#[_, _, _, _, _, _, _, _, _, _, _, _, _, _, _, _, _, _, _, _, _, _, _, _, _, _, _, _, _, _, _, _, _, _, _, _, _, _, _, _, _, _, _, _, _, _, _, _, _, _, _, _, _, _, _, _, _, _, _, _, _, _, _, _, _, _, _, _, _, _, _, _, _, _, _, _, _, _, _, _, _, _, _, _, _, _, _, _, _, _, _, _, _, _, _, _, _, _, _, _, _, _, _, _, _, _, _, _, _, _, _, _, _, _, _, _, _, _, _, _, _, _, _, _, _, _], _⟩ _
              repeat (first | go_guarded | go_step)
              exact hQ _ _ hI (Grow.refl _) rfl rfl
            refine obls2_cons (fun b hb1 hb2 f w' hI hH Q hQ => ?_) ?_
            · skip
              obtain rfl : b = 0 := by omega
              clear hb1 hb2
              have h1 := hH.get 0 (26, 1) rfl
              have h2 := hH.get 1 (27, 2) rfl
              clear hH
              refine wpList_view ?_; show wpList _ _ _ [_] ⟨#[_, _, _, _, _, _, _, _, _, _, _, _, _, _, _, _, _, _, _, _, _, _, _, _, _, _, f 1, f 2, _, _, _, _, _, _, _, _, _, _, _, _, _, _, _, _, _, _, _, _, _, _, _, _, _, _, _, _, _, _, _, _, _, _, _, _, _, _, _, _, _, _, _, _, _, _, _, _, _, _, _, _, _, _, _, _, _, _, _, _, _, _, _, _, _, _, _, _, _, _, _, _, _, _, _, _, _, _, _, _, _, _, _, _, _, _, _, _, _, _, _, _, _, _, _, _, _, _], _⟩ _
              rw [show f 1 = _ from h1]
              rw [show f 2 = _ from h2]
              clear h1 h2
              repeat (first | go_guarded | go_step)
              exact hQ _ _ hI (Grow.refl _) rfl rfl
            refine obls2_cons (fun b hb1 hb2 f w' hI hH Q hQ => ?_) ?_
            · skip
              obtain rfl : b = 0 := by omega
              clear hb1 hb2
              have h3 := hH.get 0 (28, 3) rfl
              clear hH
              refine wpList_view ?_; show wpList _ _ _ [_] ⟨#[_, _, _, _, _, _, _, _, _, _, _, _, _, _, _, _, _, _, _, _, _, _, _, _, _, _, _, _, f 3, _, _, _, _, _, _, _, _, _, _, _, _, _, _, _, _, _, _, _, _, _, _, _, _, _, _, _, _, _, _, _, _, _, _, _, _, _, _, _, _, _, _, _, _, _, _, _, _, _, _, _, _, _, _, _, _, _, _, _, _, _, _, _, _, _, _, _, _, _, _, _, _, _, _, _, _, _, _, _, _, _, _, _, _, _, _, _, _, _, _, _, _, _, _, _, _, _], _⟩ _
              rw [show f 3 = _ from h3]
              clear h3
              repeat (first | go_guarded | go_step)
              exact hQ _ _ hI (Grow.refl _) rfl rfl
            refine obls2_cons (fun b hb1 hb2 f w' hI hH Q hQ => ?_) ?_
            · skip
              obtain rfl : b = 0 := by omega
              clear hb1 hb2
              have h4 := hH.get 0 (29, 4) rfl
              clear hH
              refine wpList_view ?_; show wpList _ _ _ [_] ⟨#[_, _, _, _, _, _, _, _, _, _, _, _, _, _, _, _, _, _, _, _, _, _, _, _, _, _, _, _, _, f 4, _, _, _, _, _, _, _, _, _, _, _, _, _, _, _, _, _, _, _, _, _, _, _, _, _, _, _, _, _, _, _, _, _, _, _, _, _, _, _, _, _, _, _, _, _, _, _, _, _, _, _, _, _, _, _, _, _, _, _, _, _, _, _, _, _, _, _, _, _, _, _, _, _, _, _, _, _, _, _, _, _, _, _, _, _, _, _, _, _, _, _, _, _, _, _, _], _⟩ _
              rw [show f 4 = _ from h4]
              clear h4
              have z1 := (show Grow wa w' from hI.get0).cell HD1.out
              repeat (first | go_guarded | go_step)
              exact hQ _ _ hI (Grow.refl _) rfl rfl
            refine obls2_cons (fun b hb1 hb2 f w' hI hH Q hQ => ?_) ?_
            · skip
              obtain rfl : b = 0 := by omega
              clear hb1 hb2
              clear hH
              refine wpList_view ?_; show wpList _ _ _ [_] ⟨#[_, _, _, _, _, _, _, _, _, _, _, _, _, _, _, _, _, _, _, _, _, _, _, _, _, _, _, _, _, _, _, _, _, _, _, _, _, _, _, _, _, _, _, _, _, _, _, _, _, _, _, _, _, _, _, _, _, _, _, _, _, _, _, _, _, _, _, _, _, _, _, _, _, _, _, _, _, _, _, _, _, _, _, _, _, _, _, _, _, _, _, _, _, _, _, _, _, _, _, _, _, _, _, _, _, _, _, _, _, _, _, _, _, _, _, _, _, _, _, _, _, _, _, _, _, _], _⟩ _
              repeat (first | go_guarded | go_step)
              exact hQ _ _ hI (Grow.refl _) rfl rfl
            refine obls2_cons (fun b hb1 hb2 f w' hI hH Q hQ => ?_) ?_
            · skip
              obtain rfl : b = 0 := by omega
              clear hb1 hb2
              clear hH
              refine wpList_view ?_; show wpList _ _ _ [_] ⟨#[_, _, _, _, _, _, _, _, _, _, _, _, _, _, _, _, _, _, _, _, _, _, _, _, _, _, _, _, _, _, _, _, _, _, _, _, _, _, _, _, _, _, _, _, _, _, _, _, _, _, _, _, _, _, _, _, _, _, _, _, _, _, _, _, _, _, _, _, _, _, _, _, _, _, _, _, _, _, _, _, _, _, _, _, _, _, _, _, _, _, _, _, _, _, _, _, _, _, _, _, _, _, _, _, _, _, _, _, _, _, _, _, _, _, _, _, _, _, _, _, _, _, _, _, _, _], _⟩ _
              repeat (first | go_guarded | go_step)
              exact hQ _ _ hI (Grow.refl _) rfl rfl
            refine obls2_cons (fun b hb1 hb2 f w' hI hH Q hQ => ?_) ?_
            · skip
              obtain rfl : b = 0 := by omega
              clear hb1 hb2
              have h6 := hH.get 0 (31, 6) rfl
              have h7 := hH.get 1 (32, 7) rfl
              clear hH
              refine wpList_view ?_; show wpList _ _ _ [_] ⟨#[_, _, _, _, _, _, _, _, _, _, _, _, _, _, _, _, _, _, _, _, _, _, _, _, _, _, _, _, _, _, _, f 6, f 7, _, _, _, _, _, _, _, _, _, _, _, _, _, _, _, _, _, _, _, _, _, _, _, _, _, _, _, _, _, _, _, _, _, _, _, _, _, _, _, _, _, _, _, _, _, _, _, _, _, _, _, _, _, _, _, _, _, _, _, _, _, _, _, _, _, _, _, _, _, _, _, _, _, _, _, _, _, _, _, _, _, _, _, _, _, _, _, _, _, _, _, _, _], _⟩ _
              rw [show f 6 = _ from h6]
              rw [show f 7 = _ from h7]
              clear h6 h7
              repeat (first | go_guarded | go_step)
              exact hQ _ _ hI (Grow.refl _) rfl rfl
            refine obls2_cons (fun b hb1 hb2 f w' hI hH Q hQ => ?_) ?_
            · skip
              obtain rfl : b = 0 := by omega
              clear hb1 hb2
              have h8 := hH.get 0 (33, 8) rfl
              clear hH
              refine wpList_view ?_; show wpList _ _ _ [_] ⟨#[_, _, _, _, _, _, _, _, _, _, _, _, _, _, _, _, _, _, _, _, _, _, _, _, _, _, _, _, _, _, _, _, _, f 8, _, _, _, _, _, _, _, _, _, _, _, _, _, _, _, _, _, _, _, _, _, _, _, _, _, _, _, _, _, _, _, _, _, _, _, _, _, _, _, _, _, _, _, _, _, _, _, _, _, _, _, _, _, _, _, _, _, _, _, _, _, _, _, _, _, _, _, _, _, _, _, _, _, _, _, _, _, _, _, _, _, _, _, _, _, _, _, _, _, _, _, _], _⟩ _
              rw [show f 8 = _ from h8]
              clear h8
              repeat (first | go_guarded | go_step)
              exact hQ _ _ hI (Grow.refl _) rfl rfl
            refine obls2_cons (fun b hb1 hb2 f w' hI hH Q hQ => ?_) ?_
            · skip
              obtain rfl : b = 0 := by omega
              clear hb1 hb2
              have h9 := hH.get 0 (34, 9) rfl
              clear hH
              refine wpList_view ?_; show wpList _ _ _ [_] ⟨#[_, _, _, _, _, _, _, _, _, _, _, _, _, _, _, _, _, _, _, _, _, _, _, _, _, _, _, _, _, _, _, _, _, _, f 9, _, _, _, _, _, _, _, _, _, _, _, _, _, _, _, _, _, _, _, _, _, _, _, _, _, _, _, _, _, _, _, _, _, _, _, _, _, _, _, _, _, _, _, _, _, _, _, _, _, _, _, _, _, _, _, _, _, _, _, _, _, _, _, _, _, _, _, _, _, _, _, _, _, _, _, _, _, _, _, _, _, _, _, _, _, _, _, _, _, _, _], _⟩ _
              rw [show f 9 = _ from h9]
              clear h9
              have hG := Lib.hid (show Grow wa w' from hI.get0)
              have hcc : ∀ j u, cs[j]? = some u → w'.cell? ⟨b, off + k * 66 + 2 + j, none⟩ = some u := fun j u hu => hG.out.cell (HCC.out j u hu)
              have HC2 := Lib.hid hcc
              clear hI hcc
              refine load_cells rfl _ _ rfl b (off + k * 66 + 2) rfl cs _ HC2.out undV rfl (by rw [sizeV, HIO.out.1]) ?_
              exact hQ _ _ (Go.Kit.two.zero hG.out) (Grow.refl _) rfl rfl
            refine oblsP_cons (fun f w' hI hH Q hQ => ?_) ?_
            · skip
              have h0 := hH.get 0 (25, 0) rfl
              have h5 := hH.get 1 (30, 5) rfl
              have h10 := hH.get 2 (35, 10) rfl
              clear hH
              refine wpList_merge (idx := [none, none, none, none, none, none, none, none, none, none, none, none, none, none, none, none, none, none, none, none, none, none, none, none, none, some 0, none, none, none, none, some 5, none, none, none, none, some 10, none, none, none, none, none, none, none, none, none, none, none, none, none, none, none, none, none, none, none, none, none, none, none, none, none, none, none, none, none, none, none, none, none, none, none, none, none, none, none, none, none, none, none, none, none, none, none, none, none, none, none, none, none, none, none, none, none, none, none, none, none, none, none, none, none, none, none, none, none, none, none, none, none, none, none, none, none, none, none, none, none, none, none, none, none, none, none, none, none, none]) (by kernel_rfl) ?_; show wpList _ _ _ [_] ⟨#[_, _, _, _, _, _, _, _, _, _, _, _, _, _, _, _, _, _, _, _, _, _, _, _, _, f 0, _, _, _, _, f 5, _, _, _, _, f 10, _, _, _, _, _, _, _, _, _, _, _, _, _, _, _, _, _, _, _, _, _, _, _, _, _, _, _, _, _, _, _, _, _, _, _, _, _, _, _, _, _, _, _, _, _, _, _, _, _, _, _, _, _, _, _, _, _, _, _, _, _, _, _, _, _, _, _, _, _, _, _, _, _, _, _, _, _, _, _, _, _, _, _, _, _, _, _, _, _, _], _⟩ _
              rw [show f 0 = _ from h0]
              rw [show f 5 = _ from h5]
              rw [show f 10 = _ from h10]
              clear h0 h5 h10
              have hG := Lib.hid (show Grow wa w' from hI.get0)
              clear hI
              go_wp2_with (refine (HST.out _ hG.out).mono ?_; rintro r w2 ⟨rfl, ht2, hk2⟩)
              exact hQ _ _ (Go.Kit.two.one ⟨ht2, hk2.grow (HG.out.trans hG.out) rfl⟩) trivial rfl rfl
            refine obls2_cons (fun b hb1 hb2 f w' hI hH Q hQ => ?_) ?_
            · skip
              obtain rfl : b = 1 := by omega
              clear hb1 hb2
              have h11 := hH.get 0 (36, 11) rfl
              clear hH
              refine wpList_view ?_; show wpList _ _ _ [_] ⟨#[_, _, _, _, _, _, _, _, _, _, _, _, _, _, _, _, _, _, _, _, _, _, _, _, _, _, _, _, _, _, _, _, _, _, _, _, f 11, _, _, _, _, _, _, _, _, _, _, _, _, _, _, _, _, _, _, _, _, _, _, _, _, _, _, _, _, _, _, _, _, _, _, _, _, _, _, _, _, _, _, _, _, _, _, _, _, _, _, _, _, _, _, _, _, _, _, _, _, _, _, _, _, _, _, _, _, _, _, _, _, _, _, _, _, _, _, _, _, _, _, _, _, _, _, _, _, _], _⟩ _
              rw [show f 11 = _ from h11]
              clear h11
              repeat (first | go_guarded | go_step)
              exact hQ _ _ hI (Grow.refl _) rfl rfl
            exact obls2_nil
          case draw =>
            exact Go.Kit.two.zero (Grow.drew _)
          case mono => exact ⟨Mono2.veq _, Mono2.veq _, Mono2.veq _, Mono2.veq _, Mono2.veq _, Mono2.veq _, Mono2.veq _, Mono2.veq _, Mono2.veq _, Mono2.veq _, Mono2.veq _, Mono2.veq _, Mono2.veq _, trivial⟩
          case tail =>
            intro f w' hI hH
            have q12 := hH.get 12 (37, 12) rfl
            clear hH
            refine wpList_merge (idx := [none, none, none, none, none, none, none, none, none, none, none, none, none, none, none, none, none, none, none, none, none, none, none, none, none, some 0, some 1, some 2, some 3, some 4, some 5, some 6, some 7, some 8, some 9, some 10, some 11, some 12, none, none, none, none, none, none, none, none, none, none, none, none, none, none, none, none, none, none, none, none, none, none, none, none, none, none, none, none, none, none, none, none, none, none, none, none, none, none, none, none, none, none, none, none, none, none, none, none, none, none, none, none, none, none, none, none, none, none, none, none, none, none, none, none, none, none, none, none, none, none, none, none, none, none, none, none, none, none, none, none, none, none, none, none, none, none, none, none]) (by kernel_rfl) ?_; show wpList _ _ _ [] ⟨#[_, _, _, _, _, _, _, _, _, _, _, _, _, _, _, _, _, _, _, _, _, _, _, _, _, f 0, f 1, f 2, f 3, f 4, f 5, f 6, f 7, f 8, f 9, f 10, f 11, f 12, _, _, _, _, _, _, _, _, _, _, _, _, _, _, _, _, _, _, _, _, _, _, _, _, _, _, _, _, _, _, _, _, _, _, _, _, _, _, _, _, _, _, _, _, _, _, _, _, _, _, _, _, _, _, _, _, _, _, _, _, _, _, _, _, _, _, _, _, _, _, _, _, _, _, _, _, _, _, _, _, _, _, _, _, _, _, _, _], _⟩ _
            rw [show f 12 = _ from q12]
            clear q12
            have HM := Lib.hid hI.get1
            clear hI
            have hgg := HGT.out w' _ _ HM.out.1
            rw [HGS.out, HHS.out, ← HNM.out] at hgg
            have HGG := Lib.hid hgg
            obtain ⟨b2, off2, a2, hab, hx2, -, hc2⟩ := (HA.out.grow HM.out.2).at_ hlt
            injection hab with hab
            injection hab with hab1 hab2
            subst hab1 hab2
            rw [HX.out] at hx2
            injection hx2 with hx2
            subst hx2
            have d2 := hc2 1 _ rfl
            rw [← HNM.out] at d2
            clear hc2 hgg HST HGT HCC
            go_wp2_with fail
            refine HGG.out.mono ?_
            rintro r w3 ⟨rfl, hg3⟩
            have HT3 := Lib.hid (HM.out.1.grow hg3)
            have HG3 := Lib.hid (HM.out.2.trans hg3)
            clear hg3 d2 HGG HGS HHS HM
            go_wp2_with (refine store_blk rfl _ _ _ rfl w3.heap.size cs rfl rfl TV _ (Blk.new _ _ _ _ rfl rfl) (by rw [sizeV, HIO.out.1]) HIO.out.1.symm HIO.out.2 ?_)
            refine wp_named ?_
            intro W5 hW5
            have hg5 : Grow w3 W5 := by rw [hW5]; exact Grow.setRow (Grow.alloc _ _) (Nat.le_refl _) _
            have hb5 : Blk W5 w3.heap.size TV cs := by rw [hW5]; exact (Blk.new _ _ _ _ rfl rfl).setRow _
            have HT5 := Lib.hid (HT3.out.grow hg5)
            have HG5 := Lib.hid (HG3.out.trans hg5)
            have HB5 := Lib.hid hb5
            obtain ⟨b2, off2, a2, hab, hx2, -, hc2⟩ := (HA.out.grow HG5.out).at_ hlt
            injection hab with hab
            injection hab with hab1 hab2
            subst hab1 hab2
            rw [HX.out] at hx2
            injection hx2 with hx2
            subst hx2
            have HCC5 : Hid (∀ j u, cs[j]? = some u → W5.cell? ⟨b, off + k * 66 + 2 + j, none⟩ = some u) := Lib.hid fun j u hu => by
              rw [Nat.add_assoc (off + k * 66), Nat.add_comm 2 j]
              exact hc2 (j + 2) u (by rw [HCS.out] at hu; exact hu)
            clear hc2 hW5 hg5 hb5
            apply (fun (v0 v1 v2 v3 v4 v5 v6 v7 v8 v9 v10 : Value) mono obl tail => wp_region_par (R := Grow) (Φ := phi [veq v0, veq v1, veq v2, veq v3, veq v4, veq v5, veq v6, veq v7, veq v8, veq v9, veq v10]) (m := 11) (dls := [[], [(48, 0)], [(49, 1)], [(50, 2)], [(50, 2)], [(50, 2)], [(52, 4), (53, 5), (50, 2)], [(54, 6), (50, 2)], [(55, 7), (50, 2)], [(51, 3), (56, 8), (50, 2)], [(50, 2), (57, 9)]]) (ds := [48, 49, 50, 51, 52, 53, 54, 55, 56, 57, 58]) (by kernel_rfl) (by kernel_rfl) (by decide) rfl (Grow.drew _) (fun _ _ _ => Grow.trans) (mono_phi mono) obl tail)
            case obl =>
              refine obls_frame (fun a1 ha => ?_)
              have hsz := rd_size (n := 126) ha rfl
              have e8 := rd_slot 8 ha rfl
              have e7 := rd_slot 7 ha rfl
              have e0 := rd_slot 0 ha rfl
              have e6 := rd_slot 6 ha rfl
              clear ha
              refine obls_cons (fun f w' hR hH Q0 hQ0 => ?_) ?_
              · skip
                have s8 := sv_off f [] e8 rfl
                refine small_v hsz [(8, _)] ⟨some 1, (Op.move (.tmp 0)), 4, "", #[], none⟩ [_, undef] 1 rfl rfl ⟨s8, trivial⟩ rfl rfl hQ0 ?_
                clear hQ0 hH s8
                intro Q hQ
                repeat go_step
                exact hQ _ _ (Grow.refl _) rfl rfl
              refine obls_cons (fun f w' hR hH Q0 hQ0 => ?_) ?_
              · skip
                have s48 := (sv_at 48 0 hsz f [(48, 0)] rfl).trans (show f 0 = _ from hH.get 0 (48, 0) rfl)
                refine small_v hsz [(48, _)] ⟨some 1, (Op.unOp UnOp.not 4 (.tmp 0)), 4, "", #[], none⟩ [_, undef] 1 rfl rfl ⟨s48, trivial⟩ rfl rfl hQ0 ?_
                clear hQ0 hH s48
                intro Q hQ
                repeat go_step
                exact hQ _ _ (Grow.refl _) rfl rfl
              refine obls_cons (fun f w' hR hH Q0 hQ0 => ?_) ?_
              · skip
                have s49 := (sv_at 49 1 hsz f [(49, 1)] rfl).trans (show f 1 = _ from hH.get 0 (49, 1) rfl)
                refine small_v hsz [(49, _)] ⟨some 1, (Op.move (.tmp 0)), 4, "", #[], none⟩ [_, undef] 1 rfl rfl ⟨s49, trivial⟩ rfl rfl hQ0 ?_
                clear hQ0 hH s49
                intro Q hQ
                repeat go_step
                exact hQ _ _ (Grow.refl _) rfl rfl
              refine obls_cons (fun f w' hR hH Q0 hQ0 => ?_) ?_
              · skip
                have s7 := sv_off f [(50, 2)] e7 rfl
                have s50 := (sv_at 50 2 hsz f [(50, 2)] rfl).trans (show f 2 = _ from hH.get 0 (50, 2) rfl)
                first
                  | exact skip_v hsz rfl ((wanted_some (b := true) rfl rfl s50).trans rfl) hQ0 (Grow.refl _) rfl
                  | exact skip_v hsz rfl (wanted_undef rfl rfl s50) hQ0 (Grow.refl _) rfl
                  | refine small_v hsz [(7, _)] ⟨some 1, (Op.load 37 (.tmp 0)), 37, "", #[], none⟩ [_, undef] 1 rfl ((wanted_some (b := false) rfl rfl s50).trans rfl) ⟨s7, trivial⟩ rfl rfl hQ0 ?_
                    clear hQ0 hH s7 s50
                    intro Q hQ
                    have hb := HB5.out.grow hR
                    refine load_blk rfl _ _ rfl w3.heap.size rfl _ _ _ hb undV rfl (by rw [sizeV, HIO.out.1]) ?_
                    exact hQ _ _ (Grow.refl _) rfl rfl
              refine obls_cons (fun f w' hR hH Q0 hQ0 => ?_) ?_
              · skip
                have s0 := sv_off f [(50, 2)] e0 rfl
                have s50 := (sv_at 50 2 hsz f [(50, 2)] rfl).trans (show f 2 = _ from hH.get 0 (50, 2) rfl)
                first
                  | exact skip_v hsz rfl ((wanted_some (b := true) rfl rfl s50).trans rfl) hQ0 (Grow.refl _) rfl
                  | exact skip_v hsz rfl (wanted_undef rfl rfl s50) hQ0 (Grow.refl _) rfl
                  | refine small_v hsz [(0, _)] ⟨some 1, (Op.move (.tmp 0)), 34, "", #[], none⟩ [_, undef] 1 rfl ((wanted_some (b := false) rfl rfl s50).trans rfl) ⟨s0, trivial⟩ rfl rfl hQ0 ?_
                    clear hQ0 hH s0 s50
                    intro Q hQ
                    repeat go_step
                    exact hQ _ _ (Grow.refl _) rfl rfl
              refine obls_cons (fun f w' hR hH Q0 hQ0 => ?_) ?_
              · skip
                have s6 := sv_off f [(50, 2)] e6 rfl
                have s50 := (sv_at 50 2 hsz f [(50, 2)] rfl).trans (show f 2 = _ from hH.get 0 (50, 2) rfl)
                first
                  | exact skip_v hsz rfl ((wanted_some (b := true) rfl rfl s50).trans rfl) hQ0 (Grow.refl _) rfl
                  | exact skip_v hsz rfl (wanted_undef rfl rfl s50) hQ0 (Grow.refl _) rfl
                  | refine small_v hsz [(6, _)] ⟨some 1, (Op.move (.tmp 0)), 3, "", #[], none⟩ [_, undef] 1 rfl ((wanted_some (b := false) rfl rfl s50).trans rfl) ⟨s6, trivial⟩ rfl rfl hQ0 ?_
                    clear hQ0 hH s6 s50
                    intro Q hQ
                    repeat go_step
                    exact hQ _ _ (Grow.refl _) rfl rfl
              refine obls_cons (fun f w' hR hH Q0 hQ0 => ?_) ?_
              · skip
                have s52 := (sv_at 52 4 hsz f [(52, 4), (53, 5), (50, 2)] rfl).trans (show f 4 = _ from hH.get 0 (52, 4) rfl)
                have s53 := (sv_at 53 5 hsz f [(52, 4), (53, 5), (50, 2)] rfl).trans (show f 5 = _ from hH.get 1 (53, 5) rfl)
                have s50 := (sv_at 50 2 hsz f [(52, 4), (53, 5), (50, 2)] rfl).trans (show f 2 = _ from hH.get 2 (50, 2) rfl)
                first
                  | exact skip_v hsz rfl ((wanted_some (b := true) rfl rfl s50).trans rfl) hQ0 (Grow.refl _) rfl
                  | exact skip_v hsz rfl (wanted_undef rfl rfl s50) hQ0 (Grow.refl _) rfl
                  | refine small_v hsz [(52, _), (53, _)] ⟨some 2, (Op.indexAddr 34 (.tmp 0) (.tmp 1)), 0, "", #[], none⟩ [_, _, undef] 2 rfl ((wanted_some (b := false) rfl rfl s50).trans rfl) ⟨s52, s53, trivial⟩ rfl rfl hQ0 ?_
                    clear hQ0 hH s52 s53 s50
                    intro Q hQ
                    repeat go_step
                    exact hQ _ _ (Grow.refl _) rfl rfl
              refine obls_cons (fun f w' hR hH Q0 hQ0 => ?_) ?_
              · skip
                have s54 := (sv_at 54 6 hsz f [(54, 6), (50, 2)] rfl).trans (show f 6 = _ from hH.get 0 (54, 6) rfl)
                have s50 := (sv_at 50 2 hsz f [(54, 6), (50, 2)] rfl).trans (show f 2 = _ from hH.get 1 (50, 2) rfl)
                first
                  | exact skip_v hsz rfl ((wanted_some (b := true) rfl rfl s50).trans rfl) hQ0 (Grow.refl _) rfl
                  | exact skip_v hsz rfl (wanted_undef rfl rfl s50) hQ0 (Grow.refl _) rfl
                  | refine small_v hsz [(54, _)] ⟨some 1, (Op.fieldAddr 41 (.tmp 0) 2), 0, "", #[], none⟩ [_, undef] 1 rfl ((wanted_some (b := false) rfl rfl s50).trans rfl) ⟨s54, trivial⟩ rfl rfl hQ0 ?_
                    clear hQ0 hH s54 s50
                    intro Q hQ
                    repeat go_step
                    exact hQ _ _ (Grow.refl _) rfl rfl
              refine obls_cons (fun f w' hR hH Q0 hQ0 => ?_) ?_
              · skip
                have s55 := (sv_at 55 7 hsz f [(55, 7), (50, 2)] rfl).trans (show f 7 = _ from hH.get 0 (55, 7) rfl)
                have s50 := (sv_at 50 2 hsz f [(55, 7), (50, 2)] rfl).trans (show f 2 = _ from hH.get 1 (50, 2) rfl)
                first
                  | exact skip_v hsz rfl ((wanted_some (b := true) rfl rfl s50).trans rfl) hQ0 (Grow.refl _) rfl
                  | exact skip_v hsz rfl (wanted_undef rfl rfl s50) hQ0 (Grow.refl _) rfl
                  | refine small_v hsz [(55, _)] ⟨some 1, (Op.load 37 (.tmp 0)), 37, "", #[], none⟩ [_, undef] 1 rfl ((wanted_some (b := false) rfl rfl s50).trans rfl) ⟨s55, trivial⟩ rfl rfl hQ0 ?_
                    clear hQ0 hH s55 s50
                    intro Q hQ
                    have HC2 : Hid (∀ j u, cs[j]? = some u → w'.cell? ⟨b, off + k * 66 + 2 + j, none⟩ = some u) := Lib.hid fun j u hu => hR.cell (HCC5.out j u hu)
                    refine load_cells rfl _ _ rfl b (off + k * 66 + 2) rfl cs _ HC2.out undV rfl (by rw [sizeV, HIO.out.1]) ?_
                    exact hQ _ _ (Grow.refl _) rfl rfl
              refine obls_cons (fun f w' hR hH Q0 hQ0 => ?_) ?_
              · skip
                have s51 := (sv_at 51 3 hsz f [(51, 3), (56, 8), (50, 2)] rfl).trans (show f 3 = _ from hH.get 0 (51, 3) rfl)
                have s56 := (sv_at 56 8 hsz f [(51, 3), (56, 8), (50, 2)] rfl).trans (show f 8 = _ from hH.get 1 (56, 8) rfl)
                have s50 := (sv_at 50 2 hsz f [(51, 3), (56, 8), (50, 2)] rfl).trans (show f 2 = _ from hH.get 2 (50, 2) rfl)
                first
                  | exact skip_v hsz rfl ((wanted_some (b := true) rfl rfl s50).trans rfl) hQ0 (Grow.refl _) rfl
                  | exact skip_v hsz rfl (wanted_undef rfl rfl s50) hQ0 (Grow.refl _) rfl
                  | refine small_v hsz [(51, _), (56, _)] ⟨some 2, (Op.binOp BinOp.neq 37 (.tmp 0) (.tmp 1) 37), 4, "", #[], none⟩ [_, _, undef] 2 rfl ((wanted_some (b := false) rfl rfl s50).trans rfl) ⟨s51, s56, trivial⟩ rfl rfl hQ0 ?_
                    clear hQ0 hH s51 s56 s50
                    intro Q hQ
                    repeat go_step
                    exact hQ _ _ (Grow.refl _) rfl rfl
              refine obls_cons (fun f w' hR hH Q0 hQ0 => ?_) ?_
              · skip
                have s50 := (sv_at 50 2 hsz f [(50, 2), (57, 9)] rfl).trans (show f 2 = _ from hH.get 0 (50, 2) rfl)
                have s57 := (sv_at 57 9 hsz f [(50, 2), (57, 9)] rfl).trans (show f 9 = _ from hH.get 1 (57, 9) rfl)
                refine small_v hsz [(50, _), (57, _)] ⟨some 2, (Op.pick (.tmp 0) (Operand.const (Value.bool true)) (.tmp 1)), 4, "", #[], none⟩ [_, _, undef] 2 rfl rfl ⟨s50, s57, trivial⟩ rfl rfl hQ0 ?_
                clear hQ0 hH s50 s57
                intro Q hQ
                repeat go_step
                exact hQ _ _ (Grow.refl _) rfl rfl
              exact obls_nil
            case mono => exact ⟨Mono.veq _, Mono.veq _, Mono.veq _, Mono.veq _, Mono.veq _, Mono.veq _, Mono.veq _, Mono.veq _, Mono.veq _, Mono.veq _, Mono.veq _, trivial⟩
            case tail =>
              intro f w' hR hH
              have q10 := hH.get 10 (58, 10) rfl
              clear hH
              refine wpList_merge (idx := [none, none, none, none, none, none, none, none, none, none, none, none, none, none, none, none, none, none, none, none, none, none, none, none, none, none, none, none, none, none, none, none, none, none, none, none, none, none, none, none, none, none, none, none, none, none, none, none, some 0, some 1, some 2, some 3, some 4, some 5, some 6, some 7, some 8, some 9, some 10, none, none, none, none, none, none, none, none, none, none, none, none, none, none, none, none, none, none, none, none, none, none, none, none, none, none, none, none, none, none, none, none, none, none, none, none, none, none, none, none, none, none, none, none, none, none, none, none, none, none, none, none, none, none, none, none, none, none, none, none, none, none, none, none, none, none, none]) (by kernel_rfl) ?_; show wpList _ _ _ [] ⟨#[_, _, _, _, _, _, _, _, _, _, _, _, _, _, _, _, _, _, _, _, _, _, _, _, _, _, _, _, _, _, _, _, _, _, _, _, _, _, _, _, _, _, _, _, _, _, _, _, f 0, f 1, f 2, f 3, f 4, f 5, f 6, f 7, f 8, f 9, f 10, _, _, _, _, _, _, _, _, _, _, _, _, _, _, _, _, _, _, _, _, _, _, _, _, _, _, _, _, _, _, _, _, _, _, _, _, _, _, _, _, _, _, _, _, _, _, _, _, _, _, _, _, _, _, _, _, _, _, _, _, _, _, _, _, _, _, _], _⟩ _
              rw [show f 10 = _ from q10]
              clear q10
              have HR := Lib.hid hR
              clear hR
              go_wp2_with fail
              go_roundw
              case rel => exact ⟨k + 1, by omega, by go_num, ⟨_, Lib.hid ((HT5.out.grow HR.out).mono (by omega))⟩, Lib.hid (HG5.out.trans HR.out)⟩
              case measure => simp [intOf] <;> omega
        · have s3 : ((e : Int) == 0) = false := beq_false_of_ne (by omega)
          have s4 : (e == 0) = false := beq_false_of_ne he
          have HE := Lib.hid he
          clear he heq HGS HHS HGT
          go_wp2_with fail
          apply (fun (v0 v1 v2 v3 v4 v5 v6 v7 v8 v9 v10 v11 v12 : Value) mono draw obl tail => wp_region_piv (I := Go.Kit.two (Grow wa) (fun w2 => TagI w2 W0.heap.size g bs bn (7 * k + 7) L ∧ Grow W0 w2)) (G := Grow) (Rp := (fun _ _ _ => True)) (Φ := phi2 [veq2 v0, veq2 v1, veq2 v2, veq2 v3, veq2 v4, veq2 v5, veq2 v6, veq2 v7, veq2 v8, veq2 v9, veq2 v10, veq2 v11, veq2 v12]) (m := 13) (ps := [11]) (qs := [(0, 0, false), (0, 0, false), (0, 0, false), (0, 0, false), (0, 0, false), (0, 0, false), (0, 0, false), (0, 0, false), (0, 0, false), (0, 0, false), (0, 0, false), (0, 0, true), (1, 1, false)]) (dls := [[], [], [], [(26, 1), (27, 2)], [(28, 3)], [(29, 4)], [], [], [(31, 6), (32, 7)], [(33, 8)], [(34, 9)], [(25, 0), (30, 5), (35, 10)], [(36, 11)]]) (ds := [25, 26, 27, 28, 29, 30, 31, 32, 33, 34, 35, 36, 37]) (by kernel_rfl) (by kernel_rfl) (by kernel_rfl) (by decide) rfl rfl draw (mono2_phi mono) (piv2_phi mono) obl tail)
          case obl =>
            refine obls2_cons (fun b hb1 hb2 f w' hI hH Q hQ => ?_) ?_
            · skip
              obtain rfl : b = 0 := by omega
              clear hb1 hb2
              clear hH
              refine wpList_view ?_; show wpList _ _ _ [_] ⟨#[_, _, _, _, _, _, _, _, _, _, _, _, _, _, _, _, _, _, _, _, _, _, _, _, _, _, _, _, _, _, _, _, _, _, _, _, _, _, _, _, _, _, _, _, _, _, _, _, _, _, _, _, _, _, _, _, _, _, _, _, _, _, _, _, _, _, _, _, _, _, _, _, _, _, _, _, _, _, _, _, _, _, _, _, _, _, _, _, _, _, _, _, _, _, _, _, _, _, _, _, _, _, _, _, _, _, _, _, _, _, _, _, _, _, _, _, _, _, _, _, _, _, _, _, _, _], _⟩ _
              repeat (first | go_guarded | go_step)
              exact hQ _ _ hI (Grow.refl _) rfl rfl
            refine obls2_cons (fun b hb1 hb2 f w' hI hH Q hQ => ?_) ?_
            · skip
              obtain rfl : b = 0 := by omega
              clear hb1 hb2
              clear hH
              refine wpList_view ?_; show wpList _ _ _ [_] ⟨#[_, _, _, _, _, _, _, _, _, _, _, _, _, _, _, _, _, _, _, _, _, _, _, _, _, _, _, _, _, _, _, _, _, _, _, _, _, _, _, _, _, _, _, _, _, _, _, _, _, _, _, _, _, _, _, _, _, _, _, _, _, _, _, _, _, _, _, _, _, _, _, _, _, _, _, _, _, _, _, _, _, _, _, _, _, _, _, _, _, _, _, _, _, _, _, _, _, _, _, _, _, _, _, _, _, _, _, _, _, _, _, _, _, _, _, _, _, _, _, _, _, _, _, _, _, _], _⟩ _
              repeat (first | go_guarded | go_step)
              exact hQ _ _ hI (Grow.refl _) rfl rfl
            refine obls2_cons (fun b hb1 hb2 f w' hI hH Q hQ => ?_) ?_
            · skip
              obtain rfl : b = 0 := by omega
              clear hb1 hb2
              clear hH
              refine wpList_view ?_; show wpList _ _ _ [_] ⟨#[_, _, _, _, _, _, _, _, _, _, _, _, _, _, _, _, _, _, _, _, _, _, _, _, _, _, _, _, _, _, _, _, _, _, _, _, _, _, _, _, _, _, _, _, _, _, _, _, _, _, _, _, _, _, _, _, _, _, _, _, _, _, _, _, _, _, _, _, _, _, _, _, _, _, _, _, _, _, _, _, _, _, _, _, _, _, _, _, _, _, _, _, _, _, _, _, _, _, _, _, _, _, _, _, _, _, _, _, _, _, _, _, _, _, _, _, _, _, _, _, _, _, _, _, _, _], _⟩ _
              repeat (first | go_guarded | go_step)
              exact hQ _ _ hI (Grow.refl _) rfl rfl
            refine obls2_cons (fun b hb1 hb2 f w' hI hH Q hQ => ?_) ?_
            · skip
              obtain rfl : b = 0 := by omega
              clear hb1 hb2
              have h1 := hH.get 0 (26, 1) rfl
              have h2 := hH.get 1 (27, 2) rfl
              clear hH
              refine wpList_view ?_; show wpList _ _ _ [_] ⟨#[_, _, _, _, _, _, _, _, _, _, _, _, _, _, _, _, _, _, _, _, _, _, _, _, _, _, f 1, f 2, _, _, _, _, _, _, _, _, _, _, _, _, _, _, _, _, _, _, _, _, _, _, _, _, _, _, _, _, _, _, _, _, _, _, _, _, _, _, _, _, _, _, _, _, _, _, _, _, _, _, _, _, _, _, _, _, _, _, _, _, _, _, _, _, _, _, _, _, _, _, _, _, _, _, _, _, _, _, _, _, _, _, _, _, _, _, _, _, _, _, _, _, _, _, _, _, _, _], _⟩ _
              rw [show f 1 = _ from h1]
              rw [show f 2 = _ from h2]
              clear h1 h2
              repeat (first | go_guarded | go_step)
              exact hQ _ _ hI (Grow.refl _) rfl rfl
            refine obls2_cons (fun b hb1 hb2 f w' hI hH Q hQ => ?_) ?_
            · skip
              obtain rfl : b = 0 := by omega
              clear hb1 hb2
              have h3 := hH.get 0 (28, 3) rfl
              clear hH
              refine wpList_view ?_; show wpList _ _ _ [_] ⟨#[_, _, _, _, _, _, _, _, _, _, _, _, _, _, _, _, _, _, _, _, _, _, _, _, _, _, _, _, f 3, _, _, _, _, _, _, _, _, _, _, _, _, _, _, _, _, _, _, _, _, _, _, _, _, _, _, _, _, _, _, _, _, _, _, _, _, _, _, _, _, _, _, _, _, _, _, _, _, _, _, _, _, _, _, _, _, _, _, _, _, _, _, _, _, _, _, _, _, _, _, _, _, _, _, _, _, _, _, _, _, _, _, _, _, _, _, _, _, _, _, _, _, _, _, _, _, _], _⟩ _
              rw [show f 3 = _ from h3]
              clear h3
              repeat (first | go_guarded | go_step)
              exact hQ _ _ hI (Grow.refl _) rfl rfl
            refine obls2_cons (fun b hb1 hb2 f w' hI hH Q hQ => ?_) ?_
            · skip
              obtain rfl : b = 0 := by omega
              clear hb1 hb2
              have h4 := hH.get 0 (29, 4) rfl
              clear hH
              refine wpList_view ?_; show wpList _ _ _ [_] ⟨#[_, _, _, _, _, _, _, _, _, _, _, _, _, _, _, _, _, _, _, _, _, _, _, _, _, _, _, _, _, f 4, _, _, _, _, _, _, _, _, _, _, _, _, _, _, _, _, _, _, _, _, _, _, _, _, _, _, _, _, _, _, _, _, _, _, _, _, _, _, _, _, _, _, _, _, _, _, _, _, _, _, _, _, _, _, _, _, _, _, _, _, _, _, _, _, _, _, _, _, _, _, _, _, _, _, _, _, _, _, _, _, _, _, _, _, _, _, _, _, _, _, _, _, _, _, _, _], _⟩ _
              rw [show f 4 = _ from h4]
              clear h4
              have z1 := (show Grow wa w' from hI.get0).cell HD1.out
              repeat (first | go_guarded | go_step)
              exact hQ _ _ hI (Grow.refl _) rfl rfl
            refine obls2_cons (fun b hb1 hb2 f w' hI hH Q hQ => ?_) ?_
            · skip
              obtain rfl : b = 0 := by omega
              clear hb1 hb2
              clear hH
              refine wpList_view ?_; show wpList _ _ _ [_] ⟨#[_, _, _, _, _, _, _, _, _, _, _, _, _, _, _, _, _, _, _, _, _, _, _, _, _, _, _, _, _, _, _, _, _, _, _, _, _, _, _, _, _, _, _, _, _, _, _, _, _, _, _, _, _, _, _, _, _, _, _, _, _, _, _, _, _, _, _, _, _, _, _, _, _, _, _, _, _, _, _, _, _, _, _, _, _, _, _, _, _, _, _, _, _, _, _, _, _, _, _, _, _, _, _, _, _, _, _, _, _, _, _, _, _, _, _, _, _, _, _, _, _, _, _, _, _, _], _⟩ _
              repeat (first | go_guarded | go_step)
              exact hQ _ _ hI (Grow.refl _) rfl rfl
            refine obls2_cons (fun b hb1 hb2 f w' hI hH Q hQ => ?_) ?_
            · skip
              obtain rfl : b = 0 := by omega
              clear hb1 hb2
              clear hH
              refine wpList_view ?_; show wpList _ _ _ [_] ⟨#[_, _, _, _, _, _, _, _, _, _, _, _, _, _, _, _, _, _, _, _, _, _, _, _, _, _, _, _, _, _, _, _, _, _, _, _, _, _, _, _, _, _, _, _, _, _, _, _, _, _, _, _, _, _, _, _, _, _, _, _, _, _, _, _, _, _, _, _, _, _, _, _, _, _, _, _, _, _, _, _, _, _, _, _, _, _, _, _, _, _, _, _, _, _, _, _, _, _, _, _, _, _, _, _, _, _, _, _, _, _, _, _, _, _, _, _, _, _, _, _, _, _, _, _, _, _], _⟩ _
              repeat (first | go_guarded | go_step)
              exact hQ _ _ hI (Grow.refl _) rfl rfl
            refine obls2_cons (fun b hb1 hb2 f w' hI hH Q hQ => ?_) ?_
            · skip
              obtain rfl : b = 0 := by omega
              clear hb1 hb2
              have h6 := hH.get 0 (31, 6) rfl
              have h7 := hH.get 1 (32, 7) rfl
              clear hH
              refine wpList_view ?_; show wpList _ _ _ [_] ⟨#[_, _, _, _, _, _, _, _, _, _, _, _, _, _, _, _, _, _, _, _, _, _, _, _, _, _, _, _, _, _, _, f 6, f 7, _, _, _, _, _, _, _, _, _, _, _, _, _, _, _, _, _, _, _, _, _, _, _, _, _, _, _, _, _, _, _, _, _, _, _, _, _, _, _, _, _, _, _, _, _, _, _, _, _, _, _, _, _, _, _, _, _, _, _, _, _, _, _, _, _, _, _, _, _, _, _, _, _, _, _, _, _, _, _, _, _, _, _, _, _, _, _, _, _, _, _, _, _], _⟩ _
              rw [show f 6 = _ from h6]
              rw [show f 7 = _ from h7]
              clear h6 h7
              repeat (first | go_guarded | go_step)
              exact hQ _ _ hI (Grow.refl _) rfl rfl
            refine obls2_cons (fun b hb1 hb2 f w' hI hH Q hQ => ?_) ?_
            · skip
              obtain rfl : b = 0 := by omega
              clear hb1 hb2
              have h8 := hH.get 0 (33, 8) rfl
              clear hH
              refine wpList_view ?_; show wpList _ _ _ [_] ⟨#[_, _, _, _, _, _, _, _, _, _, _, _, _, _, _, _, _, _, _, _, _, _, _, _, _, _, _, _, _, _, _, _, _, f 8, _, _, _, _, _, _, _, _, _, _, _, _, _, _, _, _, _, _, _, _, _, _, _, _, _, _, _, _, _, _, _, _, _, _, _, _, _, _, _, _, _, _, _, _, _, _, _, _, _, _, _, _, _, _, _, _, _, _, _, _, _, _, _, _, _, _, _, _, _, _, _, _, _, _, _, _, _, _, _, _, _, _, _, _, _, _, _, _, _, _, _, _], _⟩ _
              rw [show f 8 = _ from h8]
              clear h8
              repeat (first | go_guarded | go_step)
              exact hQ _ _ hI (Grow.refl _) rfl rfl
            refine obls2_cons (fun b hb1 hb2 f w' hI hH Q hQ => ?_) ?_
            · skip
              obtain rfl : b = 0 := by omega
              clear hb1 hb2
              have h9 := hH.get 0 (34, 9) rfl
              clear hH
              refine wpList_view ?_; show wpList _ _ _ [_] ⟨#[_, _, _, _, _, _, _, _, _, _, _, _, _, _, _, _, _, _, _, _, _, _, _, _, _, _, _, _, _, _, _, _, _, _, f 9, _, _, _, _, _, _, _, _, _, _, _, _, _, _, _, _, _, _, _, _, _, _, _, _, _, _, _, _, _, _, _, _, _, _, _, _, _, _, _, _, _, _, _, _, _, _, _, _, _, _, _, _, _, _, _, _, _, _, _, _, _, _, _, _, _, _, _, _, _, _, _, _, _, _, _, _, _, _, _, _, _, _, _, _, _, _, _, _, _, _, _], _⟩ _
              rw [show f 9 = _ from h9]
              clear h9
              have hG := Lib.hid (show Grow wa w' from hI.get0)
              have hcc : ∀ j u, cs[j]? = some u → w'.cell? ⟨b, off + k * 66 + 2 + j, none⟩ = some u := fun j u hu => hG.out.cell (HCC.out j u hu)
              have HC2 := Lib.hid hcc
              clear hI hcc
              refine load_cells rfl _ _ rfl b (off + k * 66 + 2) rfl cs _ HC2.out undV rfl (by rw [sizeV, HIO.out.1]) ?_
              exact hQ _ _ (Go.Kit.two.zero hG.out) (Grow.refl _) rfl rfl
            refine oblsP_cons (fun f w' hI hH Q hQ => ?_) ?_
            · skip
              have h0 := hH.get 0 (25, 0) rfl
              have h5 := hH.get 1 (30, 5) rfl
              have h10 := hH.get 2 (35, 10) rfl
              clear hH
              refine wpList_merge (idx := [none, none, none, none, none, none, none, none, none, none, none, none, none, none, none, none, none, none, none, none, none, none, none, none, none, some 0, none, none, none, none, some 5, none, none, none, none, some 10, none, none, none, none, none, none, none, none, none, none, none, none, none, none, none, none, none, none, none, none, none, none, none, none, none, none, none, none, none, none, none, none, none, none, none, none, none, none, none, none, none, none, none, none, none, none, none, none, none, none, none, none, none, none, none, none, none, none, none, none, none, none, none, none, none, none, none, none, none, none, none, none, none, none, none, none, none, none, none, none, none, none, none, none, none, none, none, none, none, none]) (by kernel_rfl) ?_; show wpList _ _ _ [_] ⟨#[_, _, _, _, _, _, _, _, _, _, _, _, _, _, _, _, _, _, _, _, _, _, _, _, _, f 0, _, _, _, _, f 5, _, _, _, _, f 10, _, _, _, _, _, _, _, _, _, _, _, _, _, _, _, _, _, _, _, _, _, _, _, _, _, _, _, _, _, _, _, _, _, _, _, _, _, _, _, _, _, _, _, _, _, _, _, _, _, _, _, _, _, _, _, _, _, _, _, _, _, _, _, _, _, _, _, _, _, _, _, _, _, _, _, _, _, _, _, _, _, _, _, _, _, _, _, _, _, _], _⟩ _
              rw [show f 0 = _ from h0]
              rw [show f 5 = _ from h5]
              rw [show f 10 = _ from h10]
              clear h0 h5 h10
              have hG := Lib.hid (show Grow wa w' from hI.get0)
              clear hI
              go_wp2_with (refine (HST.out _ hG.out).mono ?_; rintro r w2 ⟨rfl, ht2, hk2⟩)
              rw [if_neg HE.out] at ht2
              exact hQ _ _ (Go.Kit.two.one ⟨ht2, hk2.grow (HG.out.trans hG.out) rfl⟩) trivial rfl rfl
            refine obls2_cons (fun b hb1 hb2 f w' hI hH Q hQ => ?_) ?_
            · skip
              obtain rfl : b = 1 := by omega
              clear hb1 hb2
              have h11 := hH.get 0 (36, 11) rfl
              clear hH
              refine wpList_view ?_; show wpList _ _ _ [_] ⟨#[_, _, _, _, _, _, _, _, _, _, _, _, _, _, _, _, _, _, _, _, _, _, _, _, _, _, _, _, _, _, _, _, _, _, _, _, f 11, _, _, _, _, _, _, _, _, _, _, _, _, _, _, _, _, _, _, _, _, _, _, _, _, _, _, _, _, _, _, _, _, _, _, _, _, _, _, _, _, _, _, _, _, _, _, _, _, _, _, _, _, _, _, _, _, _, _, _, _, _, _, _, _, _, _, _, _, _, _, _, _, _, _, _, _, _, _, _, _, _, _, _, _, _, _, _, _, _], _⟩ _
              rw [show f 11 = _ from h11]
              clear h11
              repeat (first | go_guarded | go_step)
              exact hQ _ _ hI (Grow.refl _) rfl rfl
            exact obls2_nil
          case draw =>
            exact Go.Kit.two.zero (Grow.drew _)
          case mono => exact ⟨Mono2.veq _, Mono2.veq _, Mono2.veq _, Mono2.veq _, Mono2.veq _, Mono2.veq _, Mono2.veq _, Mono2.veq _, Mono2.veq _, Mono2.veq _, Mono2.veq _, Mono2.veq _, Mono2.veq _, trivial⟩
          case tail =>
            intro f w' hI hH
            have q12 := hH.get 12 (37, 12) rfl
            clear hH
            refine wpList_merge (idx := [none, none, none, none, none, none, none, none, none, none, none, none, none, none, none, none, none, none, none, none, none, none, none, none, none, some 0, some 1, some 2, some 3, some 4, some 5, some 6, some 7, some 8, some 9, some 10, some 11, some 12, none, none, none, none, none, none, none, none, none, none, none, none, none, none, none, none, none, none, none, none, none, none, none, none, none, none, none, none, none, none, none, none, none, none, none, none, none, none, none, none, none, none, none, none, none, none, none, none, none, none, none, none, none, none, none, none, none, none, none, none, none, none, none, none, none, none, none, none, none, none, none, none, none, none, none, none, none, none, none, none, none, none, none, none, none, none, none, none]) (by kernel_rfl) ?_; show wpList _ _ _ [] ⟨#[_, _, _, _, _, _, _, _, _, _, _, _, _, _, _, _, _, _, _, _, _, _, _, _, _, f 0, f 1, f 2, f 3, f 4, f 5, f 6, f 7, f 8, f 9, f 10, f 11, f 12, _, _, _, _, _, _, _, _, _, _, _, _, _, _, _, _, _, _, _, _, _, _, _, _, _, _, _, _, _, _, _, _, _, _, _, _, _, _, _, _, _, _, _, _, _, _, _, _, _, _, _, _, _, _, _, _, _, _, _, _, _, _, _, _, _, _, _, _, _, _, _, _, _, _, _, _, _, _, _, _, _, _, _, _, _, _, _, _], _⟩ _
            rw [show f 12 = _ from q12]
            clear q12
            have HM := Lib.hid hI.get1
            clear hI
            go_wp2_with fail
            go_roundw
            case rel => exact ⟨k + 1, by omega, by go_num, ⟨_, Lib.hid (HM.out.1.mono (by omega))⟩, Lib.hid HM.out.2⟩
            case measure => simp [intOf] <;> omega
      · obtain rfl : k = n := by omega
        have t1 : decide (k < k) = false := decide_eq_false hlt
        have hb1 := fun (w3 : World) (hg : Grow wa w3) => bytesS (HT.out.grow hg) (by omega)
        obtain ⟨E, hE⟩ : ∃ E, E = encT L := ⟨_, rfl⟩
        have HDE : Hid (∀ (w3 : World) (A : Option Addr) (m c : Nat), Bytes w3 A m E → m ≤ c → c ≤ maxLen → Calls Try.prog 7 #[.slice A m c] w3 fun r w' => ∃ gT bs bn n', r = .returned (.tuple #[.pointer (some ⟨gT, 0, none⟩), .int .i64 0]) ∧ n' ≤ 1000 ∧ TagI w' w3.heap.size gT bs bn n' L ∧ Grow w3 w') := Lib.hid fun w3 A m c hb hc hm => decS (by rw [← hE]; exact hb) hc hm HT.out.ok
        rw [← hE] at hb1
        have HBT := Lib.hid hb1
        have HAL := Lib.hid (fun (w3 : World) (hg : Grow wa w3) => allS (HT.out.grow hg) (by omega))
        have HEE := Lib.hid hE
        clear hb1 hE hlt hk
        go_wp2_with fail
        refine (HBT.out wa (Grow.refl _)).mono ?_
        rintro r w2 ⟨A2, m2, c2, rfl, -, hc2, hm2, hb2, hg2⟩
        have HD2 := Lib.hid (HDE.out w2 A2 m2 c2 hb2 hc2 hm2)
        have HG2 := Lib.hid hg2
        clear hc2 hm2 hb2 hg2
        go_wp2_with fail
        refine HD2.out.mono ?_
        rintro r w3 ⟨g3, bs3, bn3, n3, rfl, hn3, ht3, hg3⟩
        have hb3 := fun (w4 : World) (hg : Grow w3 w4) => bytesS (ht3.grow hg) (by omega)
        rw [← HEE.out] at hb3
        have HBT3 := Lib.hid hb3
        have HAL3 := Lib.hid (fun (w4 : World) (hg : Grow w3 w4) => allS (ht3.grow hg) (by omega))
        have HG3 := Lib.hid (HG2.out.trans hg3)
        clear hb3 ht3 hn3 hg3 HD2
        go_wp2_with fail
        obtain ⟨ll, hll⟩ : ∃ ll, ll = L.length := ⟨_, rfl⟩
        rw [← hll] at HAL HAL3
        clear hll
        have te : ((str E).toList == (str E).toList) = true := beq_self_eq_true _
        have te2 : ((str E).toList != (str E).toList) = false := by unfold bne; rw [te]; rfl
        have te3 : ((ll : Int) == (ll : Int)) = true := beq_self_eq_true _
        apply (fun (v0 v1 v2 v3 v5 v6 v8 v9 v10 v11 v12 v14 v15 v17 v18 v19 : Value) mono obl tail => wp_region_par (R := Grow) (Φ := phi [veq v0, veq v1, veq v2, veq v3, (IsSl E), veq v5, veq v6, (IsSl E), veq v8, veq v9, veq v10, veq v11, veq v12, (IsLen ll), veq v14, veq v15, (IsLen ll), veq v17, veq v18, veq v19]) (m := 20) (dls := [[], [(65, 0)], [(66, 1)], [(67, 2)], [(68, 3), (67, 2)], [(69, 4), (67, 2)], [(67, 2)], [(71, 6), (67, 2)], [(72, 7), (67, 2)], [(70, 5), (73, 8), (67, 2)], [(67, 2), (74, 9)], [(75, 10)], [(76, 11)], [(77, 12), (76, 11)], [(78, 13), (76, 11)], [(76, 11)], [(80, 15), (76, 11)], [(81, 16), (76, 11)], [(79, 14), (82, 17), (76, 11)], [(76, 11), (83, 18)]]) (ds := [65, 66, 67, 68, 69, 70, 71, 72, 73, 74, 75, 76, 77, 78, 79, 80, 81, 82, 83, 84]) (by kernel_rfl) (by kernel_rfl) (by decide) rfl (Grow.drew _) (fun _ _ _ => Grow.trans) (mono_phi mono) obl tail)
        case obl =>
          refine obls_frame (fun a1 ha => ?_)
          have hsz := rd_size (n := 126) ha rfl
          have e10 := rd_slot 10 ha rfl
          have e9 := rd_slot 9 ha rfl
          have e5 := rd_slot 5 ha rfl
          clear ha
          refine obls_cons (fun f w' hR hH Q0 hQ0 => ?_) ?_
          · skip
            have s10 := sv_off f [] e10 rfl
            refine small_v hsz [(10, _)] ⟨some 1, (Op.move (.tmp 0)), 25, "", #[], none⟩ [_, undef] 1 rfl rfl ⟨s10, trivial⟩ rfl rfl hQ0 ?_
            clear hQ0 hH s10
            intro Q hQ
            repeat go_step
            exact hQ _ _ (Grow.refl _) rfl rfl
          refine obls_cons (fun f w' hR hH Q0 hQ0 => ?_) ?_
          · skip
            have s65 := (sv_at 65 0 hsz f [(65, 0)] rfl).trans (show f 0 = _ from hH.get 0 (65, 0) rfl)
            refine small_v hsz [(65, _)] ⟨some 1, (Op.binOp BinOp.neq 25 (.tmp 0) (Operand.const (Value.int IntKind.i64 0)) 25), 4, "", #[], none⟩ [_, undef] 1 rfl rfl ⟨s65, trivial⟩ rfl rfl hQ0 ?_
            clear hQ0 hH s65
            intro Q hQ
            repeat go_step
            exact hQ _ _ (Grow.refl _) rfl rfl
          refine obls_cons (fun f w' hR hH Q0 hQ0 => ?_) ?_
          · skip
            have s66 := (sv_at 66 1 hsz f [(66, 1)] rfl).trans (show f 1 = _ from hH.get 0 (66, 1) rfl)
            refine small_v hsz [(66, _)] ⟨some 1, (Op.move (.tmp 0)), 4, "", #[], none⟩ [_, undef] 1 rfl rfl ⟨s66, trivial⟩ rfl rfl hQ0 ?_
            clear hQ0 hH s66
            intro Q hQ
            repeat go_step
            exact hQ _ _ (Grow.refl _) rfl rfl
          refine obls_cons (fun f w' hR hH Q0 hQ0 => ?_) ?_
          · skip
            have s9 := sv_off f [(67, 2)] e9 rfl
            have s67 := (sv_at 67 2 hsz f [(67, 2)] rfl).trans (show f 2 = _ from hH.get 0 (67, 2) rfl)
            first
              | exact skip_v hsz rfl ((wanted_some (b := true) rfl rfl s67).trans rfl) hQ0 (Grow.refl _) rfl
              | exact skip_v hsz rfl (wanted_undef rfl rfl s67) hQ0 (Grow.refl _) rfl
              | refine small_v hsz [(9, _)] ⟨some 1, (Op.move (.tmp 0)), 24, "", #[], none⟩ [_, undef] 1 rfl ((wanted_some (b := false) rfl rfl s67).trans rfl) ⟨s9, trivial⟩ rfl rfl hQ0 ?_
                clear hQ0 hH s9 s67
                intro Q hQ
                repeat go_step
                exact hQ _ _ (Grow.refl _) rfl rfl
          refine obls_cons (fun f w' hR hH Q0 hQ0 => ?_) ?_
          · skip
            have s68 := (sv_at 68 3 hsz f [(68, 3), (67, 2)] rfl).trans (show f 3 = _ from hH.get 0 (68, 3) rfl)
            have s67 := (sv_at 67 2 hsz f [(68, 3), (67, 2)] rfl).trans (show f 2 = _ from hH.get 1 (67, 2) rfl)
            first
              | exact skip_v hsz rfl ((wanted_some (b := true) rfl rfl s67).trans rfl) hQ0 (Grow.refl _) rfl
              | exact skip_v hsz rfl (wanted_undef rfl rfl s67) hQ0 (Grow.refl _) rfl
              | refine small_v hsz [(68, _)] ⟨some 1, (Op.call (Call.mk (Callee.value (Operand.func 10)) #[(.tmp 0)] #[24])), 22, "", #[], none⟩ [_, undef] 1 rfl ((wanted_some (b := false) rfl rfl s67).trans rfl) ⟨s68, trivial⟩ rfl (ren_call rfl rfl) hQ0 ?_
                clear hQ0 hH s68 s67
                intro Q hQ
                go_wp2_with (go_at_call 10; refine (HBT3.out _ hR).mono ?_; rintro e w1 ⟨A1, m1, c1, rfl, -, hc1, hm1, hb1, hg1⟩)
                exact hQ _ _ hg1 ⟨A1, m1, c1, rfl, hc1, hm1, hb1⟩ rfl
          refine obls_cons (fun f w' hR hH Q0 hQ0 => ?_) ?_
          · skip
            have h4 : (IsSl E) (f 4) w' := hH.get 0 (69, 4) rfl
            have s69 := sv_at 69 4 hsz f [(69, 4), (67, 2)] rfl
            obtain ⟨u4, hu4⟩ : ∃ u, f 4 = u := ⟨_, rfl⟩
            rw [hu4] at s69 h4
            clear hu4
            have s67 := (sv_at 67 2 hsz f [(69, 4), (67, 2)] rfl).trans (show f 2 = _ from hH.get 1 (67, 2) rfl)
            first
              | exact skip_v hsz rfl ((wanted_some (b := true) rfl rfl s67).trans rfl) hQ0 (Grow.refl _) rfl
              | exact skip_v hsz rfl (wanted_undef rfl rfl s67) hQ0 (Grow.refl _) rfl
              | refine small_v hsz [(69, _)] ⟨some 1, (Op.convert 22 9 (.tmp 0)), 9, "", #[], none⟩ [_, undef] 1 rfl ((wanted_some (b := false) rfl rfl s67).trans rfl) ⟨s69, trivial⟩ rfl rfl hQ0 ?_
                clear hQ0 hH s69 s67
                intro Q hQ
                obtain ⟨A1, n1, c1, rfl, -, -, hb1⟩ := h4
                have hcs := conv_str (P := Try.prog) Try.underlying22 Try.underlying5 Try.underlying9 hb1 c1
                clear hb1
                go_wp2_with fail
                exact hQ _ _ (Grow.refl _) rfl rfl
          refine obls_cons (fun f w' hR hH Q0 hQ0 => ?_) ?_
          · skip
            have s5 := sv_off f [(67, 2)] e5 rfl
            have s67 := (sv_at 67 2 hsz f [(67, 2)] rfl).trans (show f 2 = _ from hH.get 0 (67, 2) rfl)
            first
              | exact skip_v hsz rfl ((wanted_some (b := true) rfl rfl s67).trans rfl) hQ0 (Grow.refl _) rfl
              | exact skip_v hsz rfl (wanted_undef rfl rfl s67) hQ0 (Grow.refl _) rfl
              | refine small_v hsz [(5, _)] ⟨some 1, (Op.move (.tmp 0)), 24, "", #[], none⟩ [_, undef] 1 rfl ((wanted_some (b := false) rfl rfl s67).trans rfl) ⟨s5, trivial⟩ rfl rfl hQ0 ?_
                clear hQ0 hH s5 s67
                intro Q hQ
                repeat go_step
                exact hQ _ _ (Grow.refl _) rfl rfl
          refine obls_cons (fun f w' hR hH Q0 hQ0 => ?_) ?_
          · skip
            have s71 := (sv_at 71 6 hsz f [(71, 6), (67, 2)] rfl).trans (show f 6 = _ from hH.get 0 (71, 6) rfl)
            have s67 := (sv_at 67 2 hsz f [(71, 6), (67, 2)] rfl).trans (show f 2 = _ from hH.get 1 (67, 2) rfl)
            first
              | exact skip_v hsz rfl ((wanted_some (b := true) rfl rfl s67).trans rfl) hQ0 (Grow.refl _) rfl
              | exact skip_v hsz rfl (wanted_undef rfl rfl s67) hQ0 (Grow.refl _) rfl
              | refine small_v hsz [(71, _)] ⟨some 1, (Op.call (Call.mk (Callee.value (Operand.func 10)) #[(.tmp 0)] #[24])), 22, "", #[], none⟩ [_, undef] 1 rfl ((wanted_some (b := false) rfl rfl s67).trans rfl) ⟨s71, trivial⟩ rfl (ren_call rfl rfl) hQ0 ?_
                clear hQ0 hH s71 s67
                intro Q hQ
                go_wp2_with (go_at_call 10; refine (HBT.out _ (HG3.out.trans hR)).mono ?_; rintro e w1 ⟨A1, m1, c1, rfl, -, hc1, hm1, hb1, hg1⟩)
                exact hQ _ _ hg1 ⟨A1, m1, c1, rfl, hc1, hm1, hb1⟩ rfl
          refine obls_cons (fun f w' hR hH Q0 hQ0 => ?_) ?_
          · skip
            have h7 : (IsSl E) (f 7) w' := hH.get 0 (72, 7) rfl
            have s72 := sv_at 72 7 hsz f [(72, 7), (67, 2)] rfl
            obtain ⟨u7, hu7⟩ : ∃ u, f 7 = u := ⟨_, rfl⟩
            rw [hu7] at s72 h7
            clear hu7
            have s67 := (sv_at 67 2 hsz f [(72, 7), (67, 2)] rfl).trans (show f 2 = _ from hH.get 1 (67, 2) rfl)
            first
              | exact skip_v hsz rfl ((wanted_some (b := true) rfl rfl s67).trans rfl) hQ0 (Grow.refl _) rfl
              | exact skip_v hsz rfl (wanted_undef rfl rfl s67) hQ0 (Grow.refl _) rfl
              | refine small_v hsz [(72, _)] ⟨some 1, (Op.convert 22 9 (.tmp 0)), 9, "", #[], none⟩ [_, undef] 1 rfl ((wanted_some (b := false) rfl rfl s67).trans rfl) ⟨s72, trivial⟩ rfl rfl hQ0 ?_
                clear hQ0 hH s72 s67
                intro Q hQ
                obtain ⟨A1, n1, c1, rfl, -, -, hb1⟩ := h7
                have hcs := conv_str (P := Try.prog) Try.underlying22 Try.underlying5 Try.underlying9 hb1 c1
                clear hb1
                go_wp2_with fail
                exact hQ _ _ (Grow.refl _) rfl rfl
          refine obls_cons (fun f w' hR hH Q0 hQ0 => ?_) ?_
          · skip
            have s70 := (sv_at 70 5 hsz f [(70, 5), (73, 8), (67, 2)] rfl).trans (show f 5 = _ from hH.get 0 (70, 5) rfl)
            have s73 := (sv_at 73 8 hsz f [(70, 5), (73, 8), (67, 2)] rfl).trans (show f 8 = _ from hH.get 1 (73, 8) rfl)
            have s67 := (sv_at 67 2 hsz f [(70, 5), (73, 8), (67, 2)] rfl).trans (show f 2 = _ from hH.get 2 (67, 2) rfl)
            first
              | exact skip_v hsz rfl ((wanted_some (b := true) rfl rfl s67).trans rfl) hQ0 (Grow.refl _) rfl
              | exact skip_v hsz rfl (wanted_undef rfl rfl s67) hQ0 (Grow.refl _) rfl
              | refine small_v hsz [(70, _), (73, _)] ⟨some 2, (Op.binOp BinOp.neq 9 (.tmp 0) (.tmp 1) 9), 4, "", #[], none⟩ [_, _, undef] 2 rfl ((wanted_some (b := false) rfl rfl s67).trans rfl) ⟨s70, s73, trivial⟩ rfl rfl hQ0 ?_
                clear hQ0 hH s70 s73 s67
                intro Q hQ
                repeat go_step
                exact hQ _ _ (Grow.refl _) rfl rfl
          refine obls_cons (fun f w' hR hH Q0 hQ0 => ?_) ?_
          · skip
            have s67 := (sv_at 67 2 hsz f [(67, 2), (74, 9)] rfl).trans (show f 2 = _ from hH.get 0 (67, 2) rfl)
            have s74 := (sv_at 74 9 hsz f [(67, 2), (74, 9)] rfl).trans (show f 9 = _ from hH.get 1 (74, 9) rfl)
            refine small_v hsz [(67, _), (74, _)] ⟨some 2, (Op.pick (.tmp 0) (Operand.const (Value.bool true)) (.tmp 1)), 4, "", #[], none⟩ [_, _, undef] 2 rfl rfl ⟨s67, s74, trivial⟩ rfl rfl hQ0 ?_
            clear hQ0 hH s67 s74
            intro Q hQ
            repeat go_step
            exact hQ _ _ (Grow.refl _) rfl rfl
          refine obls_cons (fun f w' hR hH Q0 hQ0 => ?_) ?_
          · skip
            have s75 := (sv_at 75 10 hsz f [(75, 10)] rfl).trans (show f 10 = _ from hH.get 0 (75, 10) rfl)
            refine small_v hsz [(75, _)] ⟨some 1, (Op.move (.tmp 0)), 4, "", #[], none⟩ [_, undef] 1 rfl rfl ⟨s75, trivial⟩ rfl rfl hQ0 ?_
            clear hQ0 hH s75
            intro Q hQ
            repeat go_step
            exact hQ _ _ (Grow.refl _) rfl rfl
          refine obls_cons (fun f w' hR hH Q0 hQ0 => ?_) ?_
          · skip
            have s9 := sv_off f [(76, 11)] e9 rfl
            have s76 := (sv_at 76 11 hsz f [(76, 11)] rfl).trans (show f 11 = _ from hH.get 0 (76, 11) rfl)
            first
              | exact skip_v hsz rfl ((wanted_some (b := true) rfl rfl s76).trans rfl) hQ0 (Grow.refl _) rfl
              | exact skip_v hsz rfl (wanted_undef rfl rfl s76) hQ0 (Grow.refl _) rfl
              | refine small_v hsz [(9, _)] ⟨some 1, (Op.move (.tmp 0)), 24, "", #[], none⟩ [_, undef] 1 rfl ((wanted_some (b := false) rfl rfl s76).trans rfl) ⟨s9, trivial⟩ rfl rfl hQ0 ?_
                clear hQ0 hH s9 s76
                intro Q hQ
                repeat go_step
                exact hQ _ _ (Grow.refl _) rfl rfl
          refine obls_cons (fun f w' hR hH Q0 hQ0 => ?_) ?_
          · skip
            have s77 := (sv_at 77 12 hsz f [(77, 12), (76, 11)] rfl).trans (show f 12 = _ from hH.get 0 (77, 12) rfl)
            have s76 := (sv_at 76 11 hsz f [(77, 12), (76, 11)] rfl).trans (show f 11 = _ from hH.get 1 (76, 11) rfl)
            first
              | exact skip_v hsz rfl ((wanted_some (b := true) rfl rfl s76).trans rfl) hQ0 (Grow.refl _) rfl
              | exact skip_v hsz rfl (wanted_undef rfl rfl s76) hQ0 (Grow.refl _) rfl
              | refine small_v hsz [(77, _)] ⟨some 1, (Op.call (Call.mk (Callee.value (Operand.func 25)) #[(.tmp 0)] #[24])), 55, "", #[], none⟩ [_, undef] 1 rfl ((wanted_some (b := false) rfl rfl s76).trans rfl) ⟨s77, trivial⟩ rfl (ren_call rfl rfl) hQ0 ?_
                clear hQ0 hH s77 s76
                intro Q hQ
                go_wp2_with (go_at_call 25; refine (HAL3.out _ hR).mono ?_; rintro e w1 ⟨A1, c1, rfl, hg1⟩)
                exact hQ _ _ hg1 ⟨A1, c1, rfl⟩ rfl
          refine obls_cons (fun f w' hR hH Q0 hQ0 => ?_) ?_
          · skip
            have h13 : (IsLen ll) (f 13) w' := hH.get 0 (78, 13) rfl
            have s78 := sv_at 78 13 hsz f [(78, 13), (76, 11)] rfl
            obtain ⟨u13, hu13⟩ : ∃ u, f 13 = u := ⟨_, rfl⟩
            rw [hu13] at s78 h13
            clear hu13
            have s76 := (sv_at 76 11 hsz f [(78, 13), (76, 11)] rfl).trans (show f 11 = _ from hH.get 1 (76, 11) rfl)
            first
              | exact skip_v hsz rfl ((wanted_some (b := true) rfl rfl s76).trans rfl) hQ0 (Grow.refl _) rfl
              | exact skip_v hsz rfl (wanted_undef rfl rfl s76) hQ0 (Grow.refl _) rfl
              | refine small_v hsz [(78, _)] ⟨some 1, (Op.call (Call.mk (Callee.builtin Builtin.len) #[(.tmp 0)] #[55])), 3, "", #[], none⟩ [_, undef] 1 rfl ((wanted_some (b := false) rfl rfl s76).trans rfl) ⟨s78, trivial⟩ rfl (ren_builtin rfl rfl) hQ0 ?_
                clear hQ0 hH s78 s76
                intro Q hQ
                obtain ⟨A1, c1, rfl⟩ := h13
                repeat go_step
                exact hQ _ _ (Grow.refl _) rfl rfl
          refine obls_cons (fun f w' hR hH Q0 hQ0 => ?_) ?_
          · skip
            have s5 := sv_off f [(76, 11)] e5 rfl
            have s76 := (sv_at 76 11 hsz f [(76, 11)] rfl).trans (show f 11 = _ from hH.get 0 (76, 11) rfl)
            first
              | exact skip_v hsz rfl ((wanted_some (b := true) rfl rfl s76).trans rfl) hQ0 (Grow.refl _) rfl
              | exact skip_v hsz rfl (wanted_undef rfl rfl s76) hQ0 (Grow.refl _) rfl
              | refine small_v hsz [(5, _)] ⟨some 1, (Op.move (.tmp 0)), 24, "", #[], none⟩ [_, undef] 1 rfl ((wanted_some (b := false) rfl rfl s76).trans rfl) ⟨s5, trivial⟩ rfl rfl hQ0 ?_
                clear hQ0 hH s5 s76
                intro Q hQ
                repeat go_step
                exact hQ _ _ (Grow.refl _) rfl rfl
          refine obls_cons (fun f w' hR hH Q0 hQ0 => ?_) ?_
          · skip
            have s80 := (sv_at 80 15 hsz f [(80, 15), (76, 11)] rfl).trans (show f 15 = _ from hH.get 0 (80, 15) rfl)
            have s76 := (sv_at 76 11 hsz f [(80, 15), (76, 11)] rfl).trans (show f 11 = _ from hH.get 1 (76, 11) rfl)
            first
              | exact skip_v hsz rfl ((wanted_some (b := true) rfl rfl s76).trans rfl) hQ0 (Grow.refl _) rfl
              | exact skip_v hsz rfl (wanted_undef rfl rfl s76) hQ0 (Grow.refl _) rfl
              | refine small_v hsz [(80, _)] ⟨some 1, (Op.call (Call.mk (Callee.value (Operand.func 25)) #[(.tmp 0)] #[24])), 55, "", #[], none⟩ [_, undef] 1 rfl ((wanted_some (b := false) rfl rfl s76).trans rfl) ⟨s80, trivial⟩ rfl (ren_call rfl rfl) hQ0 ?_
                clear hQ0 hH s80 s76
                intro Q hQ
                go_wp2_with (go_at_call 25; refine (HAL.out _ (HG3.out.trans hR)).mono ?_; rintro e w1 ⟨A1, c1, rfl, hg1⟩)
                exact hQ _ _ hg1 ⟨A1, c1, rfl⟩ rfl
          refine obls_cons (fun f w' hR hH Q0 hQ0 => ?_) ?_
          · skip
            have h16 : (IsLen ll) (f 16) w' := hH.get 0 (81, 16) rfl
            have s81 := sv_at 81 16 hsz f [(81, 16), (76, 11)] rfl
            obtain ⟨u16, hu16⟩ : ∃ u, f 16 = u := ⟨_, rfl⟩
            rw [hu16] at s81 h16
            clear hu16
            have s76 := (sv_at 76 11 hsz f [(81, 16), (76, 11)] rfl).trans (show f 11 = _ from hH.get 1 (76, 11) rfl)
            first
              | exact skip_v hsz rfl ((wanted_some (b := true) rfl rfl s76).trans rfl) hQ0 (Grow.refl _) rfl
              | exact skip_v hsz rfl (wanted_undef rfl rfl s76) hQ0 (Grow.refl _) rfl
              | refine small_v hsz [(81, _)] ⟨some 1, (Op.call (Call.mk (Callee.builtin Builtin.len) #[(.tmp 0)] #[55])), 3, "", #[], none⟩ [_, undef] 1 rfl ((wanted_some (b := false) rfl rfl s76).trans rfl) ⟨s81, trivial⟩ rfl (ren_builtin rfl rfl) hQ0 ?_
                clear hQ0 hH s81 s76
                intro Q hQ
                obtain ⟨A1, c1, rfl⟩ := h16
                repeat go_step
                exact hQ _ _ (Grow.refl _) rfl rfl
          refine obls_cons (fun f w' hR hH Q0 hQ0 => ?_) ?_
          · skip
            have s79 := (sv_at 79 14 hsz f [(79, 14), (82, 17), (76, 11)] rfl).trans (show f 14 = _ from hH.get 0 (79, 14) rfl)
            have s82 := (sv_at 82 17 hsz f [(79, 14), (82, 17), (76, 11)] rfl).trans (show f 17 = _ from hH.get 1 (82, 17) rfl)
            have s76 := (sv_at 76 11 hsz f [(79, 14), (82, 17), (76, 11)] rfl).trans (show f 11 = _ from hH.get 2 (76, 11) rfl)
            first
              | exact skip_v hsz rfl ((wanted_some (b := true) rfl rfl s76).trans rfl) hQ0 (Grow.refl _) rfl
              | exact skip_v hsz rfl (wanted_undef rfl rfl s76) hQ0 (Grow.refl _) rfl
              | refine small_v hsz [(79, _), (82, _)] ⟨some 2, (Op.binOp BinOp.neq 3 (.tmp 0) (.tmp 1) 3), 4, "", #[], none⟩ [_, _, undef] 2 rfl ((wanted_some (b := false) rfl rfl s76).trans rfl) ⟨s79, s82, trivial⟩ rfl rfl hQ0 ?_
                clear hQ0 hH s79 s82 s76
                intro Q hQ
                repeat go_step
                exact hQ _ _ (Grow.refl _) rfl rfl
          refine obls_cons (fun f w' hR hH Q0 hQ0 => ?_) ?_
          · skip
            have s76 := (sv_at 76 11 hsz f [(76, 11), (83, 18)] rfl).trans (show f 11 = _ from hH.get 0 (76, 11) rfl)
            have s83 := (sv_at 83 18 hsz f [(76, 11), (83, 18)] rfl).trans (show f 18 = _ from hH.get 1 (83, 18) rfl)
            refine small_v hsz [(76, _), (83, _)] ⟨some 2, (Op.pick (.tmp 0) (Operand.const (Value.bool true)) (.tmp 1)), 4, "", #[], none⟩ [_, _, undef] 2 rfl rfl ⟨s76, s83, trivial⟩ rfl rfl hQ0 ?_
            clear hQ0 hH s76 s83
            intro Q hQ
            repeat go_step
            exact hQ _ _ (Grow.refl _) rfl rfl
          exact obls_nil
        case mono => exact ⟨Mono.veq _, Mono.veq _, Mono.veq _, Mono.veq _, IsSl.mono, Mono.veq _, Mono.veq _, IsSl.mono, Mono.veq _, Mono.veq _, Mono.veq _, Mono.veq _, Mono.veq _, IsLen.mono, Mono.veq _, Mono.veq _, IsLen.mono, Mono.veq _, Mono.veq _, Mono.veq _, trivial⟩
        case tail =>
          intro f w' hR hH
          have q19 := hH.get 19 (84, 19) rfl
          clear hH
          refine wpList_merge (idx := [none, none, none, none, none, none, none, none, none, none, none, none, none, none, none, none, none, none, none, none, none, none, none, none, none, none, none, none, none, none, none, none, none, none, none, none, none, none, none, none, none, none, none, none, none, none, none, none, none, none, none, none, none, none, none, none, none, none, none, none, none, none, none, none, none, some 0, some 1, some 2, some 3, some 4, some 5, some 6, some 7, some 8, some 9, some 10, some 11, some 12, some 13, some 14, some 15, some 16, some 17, some 18, some 19, none, none, none, none, none, none, none, none, none, none, none, none, none, none, none, none, none, none, none, none, none, none, none, none, none, none, none, none, none, none, none, none, none, none, none, none, none, none, none, none, none]) (by kernel_rfl) ?_; show wpList _ _ _ [] ⟨#[_, _, _, _, _, _, _, _, _, _, _, _, _, _, _, _, _, _, _, _, _, _, _, _, _, _, _, _, _, _, _, _, _, _, _, _, _, _, _, _, _, _, _, _, _, _, _, _, _, _, _, _, _, _, _, _, _, _, _, _, _, _, _, _, _, f 0, f 1, f 2, f 3, f 4, f 5, f 6, f 7, f 8, f 9, f 10, f 11, f 12, f 13, f 14, f 15, f 16, f 17, f 18, f 19, _, _, _, _, _, _, _, _, _, _, _, _, _, _, _, _, _, _, _, _, _, _, _, _, _, _, _, _, _, _, _, _, _, _, _, _, _, _, _, _, _], _⟩ _
          rw [show f 19 = _ from q19]
          clear q19
          have HR := Lib.hid ((HG.out.trans HG3.out).trans hR)
          clear hR te te2 te3 HBT HBT3 HAL HAL3 HDE
          obtain ⟨cz, hcz⟩ : ∃ cz, cz = ints .u16 (List.replicate 64 0) := ⟨_, rfl⟩
          have hzi := ints_ok vec_zero
          have hgn := fun (w1 : World) s => get_nil w1 s
          unfold vv at hgn
          rw [← hcz] at hgn hzi
          have HGN := Lib.hid hgn
          have HZI := Lib.hid hzi
          clear hgn hzi hcz
          go_wp2_with fail
          refine (HGN.out _ _).mono ?_
          rintro r w5 ⟨rfl, hg5⟩
          have HG5 := Lib.hid (HR.out.trans hg5)
          clear hg5
          go_wp2_with (refine store_blk rfl _ _ _ rfl w5.heap.size cz rfl rfl TV _ (Blk.new _ _ _ _ rfl rfl) (by rw [sizeV, HZI.out.1]) HZI.out.1.symm HZI.out.2 ?_)
          refine wp_named ?_
          intro W6 hW6
          have hg6 : Grow w5 W6 := by rw [hW6]; exact Grow.setRow (Grow.alloc _ _) (Nat.le_refl _) _
          have HG6 := Lib.hid (HG5.out.trans hg6)
          clear hW6 hg6
          apply (fun (v0 v1 v2 v3 v4 v5 v6 v7 v8 v9 v10 v11 v12 v13 v14 v15 v16 v17 v18 v19 v20 v21 v22 v23 v24 v25 v26 v27 v28 v29 v30 v31 v32 v33 v34 v35 v36 : Value) mono obl tail => wp_region_par (R := Grow) (Φ := phi [veq v0, veq v1, veq v2, veq v3, veq v4, veq v5, veq v6, veq v7, veq v8, veq v9, veq v10, veq v11, veq v12, veq v13, veq v14, veq v15, veq v16, veq v17, veq v18, veq v19, veq v20, veq v21, veq v22, veq v23, veq v24, veq v25, veq v26, veq v27, veq v28, veq v29, veq v30, veq v31, veq v32, veq v33, veq v34, veq v35, veq v36]) (m := 37) (dls := [[], [], [(90, 0), (91, 1)], [(92, 2)], [(93, 3)], [(94, 4)], [(95, 5), (94, 4)], [(96, 6), (94, 4)], [(94, 4), (97, 7)], [(98, 8)], [(99, 9)], [(100, 10), (99, 9)], [(99, 9), (101, 11)], [(102, 12)], [(103, 13)], [(103, 13)], [(104, 14), (105, 15), (103, 13)], [(106, 16), (103, 13)], [(103, 13)], [(103, 13)], [(108, 18), (109, 19), (103, 13)], [(110, 20), (103, 13)], [(107, 17), (111, 21), (103, 13)], [(103, 13)], [(113, 23), (103, 13)], [(114, 24), (103, 13)], [(112, 22), (115, 25), (103, 13)], [(103, 13)], [(117, 27), (103, 13)], [(118, 28), (103, 13)], [(116, 26), (119, 29), (103, 13)], [(120, 30), (103, 13)], [(103, 13), (121, 31)], [(122, 32)], [(123, 33)], [(123, 33), (124, 34)], [(125, 35)]]) (ds := [90, 91, 92, 93, 94, 95, 96, 97, 98, 99, 100, 101, 102, 103, 104, 105, 106, 107, 108, 109, 110, 111, 112, 113, 114, 115, 116, 117, 118, 119, 120, 121, 122, 123, 124, 125, 4]) (by kernel_rfl) (by kernel_rfl) (by decide) rfl (Grow.drew _) (fun _ _ _ => Grow.trans) (mono_phi mono) obl tail)
          case obl =>
            refine obls_frame (fun a1 ha => ?_)
            have hsz := rd_size (n := 126) ha rfl
            have e11 := rd_slot 11 ha rfl
            have e3 := rd_slot 3 ha rfl
            have e13 := rd_slot 13 ha rfl
            clear ha
            refine obls_cons (fun f w' hR hH Q0 hQ0 => ?_) ?_
            · skip
              have s11 := sv_off f [] e11 rfl
              refine small_v hsz [(11, _)] ⟨some 1, (Op.move (.tmp 0)), 24, "", #[], none⟩ [_, undef] 1 rfl rfl ⟨s11, trivial⟩ rfl rfl hQ0 ?_
              clear hQ0 hH s11
              intro Q hQ
              repeat go_step
              exact hQ _ _ (Grow.refl _) rfl rfl
            refine obls_cons (fun f w' hR hH Q0 hQ0 => ?_) ?_
            · skip
              have s3 := sv_off f [] e3 rfl
              refine small_v hsz [(3, _)] ⟨some 1, (Op.load 37 (.tmp 0)), 37, "", #[], none⟩ [_, undef] 1 rfl rfl ⟨s3, trivial⟩ rfl rfl hQ0 ?_
              clear hQ0 hH s3
              intro Q hQ
              have hb := HBX.out.grow (HG6.out.trans hR)
              refine load_blk rfl _ _ rfl b0 rfl _ _ _ hb undV rfl (by rw [sizeV, HCV.out]) ?_
              exact hQ _ _ (Grow.refl _) rfl rfl
            refine obls_cons (fun f w' hR hH Q0 hQ0 => ?_) ?_
            · skip
              have s90 := (sv_at 90 0 hsz f [(90, 0), (91, 1)] rfl).trans (show f 0 = _ from hH.get 0 (90, 0) rfl)
              have s91 := (sv_at 91 1 hsz f [(90, 0), (91, 1)] rfl).trans (show f 1 = _ from hH.get 1 (91, 1) rfl)
              refine small_v hsz [(90, _), (91, _)] ⟨some 2, (Op.call (Call.mk (Callee.value (Operand.func 14)) #[(.tmp 0), (Operand.const (Value.string (ByteArray.mk #[97]))), (.tmp 1)] #[24, 9, 37])), 25, "", #[], none⟩ [_, _, undef] 2 rfl rfl ⟨s90, s91, trivial⟩ rfl (ren_call rfl rfl) hQ0 ?_
              clear hQ0 hH s90 s91
              intro Q hQ
              go_wp2_with (go_at_call 14; refine (HSN.out _ _).mono ?_; rintro e w1 ⟨rfl, hg1⟩)
              exact hQ _ _ hg1 rfl rfl
            refine obls_cons (fun f w' hR hH Q0 hQ0 => ?_) ?_
            · skip
              have s92 := (sv_at 92 2 hsz f [(92, 2)] rfl).trans (show f 2 = _ from hH.get 0 (92, 2) rfl)
              refine small_v hsz [(92, _)] ⟨some 1, (Op.binOp BinOp.eql 25 (.tmp 0) (Operand.const (Value.int IntKind.i64 1)) 25), 4, "", #[], none⟩ [_, undef] 1 rfl rfl ⟨s92, trivial⟩ rfl rfl hQ0 ?_
              clear hQ0 hH s92
              intro Q hQ
              repeat go_step
              exact hQ _ _ (Grow.refl _) rfl rfl
            refine obls_cons (fun f w' hR hH Q0 hQ0 => ?_) ?_
            · skip
              have s93 := (sv_at 93 3 hsz f [(93, 3)] rfl).trans (show f 3 = _ from hH.get 0 (93, 3) rfl)
              refine small_v hsz [(93, _)] ⟨some 1, (Op.move (.tmp 0)), 4, "", #[], none⟩ [_, undef] 1 rfl rfl ⟨s93, trivial⟩ rfl rfl hQ0 ?_
              clear hQ0 hH s93
              intro Q hQ
              repeat go_step
              exact hQ _ _ (Grow.refl _) rfl rfl
            refine obls_cons (fun f w' hR hH Q0 hQ0 => ?_) ?_
            · skip
              have s11 := sv_off f [(94, 4)] e11 rfl
              have s94 := (sv_at 94 4 hsz f [(94, 4)] rfl).trans (show f 4 = _ from hH.get 0 (94, 4) rfl)
              first
                | exact skip_v hsz rfl ((wanted_some (b := false) rfl rfl s94).trans rfl) hQ0 (Grow.refl _) rfl
                | exact skip_v hsz rfl (wanted_undef rfl rfl s94) hQ0 (Grow.refl _) rfl
                | refine small_v hsz [(11, _)] ⟨some 1, (Op.move (.tmp 0)), 24, "", #[], none⟩ [_, undef] 1 rfl ((wanted_some (b := true) rfl rfl s94).trans rfl) ⟨s11, trivial⟩ rfl rfl hQ0 ?_
                  clear hQ0 hH s11 s94
                  intro Q hQ
                  repeat go_step
                  exact hQ _ _ (Grow.refl _) rfl rfl
            refine obls_cons (fun f w' hR hH Q0 hQ0 => ?_) ?_
            · skip
              have s95 := (sv_at 95 5 hsz f [(95, 5), (94, 4)] rfl).trans (show f 5 = _ from hH.get 0 (95, 5) rfl)
              have s94 := (sv_at 94 4 hsz f [(95, 5), (94, 4)] rfl).trans (show f 4 = _ from hH.get 1 (94, 4) rfl)
              first
                | exact skip_v hsz rfl ((wanted_some (b := false) rfl rfl s94).trans rfl) hQ0 (Grow.refl _) rfl
                | exact skip_v hsz rfl (wanted_undef rfl rfl s94) hQ0 (Grow.refl _) rfl
                | refine small_v hsz [(95, _)] ⟨some 1, (Op.call (Call.mk (Callee.value (Operand.func 16)) #[(.tmp 0), (Operand.const (Value.string (ByteArray.mk #[97])))] #[24, 9])), 25, "", #[], none⟩ [_, undef] 1 rfl ((wanted_some (b := true) rfl rfl s94).trans rfl) ⟨s95, trivial⟩ rfl (ren_call rfl rfl) hQ0 ?_
                  clear hQ0 hH s95 s94
                  intro Q hQ
                  go_wp2_with (go_at_call 16; refine (drop_nil _ _).mono ?_; rintro e w1 ⟨rfl, hg1⟩)
                  exact hQ _ _ hg1 rfl rfl
            refine obls_cons (fun f w' hR hH Q0 hQ0 => ?_) ?_
            · skip
              have s96 := (sv_at 96 6 hsz f [(96, 6), (94, 4)] rfl).trans (show f 6 = _ from hH.get 0 (96, 6) rfl)
              have s94 := (sv_at 94 4 hsz f [(96, 6), (94, 4)] rfl).trans (show f 4 = _ from hH.get 1 (94, 4) rfl)
              first
                | exact skip_v hsz rfl ((wanted_some (b := false) rfl rfl s94).trans rfl) hQ0 (Grow.refl _) rfl
                | exact skip_v hsz rfl (wanted_undef rfl rfl s94) hQ0 (Grow.refl _) rfl
                | refine small_v hsz [(96, _)] ⟨some 1, (Op.binOp BinOp.eql 25 (.tmp 0) (Operand.const (Value.int IntKind.i64 1)) 25), 4, "", #[], none⟩ [_, undef] 1 rfl ((wanted_some (b := true) rfl rfl s94).trans rfl) ⟨s96, trivial⟩ rfl rfl hQ0 ?_
                  clear hQ0 hH s96 s94
                  intro Q hQ
                  repeat go_step
                  exact hQ _ _ (Grow.refl _) rfl rfl
            refine obls_cons (fun f w' hR hH Q0 hQ0 => ?_) ?_
            · skip
              have s94 := (sv_at 94 4 hsz f [(94, 4), (97, 7)] rfl).trans (show f 4 = _ from hH.get 0 (94, 4) rfl)
              have s97 := (sv_at 97 7 hsz f [(94, 4), (97, 7)] rfl).trans (show f 7 = _ from hH.get 1 (97, 7) rfl)
              refine small_v hsz [(94, _), (97, _)] ⟨some 2, (Op.pick (.tmp 0) (.tmp 1) (Operand.const (Value.bool false))), 4, "", #[], none⟩ [_, _, undef] 2 rfl rfl ⟨s94, s97, trivial⟩ rfl rfl hQ0 ?_
              clear hQ0 hH s94 s97
              intro Q hQ
              repeat go_step
              exact hQ _ _ (Grow.refl _) rfl rfl
            refine obls_cons (fun f w' hR hH Q0 hQ0 => ?_) ?_
            · skip
              have s98 := (sv_at 98 8 hsz f [(98, 8)] rfl).trans (show f 8 = _ from hH.get 0 (98, 8) rfl)
              refine small_v hsz [(98, _)] ⟨some 1, (Op.move (.tmp 0)), 4, "", #[], none⟩ [_, undef] 1 rfl rfl ⟨s98, trivial⟩ rfl rfl hQ0 ?_
              clear hQ0 hH s98
              intro Q hQ
              repeat go_step
              exact hQ _ _ (Grow.refl _) rfl rfl
            refine obls_cons (fun f w' hR hH Q0 hQ0 => ?_) ?_
            · skip
              have s13 := sv_off f [(99, 9)] e13 rfl
              have s99 := (sv_at 99 9 hsz f [(99, 9)] rfl).trans (show f 9 = _ from hH.get 0 (99, 9) rfl)
              first
                | exact skip_v hsz rfl ((wanted_some (b := false) rfl rfl s99).trans rfl) hQ0 (Grow.refl _) rfl
                | exact skip_v hsz rfl (wanted_undef rfl rfl s99) hQ0 (Grow.refl _) rfl
                | refine small_v hsz [(13, _)] ⟨some 1, (Op.move (.tmp 0)), 4, "", #[], none⟩ [_, undef] 1 rfl ((wanted_some (b := true) rfl rfl s99).trans rfl) ⟨s13, trivial⟩ rfl rfl hQ0 ?_
                  clear hQ0 hH s13 s99
                  intro Q hQ
                  repeat go_step
                  exact hQ _ _ (Grow.refl _) rfl rfl
            refine obls_cons (fun f w' hR hH Q0 hQ0 => ?_) ?_
            · skip
              have s100 := (sv_at 100 10 hsz f [(100, 10), (99, 9)] rfl).trans (show f 10 = _ from hH.get 0 (100, 10) rfl)
              have s99 := (sv_at 99 9 hsz f [(100, 10), (99, 9)] rfl).trans (show f 9 = _ from hH.get 1 (99, 9) rfl)
              first
                | exact skip_v hsz rfl ((wanted_some (b := false) rfl rfl s99).trans rfl) hQ0 (Grow.refl _) rfl
                | exact skip_v hsz rfl (wanted_undef rfl rfl s99) hQ0 (Grow.refl _) rfl
                | refine small_v hsz [(100, _)] ⟨some 1, (Op.unOp UnOp.not 4 (.tmp 0)), 4, "", #[], none⟩ [_, undef] 1 rfl ((wanted_some (b := true) rfl rfl s99).trans rfl) ⟨s100, trivial⟩ rfl rfl hQ0 ?_
                  clear hQ0 hH s100 s99
                  intro Q hQ
                  repeat go_step
                  exact hQ _ _ (Grow.refl _) rfl rfl
            refine obls_cons (fun f w' hR hH Q0 hQ0 => ?_) ?_
            · skip
              have s99 := (sv_at 99 9 hsz f [(99, 9), (101, 11)] rfl).trans (show f 9 = _ from hH.get 0 (99, 9) rfl)
              have s101 := (sv_at 101 11 hsz f [(99, 9), (101, 11)] rfl).trans (show f 11 = _ from hH.get 1 (101, 11) rfl)
              refine small_v hsz [(99, _), (101, _)] ⟨some 2, (Op.pick (.tmp 0) (.tmp 1) (Operand.const (Value.bool false))), 4, "", #[], none⟩ [_, _, undef] 2 rfl rfl ⟨s99, s101, trivial⟩ rfl rfl hQ0 ?_
              clear hQ0 hH s99 s101
              intro Q hQ
              repeat go_step
              exact hQ _ _ (Grow.refl _) rfl rfl
            refine obls_cons (fun f w' hR hH Q0 hQ0 => ?_) ?_
            · skip
              have s102 := (sv_at 102 12 hsz f [(102, 12)] rfl).trans (show f 12 = _ from hH.get 0 (102, 12) rfl)
              refine small_v hsz [(102, _)] ⟨some 1, (Op.move (.tmp 0)), 4, "", #[], none⟩ [_, undef] 1 rfl rfl ⟨s102, trivial⟩ rfl rfl hQ0 ?_
              clear hQ0 hH s102
              intro Q hQ
              repeat go_step
              exact hQ _ _ (Grow.refl _) rfl rfl
            refine obls_cons (fun f w' hR hH Q0 hQ0 => ?_) ?_
            · skip
              have s11 := sv_off f [(103, 13)] e11 rfl
              have s103 := (sv_at 103 13 hsz f [(103, 13)] rfl).trans (show f 13 = _ from hH.get 0 (103, 13) rfl)
              first
                | exact skip_v hsz rfl ((wanted_some (b := false) rfl rfl s103).trans rfl) hQ0 (Grow.refl _) rfl
                | exact skip_v hsz rfl (wanted_undef rfl rfl s103) hQ0 (Grow.refl _) rfl
                | refine small_v hsz [(11, _)] ⟨some 1, (Op.move (.tmp 0)), 24, "", #[], none⟩ [_, undef] 1 rfl ((wanted_some (b := true) rfl rfl s103).trans rfl) ⟨s11, trivial⟩ rfl rfl hQ0 ?_
                  clear hQ0 hH s11 s103
                  intro Q hQ
                  repeat go_step
                  exact hQ _ _ (Grow.refl _) rfl rfl
            refine obls_cons (fun f w' hR hH Q0 hQ0 => ?_) ?_
            · skip
              have s3 := sv_off f [(103, 13)] e3 rfl
              have s103 := (sv_at 103 13 hsz f [(103, 13)] rfl).trans (show f 13 = _ from hH.get 0 (103, 13) rfl)
              first
                | exact skip_v hsz rfl ((wanted_some (b := false) rfl rfl s103).trans rfl) hQ0 (Grow.refl _) rfl
                | exact skip_v hsz rfl (wanted_undef rfl rfl s103) hQ0 (Grow.refl _) rfl
                | refine small_v hsz [(3, _)] ⟨some 1, (Op.load 37 (.tmp 0)), 37, "", #[], none⟩ [_, undef] 1 rfl ((wanted_some (b := true) rfl rfl s103).trans rfl) ⟨s3, trivial⟩ rfl rfl hQ0 ?_
                  clear hQ0 hH s3 s103
                  intro Q hQ
                  have hb := HBX.out.grow (HG6.out.trans hR)
                  refine load_blk rfl _ _ rfl b0 rfl _ _ _ hb undV rfl (by rw [sizeV, HCV.out]) ?_
                  exact hQ _ _ (Grow.refl _) rfl rfl
            refine obls_cons (fun f w' hR hH Q0 hQ0 => ?_) ?_
            · skip
              have s104 := (sv_at 104 14 hsz f [(104, 14), (105, 15), (103, 13)] rfl).trans (show f 14 = _ from hH.get 0 (104, 14) rfl)
              have s105 := (sv_at 105 15 hsz f [(104, 14), (105, 15), (103, 13)] rfl).trans (show f 15 = _ from hH.get 1 (105, 15) rfl)
              have s103 := (sv_at 103 13 hsz f [(104, 14), (105, 15), (103, 13)] rfl).trans (show f 13 = _ from hH.get 2 (103, 13) rfl)
              first
                | exact skip_v hsz rfl ((wanted_some (b := false) rfl rfl s103).trans rfl) hQ0 (Grow.refl _) rfl
                | exact skip_v hsz rfl (wanted_undef rfl rfl s103) hQ0 (Grow.refl _) rfl
                | refine small_v hsz [(104, _), (105, _)] ⟨some 2, (Op.call (Call.mk (Callee.value (Operand.func 20)) #[(.tmp 0), (.tmp 1)] #[24, 37])), 50, "", #[], none⟩ [_, _, undef] 2 rfl ((wanted_some (b := true) rfl rfl s103).trans rfl) ⟨s104, s105, trivial⟩ rfl (ren_call rfl rfl) hQ0 ?_
                  clear hQ0 hH s104 s105 s103
                  intro Q hQ
                  go_wp2_with (go_at_call 20; refine (HON.out _).mono ?_; rintro e w1 ⟨rfl, hg1⟩)
                  exact hQ _ _ hg1 rfl rfl
            refine obls_cons (fun f w' hR hH Q0 hQ0 => ?_) ?_
            · skip
              have s106 := (sv_at 106 16 hsz f [(106, 16), (103, 13)] rfl).trans (show f 16 = _ from hH.get 0 (106, 16) rfl)
              have s103 := (sv_at 103 13 hsz f [(106, 16), (103, 13)] rfl).trans (show f 13 = _ from hH.get 1 (103, 13) rfl)
              first
                | exact skip_v hsz rfl ((wanted_some (b := false) rfl rfl s103).trans rfl) hQ0 (Grow.refl _) rfl
                | exact skip_v hsz rfl (wanted_undef rfl rfl s103) hQ0 (Grow.refl _) rfl
                | refine small_v hsz [(106, _)] ⟨some 1, (Op.call (Call.mk (Callee.builtin Builtin.len) #[(.tmp 0)] #[50])), 3, "", #[], none⟩ [_, undef] 1 rfl ((wanted_some (b := true) rfl rfl s103).trans rfl) ⟨s106, trivial⟩ rfl (ren_builtin rfl rfl) hQ0 ?_
                  clear hQ0 hH s106 s103
                  intro Q hQ
                  repeat go_step
                  exact hQ _ _ (Grow.refl _) rfl rfl
            refine obls_cons (fun f w' hR hH Q0 hQ0 => ?_) ?_
            · skip
              have s11 := sv_off f [(103, 13)] e11 rfl
              have s103 := (sv_at 103 13 hsz f [(103, 13)] rfl).trans (show f 13 = _ from hH.get 0 (103, 13) rfl)
              first
                | exact skip_v hsz rfl ((wanted_some (b := false) rfl rfl s103).trans rfl) hQ0 (Grow.refl _) rfl
                | exact skip_v hsz rfl (wanted_undef rfl rfl s103) hQ0 (Grow.refl _) rfl
                | refine small_v hsz [(11, _)] ⟨some 1, (Op.move (.tmp 0)), 24, "", #[], none⟩ [_, undef] 1 rfl ((wanted_some (b := true) rfl rfl s103).trans rfl) ⟨s11, trivial⟩ rfl rfl hQ0 ?_
                  clear hQ0 hH s11 s103
                  intro Q hQ
                  repeat go_step
                  exact hQ _ _ (Grow.refl _) rfl rfl
            refine obls_cons (fun f w' hR hH Q0 hQ0 => ?_) ?_
            · skip
              have s3 := sv_off f [(103, 13)] e3 rfl
              have s103 := (sv_at 103 13 hsz f [(103, 13)] rfl).trans (show f 13 = _ from hH.get 0 (103, 13) rfl)
              first
                | exact skip_v hsz rfl ((wanted_some (b := false) rfl rfl s103).trans rfl) hQ0 (Grow.refl _) rfl
                | exact skip_v hsz rfl (wanted_undef rfl rfl s103) hQ0 (Grow.refl _) rfl
                | refine small_v hsz [(3, _)] ⟨some 1, (Op.load 37 (.tmp 0)), 37, "", #[], none⟩ [_, undef] 1 rfl ((wanted_some (b := true) rfl rfl s103).trans rfl) ⟨s3, trivial⟩ rfl rfl hQ0 ?_
                  clear hQ0 hH s3 s103
                  intro Q hQ
                  have hb := HBX.out.grow (HG6.out.trans hR)
                  refine load_blk rfl _ _ rfl b0 rfl _ _ _ hb undV rfl (by rw [sizeV, HCV.out]) ?_
                  exact hQ _ _ (Grow.refl _) rfl rfl
            refine obls_cons (fun f w' hR hH Q0 hQ0 => ?_) ?_
            · skip
              have s108 := (sv_at 108 18 hsz f [(108, 18), (109, 19), (103, 13)] rfl).trans (show f 18 = _ from hH.get 0 (108, 18) rfl)
              have s109 := (sv_at 109 19 hsz f [(108, 18), (109, 19), (103, 13)] rfl).trans (show f 19 = _ from hH.get 1 (109, 19) rfl)
              have s103 := (sv_at 103 13 hsz f [(108, 18), (109, 19), (103, 13)] rfl).trans (show f 13 = _ from hH.get 2 (103, 13) rfl)
              first
                | exact skip_v hsz rfl ((wanted_some (b := false) rfl rfl s103).trans rfl) hQ0 (Grow.refl _) rfl
                | exact skip_v hsz rfl (wanted_undef rfl rfl s103) hQ0 (Grow.refl _) rfl
                | refine small_v hsz [(108, _), (109, _)] ⟨some 2, (Op.call (Call.mk (Callee.value (Operand.func 22)) #[(.tmp 0), (.tmp 1)] #[24, 37])), 50, "", #[], none⟩ [_, _, undef] 2 rfl ((wanted_some (b := true) rfl rfl s103).trans rfl) ⟨s108, s109, trivial⟩ rfl (ren_call rfl rfl) hQ0 ?_
                  clear hQ0 hH s108 s109 s103
                  intro Q hQ
                  go_wp2_with (go_at_call 22; refine (HWN.out _).mono ?_; rintro e w1 ⟨rfl, hg1⟩)
                  exact hQ _ _ hg1 rfl rfl
            refine obls_cons (fun f w' hR hH Q0 hQ0 => ?_) ?_
            · skip
              have s110 := (sv_at 110 20 hsz f [(110, 20), (103, 13)] rfl).trans (show f 20 = _ from hH.get 0 (110, 20) rfl)
              have s103 := (sv_at 103 13 hsz f [(110, 20), (103, 13)] rfl).trans (show f 13 = _ from hH.get 1 (103, 13) rfl)
              first
                | exact skip_v hsz rfl ((wanted_some (b := false) rfl rfl s103).trans rfl) hQ0 (Grow.refl _) rfl
                | exact skip_v hsz rfl (wanted_undef rfl rfl s103) hQ0 (Grow.refl _) rfl
                | refine small_v hsz [(110, _)] ⟨some 1, (Op.call (Call.mk (Callee.builtin Builtin.len) #[(.tmp 0)] #[50])), 3, "", #[], none⟩ [_, undef] 1 rfl ((wanted_some (b := true) rfl rfl s103).trans rfl) ⟨s110, trivial⟩ rfl (ren_builtin rfl rfl) hQ0 ?_
                  clear hQ0 hH s110 s103
                  intro Q hQ
                  repeat go_step
                  exact hQ _ _ (Grow.refl _) rfl rfl
            refine obls_cons (fun f w' hR hH Q0 hQ0 => ?_) ?_
            · skip
              have s107 := (sv_at 107 17 hsz f [(107, 17), (111, 21), (103, 13)] rfl).trans (show f 17 = _ from hH.get 0 (107, 17) rfl)
              have s111 := (sv_at 111 21 hsz f [(107, 17), (111, 21), (103, 13)] rfl).trans (show f 21 = _ from hH.get 1 (111, 21) rfl)
              have s103 := (sv_at 103 13 hsz f [(107, 17), (111, 21), (103, 13)] rfl).trans (show f 13 = _ from hH.get 2 (103, 13) rfl)
              first
                | exact skip_v hsz rfl ((wanted_some (b := false) rfl rfl s103).trans rfl) hQ0 (Grow.refl _) rfl
                | exact skip_v hsz rfl (wanted_undef rfl rfl s103) hQ0 (Grow.refl _) rfl
                | refine small_v hsz [(107, _), (111, _)] ⟨some 2, (Op.binOp BinOp.add 3 (.tmp 0) (.tmp 1) 3), 3, "", #[], none⟩ [_, _, undef] 2 rfl ((wanted_some (b := true) rfl rfl s103).trans rfl) ⟨s107, s111, trivial⟩ rfl rfl hQ0 ?_
                  clear hQ0 hH s107 s111 s103
                  intro Q hQ
                  repeat go_step
                  exact hQ _ _ (Grow.refl _) rfl rfl
            refine obls_cons (fun f w' hR hH Q0 hQ0 => ?_) ?_
            · skip
              have s11 := sv_off f [(103, 13)] e11 rfl
              have s103 := (sv_at 103 13 hsz f [(103, 13)] rfl).trans (show f 13 = _ from hH.get 0 (103, 13) rfl)
              first
                | exact skip_v hsz rfl ((wanted_some (b := false) rfl rfl s103).trans rfl) hQ0 (Grow.refl _) rfl
                | exact skip_v hsz rfl (wanted_undef rfl rfl s103) hQ0 (Grow.refl _) rfl
                | refine small_v hsz [(11, _)] ⟨some 1, (Op.move (.tmp 0)), 24, "", #[], none⟩ [_, undef] 1 rfl ((wanted_some (b := true) rfl rfl s103).trans rfl) ⟨s11, trivial⟩ rfl rfl hQ0 ?_
                  clear hQ0 hH s11 s103
                  intro Q hQ
                  repeat go_step
                  exact hQ _ _ (Grow.refl _) rfl rfl
            refine obls_cons (fun f w' hR hH Q0 hQ0 => ?_) ?_
            · skip
              have s113 := (sv_at 113 23 hsz f [(113, 23), (103, 13)] rfl).trans (show f 23 = _ from hH.get 0 (113, 23) rfl)
              have s103 := (sv_at 103 13 hsz f [(113, 23), (103, 13)] rfl).trans (show f 13 = _ from hH.get 1 (103, 13) rfl)
              first
                | exact skip_v hsz rfl ((wanted_some (b := false) rfl rfl s103).trans rfl) hQ0 (Grow.refl _) rfl
                | exact skip_v hsz rfl (wanted_undef rfl rfl s103) hQ0 (Grow.refl _) rfl
                | refine small_v hsz [(113, _)] ⟨some 1, (Op.call (Call.mk (Callee.value (Operand.func 25)) #[(.tmp 0)] #[24])), 55, "", #[], none⟩ [_, undef] 1 rfl ((wanted_some (b := true) rfl rfl s103).trans rfl) ⟨s113, trivial⟩ rfl (ren_call rfl rfl) hQ0 ?_
                  clear hQ0 hH s113 s103
                  intro Q hQ
                  go_wp2_with (go_at_call 25; refine (all_nil _).mono ?_; rintro e w1 ⟨rfl, hg1⟩)
                  exact hQ _ _ hg1 rfl rfl
            refine obls_cons (fun f w' hR hH Q0 hQ0 => ?_) ?_
            · skip
              have s114 := (sv_at 114 24 hsz f [(114, 24), (103, 13)] rfl).trans (show f 24 = _ from hH.get 0 (114, 24) rfl)
              have s103 := (sv_at 103 13 hsz f [(114, 24), (103, 13)] rfl).trans (show f 13 = _ from hH.get 1 (103, 13) rfl)
              first
                | exact skip_v hsz rfl ((wanted_some (b := false) rfl rfl s103).trans rfl) hQ0 (Grow.refl _) rfl
                | exact skip_v hsz rfl (wanted_undef rfl rfl s103) hQ0 (Grow.refl _) rfl
                | refine small_v hsz [(114, _)] ⟨some 1, (Op.call (Call.mk (Callee.builtin Builtin.len) #[(.tmp 0)] #[55])), 3, "", #[], none⟩ [_, undef] 1 rfl ((wanted_some (b := true) rfl rfl s103).trans rfl) ⟨s114, trivial⟩ rfl (ren_builtin rfl rfl) hQ0 ?_
                  clear hQ0 hH s114 s103
                  intro Q hQ
                  repeat go_step
                  exact hQ _ _ (Grow.refl _) rfl rfl
            refine obls_cons (fun f w' hR hH Q0 hQ0 => ?_) ?_
            · skip
              have s112 := (sv_at 112 22 hsz f [(112, 22), (115, 25), (103, 13)] rfl).trans (show f 22 = _ from hH.get 0 (112, 22) rfl)
              have s115 := (sv_at 115 25 hsz f [(112, 22), (115, 25), (103, 13)] rfl).trans (show f 25 = _ from hH.get 1 (115, 25) rfl)
              have s103 := (sv_at 103 13 hsz f [(112, 22), (115, 25), (103, 13)] rfl).trans (show f 13 = _ from hH.get 2 (103, 13) rfl)
              first
                | exact skip_v hsz rfl ((wanted_some (b := false) rfl rfl s103).trans rfl) hQ0 (Grow.refl _) rfl
                | exact skip_v hsz rfl (wanted_undef rfl rfl s103) hQ0 (Grow.refl _) rfl
                | refine small_v hsz [(112, _), (115, _)] ⟨some 2, (Op.binOp BinOp.add 3 (.tmp 0) (.tmp 1) 3), 3, "", #[], none⟩ [_, _, undef] 2 rfl ((wanted_some (b := true) rfl rfl s103).trans rfl) ⟨s112, s115, trivial⟩ rfl rfl hQ0 ?_
                  clear hQ0 hH s112 s115 s103
                  intro Q hQ
                  repeat go_step
                  exact hQ _ _ (Grow.refl _) rfl rfl
            refine obls_cons (fun f w' hR hH Q0 hQ0 => ?_) ?_
            · skip
              have s11 := sv_off f [(103, 13)] e11 rfl
              have s103 := (sv_at 103 13 hsz f [(103, 13)] rfl).trans (show f 13 = _ from hH.get 0 (103, 13) rfl)
              first
                | exact skip_v hsz rfl ((wanted_some (b := false) rfl rfl s103).trans rfl) hQ0 (Grow.refl _) rfl
                | exact skip_v hsz rfl (wanted_undef rfl rfl s103) hQ0 (Grow.refl _) rfl
                | refine small_v hsz [(11, _)] ⟨some 1, (Op.move (.tmp 0)), 24, "", #[], none⟩ [_, undef] 1 rfl ((wanted_some (b := true) rfl rfl s103).trans rfl) ⟨s11, trivial⟩ rfl rfl hQ0 ?_
                  clear hQ0 hH s11 s103
                  intro Q hQ
                  repeat go_step
                  exact hQ _ _ (Grow.refl _) rfl rfl
            refine obls_cons (fun f w' hR hH Q0 hQ0 => ?_) ?_
            · skip
              have s117 := (sv_at 117 27 hsz f [(117, 27), (103, 13)] rfl).trans (show f 27 = _ from hH.get 0 (117, 27) rfl)
              have s103 := (sv_at 103 13 hsz f [(117, 27), (103, 13)] rfl).trans (show f 13 = _ from hH.get 1 (103, 13) rfl)
              first
                | exact skip_v hsz rfl ((wanted_some (b := false) rfl rfl s103).trans rfl) hQ0 (Grow.refl _) rfl
                | exact skip_v hsz rfl (wanted_undef rfl rfl s103) hQ0 (Grow.refl _) rfl
                | refine small_v hsz [(117, _)] ⟨some 1, (Op.call (Call.mk (Callee.value (Operand.func 10)) #[(.tmp 0)] #[24])), 22, "", #[], none⟩ [_, undef] 1 rfl ((wanted_some (b := true) rfl rfl s103).trans rfl) ⟨s117, trivial⟩ rfl (ren_call rfl rfl) hQ0 ?_
                  clear hQ0 hH s117 s103
                  intro Q hQ
                  go_wp2_with (go_at_call 10; refine (bytes_nil _).mono ?_; rintro e w1 ⟨rfl, hg1⟩)
                  exact hQ _ _ hg1 rfl rfl
            refine obls_cons (fun f w' hR hH Q0 hQ0 => ?_) ?_
            · skip
              have s118 := (sv_at 118 28 hsz f [(118, 28), (103, 13)] rfl).trans (show f 28 = _ from hH.get 0 (118, 28) rfl)
              have s103 := (sv_at 103 13 hsz f [(118, 28), (103, 13)] rfl).trans (show f 13 = _ from hH.get 1 (103, 13) rfl)
              first
                | exact skip_v hsz rfl ((wanted_some (b := false) rfl rfl s103).trans rfl) hQ0 (Grow.refl _) rfl
                | exact skip_v hsz rfl (wanted_undef rfl rfl s103) hQ0 (Grow.refl _) rfl
                | refine small_v hsz [(118, _)] ⟨some 1, (Op.call (Call.mk (Callee.builtin Builtin.len) #[(.tmp 0)] #[22])), 3, "", #[], none⟩ [_, undef] 1 rfl ((wanted_some (b := true) rfl rfl s103).trans rfl) ⟨s118, trivial⟩ rfl (ren_builtin rfl rfl) hQ0 ?_
                  clear hQ0 hH s118 s103
                  intro Q hQ
                  repeat go_step
                  exact hQ _ _ (Grow.refl _) rfl rfl
            refine obls_cons (fun f w' hR hH Q0 hQ0 => ?_) ?_
            · skip
              have s116 := (sv_at 116 26 hsz f [(116, 26), (119, 29), (103, 13)] rfl).trans (show f 26 = _ from hH.get 0 (116, 26) rfl)
              have s119 := (sv_at 119 29 hsz f [(116, 26), (119, 29), (103, 13)] rfl).trans (show f 29 = _ from hH.get 1 (119, 29) rfl)
              have s103 := (sv_at 103 13 hsz f [(116, 26), (119, 29), (103, 13)] rfl).trans (show f 13 = _ from hH.get 2 (103, 13) rfl)
              first
                | exact skip_v hsz rfl ((wanted_some (b := false) rfl rfl s103).trans rfl) hQ0 (Grow.refl _) rfl
                | exact skip_v hsz rfl (wanted_undef rfl rfl s103) hQ0 (Grow.refl _) rfl
                | refine small_v hsz [(116, _), (119, _)] ⟨some 2, (Op.binOp BinOp.add 3 (.tmp 0) (.tmp 1) 3), 3, "", #[], none⟩ [_, _, undef] 2 rfl ((wanted_some (b := true) rfl rfl s103).trans rfl) ⟨s116, s119, trivial⟩ rfl rfl hQ0 ?_
                  clear hQ0 hH s116 s119 s103
                  intro Q hQ
                  repeat go_step
                  exact hQ _ _ (Grow.refl _) rfl rfl
            refine obls_cons (fun f w' hR hH Q0 hQ0 => ?_) ?_
            · skip
              have s120 := (sv_at 120 30 hsz f [(120, 30), (103, 13)] rfl).trans (show f 30 = _ from hH.get 0 (120, 30) rfl)
              have s103 := (sv_at 103 13 hsz f [(120, 30), (103, 13)] rfl).trans (show f 13 = _ from hH.get 1 (103, 13) rfl)
              first
                | exact skip_v hsz rfl ((wanted_some (b := false) rfl rfl s103).trans rfl) hQ0 (Grow.refl _) rfl
                | exact skip_v hsz rfl (wanted_undef rfl rfl s103) hQ0 (Grow.refl _) rfl
                | refine small_v hsz [(120, _)] ⟨some 1, (Op.binOp BinOp.eql 3 (.tmp 0) (Operand.const (Value.int IntKind.i64 0)) 3), 4, "", #[], none⟩ [_, undef] 1 rfl ((wanted_some (b := true) rfl rfl s103).trans rfl) ⟨s120, trivial⟩ rfl rfl hQ0 ?_
                  clear hQ0 hH s120 s103
                  intro Q hQ
                  repeat go_step
                  exact hQ _ _ (Grow.refl _) rfl rfl
            refine obls_cons (fun f w' hR hH Q0 hQ0 => ?_) ?_
            · skip
              have s103 := (sv_at 103 13 hsz f [(103, 13), (121, 31)] rfl).trans (show f 13 = _ from hH.get 0 (103, 13) rfl)
              have s121 := (sv_at 121 31 hsz f [(103, 13), (121, 31)] rfl).trans (show f 31 = _ from hH.get 1 (121, 31) rfl)
              refine small_v hsz [(103, _), (121, _)] ⟨some 2, (Op.pick (.tmp 0) (.tmp 1) (Operand.const (Value.bool false))), 4, "", #[], none⟩ [_, _, undef] 2 rfl rfl ⟨s103, s121, trivial⟩ rfl rfl hQ0 ?_
              clear hQ0 hH s103 s121
              intro Q hQ
              repeat go_step
              exact hQ _ _ (Grow.refl _) rfl rfl
            refine obls_cons (fun f w' hR hH Q0 hQ0 => ?_) ?_
            · skip
              have s122 := (sv_at 122 32 hsz f [(122, 32)] rfl).trans (show f 32 = _ from hH.get 0 (122, 32) rfl)
              refine small_v hsz [(122, _)] ⟨some 1, (Op.move (.tmp 0)), 4, "", #[], none⟩ [_, undef] 1 rfl rfl ⟨s122, trivial⟩ rfl rfl hQ0 ?_
              clear hQ0 hH s122
              intro Q hQ
              repeat go_step
              exact hQ _ _ (Grow.refl _) rfl rfl
            refine obls_cons (fun f w' hR hH Q0 hQ0 => ?_) ?_
            · skip
              have s123 := (sv_at 123 33 hsz f [(123, 33)] rfl).trans (show f 33 = _ from hH.get 0 (123, 33) rfl)
              first
                | exact skip_v hsz rfl ((wanted_some (b := false) rfl rfl s123).trans rfl) hQ0 (Grow.refl _) rfl
                | exact skip_v hsz rfl (wanted_undef rfl rfl s123) hQ0 (Grow.refl _) rfl
                | refine small_v hsz [] ⟨some 0, (Op.call (Call.mk (Callee.value (Operand.func 6)) #[] #[])), 4, "", #[], none⟩ [undef] 0 rfl ((wanted_some (b := true) rfl rfl s123).trans rfl) trivial rfl (ren_call rfl rfl) hQ0 ?_
                  clear hQ0 hH s123
                  intro Q hQ
                  go_wp2_with (go_at_call 6; refine (works_any _).mono ?_; rintro e w1 ⟨rfl, hg1⟩)
                  exact hQ _ _ hg1 rfl rfl
            refine obls_cons (fun f w' hR hH Q0 hQ0 => ?_) ?_
            · skip
              have s123 := (sv_at 123 33 hsz f [(123, 33), (124, 34)] rfl).trans (show f 33 = _ from hH.get 0 (123, 33) rfl)
              have s124 := (sv_at 124 34 hsz f [(123, 33), (124, 34)] rfl).trans (show f 34 = _ from hH.get 1 (124, 34) rfl)
              refine small_v hsz [(123, _), (124, _)] ⟨some 2, (Op.pick (.tmp 0) (.tmp 1) (Operand.const (Value.bool false))), 4, "", #[], none⟩ [_, _, undef] 2 rfl rfl ⟨s123, s124, trivial⟩ rfl rfl hQ0 ?_
              clear hQ0 hH s123 s124
              intro Q hQ
              repeat go_step
              exact hQ _ _ (Grow.refl _) rfl rfl
            refine obls_cons (fun f w' hR hH Q0 hQ0 => ?_) ?_
            · skip
              have s125 := (sv_at 125 35 hsz f [(125, 35)] rfl).trans (show f 35 = _ from hH.get 0 (125, 35) rfl)
              refine small_v hsz [(125, _)] ⟨some 1, (Op.assign (.tmp 0)), 4, "", #[], none⟩ [_, undef] 1 rfl rfl ⟨s125, trivial⟩ rfl rfl hQ0 ?_
              clear hQ0 hH s125
              intro Q hQ
              repeat go_step
              exact hQ _ _ (Grow.refl _) rfl rfl
            exact obls_nil
          case mono => exact ⟨Mono.veq _, Mono.veq _, Mono.veq _, Mono.veq _, Mono.veq _, Mono.veq _, Mono.veq _, Mono.veq _, Mono.veq _, Mono.veq _, Mono.veq _, Mono.veq _, Mono.veq _, Mono.veq _, Mono.veq _, Mono.veq _, Mono.veq _, Mono.veq _, Mono.veq _, Mono.veq _, Mono.veq _, Mono.veq _, Mono.veq _, Mono.veq _, Mono.veq _, Mono.veq _, Mono.veq _, Mono.veq _, Mono.veq _, Mono.veq _, Mono.veq _, Mono.veq _, Mono.veq _, Mono.veq _, Mono.veq _, Mono.veq _, Mono.veq _, trivial⟩
          case tail =>
            intro f w' hR hH
            have q36 := hH.get 36 (4, 36) rfl
            clear hH
            refine wpList_merge (idx := [none, none, none, none, some 36, none, none, none, none, none, none, none, none, none, none, none, none, none, none, none, none, none, none, none, none, none, none, none, none, none, none, none, none, none, none, none, none, none, none, none, none, none, none, none, none, none, none, none, none, none, none, none, none, none, none, none, none, none, none, none, none, none, none, none, none, none, none, none, none, none, none, none, none, none, none, none, none, none, none, none, none, none, none, none, none, none, none, none, none, none, some 0, some 1, some 2, some 3, some 4, some 5, some 6, some 7, some 8, some 9, some 10, some 11, some 12, some 13, some 14, some 15, some 16, some 17, some 18, some 19, some 20, some 21, some 22, some 23, some 24, some 25, some 26, some 27, some 28, some 29, some 30, some 31, some 32, some 33, some 34, some 35]) (by kernel_rfl) ?_; show wpList _ _ _ [] ⟨#[_, _, _, _, f 36, _, _, _, _, _, _, _, _, _, _, _, _, _, _, _, _, _, _, _, _, _, _, _, _, _, _, _, _, _, _, _, _, _, _, _, _, _, _, _, _, _, _, _, _, _, _, _, _, _, _, _, _, _, _, _, _, _, _, _, _, _, _, _, _, _, _, _, _, _, _, _, _, _, _, _, _, _, _, _, _, _, _, _, _, _, f 0, f 1, f 2, f 3, f 4, f 5, f 6, f 7, f 8, f 9, f 10, f 11, f 12, f 13, f 14, f 15, f 16, f 17, f 18, f 19, f 20, f 21, f 22, f 23, f 24, f 25, f 26, f 27, f 28, f 29, f 30, f 31, f 32, f 33, f 34, f 35], _⟩ _
            rw [show f 36 = _ from q36]
            clear q36
            have HR6 := Lib.hid (HG0.out.trans (HG6.out.trans hR))
            clear hR
            go_wp2_with fail
            go_ret
            exact ⟨rfl, HR6.out⟩
end Go.Proofs.Ythclgmpjmhacdaa.tg
