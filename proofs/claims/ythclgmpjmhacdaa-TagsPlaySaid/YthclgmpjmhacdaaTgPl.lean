/- The walk of TagsPlay. -/
import Derived.Test.YthclgmpjmhacdaaTgH
import Derived.Test.YthclgmpjmhacdaaTgG
import Derived.Test.YthclgmpjmhacdaaTgR3
namespace Go.Proofs.Ythclgmpjmhacdaa.tg
open Go Go.RowKit Go.Par Go.Kit

theorem names_le (p : List Int → Bool) (L : List Tag) : (namesT p L).length ≤ L.length := by
  unfold namesT
  rw [List.length_map]
  exact List.length_filter_le _ _
/-- the document's tags lie in no map -/
theorem RT.keep {w w' : World} {B g bs bn n : Nat} {v : Value} {L L2 : List Tag} (h : RT w v L) (hT : TagI w B g bs bn n L2) (hk : Keep B (Kt bs bn) w w') : RT w' v L := by
  obtain ⟨A, c, rfl, h1, h2, h3⟩ := h
  refine ⟨A, c, rfl, h1, h2, h3.keep hk fun hn ad had => .inr ?_⟩
  obtain ⟨b, off, u, e, -, hc⟩ := Row.at_ h3 hn
  rw [e] at had
  injection had with had
  subst had
  obtain ⟨D, ⟨es, clock, m1, -⟩, -⟩ := hT.mt
  obtain ⟨D2, ⟨es2, clock2, m2, -⟩, -⟩ := hT.mn
  refine ⟨fun e9 => ?_, fun e9 => ?_⟩
  · simp only at e9; subst e9; simp [World.cell?, m1] at hc
  · simp only at e9; subst e9; simp [World.cell?, m2] at hc
/-- what the document's Set hands back -/
def IsRE (L : List Tag) (e : Int) (v : Value) (w : World) : Prop := ∃ v', v = .tuple #[v', .int .i64 e] ∧ RT w v' L
theorem IsRE.mono {L : List Tag} {e : Int} : Mono Grow (IsRE L e) := fun _ _ _ ⟨v', h, k⟩ hg => ⟨v', h, k.grow hg⟩
def IsRT (L : List Tag) (v : Value) (w : World) : Prop := RT w v L
theorem IsRT.mono {L : List Tag} : Mono Grow (IsRT L) := fun _ _ _ h hg => h.grow hg
section
variable {w : World} {B g bs bn n : Nat} {L : List Tag}
theorem ofS (h : TagI w B g bs bn n L) (hn : n ≤ 1000000) (v : List Int) (hv : VecOk v) : Calls Try.prog 20 #[.pointer (some ⟨g, 0, none⟩), vv v] w fun e w' => ∃ u, e = .returned u ∧ IsT (namesT (fun a => a == v) L) u w' ∧ Grow w w' := by
  refine (of_any h hn v hv).mono ?_
  rintro e w' ⟨u, rfl, ho, hg⟩
  exact ⟨u, rfl, IsT.own ho, hg⟩
theorem winS (h : TagI w B g bs bn n L) (hn : n ≤ 1000000) (v : List Int) (hv : VecOk v) : Calls Try.prog 22 #[.pointer (some ⟨g, 0, none⟩), vv v] w fun e w' => ∃ u, e = .returned u ∧ IsT (namesT (fun a => withinV a v) L) u w' ∧ Grow w w' := by
  refine (win_any h hn v hv).mono ?_
  rintro e w' ⟨u, rfl, ho, hg⟩
  exact ⟨u, rfl, IsT.own ho, hg⟩
theorem rofS {x : Value} (hr : RT w x L) (ok : OkT L) (v : List Int) (hv : VecOk v) : Calls Try.prog 21 #[x, vv v] w fun e w' => ∃ u, e = .returned u ∧ IsT (namesT (fun a => a == v) L) u w' ∧ Grow w w' := by
  refine (rof_any w x L hr (fun t ht => (ok.ok t ht).2.1) (by have := ok.len; omega) v hv).mono ?_
  rintro e w' ⟨u, rfl, ho, hg⟩
  exact ⟨u, rfl, IsT.own ho, hg⟩
theorem rwinS {x : Value} (hr : RT w x L) (ok : OkT L) (v : List Int) (hv : VecOk v) : Calls Try.prog 23 #[x, vv v] w fun e w' => ∃ u, e = .returned u ∧ IsT (namesT (fun a => withinV a v) L) u w' ∧ Grow w w' := by
  refine (rwin_any w x L hr (fun t ht => (ok.ok t ht).2.1) (by have := ok.len; omega) v hv).mono ?_
  rintro e w' ⟨u, rfl, ho, hg⟩
  exact ⟨u, rfl, IsT.own ho, hg⟩
theorem rgetS {x : Value} (hr : RT w x L) (ok : OkT L) (s : List UInt8) : Calls Try.prog 18 #[x, .string (str s)] w fun e w' => e = .returned (.tuple #[vv (getT L s), .bool (hasT L s)]) ∧ Grow w w' := by
  obtain ⟨A, c, rfl, -, -, h3⟩ := hr
  exact rget_any w A c L h3 (fun t ht => (ok.ok t ht).2.1) (by have := ok.len; omega) s
theorem rsetS {x : Value} (hr : RT w x L) (ok : OkT L) (s : List UInt8) (hs : s.length ≤ maxLen) (v : List Int) (hv : VecOk v) : Calls Try.prog 13 #[x, .string (str s), vv v] w fun e w' => (∃ u, e = .returned u ∧ IsRE (if setE L s v = 0 then setT L s v else L) (setE L s v) u w') ∧ Grow w w' := by
  refine (rset_any w x L hr (fun t ht => (ok.ok t ht).2.1) (by have := ok.len; omega) s hs v hv).mono ?_
  rintro e w' ⟨⟨v', rfl, h1⟩, hg⟩
  exact ⟨⟨_, rfl, v', rfl, h1⟩, hg⟩
theorem rdropS {x : Value} (hr : RT w x L) (ok : OkT L) (s : List UInt8) : Calls Try.prog 15 #[x, .string (str s)] w fun e w' => (∃ v', e = .returned (.tuple #[v', .int .i64 (dropE L s)]) ∧ RT w' v' (delT L s)) ∧ Grow w w' :=
  rdrop_any w x L hr (fun t ht => (ok.ok t ht).2.1) (by have := ok.len; omega) s
theorem bytesI (h : TagI w B g bs bn n L) (hn : n ≤ 1000000) : Calls Try.prog 10 #[.pointer (some ⟨g, 0, none⟩)] w fun e w' => ∃ u, e = .returned u ∧ IsSl (encT L) u w' ∧ Grow w w' := by
  refine (tbytes_any h hn).mono ?_
  rintro e w' ⟨u, rfl, ho, hg⟩
  exact ⟨u, rfl, own_sl ho, hg⟩
theorem rbytesI {x : Value} (hr : RT w x L) (ok : OkT L) : Calls Try.prog 24 #[x] w fun e w' => ∃ u, e = .returned u ∧ IsSl (encT L) u w' ∧ Grow w w' := by
  refine (rbytes_any w x L hr (fun t ht => ⟨(ok.ok t ht).2.1, ok_names ok t ht⟩) (by have := ok.len; omega)).mono ?_
  rintro e w' ⟨u, rfl, ho, hg⟩
  exact ⟨u, rfl, own_sl ho, hg⟩
end
/-- the two sides stand alike, and have answered alike -/
def PlayJ (W0 : World) (g bs bn m : Nat) (f : Nat → Value) (w' : World) : Prop := ∃ (L : List Tag) (e : Int), f 8 = .int .i64 e ∧ f 9 = .int .i64 e ∧ TagI w' W0.heap.size g bs bn m L ∧ RT w' (f 6) L ∧ Grow W0 w'
set_option maxRecDepth 100000 in
set_option maxHeartbeats 4000000 in
theorem play_walk (w : World) (A : Option Addr) (n c : Nat) (l : List Ac) (ha : Acts w A n l) (hn : n ≤ maxLen) (v : List Int) (hv : VecOk v) :
    Calls Try.prog 4 #[.slice A n c, vv v] w fun r w' => r = .returned (.bool true) ∧ Grow w w' := by
  have hvi := ints_ok hv
  have HVV := Lib.hid hv
  unfold vv
  obtain ⟨cv, hcv⟩ : ∃ A, A = ints .u16 v := ⟨_, rfl⟩
  rw [← hcv] at hvi ⊢
  obtain ⟨W0, hW0⟩ : ∃ W, W = w.alloc (.cells cv.toArray TV) := ⟨_, rfl⟩
  have hg0 : Grow w W0 := by rw [hW0]; exact Grow.alloc _ _
  obtain ⟨b0, hb0⟩ : ∃ b, b = w.heap.size := ⟨_, rfl⟩
  have hbx : Blk W0 b0 TV cv := by rw [hW0]; exact Blk.new _ _ _ _ rfl hb0
  have HG0 := Lib.hid hg0
  have HBX := Lib.hid hbx
  have HW0 := Lib.hid hW0
  have HB0 := Lib.hid hb0
  have HCV := Lib.hid hvi.1
  have HCVE := Lib.hid hcv
  have HA := Lib.hid (ha.grow hg0)
  have HF := Lib.hid (few_any A n c l W0 (ha.grow hg0) hn)
  clear hcv hvi hW0 hb0 hbx hg0 ha hn hv
  go_enter Try.func4, Try.ntmps4
  try dsimp only
  repeat (first | with_reducible (refine wp_region_cut (k := 1) ?_) | go_values | go_guarded | go_step | go_upon | go_back)
  rw [← HW0.out, ← HB0.out]
  unfold Cut
  go_wp2_with fail
  refine HF.out.mono ?_
  rintro r w' ⟨⟨q, rfl, hq⟩, rfl⟩
  have HQ := Lib.hid hq
  clear hq
  cases q
  · go_wp2_with fail
    refine (works_any W0).mono ?_
    rintro r w1 ⟨rfl, hg1⟩
    have HG1 := Lib.hid hg1
    clear hg1
    go_wp2_with fail
    go_ret
    exact ⟨rfl, HG0.out.trans HG1.out⟩
  · have hn60 := (HQ.out rfl).1
    clear HQ
    go_wp2_with fail
    refine (new_any W0).mono ?_
    rintro e w1 ⟨g, bs, bn, rfl, ht1, hg1⟩
    have HT1 := Lib.hid ht1
    have HG1 := Lib.hid hg1
    clear ht1 hg1
    go_wp2_with fail
    go_loopw [6, 7] (fun o' i' wr => ∃ (k : Nat) (vx : Value), k ≤ n ∧ vx = o' ∧ i' = .int .i64 (k : Int) ∧ (∃ L, Hid (TagI wr W0.heap.size g bs bn (7 * k) L) ∧ Hid (RT wr vx L)) ∧ Hid (Grow W0 wr)) (fun _ i' _ => n - (intOf i').toNat)
    case atStart => exact ⟨0, _, by omega, rfl, rfl, ⟨_, Lib.hid HT1.out, Lib.hid (RT.nil _)⟩, HG1⟩
    case round =>
      clear HT1 HG1
      obtain ⟨k, vx, hk, rfl, rfl, ⟨L, HT, HR⟩, HG⟩ := hrel
      obtain ⟨wa, rfl⟩ : ∃ wa, wa = wr := ⟨_, rfl⟩
      by_cases hlt : k < n
      · have t1 : decide (k < n) = true := decide_eq_true hlt
        obtain ⟨b, off, a, hAe, hx, hok, hc⟩ := (HA.out.grow HG.out).at_ hlt
        subst hAe
        have hva := hok.v1
        obtain ⟨nm, hnm⟩ : ∃ nm, nm = str a.s := ⟨_, rfl⟩
        have hio := ints_ok hva
        obtain ⟨cs, hcs⟩ : ∃ cs, cs = ints .u16 a.v := ⟨_, rfl⟩
        rw [← hcs] at hio
        have hall : ∀ w', Grow W0 w' → ∀ i u, (arow a)[i]? = some u → w'.cell? ⟨b, off + k * 66 + i, none⟩ = some u := fun w' hg => by
          obtain ⟨b2, off2, a2, hab, hx2, -, hc2⟩ := (HA.out.grow hg).at_ hlt
          injection hab with hab
          injection hab with hab1 hab2
          subst hab1 hab2
          rw [hx] at hx2
          injection hx2 with hx2
          subst hx2
          exact hc2
        have HNAME : Hid (∀ w', Grow W0 w' → w'.cell? ⟨b, off + k * 66 + 1, none⟩ = some (.string nm)) := Lib.hid fun w' hg => by rw [hnm]; exact hall w' hg 1 _ rfl
        have HVEC : Hid (∀ w', Grow W0 w' → ∀ j u, cs[j]? = some u → w'.cell? ⟨b, off + k * 66 + 2 + j, none⟩ = some u) := Lib.hid fun w' hg j u hu => by
          rw [Nat.add_assoc (off + k * 66), Nat.add_comm 2 j]
          rw [hcs] at hu
          exact hall w' hg (j + 2) u hu
        have z0 : wa.cell? ⟨b, off + k * 66, none⟩ = some (.int .u8 a.k) := hall wa HG.out 0 _ rfl
        have hk0 := hok.k0
        have hk1 := hok.k1
        have HIO := Lib.hid hio
        have HNM := Lib.hid hnm
        have HCS := Lib.hid hcs
        have HVA := Lib.hid hva
        have HS := Lib.hid hok.s1
        obtain ⟨kd, hkd⟩ : ∃ kd, kd = a.k := ⟨_, rfl⟩
        rw [← hkd] at z0 hk0 hk1
        obtain ⟨kn, rfl⟩ := Int.eq_ofNat_of_zero_le hk0
        have hkc : kn = 0 ∨ kn = 1 ∨ kn = 2 ∨ 2 < kn := by omega
        clear hx hok hc hva hio hall hnm hcs hkd hk0
        repeat (first | with_reducible (refine wp_block_cut (k := 2) ?_) | go_values | go_guarded | go_step | go_upon | go_back)
        refine Go.Par.wp_cut [(@none Nat), (@none Nat), (@none Nat), (@none Nat), (@none Nat), (@none Nat), (@some Nat 6), (@none Nat), (@some Nat 8), (@some Nat 9), (@none Nat), (@none Nat), (@none Nat), (@none Nat), (@none Nat), (@none Nat), (@none Nat), (@none Nat), (@none Nat), (@none Nat), (@none Nat), (@none Nat), (@none Nat), (@none Nat), (@none Nat), (@none Nat), (@none Nat), (@none Nat), (@none Nat), (@none Nat), (@some Nat 30), (@some Nat 31), (@some Nat 32), (@some Nat 33), (@some Nat 34), (@some Nat 35), (@some Nat 36), (@some Nat 37), (@some Nat 38), (@some Nat 39), (@some Nat 40), (@some Nat 41), (@some Nat 42), (@some Nat 43), (@some Nat 44), (@some Nat 45), (@some Nat 46), (@some Nat 47), (@some Nat 48), (@some Nat 49), (@some Nat 50), (@some Nat 51), (@some Nat 52), (@some Nat 53), (@some Nat 54), (@some Nat 55), (@some Nat 56), (@some Nat 57), (@some Nat 58), (@some Nat 59), (@some Nat 60), (@some Nat 61), (@some Nat 62), (@some Nat 63), (@some Nat 64), (@some Nat 65), (@some Nat 66), (@some Nat 67), (@some Nat 68), (@some Nat 69), (@some Nat 70), (@some Nat 71), (@some Nat 72), (@some Nat 73), (@some Nat 74), (@some Nat 75), (@some Nat 76), (@some Nat 77), (@some Nat 78), (@none Nat), (@none Nat), (@none Nat), (@none Nat), (@none Nat), (@none Nat), (@none Nat), (@none Nat), (@none Nat), (@none Nat), (@none Nat), (@none Nat), (@none Nat), (@none Nat), (@none Nat), (@none Nat), (@none Nat), (@none Nat), (@none Nat), (@none Nat), (@none Nat), (@none Nat), (@none Nat), (@none Nat), (@none Nat), (@none Nat), (@none Nat), (@none Nat), (@none Nat), (@none Nat), (@none Nat), (@none Nat), (@none Nat), (@none Nat), (@none Nat), (@none Nat), (@none Nat), (@none Nat), (@none Nat), (@none Nat), (@none Nat), (@none Nat), (@none Nat), (@none Nat), (@none Nat), (@none Nat), (@none Nat), (@none Nat), (@none Nat), (@none Nat), (@none Nat), (@none Nat), (@none Nat), (@none Nat), (@none Nat), (@none Nat), (@none Nat), (@none Nat), (@none Nat), (@none Nat), (@none Nat), (@none Nat), (@none Nat), (@none Nat), (@none Nat), (@none Nat), (@none Nat), (@none Nat), (@none Nat), (@none Nat), (@none Nat), (@none Nat), (@none Nat), (@none Nat), (@none Nat), (@none Nat), (@none Nat), (@none Nat), (@none Nat), (@none Nat), (@none Nat), (@none Nat), (@none Nat), (@none Nat)] (PlayJ W0 g bs bn (7 * k + 7)) ?cutA ?cutB
        case cutB =>
          intro f w' A hA hJ
          replace hA : A = ⟨#[_, _, _, _, _, _, f 6, _, f 8, f 9, _, _, _, _, _, _, _, _, _, _, _, _, _, _, _, _, _, _, _, _, f 30, f 31, f 32, f 33, f 34, f 35, f 36, f 37, f 38, f 39, f 40, f 41, f 42, f 43, f 44, f 45, f 46, f 47, f 48, f 49, f 50, f 51, f 52, f 53, f 54, f 55, f 56, f 57, f 58, f 59, f 60, f 61, f 62, f 63, f 64, f 65, f 66, f 67, f 68, f 69, f 70, f 71, f 72, f 73, f 74, f 75, f 76, f 77, f 78, _, _, _, _, _, _, _, _, _, _, _, _, _, _, _, _, _, _, _, _, _, _, _, _, _, _, _, _, _, _, _, _, _, _, _, _, _, _, _, _, _, _, _, _, _, _, _, _, _, _, _, _, _, _, _, _, _, _, _, _, _, _, _, _, _, _, _, _, _, _, _, _, _, _, _, _, _, _, _, _, _, _, _, _], _⟩ := hA
          subst hA
          obtain ⟨wz, hwz⟩ : ∃ W, W = w' := ⟨_, rfl⟩
          rw [← hwz] at hJ ⊢
          clear hwz
          obtain ⟨L', e, f8, f9, hT2, hR2, hG2⟩ := hJ
          rw [f8, f9]
          obtain ⟨vx', hvx⟩ : ∃ vx', vx' = f 6 := ⟨_, rfl⟩
          rw [← hvx] at hR2 ⊢
          have HT2 := Lib.hid hT2
          have HR2 := Lib.hid hR2
          have HG2 := Lib.hid hG2
          have ok2 := hT2.ok
          have hgt := fun (w2 : World) (hg : Grow wz w2) => get_any (hT2.grow hg) a.s HS.out
          have hrg := fun (w2 : World) (hg : Grow wz w2) => rgetS (hR2.grow hg) ok2 a.s
          have hof := fun (w2 : World) (hg : Grow wz w2) => ofS (hT2.grow hg) (by omega) a.v HVA.out
          have hrof := fun (w2 : World) (hg : Grow wz w2) => rofS (hR2.grow hg) ok2 a.v HVA.out
          have hgv := hT2.vec a.s
          have hgio := ints_ok hgv
          have heqg : ∀ w1, (Op.equalIn 10000 TV (.agg (ints .u16 (getT L' a.s)).toArray) (.agg (ints .u16 (getT L' a.s)).toArray)).run Try.prog w1 = .ok true w1 := fun w1 => by rw [eqV w1 _ _ hgv hgv]; simp
          have HXL : Hid ((namesT (fun x => x == a.v) L').length ≤ 1000) := Lib.hid (by have h1 := names_le (fun x => x == a.v) L'; have := ok2.len; omega)
          unfold vv at hgt hrg hof hrof
          obtain ⟨gcs, hgcs⟩ : ∃ cs, cs = ints .u16 (getT L' a.s) := ⟨_, rfl⟩
          obtain ⟨hb, hhb⟩ : ∃ hb, hb = hasT L' a.s := ⟨_, rfl⟩
          obtain ⟨xs, hxs⟩ : ∃ xs, xs = namesT (fun x => x == a.v) L' := ⟨_, rfl⟩
          rw [← hgcs, ← hhb, ← HNM.out] at hgt hrg
          rw [← hgcs] at hgio heqg
          rw [← HCS.out, ← hxs] at hof hrof
          rw [← hxs] at HXL
          have HGT := Lib.hid hgt
          have HRG := Lib.hid hrg
          have HOF := Lib.hid hof
          have HROF := Lib.hid hrof
          have HGI := Lib.hid hgio
          have HEQ := Lib.hid heqg
          have z1 := HNAME.out wz hG2
          clear f8 f9 hvx hT2 hR2 hG2 ok2 hgt hrg hof hrof hgv hgio heqg hgcs hhb hxs z0
          go_wp2_with fail
          refine (HGT.out wz (Grow.refl _)).mono ?_
          rintro r w3 ⟨rfl, hg3⟩
          have HG3 := Lib.hid hg3
          clear hg3 z1
          try dsimp only
          repeat (first | with_reducible (refine wp_region_cut (k := 19) ?_) | (refine store_blk rfl _ _ _ rfl w3.heap.size gcs rfl rfl TV _ (Blk.new _ _ _ _ rfl rfl) (by rw [sizeV, HGI.out.1]) HGI.out.1.symm HGI.out.2 ?_) | go_values | go_guarded | go_step | go_upon | go_back)
          unfold Cut
          refine wp_named ?_
          intro W5 hW5
          have hg5 : Grow w3 W5 := by rw [hW5]; exact Grow.setRow (Grow.alloc _ _) (Nat.le_refl _) _
          have hb5 : Blk W5 w3.heap.size TV gcs := by rw [hW5]; exact (Blk.new _ _ _ _ rfl rfl).setRow _
          obtain ⟨b10, hb10⟩ : ∃ b, b = w3.heap.size := ⟨_, rfl⟩
          rw [← hb10] at hb5 ⊢
          have HB5 := Lib.hid hb5
          have HG5 := Lib.hid (HG3.out.trans hg5)
          have z1 := HNAME.out W5 (HG2.out.trans HG5.out)
          clear hW5 hg5 hb5 hb10
          go_wp2_with fail
          refine (HRG.out W5 HG5.out).mono ?_
          rintro r w6 ⟨rfl, hg6⟩
          have HG6 := Lib.hid (HG5.out.trans hg6)
          have HB6 := Lib.hid (HB5.out.grow hg6)
          clear hg6 z1
          go_wp2_with (refine store_blk rfl _ _ _ rfl w6.heap.size gcs rfl rfl TV _ (Blk.new _ _ _ _ rfl rfl) (by rw [sizeV, HGI.out.1]) HGI.out.1.symm HGI.out.2 ?_)
          refine wp_named ?_
          intro W7 hW7
          have hg7 : Grow w6 W7 := by rw [hW7]; exact Grow.setRow (Grow.alloc _ _) (Nat.le_refl _) _
          have hb7 : Blk W7 w6.heap.size TV gcs := by rw [hW7]; exact (Blk.new _ _ _ _ rfl rfl).setRow _
          obtain ⟨b12, hb12⟩ : ∃ b, b = w6.heap.size := ⟨_, rfl⟩
          rw [← hb12] at hb7 ⊢
          have HB7 := Lib.hid hb7
          have HB67 := Lib.hid (HB6.out.grow hg7)
          have HG7 := Lib.hid (HG6.out.trans hg7)
          have te : (e == e) = true := beq_self_eq_true _
          have te1 : (e != e) = false := by unfold bne; rw [te]; rfl
          have te2 : (hb == hb) = true := beq_self_eq_true _
          have te3 : (hb != hb) = false := by unfold bne; rw [te2]; rfl
          clear hW7 hg7 hb7 hb12
          apply (fun (v0 v1 v2 v3 v4 v5 v6 v7 v8 v9 v10 v11 v12 v13 v14 v15 v16 v17 v18 v19 v21 v22 v23 v24 v25 v26 v28 v29 v30 : Value) mono obl tail => wp_region_par (R := Grow) (Φ := phi [veq v0, veq v1, veq v2, veq v3, veq v4, veq v5, veq v6, veq v7, veq v8, veq v9, veq v10, veq v11, veq v12, veq v13, veq v14, veq v15, veq v16, veq v17, veq v18, veq v19, (IsT xs), veq v21, veq v22, veq v23, veq v24, veq v25, veq v26, (IsT xs), veq v28, veq v29, veq v30]) (m := 31) (dls := [[], [], [(99, 0), (100, 1)], [(101, 2)], [(102, 3)], [(102, 3)], [(103, 4), (104, 5), (102, 3)], [(102, 3), (105, 6)], [(106, 7)], [(107, 8)], [(107, 8)], [(108, 9), (109, 10), (107, 8)], [(107, 8), (110, 11)], [(111, 12)], [(112, 13)], [(112, 13)], [(112, 13)], [(114, 15), (115, 16), (112, 13)], [(116, 17), (112, 13)], [(117, 18), (112, 13)], [(113, 14), (118, 19), (112, 13)], [(112, 13)], [(112, 13)], [(112, 13)], [(121, 22), (122, 23), (112, 13)], [(123, 24), (112, 13)], [(124, 25), (112, 13)], [(120, 21), (125, 26), (112, 13)], [(119, 20), (126, 27), (112, 13)], [(127, 28), (112, 13)], [(112, 13), (128, 29)]]) (ds := [99, 100, 101, 102, 103, 104, 105, 106, 107, 108, 109, 110, 111, 112, 113, 114, 115, 116, 117, 118, 119, 120, 121, 122, 123, 124, 125, 126, 127, 128, 129]) (by kernel_rfl) (by kernel_rfl) (by decide) rfl (Grow.drew _) (fun _ _ _ => Grow.trans) (mono_phi mono) obl tail)
          case obl =>
            refine obls_frame (fun a1 ha => ?_)
            have hsz := rd_size (n := 163) ha rfl
            have e9 := rd_slot 9 ha rfl
            have e8 := rd_slot 8 ha rfl
            have e10 := rd_slot 10 ha rfl
            have e12 := rd_slot 12 ha rfl
            have e11 := rd_slot 11 ha rfl
            have e13 := rd_slot 13 ha rfl
            have e5 := rd_slot 5 ha rfl
            have e0 := rd_slot 0 ha rfl
            have e7 := rd_slot 7 ha rfl
            have e6 := rd_slot 6 ha rfl
            clear ha
            refine obls_cons (fun f w' hR hH Q0 hQ0 => ?_) ?_
            · skip
              have s9 := sv_off f [] e9 rfl
              refine small_v hsz [(9, _)] ⟨some 1, (Op.move (.tmp 0)), 25, "", #[], none⟩ [_, undef] 1 rfl rfl ⟨s9, trivial⟩ rfl rfl hQ0 ?_
              clear hQ0 hH s9
              intro Q hQ
              repeat go_step
              exact hQ _ _ (Grow.refl _) rfl rfl
            refine obls_cons (fun f w' hR hH Q0 hQ0 => ?_) ?_
            · skip
              have s8 := sv_off f [] e8 rfl
              refine small_v hsz [(8, _)] ⟨some 1, (Op.move (.tmp 0)), 3, "", #[], none⟩ [_, undef] 1 rfl rfl ⟨s8, trivial⟩ rfl rfl hQ0 ?_
              clear hQ0 hH s8
              intro Q hQ
              repeat go_step
              exact hQ _ _ (Grow.refl _) rfl rfl
            refine obls_cons (fun f w' hR hH Q0 hQ0 => ?_) ?_
            · skip
              have s99 := (sv_at 99 0 hsz f [(99, 0), (100, 1)] rfl).trans (show f 0 = _ from hH.get 0 (99, 0) rfl)
              have s100 := (sv_at 100 1 hsz f [(99, 0), (100, 1)] rfl).trans (show f 1 = _ from hH.get 1 (100, 1) rfl)
              refine small_v hsz [(99, _), (100, _)] ⟨some 2, (Op.binOp BinOp.neq 3 (.tmp 0) (.tmp 1) 3), 4, "", #[], none⟩ [_, _, undef] 2 rfl rfl ⟨s99, s100, trivial⟩ rfl rfl hQ0 ?_
              clear hQ0 hH s99 s100
              intro Q hQ
              repeat go_step
              exact hQ _ _ (Grow.refl _) rfl rfl
            refine obls_cons (fun f w' hR hH Q0 hQ0 => ?_) ?_
            · skip
              have s101 := (sv_at 101 2 hsz f [(101, 2)] rfl).trans (show f 2 = _ from hH.get 0 (101, 2) rfl)
              refine small_v hsz [(101, _)] ⟨some 1, (Op.move (.tmp 0)), 4, "", #[], none⟩ [_, undef] 1 rfl rfl ⟨s101, trivial⟩ rfl rfl hQ0 ?_
              clear hQ0 hH s101
              intro Q hQ
              repeat go_step
              exact hQ _ _ (Grow.refl _) rfl rfl
            refine obls_cons (fun f w' hR hH Q0 hQ0 => ?_) ?_
            · skip
              have s10 := sv_off f [(102, 3)] e10 rfl
              have s102 := (sv_at 102 3 hsz f [(102, 3)] rfl).trans (show f 3 = _ from hH.get 0 (102, 3) rfl)
              first
                | exact skip_v hsz rfl ((wanted_some (b := true) rfl rfl s102).trans rfl) hQ0 (Grow.refl _) rfl
                | exact skip_v hsz rfl (wanted_undef rfl rfl s102) hQ0 (Grow.refl _) rfl
                | refine small_v hsz [(10, _)] ⟨some 1, (Op.load 37 (.tmp 0)), 37, "", #[], none⟩ [_, undef] 1 rfl ((wanted_some (b := false) rfl rfl s102).trans rfl) ⟨s10, trivial⟩ rfl rfl hQ0 ?_
                  clear hQ0 hH s10 s102
                  intro Q hQ
                  have hb9 := HB67.out.grow hR
                  refine load_blk rfl _ _ rfl b10 rfl _ _ _ hb9 undV rfl (by rw [sizeV, HGI.out.1]) ?_
                  exact hQ _ _ (Grow.refl _) rfl rfl
            refine obls_cons (fun f w' hR hH Q0 hQ0 => ?_) ?_
            · skip
              have s12 := sv_off f [(102, 3)] e12 rfl
              have s102 := (sv_at 102 3 hsz f [(102, 3)] rfl).trans (show f 3 = _ from hH.get 0 (102, 3) rfl)
              first
                | exact skip_v hsz rfl ((wanted_some (b := true) rfl rfl s102).trans rfl) hQ0 (Grow.refl _) rfl
                | exact skip_v hsz rfl (wanted_undef rfl rfl s102) hQ0 (Grow.refl _) rfl
                | refine small_v hsz [(12, _)] ⟨some 1, (Op.load 37 (.tmp 0)), 37, "", #[], none⟩ [_, undef] 1 rfl ((wanted_some (b := false) rfl rfl s102).trans rfl) ⟨s12, trivial⟩ rfl rfl hQ0 ?_
                  clear hQ0 hH s12 s102
                  intro Q hQ
                  have hb9 := HB7.out.grow hR
                  refine load_blk rfl _ _ rfl b12 rfl _ _ _ hb9 undV rfl (by rw [sizeV, HGI.out.1]) ?_
                  exact hQ _ _ (Grow.refl _) rfl rfl
            refine obls_cons (fun f w' hR hH Q0 hQ0 => ?_) ?_
            · skip
              have s103 := (sv_at 103 4 hsz f [(103, 4), (104, 5), (102, 3)] rfl).trans (show f 4 = _ from hH.get 0 (103, 4) rfl)
              have s104 := (sv_at 104 5 hsz f [(103, 4), (104, 5), (102, 3)] rfl).trans (show f 5 = _ from hH.get 1 (104, 5) rfl)
              have s102 := (sv_at 102 3 hsz f [(103, 4), (104, 5), (102, 3)] rfl).trans (show f 3 = _ from hH.get 2 (102, 3) rfl)
              first
                | exact skip_v hsz rfl ((wanted_some (b := true) rfl rfl s102).trans rfl) hQ0 (Grow.refl _) rfl
                | exact skip_v hsz rfl (wanted_undef rfl rfl s102) hQ0 (Grow.refl _) rfl
                | refine small_v hsz [(103, _), (104, _)] ⟨some 2, (Op.binOp BinOp.neq 37 (.tmp 0) (.tmp 1) 37), 4, "", #[], none⟩ [_, _, undef] 2 rfl ((wanted_some (b := false) rfl rfl s102).trans rfl) ⟨s103, s104, trivial⟩ rfl rfl hQ0 ?_
                  clear hQ0 hH s103 s104 s102
                  intro Q hQ
                  have heq := HEQ.out
                  repeat go_step
                  exact hQ _ _ (Grow.refl _) rfl rfl
            refine obls_cons (fun f w' hR hH Q0 hQ0 => ?_) ?_
            · skip
              have s102 := (sv_at 102 3 hsz f [(102, 3), (105, 6)] rfl).trans (show f 3 = _ from hH.get 0 (102, 3) rfl)
              have s105 := (sv_at 105 6 hsz f [(102, 3), (105, 6)] rfl).trans (show f 6 = _ from hH.get 1 (105, 6) rfl)
              refine small_v hsz [(102, _), (105, _)] ⟨some 2, (Op.pick (.tmp 0) (Operand.const (Value.bool true)) (.tmp 1)), 4, "", #[], none⟩ [_, _, undef] 2 rfl rfl ⟨s102, s105, trivial⟩ rfl rfl hQ0 ?_
              clear hQ0 hH s102 s105
              intro Q hQ
              repeat go_step
              exact hQ _ _ (Grow.refl _) rfl rfl
            refine obls_cons (fun f w' hR hH Q0 hQ0 => ?_) ?_
            · skip
              have s106 := (sv_at 106 7 hsz f [(106, 7)] rfl).trans (show f 7 = _ from hH.get 0 (106, 7) rfl)
              refine small_v hsz [(106, _)] ⟨some 1, (Op.move (.tmp 0)), 4, "", #[], none⟩ [_, undef] 1 rfl rfl ⟨s106, trivial⟩ rfl rfl hQ0 ?_
              clear hQ0 hH s106
              intro Q hQ
              repeat go_step
              exact hQ _ _ (Grow.refl _) rfl rfl
            refine obls_cons (fun f w' hR hH Q0 hQ0 => ?_) ?_
            · skip
              have s11 := sv_off f [(107, 8)] e11 rfl
              have s107 := (sv_at 107 8 hsz f [(107, 8)] rfl).trans (show f 8 = _ from hH.get 0 (107, 8) rfl)
              first
                | exact skip_v hsz rfl ((wanted_some (b := true) rfl rfl s107).trans rfl) hQ0 (Grow.refl _) rfl
                | exact skip_v hsz rfl (wanted_undef rfl rfl s107) hQ0 (Grow.refl _) rfl
                | refine small_v hsz [(11, _)] ⟨some 1, (Op.move (.tmp 0)), 4, "", #[], none⟩ [_, undef] 1 rfl ((wanted_some (b := false) rfl rfl s107).trans rfl) ⟨s11, trivial⟩ rfl rfl hQ0 ?_
                  clear hQ0 hH s11 s107
                  intro Q hQ
                  repeat go_step
                  exact hQ _ _ (Grow.refl _) rfl rfl
            refine obls_cons (fun f w' hR hH Q0 hQ0 => ?_) ?_
            · skip
              have s13 := sv_off f [(107, 8)] e13 rfl
              have s107 := (sv_at 107 8 hsz f [(107, 8)] rfl).trans (show f 8 = _ from hH.get 0 (107, 8) rfl)
              first
                | exact skip_v hsz rfl ((wanted_some (b := true) rfl rfl s107).trans rfl) hQ0 (Grow.refl _) rfl
                | exact skip_v hsz rfl (wanted_undef rfl rfl s107) hQ0 (Grow.refl _) rfl
                | refine small_v hsz [(13, _)] ⟨some 1, (Op.move (.tmp 0)), 4, "", #[], none⟩ [_, undef] 1 rfl ((wanted_some (b := false) rfl rfl s107).trans rfl) ⟨s13, trivial⟩ rfl rfl hQ0 ?_
                  clear hQ0 hH s13 s107
                  intro Q hQ
                  repeat go_step
                  exact hQ _ _ (Grow.refl _) rfl rfl
            refine obls_cons (fun f w' hR hH Q0 hQ0 => ?_) ?_
            · skip
              have s108 := (sv_at 108 9 hsz f [(108, 9), (109, 10), (107, 8)] rfl).trans (show f 9 = _ from hH.get 0 (108, 9) rfl)
              have s109 := (sv_at 109 10 hsz f [(108, 9), (109, 10), (107, 8)] rfl).trans (show f 10 = _ from hH.get 1 (109, 10) rfl)
              have s107 := (sv_at 107 8 hsz f [(108, 9), (109, 10), (107, 8)] rfl).trans (show f 8 = _ from hH.get 2 (107, 8) rfl)
              first
                | exact skip_v hsz rfl ((wanted_some (b := true) rfl rfl s107).trans rfl) hQ0 (Grow.refl _) rfl
                | exact skip_v hsz rfl (wanted_undef rfl rfl s107) hQ0 (Grow.refl _) rfl
                | refine small_v hsz [(108, _), (109, _)] ⟨some 2, (Op.binOp BinOp.neq 4 (.tmp 0) (.tmp 1) 4), 4, "", #[], none⟩ [_, _, undef] 2 rfl ((wanted_some (b := false) rfl rfl s107).trans rfl) ⟨s108, s109, trivial⟩ rfl rfl hQ0 ?_
                  clear hQ0 hH s108 s109 s107
                  intro Q hQ
                  repeat go_step
                  exact hQ _ _ (Grow.refl _) rfl rfl
            refine obls_cons (fun f w' hR hH Q0 hQ0 => ?_) ?_
            · skip
              have s107 := (sv_at 107 8 hsz f [(107, 8), (110, 11)] rfl).trans (show f 8 = _ from hH.get 0 (107, 8) rfl)
              have s110 := (sv_at 110 11 hsz f [(107, 8), (110, 11)] rfl).trans (show f 11 = _ from hH.get 1 (110, 11) rfl)
              refine small_v hsz [(107, _), (110, _)] ⟨some 2, (Op.pick (.tmp 0) (Operand.const (Value.bool true)) (.tmp 1)), 4, "", #[], none⟩ [_, _, undef] 2 rfl rfl ⟨s107, s110, trivial⟩ rfl rfl hQ0 ?_
              clear hQ0 hH s107 s110
              intro Q hQ
              repeat go_step
              exact hQ _ _ (Grow.refl _) rfl rfl
            refine obls_cons (fun f w' hR hH Q0 hQ0 => ?_) ?_
            · skip
              have s111 := (sv_at 111 12 hsz f [(111, 12)] rfl).trans (show f 12 = _ from hH.get 0 (111, 12) rfl)
              refine small_v hsz [(111, _)] ⟨some 1, (Op.move (.tmp 0)), 4, "", #[], none⟩ [_, undef] 1 rfl rfl ⟨s111, trivial⟩ rfl rfl hQ0 ?_
              clear hQ0 hH s111
              intro Q hQ
              repeat go_step
              exact hQ _ _ (Grow.refl _) rfl rfl
            refine obls_cons (fun f w' hR hH Q0 hQ0 => ?_) ?_
            · skip
              have s5 := sv_off f [(112, 13)] e5 rfl
              have s112 := (sv_at 112 13 hsz f [(112, 13)] rfl).trans (show f 13 = _ from hH.get 0 (112, 13) rfl)
              first
                | exact skip_v hsz rfl ((wanted_some (b := true) rfl rfl s112).trans rfl) hQ0 (Grow.refl _) rfl
                | exact skip_v hsz rfl (wanted_undef rfl rfl s112) hQ0 (Grow.refl _) rfl
                | refine small_v hsz [(5, _)] ⟨some 1, (Op.move (.tmp 0)), 24, "", #[], none⟩ [_, undef] 1 rfl ((wanted_some (b := false) rfl rfl s112).trans rfl) ⟨s5, trivial⟩ rfl rfl hQ0 ?_
                  clear hQ0 hH s5 s112
                  intro Q hQ
                  repeat go_step
                  exact hQ _ _ (Grow.refl _) rfl rfl
            refine obls_cons (fun f w' hR hH Q0 hQ0 => ?_) ?_
            · skip
              have s0 := sv_off f [(112, 13)] e0 rfl
              have s112 := (sv_at 112 13 hsz f [(112, 13)] rfl).trans (show f 13 = _ from hH.get 0 (112, 13) rfl)
              first
                | exact skip_v hsz rfl ((wanted_some (b := true) rfl rfl s112).trans rfl) hQ0 (Grow.refl _) rfl
                | exact skip_v hsz rfl (wanted_undef rfl rfl s112) hQ0 (Grow.refl _) rfl
                | refine small_v hsz [(0, _)] ⟨some 1, (Op.move (.tmp 0)), 34, "", #[], none⟩ [_, undef] 1 rfl ((wanted_some (b := false) rfl rfl s112).trans rfl) ⟨s0, trivial⟩ rfl rfl hQ0 ?_
                  clear hQ0 hH s0 s112
                  intro Q hQ
                  repeat go_step
                  exact hQ _ _ (Grow.refl _) rfl rfl
            refine obls_cons (fun f w' hR hH Q0 hQ0 => ?_) ?_
            · skip
              have s7 := sv_off f [(112, 13)] e7 rfl
              have s112 := (sv_at 112 13 hsz f [(112, 13)] rfl).trans (show f 13 = _ from hH.get 0 (112, 13) rfl)
              first
                | exact skip_v hsz rfl ((wanted_some (b := true) rfl rfl s112).trans rfl) hQ0 (Grow.refl _) rfl
                | exact skip_v hsz rfl (wanted_undef rfl rfl s112) hQ0 (Grow.refl _) rfl
                | refine small_v hsz [(7, _)] ⟨some 1, (Op.move (.tmp 0)), 3, "", #[], none⟩ [_, undef] 1 rfl ((wanted_some (b := false) rfl rfl s112).trans rfl) ⟨s7, trivial⟩ rfl rfl hQ0 ?_
                  clear hQ0 hH s7 s112
                  intro Q hQ
                  repeat go_step
                  exact hQ _ _ (Grow.refl _) rfl rfl
            refine obls_cons (fun f w' hR hH Q0 hQ0 => ?_) ?_
            · skip
              have s114 := (sv_at 114 15 hsz f [(114, 15), (115, 16), (112, 13)] rfl).trans (show f 15 = _ from hH.get 0 (114, 15) rfl)
              have s115 := (sv_at 115 16 hsz f [(114, 15), (115, 16), (112, 13)] rfl).trans (show f 16 = _ from hH.get 1 (115, 16) rfl)
              have s112 := (sv_at 112 13 hsz f [(114, 15), (115, 16), (112, 13)] rfl).trans (show f 13 = _ from hH.get 2 (112, 13) rfl)
              first
                | exact skip_v hsz rfl ((wanted_some (b := true) rfl rfl s112).trans rfl) hQ0 (Grow.refl _) rfl
                | exact skip_v hsz rfl (wanted_undef rfl rfl s112) hQ0 (Grow.refl _) rfl
                | refine small_v hsz [(114, _), (115, _)] ⟨some 2, (Op.indexAddr 34 (.tmp 0) (.tmp 1)), 0, "", #[], none⟩ [_, _, undef] 2 rfl ((wanted_some (b := false) rfl rfl s112).trans rfl) ⟨s114, s115, trivial⟩ rfl rfl hQ0 ?_
                  clear hQ0 hH s114 s115 s112
                  intro Q hQ
                  repeat go_step
                  exact hQ _ _ (Grow.refl _) rfl rfl
            refine obls_cons (fun f w' hR hH Q0 hQ0 => ?_) ?_
            · skip
              have s116 := (sv_at 116 17 hsz f [(116, 17), (112, 13)] rfl).trans (show f 17 = _ from hH.get 0 (116, 17) rfl)
              have s112 := (sv_at 112 13 hsz f [(116, 17), (112, 13)] rfl).trans (show f 13 = _ from hH.get 1 (112, 13) rfl)
              first
                | exact skip_v hsz rfl ((wanted_some (b := true) rfl rfl s112).trans rfl) hQ0 (Grow.refl _) rfl
                | exact skip_v hsz rfl (wanted_undef rfl rfl s112) hQ0 (Grow.refl _) rfl
                | refine small_v hsz [(116, _)] ⟨some 1, (Op.fieldAddr 41 (.tmp 0) 2), 0, "", #[], none⟩ [_, undef] 1 rfl ((wanted_some (b := false) rfl rfl s112).trans rfl) ⟨s116, trivial⟩ rfl rfl hQ0 ?_
                  clear hQ0 hH s116 s112
                  intro Q hQ
                  repeat go_step
                  exact hQ _ _ (Grow.refl _) rfl rfl
            refine obls_cons (fun f w' hR hH Q0 hQ0 => ?_) ?_
            · skip
              have s117 := (sv_at 117 18 hsz f [(117, 18), (112, 13)] rfl).trans (show f 18 = _ from hH.get 0 (117, 18) rfl)
              have s112 := (sv_at 112 13 hsz f [(117, 18), (112, 13)] rfl).trans (show f 13 = _ from hH.get 1 (112, 13) rfl)
              first
                | exact skip_v hsz rfl ((wanted_some (b := true) rfl rfl s112).trans rfl) hQ0 (Grow.refl _) rfl
                | exact skip_v hsz rfl (wanted_undef rfl rfl s112) hQ0 (Grow.refl _) rfl
                | refine small_v hsz [(117, _)] ⟨some 1, (Op.load 37 (.tmp 0)), 37, "", #[], none⟩ [_, undef] 1 rfl ((wanted_some (b := false) rfl rfl s112).trans rfl) ⟨s117, trivial⟩ rfl rfl hQ0 ?_
                  clear hQ0 hH s117 s112
                  intro Q hQ
                  have hcc := Lib.hid (HVEC.out _ ((HG2.out.trans HG7.out).trans hR))
                  refine load_cells rfl _ _ rfl b (off + k * 66 + 2) rfl cs _ hcc.out undV rfl (by rw [sizeV, HIO.out.1]) ?_
                  exact hQ _ _ (Grow.refl _) rfl rfl
            refine obls_cons (fun f w' hR hH Q0 hQ0 => ?_) ?_
            · skip
              have s113 := (sv_at 113 14 hsz f [(113, 14), (118, 19), (112, 13)] rfl).trans (show f 14 = _ from hH.get 0 (113, 14) rfl)
              have s118 := (sv_at 118 19 hsz f [(113, 14), (118, 19), (112, 13)] rfl).trans (show f 19 = _ from hH.get 1 (118, 19) rfl)
              have s112 := (sv_at 112 13 hsz f [(113, 14), (118, 19), (112, 13)] rfl).trans (show f 13 = _ from hH.get 2 (112, 13) rfl)
              first
                | exact skip_v hsz rfl ((wanted_some (b := true) rfl rfl s112).trans rfl) hQ0 (Grow.refl _) rfl
                | exact skip_v hsz rfl (wanted_undef rfl rfl s112) hQ0 (Grow.refl _) rfl
                | refine small_v hsz [(113, _), (118, _)] ⟨some 2, (Op.call (Call.mk (Callee.value (Operand.func 20)) #[(.tmp 0), (.tmp 1)] #[24, 37])), 50, "", #[], none⟩ [_, _, undef] 2 rfl ((wanted_some (b := false) rfl rfl s112).trans rfl) ⟨s113, s118, trivial⟩ rfl (ren_call rfl rfl) hQ0 ?_
                  clear hQ0 hH s113 s118 s112
                  intro Q hQ
                  go_wp2_with (go_at_call 20; refine (HOF.out _ (HG7.out.trans hR)).mono ?_; rintro e9 w9 ⟨u9, rfl, h9, hg9⟩)
                  exact hQ _ _ hg9 h9 rfl
            refine obls_cons (fun f w' hR hH Q0 hQ0 => ?_) ?_
            · skip
              have s6 := sv_off f [(112, 13)] e6 rfl
              have s112 := (sv_at 112 13 hsz f [(112, 13)] rfl).trans (show f 13 = _ from hH.get 0 (112, 13) rfl)
              first
                | exact skip_v hsz rfl ((wanted_some (b := true) rfl rfl s112).trans rfl) hQ0 (Grow.refl _) rfl
                | exact skip_v hsz rfl (wanted_undef rfl rfl s112) hQ0 (Grow.refl _) rfl
                | refine small_v hsz [(6, _)] ⟨some 1, (Op.move (.tmp 0)), 28, "", #[], none⟩ [_, undef] 1 rfl ((wanted_some (b := false) rfl rfl s112).trans rfl) ⟨s6, trivial⟩ rfl rfl hQ0 ?_
                  clear hQ0 hH s6 s112
                  intro Q hQ
                  repeat go_step
                  exact hQ _ _ (Grow.refl _) rfl rfl
            refine obls_cons (fun f w' hR hH Q0 hQ0 => ?_) ?_
            · skip
              have s0 := sv_off f [(112, 13)] e0 rfl
              have s112 := (sv_at 112 13 hsz f [(112, 13)] rfl).trans (show f 13 = _ from hH.get 0 (112, 13) rfl)
              first
                | exact skip_v hsz rfl ((wanted_some (b := true) rfl rfl s112).trans rfl) hQ0 (Grow.refl _) rfl
                | exact skip_v hsz rfl (wanted_undef rfl rfl s112) hQ0 (Grow.refl _) rfl
                | refine small_v hsz [(0, _)] ⟨some 1, (Op.move (.tmp 0)), 34, "", #[], none⟩ [_, undef] 1 rfl ((wanted_some (b := false) rfl rfl s112).trans rfl) ⟨s0, trivial⟩ rfl rfl hQ0 ?_
                  clear hQ0 hH s0 s112
                  intro Q hQ
                  repeat go_step
                  exact hQ _ _ (Grow.refl _) rfl rfl
            refine obls_cons (fun f w' hR hH Q0 hQ0 => ?_) ?_
            · skip
              have s7 := sv_off f [(112, 13)] e7 rfl
              have s112 := (sv_at 112 13 hsz f [(112, 13)] rfl).trans (show f 13 = _ from hH.get 0 (112, 13) rfl)
              first
                | exact skip_v hsz rfl ((wanted_some (b := true) rfl rfl s112).trans rfl) hQ0 (Grow.refl _) rfl
                | exact skip_v hsz rfl (wanted_undef rfl rfl s112) hQ0 (Grow.refl _) rfl
                | refine small_v hsz [(7, _)] ⟨some 1, (Op.move (.tmp 0)), 3, "", #[], none⟩ [_, undef] 1 rfl ((wanted_some (b := false) rfl rfl s112).trans rfl) ⟨s7, trivial⟩ rfl rfl hQ0 ?_
                  clear hQ0 hH s7 s112
                  intro Q hQ
                  repeat go_step
                  exact hQ _ _ (Grow.refl _) rfl rfl
            refine obls_cons (fun f w' hR hH Q0 hQ0 => ?_) ?_
            · skip
              have s121 := (sv_at 121 22 hsz f [(121, 22), (122, 23), (112, 13)] rfl).trans (show f 22 = _ from hH.get 0 (121, 22) rfl)
              have s122 := (sv_at 122 23 hsz f [(121, 22), (122, 23), (112, 13)] rfl).trans (show f 23 = _ from hH.get 1 (122, 23) rfl)
              have s112 := (sv_at 112 13 hsz f [(121, 22), (122, 23), (112, 13)] rfl).trans (show f 13 = _ from hH.get 2 (112, 13) rfl)
              first
                | exact skip_v hsz rfl ((wanted_some (b := true) rfl rfl s112).trans rfl) hQ0 (Grow.refl _) rfl
                | exact skip_v hsz rfl (wanted_undef rfl rfl s112) hQ0 (Grow.refl _) rfl
                | refine small_v hsz [(121, _), (122, _)] ⟨some 2, (Op.indexAddr 34 (.tmp 0) (.tmp 1)), 0, "", #[], none⟩ [_, _, undef] 2 rfl ((wanted_some (b := false) rfl rfl s112).trans rfl) ⟨s121, s122, trivial⟩ rfl rfl hQ0 ?_
                  clear hQ0 hH s121 s122 s112
                  intro Q hQ
                  repeat go_step
                  exact hQ _ _ (Grow.refl _) rfl rfl
            refine obls_cons (fun f w' hR hH Q0 hQ0 => ?_) ?_
            · skip
              have s123 := (sv_at 123 24 hsz f [(123, 24), (112, 13)] rfl).trans (show f 24 = _ from hH.get 0 (123, 24) rfl)
              have s112 := (sv_at 112 13 hsz f [(123, 24), (112, 13)] rfl).trans (show f 13 = _ from hH.get 1 (112, 13) rfl)
              first
                | exact skip_v hsz rfl ((wanted_some (b := true) rfl rfl s112).trans rfl) hQ0 (Grow.refl _) rfl
                | exact skip_v hsz rfl (wanted_undef rfl rfl s112) hQ0 (Grow.refl _) rfl
                | refine small_v hsz [(123, _)] ⟨some 1, (Op.fieldAddr 41 (.tmp 0) 2), 0, "", #[], none⟩ [_, undef] 1 rfl ((wanted_some (b := false) rfl rfl s112).trans rfl) ⟨s123, trivial⟩ rfl rfl hQ0 ?_
                  clear hQ0 hH s123 s112
                  intro Q hQ
                  repeat go_step
                  exact hQ _ _ (Grow.refl _) rfl rfl
            refine obls_cons (fun f w' hR hH Q0 hQ0 => ?_) ?_
            · skip
              have s124 := (sv_at 124 25 hsz f [(124, 25), (112, 13)] rfl).trans (show f 25 = _ from hH.get 0 (124, 25) rfl)
              have s112 := (sv_at 112 13 hsz f [(124, 25), (112, 13)] rfl).trans (show f 13 = _ from hH.get 1 (112, 13) rfl)
              first
                | exact skip_v hsz rfl ((wanted_some (b := true) rfl rfl s112).trans rfl) hQ0 (Grow.refl _) rfl
                | exact skip_v hsz rfl (wanted_undef rfl rfl s112) hQ0 (Grow.refl _) rfl
                | refine small_v hsz [(124, _)] ⟨some 1, (Op.load 37 (.tmp 0)), 37, "", #[], none⟩ [_, undef] 1 rfl ((wanted_some (b := false) rfl rfl s112).trans rfl) ⟨s124, trivial⟩ rfl rfl hQ0 ?_
                  clear hQ0 hH s124 s112
                  intro Q hQ
                  have hcc := Lib.hid (HVEC.out _ ((HG2.out.trans HG7.out).trans hR))
                  refine load_cells rfl _ _ rfl b (off + k * 66 + 2) rfl cs _ hcc.out undV rfl (by rw [sizeV, HIO.out.1]) ?_
                  exact hQ _ _ (Grow.refl _) rfl rfl
            refine obls_cons (fun f w' hR hH Q0 hQ0 => ?_) ?_
            · skip
              have s120 := (sv_at 120 21 hsz f [(120, 21), (125, 26), (112, 13)] rfl).trans (show f 21 = _ from hH.get 0 (120, 21) rfl)
              have s125 := (sv_at 125 26 hsz f [(120, 21), (125, 26), (112, 13)] rfl).trans (show f 26 = _ from hH.get 1 (125, 26) rfl)
              have s112 := (sv_at 112 13 hsz f [(120, 21), (125, 26), (112, 13)] rfl).trans (show f 13 = _ from hH.get 2 (112, 13) rfl)
              first
                | exact skip_v hsz rfl ((wanted_some (b := true) rfl rfl s112).trans rfl) hQ0 (Grow.refl _) rfl
                | exact skip_v hsz rfl (wanted_undef rfl rfl s112) hQ0 (Grow.refl _) rfl
                | refine small_v hsz [(120, _), (125, _)] ⟨some 2, (Op.call (Call.mk (Callee.value (Operand.func 21)) #[(.tmp 0), (.tmp 1)] #[28, 37])), 50, "", #[], none⟩ [_, _, undef] 2 rfl ((wanted_some (b := false) rfl rfl s112).trans rfl) ⟨s120, s125, trivial⟩ rfl (ren_call rfl rfl) hQ0 ?_
                  clear hQ0 hH s120 s125 s112
                  intro Q hQ
                  go_wp2_with (go_at_call 21; refine (HROF.out _ (HG7.out.trans hR)).mono ?_; rintro e9 w9 ⟨u9, rfl, h9, hg9⟩)
                  exact hQ _ _ hg9 h9 rfl
            refine obls_cons (fun f w' hR hH Q0 hQ0 => ?_) ?_
            · skip
              have h20 : (IsT xs) (f 20) w' := hH.get 0 (119, 20) rfl
              have s119 := sv_at 119 20 hsz f [(119, 20), (126, 27), (112, 13)] rfl
              obtain ⟨u20, hu20⟩ : ∃ u, f 20 = u := ⟨_, rfl⟩
              rw [hu20] at s119 h20
              clear hu20
              have h27 : (IsT xs) (f 27) w' := hH.get 1 (126, 27) rfl
              have s126 := sv_at 126 27 hsz f [(119, 20), (126, 27), (112, 13)] rfl
              obtain ⟨u27, hu27⟩ : ∃ u, f 27 = u := ⟨_, rfl⟩
              rw [hu27] at s126 h27
              clear hu27
              have s112 := (sv_at 112 13 hsz f [(119, 20), (126, 27), (112, 13)] rfl).trans (show f 13 = _ from hH.get 2 (112, 13) rfl)
              first
                | exact skip_v hsz rfl ((wanted_some (b := true) rfl rfl s112).trans rfl) hQ0 (Grow.refl _) rfl
                | exact skip_v hsz rfl (wanted_undef rfl rfl s112) hQ0 (Grow.refl _) rfl
                | refine small_v hsz [(119, _), (126, _)] ⟨some 2, (Op.call (Call.mk (Callee.value (Operand.func 19)) #[(.tmp 0), (.tmp 1)] #[50, 50])), 4, "", #[], none⟩ [_, _, undef] 2 rfl ((wanted_some (b := false) rfl rfl s112).trans rfl) ⟨s119, s126, trivial⟩ rfl (ren_call rfl rfl) hQ0 ?_
                  clear hQ0 hH s119 s126 s112
                  intro Q hQ
                  go_wp2_with (go_at_call 19; refine (texts_any _ _ _ _ h20 h27 HXL.out).mono ?_; rintro e9 w9 ⟨rfl, hg9⟩)
                  exact hQ _ _ hg9 rfl rfl
            refine obls_cons (fun f w' hR hH Q0 hQ0 => ?_) ?_
            · skip
              have s127 := (sv_at 127 28 hsz f [(127, 28), (112, 13)] rfl).trans (show f 28 = _ from hH.get 0 (127, 28) rfl)
              have s112 := (sv_at 112 13 hsz f [(127, 28), (112, 13)] rfl).trans (show f 13 = _ from hH.get 1 (112, 13) rfl)
              first
                | exact skip_v hsz rfl ((wanted_some (b := true) rfl rfl s112).trans rfl) hQ0 (Grow.refl _) rfl
                | exact skip_v hsz rfl (wanted_undef rfl rfl s112) hQ0 (Grow.refl _) rfl
                | refine small_v hsz [(127, _)] ⟨some 1, (Op.unOp UnOp.not 4 (.tmp 0)), 4, "", #[], none⟩ [_, undef] 1 rfl ((wanted_some (b := false) rfl rfl s112).trans rfl) ⟨s127, trivial⟩ rfl rfl hQ0 ?_
                  clear hQ0 hH s127 s112
                  intro Q hQ
                  repeat go_step
                  exact hQ _ _ (Grow.refl _) rfl rfl
            refine obls_cons (fun f w' hR hH Q0 hQ0 => ?_) ?_
            · skip
              have s112 := (sv_at 112 13 hsz f [(112, 13), (128, 29)] rfl).trans (show f 13 = _ from hH.get 0 (112, 13) rfl)
              have s128 := (sv_at 128 29 hsz f [(112, 13), (128, 29)] rfl).trans (show f 29 = _ from hH.get 1 (128, 29) rfl)
              refine small_v hsz [(112, _), (128, _)] ⟨some 2, (Op.pick (.tmp 0) (Operand.const (Value.bool true)) (.tmp 1)), 4, "", #[], none⟩ [_, _, undef] 2 rfl rfl ⟨s112, s128, trivial⟩ rfl rfl hQ0 ?_
              clear hQ0 hH s112 s128
              intro Q hQ
              repeat go_step
              exact hQ _ _ (Grow.refl _) rfl rfl
            exact obls_nil
          case mono => exact ⟨Mono.veq _, Mono.veq _, Mono.veq _, Mono.veq _, Mono.veq _, Mono.veq _, Mono.veq _, Mono.veq _, Mono.veq _, Mono.veq _, Mono.veq _, Mono.veq _, Mono.veq _, Mono.veq _, Mono.veq _, Mono.veq _, Mono.veq _, Mono.veq _, Mono.veq _, Mono.veq _, IsT.mono, Mono.veq _, Mono.veq _, Mono.veq _, Mono.veq _, Mono.veq _, Mono.veq _, IsT.mono, Mono.veq _, Mono.veq _, Mono.veq _, trivial⟩
          case tail =>
            intro f w' hR hH
            have q30 := hH.get 30 (129, 30) rfl
            clear hH
            refine wpList_merge (idx := [none, none, none, none, none, none, none, none, none, none, none, none, none, none, none, none, none, none, none, none, none, none, none, none, none, none, none, none, none, none, none, none, none, none, none, none, none, none, none, none, none, none, none, none, none, none, none, none, none, none, none, none, none, none, none, none, none, none, none, none, none, none, none, none, none, none, none, none, none, none, none, none, none, none, none, none, none, none, none, none, none, none, none, none, none, none, none, none, none, none, none, none, none, none, none, none, none, none, none, some 0, some 1, some 2, some 3, some 4, some 5, some 6, some 7, some 8, some 9, some 10, some 11, some 12, some 13, some 14, some 15, some 16, some 17, some 18, some 19, some 20, some 21, some 22, some 23, some 24, some 25, some 26, some 27, some 28, some 29, some 30, none, none, none, none, none, none, none, none, none, none, none, none, none, none, none, none, none, none, none, none, none, none, none, none, none, none, none, none, none, none, none, none, none]) (by kernel_rfl) ?_; show wpList _ _ _ [] ⟨#[_, _, _, _, _, _, _, _, _, _, _, _, _, _, _, _, _, _, _, _, _, _, _, _, _, _, _, _, _, _, _, _, _, _, _, _, _, _, _, _, _, _, _, _, _, _, _, _, _, _, _, _, _, _, _, _, _, _, _, _, _, _, _, _, _, _, _, _, _, _, _, _, _, _, _, _, _, _, _, _, _, _, _, _, _, _, _, _, _, _, _, _, _, _, _, _, _, _, _, f 0, f 1, f 2, f 3, f 4, f 5, f 6, f 7, f 8, f 9, f 10, f 11, f 12, f 13, f 14, f 15, f 16, f 17, f 18, f 19, f 20, f 21, f 22, f 23, f 24, f 25, f 26, f 27, f 28, f 29, f 30, _, _, _, _, _, _, _, _, _, _, _, _, _, _, _, _, _, _, _, _, _, _, _, _, _, _, _, _, _, _, _, _, _], _⟩ _
            rw [show f 30 = _ from q30]
            clear q30
            have HRR := Lib.hid (HG7.out.trans hR)
            clear hR te te1 te2 te3
            go_wp2_with fail
            go_roundw
            case rel => exact ⟨k + 1, _, by omega, rfl, by go_num, ⟨L', Lib.hid ((HT2.out.grow HRR.out).mono (by omega)), Lib.hid (HR2.out.grow HRR.out)⟩, Lib.hid (HG2.out.trans HRR.out)⟩
            case measure => simp [intOf] <;> omega
        rcases hkc with rfl | rfl | rfl | hk2
        · skip
          have hset := fun (w2 : World) (hg : Grow wa w2) => set_any (HT.out.grow hg) (by omega) a.s HS.out a.v HVA.out
          have hrse := fun (w2 : World) (hg : Grow wa w2) => rsetS (HR.out.grow hg) HT.out.ok a.s HS.out a.v HVA.out
          unfold vv at hset hrse
          obtain ⟨e, he⟩ : ∃ e, e = setE L a.s a.v := ⟨_, rfl⟩
          obtain ⟨L', hL'⟩ : ∃ L', L' = if e = 0 then setT L a.s a.v else L := ⟨_, rfl⟩
          rw [← he, ← HNM.out, ← HCS.out, ← hL'] at hset hrse
          have HSET := Lib.hid hset
          have HRSE := Lib.hid hrse
          clear hset hrse he hL'
          go_wp2_with fail
          apply (fun (v0 v1 v2 v3 v4 v5 v6 v7 v8 v9 v10 v14 v16 : Value) mono obl tail => wp_region_par (R := Grow) (Φ := phi [veq v0, veq v1, veq v2, veq v3, veq v4, veq v5, veq v6, veq v7, veq v8, veq v9, veq v10, (IsRE L' (e : Int)), (IsRE L' (e : Int)), (IsRT L'), veq v14, (IsRT L'), veq v16]) (m := 17) (dls := [[], [], [], [(35, 1), (36, 2)], [(37, 3)], [(38, 4)], [], [], [(40, 6), (41, 7)], [(42, 8)], [(43, 9)], [(34, 0), (39, 5), (44, 10)], [(45, 11)], [(33, 12)], [(33, 12)], [(46, 13)], [(47, 14)]]) (ds := [34, 35, 36, 37, 38, 39, 40, 41, 42, 43, 44, 45, 33, 46, 47, 6, 8]) (by kernel_rfl) (by kernel_rfl) (by decide) rfl (Grow.drew _) (fun _ _ _ => Grow.trans) (mono_phi mono) obl tail)
          case obl =>
            refine obls_frame (fun a1 ha => ?_)
            have hsz := rd_size (n := 163) ha rfl
            have e6 := rd_slot 6 ha rfl
            have e0 := rd_slot 0 ha rfl
            have e7 := rd_slot 7 ha rfl
            clear ha
            refine obls_cons (fun f w' hR hH Q0 hQ0 => ?_) ?_
            · skip
              have s6 := sv_off f [] e6 rfl
              refine small_v hsz [(6, _)] ⟨some 1, (Op.move (.tmp 0)), 28, "", #[], none⟩ [_, undef] 1 rfl rfl ⟨s6, trivial⟩ rfl rfl hQ0 ?_
              clear hQ0 hH s6
              intro Q hQ
              repeat go_step
              exact hQ _ _ (Grow.refl _) rfl rfl
            refine obls_cons (fun f w' hR hH Q0 hQ0 => ?_) ?_
            · skip
              have s0 := sv_off f [] e0 rfl
              refine small_v hsz [(0, _)] ⟨some 1, (Op.move (.tmp 0)), 34, "", #[], none⟩ [_, undef] 1 rfl rfl ⟨s0, trivial⟩ rfl rfl hQ0 ?_
              clear hQ0 hH s0
              intro Q hQ
              repeat go_step
              exact hQ _ _ (Grow.refl _) rfl rfl
            refine obls_cons (fun f w' hR hH Q0 hQ0 => ?_) ?_
            · skip
              have s7 := sv_off f [] e7 rfl
              refine small_v hsz [(7, _)] ⟨some 1, (Op.move (.tmp 0)), 3, "", #[], none⟩ [_, undef] 1 rfl rfl ⟨s7, trivial⟩ rfl rfl hQ0 ?_
              clear hQ0 hH s7
              intro Q hQ
              repeat go_step
              exact hQ _ _ (Grow.refl _) rfl rfl
            refine obls_cons (fun f w' hR hH Q0 hQ0 => ?_) ?_
            · skip
              have s35 := (sv_at 35 1 hsz f [(35, 1), (36, 2)] rfl).trans (show f 1 = _ from hH.get 0 (35, 1) rfl)
              have s36 := (sv_at 36 2 hsz f [(35, 1), (36, 2)] rfl).trans (show f 2 = _ from hH.get 1 (36, 2) rfl)
              refine small_v hsz [(35, _), (36, _)] ⟨some 2, (Op.indexAddr 34 (.tmp 0) (.tmp 1)), 0, "", #[], none⟩ [_, _, undef] 2 rfl rfl ⟨s35, s36, trivial⟩ rfl rfl hQ0 ?_
              clear hQ0 hH s35 s36
              intro Q hQ
              repeat go_step
              exact hQ _ _ (Grow.refl _) rfl rfl
            refine obls_cons (fun f w' hR hH Q0 hQ0 => ?_) ?_
            · skip
              have s37 := (sv_at 37 3 hsz f [(37, 3)] rfl).trans (show f 3 = _ from hH.get 0 (37, 3) rfl)
              refine small_v hsz [(37, _)] ⟨some 1, (Op.fieldAddr 41 (.tmp 0) 1), 0, "", #[], none⟩ [_, undef] 1 rfl rfl ⟨s37, trivial⟩ rfl rfl hQ0 ?_
              clear hQ0 hH s37
              intro Q hQ
              repeat go_step
              exact hQ _ _ (Grow.refl _) rfl rfl
            refine obls_cons (fun f w' hR hH Q0 hQ0 => ?_) ?_
            · skip
              have s38 := (sv_at 38 4 hsz f [(38, 4)] rfl).trans (show f 4 = _ from hH.get 0 (38, 4) rfl)
              refine small_v hsz [(38, _)] ⟨some 1, (Op.load 9 (.tmp 0)), 9, "", #[], none⟩ [_, undef] 1 rfl rfl ⟨s38, trivial⟩ rfl rfl hQ0 ?_
              clear hQ0 hH s38
              intro Q hQ
              have z1 := HNAME.out _ (HG.out.trans hR)
              repeat go_step
              exact hQ _ _ (Grow.refl _) rfl rfl
            refine obls_cons (fun f w' hR hH Q0 hQ0 => ?_) ?_
            · skip
              have s0 := sv_off f [] e0 rfl
              refine small_v hsz [(0, _)] ⟨some 1, (Op.move (.tmp 0)), 34, "", #[], none⟩ [_, undef] 1 rfl rfl ⟨s0, trivial⟩ rfl rfl hQ0 ?_
              clear hQ0 hH s0
              intro Q hQ
              repeat go_step
              exact hQ _ _ (Grow.refl _) rfl rfl
            refine obls_cons (fun f w' hR hH Q0 hQ0 => ?_) ?_
            · skip
              have s7 := sv_off f [] e7 rfl
              refine small_v hsz [(7, _)] ⟨some 1, (Op.move (.tmp 0)), 3, "", #[], none⟩ [_, undef] 1 rfl rfl ⟨s7, trivial⟩ rfl rfl hQ0 ?_
              clear hQ0 hH s7
              intro Q hQ
              repeat go_step
              exact hQ _ _ (Grow.refl _) rfl rfl
            refine obls_cons (fun f w' hR hH Q0 hQ0 => ?_) ?_
            · skip
              have s40 := (sv_at 40 6 hsz f [(40, 6), (41, 7)] rfl).trans (show f 6 = _ from hH.get 0 (40, 6) rfl)
              have s41 := (sv_at 41 7 hsz f [(40, 6), (41, 7)] rfl).trans (show f 7 = _ from hH.get 1 (41, 7) rfl)
              refine small_v hsz [(40, _), (41, _)] ⟨some 2, (Op.indexAddr 34 (.tmp 0) (.tmp 1)), 0, "", #[], none⟩ [_, _, undef] 2 rfl rfl ⟨s40, s41, trivial⟩ rfl rfl hQ0 ?_
              clear hQ0 hH s40 s41
              intro Q hQ
              repeat go_step
              exact hQ _ _ (Grow.refl _) rfl rfl
            refine obls_cons (fun f w' hR hH Q0 hQ0 => ?_) ?_
            · skip
              have s42 := (sv_at 42 8 hsz f [(42, 8)] rfl).trans (show f 8 = _ from hH.get 0 (42, 8) rfl)
              refine small_v hsz [(42, _)] ⟨some 1, (Op.fieldAddr 41 (.tmp 0) 2), 0, "", #[], none⟩ [_, undef] 1 rfl rfl ⟨s42, trivial⟩ rfl rfl hQ0 ?_
              clear hQ0 hH s42
              intro Q hQ
              repeat go_step
              exact hQ _ _ (Grow.refl _) rfl rfl
            refine obls_cons (fun f w' hR hH Q0 hQ0 => ?_) ?_
            · skip
              have s43 := (sv_at 43 9 hsz f [(43, 9)] rfl).trans (show f 9 = _ from hH.get 0 (43, 9) rfl)
              refine small_v hsz [(43, _)] ⟨some 1, (Op.load 37 (.tmp 0)), 37, "", #[], none⟩ [_, undef] 1 rfl rfl ⟨s43, trivial⟩ rfl rfl hQ0 ?_
              clear hQ0 hH s43
              intro Q hQ
              have hcc := Lib.hid (HVEC.out _ (HG.out.trans hR))
              refine load_cells rfl _ _ rfl b (off + k * 66 + 2) rfl cs _ hcc.out undV rfl (by rw [sizeV, HIO.out.1]) ?_
              exact hQ _ _ (Grow.refl _) rfl rfl
            refine obls_cons (fun f w' hR hH Q0 hQ0 => ?_) ?_
            · skip
              have s34 := (sv_at 34 0 hsz f [(34, 0), (39, 5), (44, 10)] rfl).trans (show f 0 = _ from hH.get 0 (34, 0) rfl)
              have s39 := (sv_at 39 5 hsz f [(34, 0), (39, 5), (44, 10)] rfl).trans (show f 5 = _ from hH.get 1 (39, 5) rfl)
              have s44 := (sv_at 44 10 hsz f [(34, 0), (39, 5), (44, 10)] rfl).trans (show f 10 = _ from hH.get 2 (44, 10) rfl)
              refine small_v hsz [(34, _), (39, _), (44, _)] ⟨some 3, (Op.call (Call.mk (Callee.value (Operand.func 13)) #[(.tmp 0), (.tmp 1), (.tmp 2)] #[28, 9, 37])), 29, "", #[], none⟩ [_, _, _, undef] 3 rfl rfl ⟨s34, s39, s44, trivial⟩ rfl (ren_call rfl rfl) hQ0 ?_
              clear hQ0 hH s34 s39 s44
              intro Q hQ
              go_wp2_with (go_at_call 13; refine (HRSE.out _ hR).mono ?_; rintro e9 w9 ⟨⟨u9, rfl, h9⟩, hg9⟩)
              exact hQ _ _ hg9 h9 rfl
            refine obls_cons (fun f w' hR hH Q0 hQ0 => ?_) ?_
            · skip
              have h11 : (IsRE L' (e : Int)) (f 11) w' := hH.get 0 (45, 11) rfl
              have s45 := sv_at 45 11 hsz f [(45, 11)] rfl
              obtain ⟨u11, hu11⟩ : ∃ u, f 11 = u := ⟨_, rfl⟩
              rw [hu11] at s45 h11
              clear hu11
              refine small_v hsz [(45, _)] ⟨some 1, (Op.move (.tmp 0)), 29, "", #[], none⟩ [_, undef] 1 rfl rfl ⟨s45, trivial⟩ rfl rfl hQ0 ?_
              clear hQ0 hH s45
              intro Q hQ
              repeat go_step
              exact hQ _ _ (Grow.refl _) h11 rfl
            refine obls_cons (fun f w' hR hH Q0 hQ0 => ?_) ?_
            · skip
              have h12 : (IsRE L' (e : Int)) (f 12) w' := hH.get 0 (33, 12) rfl
              have s33 := sv_at 33 12 hsz f [(33, 12)] rfl
              obtain ⟨u12, hu12⟩ : ∃ u, f 12 = u := ⟨_, rfl⟩
              rw [hu12] at s33 h12
              clear hu12
              refine small_v hsz [(33, _)] ⟨some 1, (Op.extract (.tmp 0) 0), 28, "", #[], none⟩ [_, undef] 1 rfl rfl ⟨s33, trivial⟩ rfl rfl hQ0 ?_
              clear hQ0 hH s33
              intro Q hQ
              obtain ⟨v9, rfl, h9⟩ := h12
              repeat go_step
              exact hQ _ _ (Grow.refl _) h9 rfl
            refine obls_cons (fun f w' hR hH Q0 hQ0 => ?_) ?_
            · skip
              have h12 : (IsRE L' (e : Int)) (f 12) w' := hH.get 0 (33, 12) rfl
              have s33 := sv_at 33 12 hsz f [(33, 12)] rfl
              obtain ⟨u12, hu12⟩ : ∃ u, f 12 = u := ⟨_, rfl⟩
              rw [hu12] at s33 h12
              clear hu12
              refine small_v hsz [(33, _)] ⟨some 1, (Op.extract (.tmp 0) 1), 3, "", #[], none⟩ [_, undef] 1 rfl rfl ⟨s33, trivial⟩ rfl rfl hQ0 ?_
              clear hQ0 hH s33
              intro Q hQ
              obtain ⟨v9, rfl, h9⟩ := h12
              repeat go_step
              exact hQ _ _ (Grow.refl _) rfl rfl
            refine obls_cons (fun f w' hR hH Q0 hQ0 => ?_) ?_
            · skip
              have h13 : (IsRT L') (f 13) w' := hH.get 0 (46, 13) rfl
              have s46 := sv_at 46 13 hsz f [(46, 13)] rfl
              obtain ⟨u13, hu13⟩ : ∃ u, f 13 = u := ⟨_, rfl⟩
              rw [hu13] at s46 h13
              clear hu13
              refine small_v hsz [(46, _)] ⟨some 1, (Op.assign (.tmp 0)), 28, "", #[], none⟩ [_, undef] 1 rfl rfl ⟨s46, trivial⟩ rfl rfl hQ0 ?_
              clear hQ0 hH s46
              intro Q hQ
              repeat go_step
              exact hQ _ _ (Grow.refl _) h13 rfl
            refine obls_cons (fun f w' hR hH Q0 hQ0 => ?_) ?_
            · skip
              have s47 := (sv_at 47 14 hsz f [(47, 14)] rfl).trans (show f 14 = _ from hH.get 0 (47, 14) rfl)
              refine small_v hsz [(47, _)] ⟨some 1, (Op.assign (.tmp 0)), 3, "", #[], none⟩ [_, undef] 1 rfl rfl ⟨s47, trivial⟩ rfl rfl hQ0 ?_
              clear hQ0 hH s47
              intro Q hQ
              repeat go_step
              exact hQ _ _ (Grow.refl _) rfl rfl
            exact obls_nil
          case mono => exact ⟨Mono.veq _, Mono.veq _, Mono.veq _, Mono.veq _, Mono.veq _, Mono.veq _, Mono.veq _, Mono.veq _, Mono.veq _, Mono.veq _, Mono.veq _, IsRE.mono, IsRE.mono, IsRT.mono, Mono.veq _, IsRT.mono, Mono.veq _, trivial⟩
          case tail =>
            intro f w' hR hH
            have q15 : (IsRT L') (f 15) w' := hH.get 15 (6, 15) rfl
            have q16 := hH.get 16 (8, 16) rfl
            clear hH
            refine wpList_merge (idx := [none, none, none, none, none, none, some 15, none, some 16, none, none, none, none, none, none, none, none, none, none, none, none, none, none, none, none, none, none, none, none, none, none, none, none, some 12, some 0, some 1, some 2, some 3, some 4, some 5, some 6, some 7, some 8, some 9, some 10, some 11, some 13, some 14, none, none, none, none, none, none, none, none, none, none, none, none, none, none, none, none, none, none, none, none, none, none, none, none, none, none, none, none, none, none, none, none, none, none, none, none, none, none, none, none, none, none, none, none, none, none, none, none, none, none, none, none, none, none, none, none, none, none, none, none, none, none, none, none, none, none, none, none, none, none, none, none, none, none, none, none, none, none, none, none, none, none, none, none, none, none, none, none, none, none, none, none, none, none, none, none, none, none, none, none, none, none, none, none, none, none, none, none, none, none, none, none, none, none, none]) (by kernel_rfl) ?_; show wpList _ _ _ [] ⟨#[_, _, _, _, _, _, f 15, _, f 16, _, _, _, _, _, _, _, _, _, _, _, _, _, _, _, _, _, _, _, _, _, _, _, _, f 12, f 0, f 1, f 2, f 3, f 4, f 5, f 6, f 7, f 8, f 9, f 10, f 11, f 13, f 14, _, _, _, _, _, _, _, _, _, _, _, _, _, _, _, _, _, _, _, _, _, _, _, _, _, _, _, _, _, _, _, _, _, _, _, _, _, _, _, _, _, _, _, _, _, _, _, _, _, _, _, _, _, _, _, _, _, _, _, _, _, _, _, _, _, _, _, _, _, _, _, _, _, _, _, _, _, _, _, _, _, _, _, _, _, _, _, _, _, _, _, _, _, _, _, _, _, _, _, _, _, _, _, _, _, _, _, _, _, _, _, _, _, _, _], _⟩ _
            rw [show f 16 = _ from q16]
            clear q16
            obtain ⟨x15, hx15⟩ : ∃ x, f 15 = x := ⟨_, rfl⟩
            rw [hx15] at q15 ⊢
            clear hx15
            obtain ⟨vx', hvx⟩ : ∃ vx', vx' = x15 := ⟨_, rfl⟩
            subst hvx
            have hrt : RT w' vx' L' := q15
            clear q15
            obtain ⟨wy, rfl⟩ : ∃ wy, wy = w' := ⟨_, rfl⟩
            have HRT := Lib.hid hrt
            have HGY := Lib.hid hR
            clear hR hrt HRSE
            go_wp2_with fail
            apply (fun (v0 v1 v2 v3 v4 v5 v6 v7 v8 v9 v10 v11 v12 : Value) mono draw obl tail => wp_region_piv (I := Go.Kit.two (Grow wy) (fun w2 => TagI w2 W0.heap.size g bs bn (7 * k + 7) L' ∧ RT w2 vx' L' ∧ Grow W0 w2)) (G := Grow) (Rp := (fun _ _ _ => True)) (Φ := phi2 [veq2 v0, veq2 v1, veq2 v2, veq2 v3, veq2 v4, veq2 v5, veq2 v6, veq2 v7, veq2 v8, veq2 v9, veq2 v10, veq2 v11, veq2 v12]) (m := 13) (ps := [11]) (qs := [(0, 0, false), (0, 0, false), (0, 0, false), (0, 0, false), (0, 0, false), (0, 0, false), (0, 0, false), (0, 0, false), (0, 0, false), (0, 0, false), (0, 0, false), (0, 0, true), (1, 1, false)]) (dls := [[], [], [], [(49, 1), (50, 2)], [(51, 3)], [(52, 4)], [], [], [(54, 6), (55, 7)], [(56, 8)], [(57, 9)], [(48, 0), (53, 5), (58, 10)], [(59, 11)]]) (ds := [48, 49, 50, 51, 52, 53, 54, 55, 56, 57, 58, 59, 9]) (by kernel_rfl) (by kernel_rfl) (by kernel_rfl) (by decide) rfl rfl draw (mono2_phi mono) (piv2_phi mono) obl tail)
            case obl =>
              refine obls2_cons (fun b hb1 hb2 f w' hI hH Q hQ => ?_) ?_
              · skip
                obtain rfl : b = 0 := by omega
                clear hb1 hb2
                clear hH
                refine wpList_view ?_; show wpList _ _ _ [_] ⟨#[_, _, _, _, _, _, _, _, _, _, _, _, _, _, _, _, _, _, _, _, _, _, _, _, _, _, _, _, _, _, _, _, _, _, _, _, _, _, _, _, _, _, _, _, _, _, _, _, _, _, _, _, _, _, _, _, _, _, _, _, _, _, _, _, _, _, _, _, _, _, _, _, _, _, _, _, _, _, _, _, _, _, _, _, _, _, _, _, _, _, _, _, _, _, _, _, _, _, _, _, _, _, _, _, _, _, _, _, _, _, _, _, _, _, _, _, _, _, _, _, _, _, _, _, _, _, _, _, _, _, _, _, _, _, _, _, _, _, _, _, _, _, _, _, _, _, _, _, _, _, _, _, _, _, _, _, _, _, _, _, _, _, _], _⟩ _
                repeat (first | go_guarded | go_step)
                exact hQ _ _ hI (Grow.refl _) rfl rfl
              refine obls2_cons (fun b hb1 hb2 f w' hI hH Q hQ => ?_) ?_
              · skip
                obtain rfl : b = 0 := by omega
                clear hb1 hb2
                clear hH
                refine wpList_view ?_; show wpList _ _ _ [_] ⟨#[_, _, _, _, _, _, _, _, _, _, _, _, _, _, _, _, _, _, _, _, _, _, _, _, _, _, _, _, _, _, _, _, _, _, _, _, _, _, _, _, _, _, _, _, _, _, _, _, _, _, _, _, _, _, _, _, _, _, _, _, _, _, _, _, _, _, _, _, _, _, _, _, _, _, _, _, _, _, _, _, _, _, _, _, _, _, _, _, _, _, _, _, _, _, _, _, _, _, _, _, _, _, _, _, _, _, _, _, _, _, _, _, _, _, _, _, _, _, _, _, _, _, _, _, _, _, _, _, _, _, _, _, _, _, _, _, _, _, _, _, _, _, _, _, _, _, _, _, _, _, _, _, _, _, _, _, _, _, _, _, _, _, _], _⟩ _
                repeat (first | go_guarded | go_step)
                exact hQ _ _ hI (Grow.refl _) rfl rfl
              refine obls2_cons (fun b hb1 hb2 f w' hI hH Q hQ => ?_) ?_
              · skip
                obtain rfl : b = 0 := by omega
                clear hb1 hb2
                clear hH
                refine wpList_view ?_; show wpList _ _ _ [_] ⟨#[_, _, _, _, _, _, _, _, _, _, _, _, _, _, _, _, _, _, _, _, _, _, _, _, _, _, _, _, _, _, _, _, _, _, _, _, _, _, _, _, _, _, _, _, _, _, _, _, _, _, _, _, _, _, _, _, _, _, _, _, _, _, _, _, _, _, _, _, _, _, _, _, _, _, _, _, _, _, _, _, _, _, _, _, _, _, _, _, _, _, _, _, _, _, _, _, _, _, _, _, _, _, _, _, _, _, _, _, _, _, _, _, _, _, _, _, _, _, _, _, _, _, _, _, _, _, _, _, _, _, _, _, _, _, _, _, _, _, _, _, _, _, _, _, _, _, _, _, _, _, _, _, _, _, _, _, _, _, _, _, _, _, _], _⟩ _
                repeat (first | go_guarded | go_step)
                exact hQ _ _ hI (Grow.refl _) rfl rfl
              refine obls2_cons (fun b hb1 hb2 f w' hI hH Q hQ => ?_) ?_
              · skip
                obtain rfl : b = 0 := by omega
                clear hb1 hb2
                have h1 := hH.get 0 (49, 1) rfl
                have h2 := hH.get 1 (50, 2) rfl
                clear hH
                refine wpList_view ?_; show wpList _ _ _ [_] ⟨#[_, _, _, _, _, _, _, _, _, _, _, _, _, _, _, _, _, _, _, _, _, _, _, _, _, _, _, _, _, _, _, _, _, _, _, _, _, _, _, _, _, _, _, _, _, _, _, _, _, f 1, f 2, _, _, _, _, _, _, _, _, _, _, _, _, _, _, _, _, _, _, _, _, _, _, _, _, _, _, _, _, _, _, _, _, _, _, _, _, _, _, _, _, _, _, _, _, _, _, _, _, _, _, _, _, _, _, _, _, _, _, _, _, _, _, _, _, _, _, _, _, _, _, _, _, _, _, _, _, _, _, _, _, _, _, _, _, _, _, _, _, _, _, _, _, _, _, _, _, _, _, _, _, _, _, _, _, _, _, _, _, _, _, _, _], _⟩ _
                rw [show f 1 = _ from h1]
                rw [show f 2 = _ from h2]
                clear h1 h2
                repeat (first | go_guarded | go_step)
                exact hQ _ _ hI (Grow.refl _) rfl rfl
              refine obls2_cons (fun b hb1 hb2 f w' hI hH Q hQ => ?_) ?_
              · skip
                obtain rfl : b = 0 := by omega
                clear hb1 hb2
                have h3 := hH.get 0 (51, 3) rfl
                clear hH
                refine wpList_view ?_; show wpList _ _ _ [_] ⟨#[_, _, _, _, _, _, _, _, _, _, _, _, _, _, _, _, _, _, _, _, _, _, _, _, _, _, _, _, _, _, _, _, _, _, _, _, _, _, _, _, _, _, _, _, _, _, _, _, _, _, _, f 3, _, _, _, _, _, _, _, _, _, _, _, _, _, _, _, _, _, _, _, _, _, _, _, _, _, _, _, _, _, _, _, _, _, _, _, _, _, _, _, _, _, _, _, _, _, _, _, _, _, _, _, _, _, _, _, _, _, _, _, _, _, _, _, _, _, _, _, _, _, _, _, _, _, _, _, _, _, _, _, _, _, _, _, _, _, _, _, _, _, _, _, _, _, _, _, _, _, _, _, _, _, _, _, _, _, _, _, _, _, _, _], _⟩ _
                rw [show f 3 = _ from h3]
                clear h3
                repeat (first | go_guarded | go_step)
                exact hQ _ _ hI (Grow.refl _) rfl rfl
              refine obls2_cons (fun b hb1 hb2 f w' hI hH Q hQ => ?_) ?_
              · skip
                obtain rfl : b = 0 := by omega
                clear hb1 hb2
                have h4 := hH.get 0 (52, 4) rfl
                clear hH
                refine wpList_view ?_; show wpList _ _ _ [_] ⟨#[_, _, _, _, _, _, _, _, _, _, _, _, _, _, _, _, _, _, _, _, _, _, _, _, _, _, _, _, _, _, _, _, _, _, _, _, _, _, _, _, _, _, _, _, _, _, _, _, _, _, _, _, f 4, _, _, _, _, _, _, _, _, _, _, _, _, _, _, _, _, _, _, _, _, _, _, _, _, _, _, _, _, _, _, _, _, _, _, _, _, _, _, _, _, _, _, _, _, _, _, _, _, _, _, _, _, _, _, _, _, _, _, _, _, _, _, _, _, _, _, _, _, _, _, _, _, _, _, _, _, _, _, _, _, _, _, _, _, _, _, _, _, _, _, _, _, _, _, _, _, _, _, _, _, _, _, _, _, _, _, _, _, _, _], _⟩ _
                rw [show f 4 = _ from h4]
                clear h4
                have z1 := HNAME.out _ ((HG.out.trans HGY.out).trans (show Grow wy w' from hI.get0))
                repeat (first | go_guarded | go_step)
                exact hQ _ _ hI (Grow.refl _) rfl rfl
              refine obls2_cons (fun b hb1 hb2 f w' hI hH Q hQ => ?_) ?_
              · skip
                obtain rfl : b = 0 := by omega
                clear hb1 hb2
                clear hH
                refine wpList_view ?_; show wpList _ _ _ [_] ⟨#[_, _, _, _, _, _, _, _, _, _, _, _, _, _, _, _, _, _, _, _, _, _, _, _, _, _, _, _, _, _, _, _, _, _, _, _, _, _, _, _, _, _, _, _, _, _, _, _, _, _, _, _, _, _, _, _, _, _, _, _, _, _, _, _, _, _, _, _, _, _, _, _, _, _, _, _, _, _, _, _, _, _, _, _, _, _, _, _, _, _, _, _, _, _, _, _, _, _, _, _, _, _, _, _, _, _, _, _, _, _, _, _, _, _, _, _, _, _, _, _, _, _, _, _, _, _, _, _, _, _, _, _, _, _, _, _, _, _, _, _, _, _, _, _, _, _, _, _, _, _, _, _, _, _, _, _, _, _, _, _, _, _, _], _⟩ _
                repeat (first | go_guarded | go_step)
                exact hQ _ _ hI (Grow.refl _) rfl rfl
              refine obls2_cons (fun b hb1 hb2 f w' hI hH Q hQ => ?_) ?_
              · skip
                obtain rfl : b = 0 := by omega
                clear hb1 hb2
                clear hH
                refine wpList_view ?_; show wpList _ _ _ [_] ⟨#[_, _, _, _, _, _, _, _, _, _, _, _, _, _, _, _, _, _, _, _, _, _, _, _, _, _, _, _, _, _, _, _, _, _, _, _, _, _, _, _, _, _, _, _, _, _, _, _, _, _, _, _, _, _, _, _, _, _, _, _, _, _, _, _, _, _, _, _, _, _, _, _, _, _, _, _, _, _, _, _, _, _, _, _, _, _, _, _, _, _, _, _, _, _, _, _, _, _, _, _, _, _, _, _, _, _, _, _, _, _, _, _, _, _, _, _, _, _, _, _, _, _, _, _, _, _, _, _, _, _, _, _, _, _, _, _, _, _, _, _, _, _, _, _, _, _, _, _, _, _, _, _, _, _, _, _, _, _, _, _, _, _, _], _⟩ _
                repeat (first | go_guarded | go_step)
                exact hQ _ _ hI (Grow.refl _) rfl rfl
              refine obls2_cons (fun b hb1 hb2 f w' hI hH Q hQ => ?_) ?_
              · skip
                obtain rfl : b = 0 := by omega
                clear hb1 hb2
                have h6 := hH.get 0 (54, 6) rfl
                have h7 := hH.get 1 (55, 7) rfl
                clear hH
                refine wpList_view ?_; show wpList _ _ _ [_] ⟨#[_, _, _, _, _, _, _, _, _, _, _, _, _, _, _, _, _, _, _, _, _, _, _, _, _, _, _, _, _, _, _, _, _, _, _, _, _, _, _, _, _, _, _, _, _, _, _, _, _, _, _, _, _, _, f 6, f 7, _, _, _, _, _, _, _, _, _, _, _, _, _, _, _, _, _, _, _, _, _, _, _, _, _, _, _, _, _, _, _, _, _, _, _, _, _, _, _, _, _, _, _, _, _, _, _, _, _, _, _, _, _, _, _, _, _, _, _, _, _, _, _, _, _, _, _, _, _, _, _, _, _, _, _, _, _, _, _, _, _, _, _, _, _, _, _, _, _, _, _, _, _, _, _, _, _, _, _, _, _, _, _, _, _, _, _], _⟩ _
                rw [show f 6 = _ from h6]
                rw [show f 7 = _ from h7]
                clear h6 h7
                repeat (first | go_guarded | go_step)
                exact hQ _ _ hI (Grow.refl _) rfl rfl
              refine obls2_cons (fun b hb1 hb2 f w' hI hH Q hQ => ?_) ?_
              · skip
                obtain rfl : b = 0 := by omega
                clear hb1 hb2
                have h8 := hH.get 0 (56, 8) rfl
                clear hH
                refine wpList_view ?_; show wpList _ _ _ [_] ⟨#[_, _, _, _, _, _, _, _, _, _, _, _, _, _, _, _, _, _, _, _, _, _, _, _, _, _, _, _, _, _, _, _, _, _, _, _, _, _, _, _, _, _, _, _, _, _, _, _, _, _, _, _, _, _, _, _, f 8, _, _, _, _, _, _, _, _, _, _, _, _, _, _, _, _, _, _, _, _, _, _, _, _, _, _, _, _, _, _, _, _, _, _, _, _, _, _, _, _, _, _, _, _, _, _, _, _, _, _, _, _, _, _, _, _, _, _, _, _, _, _, _, _, _, _, _, _, _, _, _, _, _, _, _, _, _, _, _, _, _, _, _, _, _, _, _, _, _, _, _, _, _, _, _, _, _, _, _, _, _, _, _, _, _, _], _⟩ _
                rw [show f 8 = _ from h8]
                clear h8
                repeat (first | go_guarded | go_step)
                exact hQ _ _ hI (Grow.refl _) rfl rfl
              refine obls2_cons (fun b hb1 hb2 f w' hI hH Q hQ => ?_) ?_
              · skip
                obtain rfl : b = 0 := by omega
                clear hb1 hb2
                have h9 := hH.get 0 (57, 9) rfl
                clear hH
                refine wpList_view ?_; show wpList _ _ _ [_] ⟨#[_, _, _, _, _, _, _, _, _, _, _, _, _, _, _, _, _, _, _, _, _, _, _, _, _, _, _, _, _, _, _, _, _, _, _, _, _, _, _, _, _, _, _, _, _, _, _, _, _, _, _, _, _, _, _, _, _, f 9, _, _, _, _, _, _, _, _, _, _, _, _, _, _, _, _, _, _, _, _, _, _, _, _, _, _, _, _, _, _, _, _, _, _, _, _, _, _, _, _, _, _, _, _, _, _, _, _, _, _, _, _, _, _, _, _, _, _, _, _, _, _, _, _, _, _, _, _, _, _, _, _, _, _, _, _, _, _, _, _, _, _, _, _, _, _, _, _, _, _, _, _, _, _, _, _, _, _, _, _, _, _, _, _, _], _⟩ _
                rw [show f 9 = _ from h9]
                clear h9
                have hG := Lib.hid (show Grow wy w' from hI.get0)
                have hcc := Lib.hid (HVEC.out _ ((HG.out.trans HGY.out).trans hG.out))
                clear hI
                refine load_cells rfl _ _ rfl b (off + k * 66 + 2) rfl cs _ hcc.out undV rfl (by rw [sizeV, HIO.out.1]) ?_
                exact hQ _ _ (Go.Kit.two.zero hG.out) (Grow.refl _) rfl rfl
              refine oblsP_cons (fun f w' hI hH Q hQ => ?_) ?_
              · skip
                have h0 := hH.get 0 (48, 0) rfl
                have h5 := hH.get 1 (53, 5) rfl
                have h10 := hH.get 2 (58, 10) rfl
                clear hH
                refine wpList_merge (idx := [none, none, none, none, none, none, none, none, none, none, none, none, none, none, none, none, none, none, none, none, none, none, none, none, none, none, none, none, none, none, none, none, none, none, none, none, none, none, none, none, none, none, none, none, none, none, none, none, some 0, none, none, none, none, some 5, none, none, none, none, some 10, none, none, none, none, none, none, none, none, none, none, none, none, none, none, none, none, none, none, none, none, none, none, none, none, none, none, none, none, none, none, none, none, none, none, none, none, none, none, none, none, none, none, none, none, none, none, none, none, none, none, none, none, none, none, none, none, none, none, none, none, none, none, none, none, none, none, none, none, none, none, none, none, none, none, none, none, none, none, none, none, none, none, none, none, none, none, none, none, none, none, none, none, none, none, none, none, none, none, none, none, none, none, none, none]) (by kernel_rfl) ?_; show wpList _ _ _ [_] ⟨#[_, _, _, _, _, _, _, _, _, _, _, _, _, _, _, _, _, _, _, _, _, _, _, _, _, _, _, _, _, _, _, _, _, _, _, _, _, _, _, _, _, _, _, _, _, _, _, _, f 0, _, _, _, _, f 5, _, _, _, _, f 10, _, _, _, _, _, _, _, _, _, _, _, _, _, _, _, _, _, _, _, _, _, _, _, _, _, _, _, _, _, _, _, _, _, _, _, _, _, _, _, _, _, _, _, _, _, _, _, _, _, _, _, _, _, _, _, _, _, _, _, _, _, _, _, _, _, _, _, _, _, _, _, _, _, _, _, _, _, _, _, _, _, _, _, _, _, _, _, _, _, _, _, _, _, _, _, _, _, _, _, _, _, _, _, _], _⟩ _
                rw [show f 0 = _ from h0]
                rw [show f 5 = _ from h5]
                rw [show f 10 = _ from h10]
                clear h0 h5 h10
                have hG := Lib.hid (show Grow wy w' from hI.get0)
                clear hI
                go_wp2_with (refine (HSET.out _ (HGY.out.trans hG.out)).mono ?_; rintro r w2 ⟨rfl, ht2, hk2⟩)
                exact hQ _ _ (Go.Kit.two.one ⟨ht2, (HRT.out.grow hG.out).keep (HT.out.grow (HGY.out.trans hG.out)) hk2, hk2.grow ((HG.out.trans HGY.out).trans hG.out) rfl⟩) trivial rfl rfl
              refine obls2_cons (fun b hb1 hb2 f w' hI hH Q hQ => ?_) ?_
              · skip
                obtain rfl : b = 1 := by omega
                clear hb1 hb2
                have h11 := hH.get 0 (59, 11) rfl
                clear hH
                refine wpList_view ?_; show wpList _ _ _ [_] ⟨#[_, _, _, _, _, _, _, _, _, _, _, _, _, _, _, _, _, _, _, _, _, _, _, _, _, _, _, _, _, _, _, _, _, _, _, _, _, _, _, _, _, _, _, _, _, _, _, _, _, _, _, _, _, _, _, _, _, _, _, f 11, _, _, _, _, _, _, _, _, _, _, _, _, _, _, _, _, _, _, _, _, _, _, _, _, _, _, _, _, _, _, _, _, _, _, _, _, _, _, _, _, _, _, _, _, _, _, _, _, _, _, _, _, _, _, _, _, _, _, _, _, _, _, _, _, _, _, _, _, _, _, _, _, _, _, _, _, _, _, _, _, _, _, _, _, _, _, _, _, _, _, _, _, _, _, _, _, _, _, _, _, _, _, _], _⟩ _
                rw [show f 11 = _ from h11]
                clear h11
                repeat (first | go_guarded | go_step)
                exact hQ _ _ hI (Grow.refl _) rfl rfl
              exact obls2_nil
            case draw =>
              exact Go.Kit.two.zero (Grow.drew _)
            case mono => exact ⟨Mono2.veq _, Mono2.veq _, Mono2.veq _, Mono2.veq _, Mono2.veq _, Mono2.veq _, Mono2.veq _, Mono2.veq _, Mono2.veq _, Mono2.veq _, Mono2.veq _, Mono2.veq _, Mono2.veq _, trivial⟩
            case tail =>
              intro f w' hI hH
              have q12 := hH.get 12 (9, 12) rfl
              clear hH
              refine wpList_merge (idx := [none, none, none, none, none, none, none, none, none, some 12, none, none, none, none, none, none, none, none, none, none, none, none, none, none, none, none, none, none, none, none, none, none, none, none, none, none, none, none, none, none, none, none, none, none, none, none, none, none, some 0, some 1, some 2, some 3, some 4, some 5, some 6, some 7, some 8, some 9, some 10, some 11, none, none, none, none, none, none, none, none, none, none, none, none, none, none, none, none, none, none, none, none, none, none, none, none, none, none, none, none, none, none, none, none, none, none, none, none, none, none, none, none, none, none, none, none, none, none, none, none, none, none, none, none, none, none, none, none, none, none, none, none, none, none, none, none, none, none, none, none, none, none, none, none, none, none, none, none, none, none, none, none, none, none, none, none, none, none, none, none, none, none, none, none, none, none, none, none, none, none, none, none, none, none, none]) (by kernel_rfl) ?_; show wpList _ _ _ [] ⟨#[_, _, _, _, _, _, _, _, _, f 12, _, _, _, _, _, _, _, _, _, _, _, _, _, _, _, _, _, _, _, _, _, _, _, _, _, _, _, _, _, _, _, _, _, _, _, _, _, _, f 0, f 1, f 2, f 3, f 4, f 5, f 6, f 7, f 8, f 9, f 10, f 11, _, _, _, _, _, _, _, _, _, _, _, _, _, _, _, _, _, _, _, _, _, _, _, _, _, _, _, _, _, _, _, _, _, _, _, _, _, _, _, _, _, _, _, _, _, _, _, _, _, _, _, _, _, _, _, _, _, _, _, _, _, _, _, _, _, _, _, _, _, _, _, _, _, _, _, _, _, _, _, _, _, _, _, _, _, _, _, _, _, _, _, _, _, _, _, _, _, _, _, _, _, _, _], _⟩ _
              rw [show f 12 = _ from q12]
              clear q12
              have HM := Lib.hid hI.get1
              clear hI
              go_wp2_with fail
              refine CutEnd.mk rfl ?_
              exact ⟨L', (e : Int), rfl, rfl, HM.out.1, HM.out.2.1, HM.out.2.2⟩
        · skip
          have hset := fun (w2 : World) (hg : Grow wa w2) => set_any (HT.out.grow hg) (by omega) a.s HS.out a.v HVA.out
          have hrse := fun (w2 : World) (hg : Grow wa w2) => rsetS (HR.out.grow hg) HT.out.ok a.s HS.out a.v HVA.out
          unfold vv at hset hrse
          obtain ⟨e, he⟩ : ∃ e, e = setE L a.s a.v := ⟨_, rfl⟩
          obtain ⟨L', hL'⟩ : ∃ L', L' = if e = 0 then setT L a.s a.v else L := ⟨_, rfl⟩
          rw [← he, ← HNM.out, ← HCS.out, ← hL'] at hset hrse
          have HSET := Lib.hid hset
          have HRSE := Lib.hid hrse
          clear hset hrse he hL'
          go_wp2_with fail
          apply (fun (v0 v1 v2 v3 v4 v5 v6 v7 v8 v9 v10 v14 v16 : Value) mono obl tail => wp_region_par (R := Grow) (Φ := phi [veq v0, veq v1, veq v2, veq v3, veq v4, veq v5, veq v6, veq v7, veq v8, veq v9, veq v10, (IsRE L' (e : Int)), (IsRE L' (e : Int)), (IsRT L'), veq v14, (IsRT L'), veq v16]) (m := 17) (dls := [[], [], [], [(35, 1), (36, 2)], [(37, 3)], [(38, 4)], [], [], [(40, 6), (41, 7)], [(42, 8)], [(43, 9)], [(34, 0), (39, 5), (44, 10)], [(45, 11)], [(33, 12)], [(33, 12)], [(46, 13)], [(47, 14)]]) (ds := [34, 35, 36, 37, 38, 39, 40, 41, 42, 43, 44, 45, 33, 46, 47, 6, 8]) (by kernel_rfl) (by kernel_rfl) (by decide) rfl (Grow.drew _) (fun _ _ _ => Grow.trans) (mono_phi mono) obl tail)
          case obl =>
            refine obls_frame (fun a1 ha => ?_)
            have hsz := rd_size (n := 163) ha rfl
            have e6 := rd_slot 6 ha rfl
            have e0 := rd_slot 0 ha rfl
            have e7 := rd_slot 7 ha rfl
            clear ha
            refine obls_cons (fun f w' hR hH Q0 hQ0 => ?_) ?_
            · skip
              have s6 := sv_off f [] e6 rfl
              refine small_v hsz [(6, _)] ⟨some 1, (Op.move (.tmp 0)), 28, "", #[], none⟩ [_, undef] 1 rfl rfl ⟨s6, trivial⟩ rfl rfl hQ0 ?_
              clear hQ0 hH s6
              intro Q hQ
              repeat go_step
              exact hQ _ _ (Grow.refl _) rfl rfl
            refine obls_cons (fun f w' hR hH Q0 hQ0 => ?_) ?_
            · skip
              have s0 := sv_off f [] e0 rfl
              refine small_v hsz [(0, _)] ⟨some 1, (Op.move (.tmp 0)), 34, "", #[], none⟩ [_, undef] 1 rfl rfl ⟨s0, trivial⟩ rfl rfl hQ0 ?_
              clear hQ0 hH s0
              intro Q hQ
              repeat go_step
              exact hQ _ _ (Grow.refl _) rfl rfl
            refine obls_cons (fun f w' hR hH Q0 hQ0 => ?_) ?_
            · skip
              have s7 := sv_off f [] e7 rfl
              refine small_v hsz [(7, _)] ⟨some 1, (Op.move (.tmp 0)), 3, "", #[], none⟩ [_, undef] 1 rfl rfl ⟨s7, trivial⟩ rfl rfl hQ0 ?_
              clear hQ0 hH s7
              intro Q hQ
              repeat go_step
              exact hQ _ _ (Grow.refl _) rfl rfl
            refine obls_cons (fun f w' hR hH Q0 hQ0 => ?_) ?_
            · skip
              have s35 := (sv_at 35 1 hsz f [(35, 1), (36, 2)] rfl).trans (show f 1 = _ from hH.get 0 (35, 1) rfl)
              have s36 := (sv_at 36 2 hsz f [(35, 1), (36, 2)] rfl).trans (show f 2 = _ from hH.get 1 (36, 2) rfl)
              refine small_v hsz [(35, _), (36, _)] ⟨some 2, (Op.indexAddr 34 (.tmp 0) (.tmp 1)), 0, "", #[], none⟩ [_, _, undef] 2 rfl rfl ⟨s35, s36, trivial⟩ rfl rfl hQ0 ?_
              clear hQ0 hH s35 s36
              intro Q hQ
              repeat go_step
              exact hQ _ _ (Grow.refl _) rfl rfl
            refine obls_cons (fun f w' hR hH Q0 hQ0 => ?_) ?_
            · skip
              have s37 := (sv_at 37 3 hsz f [(37, 3)] rfl).trans (show f 3 = _ from hH.get 0 (37, 3) rfl)
              refine small_v hsz [(37, _)] ⟨some 1, (Op.fieldAddr 41 (.tmp 0) 1), 0, "", #[], none⟩ [_, undef] 1 rfl rfl ⟨s37, trivial⟩ rfl rfl hQ0 ?_
              clear hQ0 hH s37
              intro Q hQ
              repeat go_step
              exact hQ _ _ (Grow.refl _) rfl rfl
            refine obls_cons (fun f w' hR hH Q0 hQ0 => ?_) ?_
            · skip
              have s38 := (sv_at 38 4 hsz f [(38, 4)] rfl).trans (show f 4 = _ from hH.get 0 (38, 4) rfl)
              refine small_v hsz [(38, _)] ⟨some 1, (Op.load 9 (.tmp 0)), 9, "", #[], none⟩ [_, undef] 1 rfl rfl ⟨s38, trivial⟩ rfl rfl hQ0 ?_
              clear hQ0 hH s38
              intro Q hQ
              have z1 := HNAME.out _ (HG.out.trans hR)
              repeat go_step
              exact hQ _ _ (Grow.refl _) rfl rfl
            refine obls_cons (fun f w' hR hH Q0 hQ0 => ?_) ?_
            · skip
              have s0 := sv_off f [] e0 rfl
              refine small_v hsz [(0, _)] ⟨some 1, (Op.move (.tmp 0)), 34, "", #[], none⟩ [_, undef] 1 rfl rfl ⟨s0, trivial⟩ rfl rfl hQ0 ?_
              clear hQ0 hH s0
              intro Q hQ
              repeat go_step
              exact hQ _ _ (Grow.refl _) rfl rfl
            refine obls_cons (fun f w' hR hH Q0 hQ0 => ?_) ?_
            · skip
              have s7 := sv_off f [] e7 rfl
              refine small_v hsz [(7, _)] ⟨some 1, (Op.move (.tmp 0)), 3, "", #[], none⟩ [_, undef] 1 rfl rfl ⟨s7, trivial⟩ rfl rfl hQ0 ?_
              clear hQ0 hH s7
              intro Q hQ
              repeat go_step
              exact hQ _ _ (Grow.refl _) rfl rfl
            refine obls_cons (fun f w' hR hH Q0 hQ0 => ?_) ?_
            · skip
              have s40 := (sv_at 40 6 hsz f [(40, 6), (41, 7)] rfl).trans (show f 6 = _ from hH.get 0 (40, 6) rfl)
              have s41 := (sv_at 41 7 hsz f [(40, 6), (41, 7)] rfl).trans (show f 7 = _ from hH.get 1 (41, 7) rfl)
              refine small_v hsz [(40, _), (41, _)] ⟨some 2, (Op.indexAddr 34 (.tmp 0) (.tmp 1)), 0, "", #[], none⟩ [_, _, undef] 2 rfl rfl ⟨s40, s41, trivial⟩ rfl rfl hQ0 ?_
              clear hQ0 hH s40 s41
              intro Q hQ
              repeat go_step
              exact hQ _ _ (Grow.refl _) rfl rfl
            refine obls_cons (fun f w' hR hH Q0 hQ0 => ?_) ?_
            · skip
              have s42 := (sv_at 42 8 hsz f [(42, 8)] rfl).trans (show f 8 = _ from hH.get 0 (42, 8) rfl)
              refine small_v hsz [(42, _)] ⟨some 1, (Op.fieldAddr 41 (.tmp 0) 2), 0, "", #[], none⟩ [_, undef] 1 rfl rfl ⟨s42, trivial⟩ rfl rfl hQ0 ?_
              clear hQ0 hH s42
              intro Q hQ
              repeat go_step
              exact hQ _ _ (Grow.refl _) rfl rfl
            refine obls_cons (fun f w' hR hH Q0 hQ0 => ?_) ?_
            · skip
              have s43 := (sv_at 43 9 hsz f [(43, 9)] rfl).trans (show f 9 = _ from hH.get 0 (43, 9) rfl)
              refine small_v hsz [(43, _)] ⟨some 1, (Op.load 37 (.tmp 0)), 37, "", #[], none⟩ [_, undef] 1 rfl rfl ⟨s43, trivial⟩ rfl rfl hQ0 ?_
              clear hQ0 hH s43
              intro Q hQ
              have hcc := Lib.hid (HVEC.out _ (HG.out.trans hR))
              refine load_cells rfl _ _ rfl b (off + k * 66 + 2) rfl cs _ hcc.out undV rfl (by rw [sizeV, HIO.out.1]) ?_
              exact hQ _ _ (Grow.refl _) rfl rfl
            refine obls_cons (fun f w' hR hH Q0 hQ0 => ?_) ?_
            · skip
              have s34 := (sv_at 34 0 hsz f [(34, 0), (39, 5), (44, 10)] rfl).trans (show f 0 = _ from hH.get 0 (34, 0) rfl)
              have s39 := (sv_at 39 5 hsz f [(34, 0), (39, 5), (44, 10)] rfl).trans (show f 5 = _ from hH.get 1 (39, 5) rfl)
              have s44 := (sv_at 44 10 hsz f [(34, 0), (39, 5), (44, 10)] rfl).trans (show f 10 = _ from hH.get 2 (44, 10) rfl)
              refine small_v hsz [(34, _), (39, _), (44, _)] ⟨some 3, (Op.call (Call.mk (Callee.value (Operand.func 13)) #[(.tmp 0), (.tmp 1), (.tmp 2)] #[28, 9, 37])), 29, "", #[], none⟩ [_, _, _, undef] 3 rfl rfl ⟨s34, s39, s44, trivial⟩ rfl (ren_call rfl rfl) hQ0 ?_
              clear hQ0 hH s34 s39 s44
              intro Q hQ
              go_wp2_with (go_at_call 13; refine (HRSE.out _ hR).mono ?_; rintro e9 w9 ⟨⟨u9, rfl, h9⟩, hg9⟩)
              exact hQ _ _ hg9 h9 rfl
            refine obls_cons (fun f w' hR hH Q0 hQ0 => ?_) ?_
            · skip
              have h11 : (IsRE L' (e : Int)) (f 11) w' := hH.get 0 (45, 11) rfl
              have s45 := sv_at 45 11 hsz f [(45, 11)] rfl
              obtain ⟨u11, hu11⟩ : ∃ u, f 11 = u := ⟨_, rfl⟩
              rw [hu11] at s45 h11
              clear hu11
              refine small_v hsz [(45, _)] ⟨some 1, (Op.move (.tmp 0)), 29, "", #[], none⟩ [_, undef] 1 rfl rfl ⟨s45, trivial⟩ rfl rfl hQ0 ?_
              clear hQ0 hH s45
              intro Q hQ
              repeat go_step
              exact hQ _ _ (Grow.refl _) h11 rfl
            refine obls_cons (fun f w' hR hH Q0 hQ0 => ?_) ?_
            · skip
              have h12 : (IsRE L' (e : Int)) (f 12) w' := hH.get 0 (33, 12) rfl
              have s33 := sv_at 33 12 hsz f [(33, 12)] rfl
              obtain ⟨u12, hu12⟩ : ∃ u, f 12 = u := ⟨_, rfl⟩
              rw [hu12] at s33 h12
              clear hu12
              refine small_v hsz [(33, _)] ⟨some 1, (Op.extract (.tmp 0) 0), 28, "", #[], none⟩ [_, undef] 1 rfl rfl ⟨s33, trivial⟩ rfl rfl hQ0 ?_
              clear hQ0 hH s33
              intro Q hQ
              obtain ⟨v9, rfl, h9⟩ := h12
              repeat go_step
              exact hQ _ _ (Grow.refl _) h9 rfl
            refine obls_cons (fun f w' hR hH Q0 hQ0 => ?_) ?_
            · skip
              have h12 : (IsRE L' (e : Int)) (f 12) w' := hH.get 0 (33, 12) rfl
              have s33 := sv_at 33 12 hsz f [(33, 12)] rfl
              obtain ⟨u12, hu12⟩ : ∃ u, f 12 = u := ⟨_, rfl⟩
              rw [hu12] at s33 h12
              clear hu12
              refine small_v hsz [(33, _)] ⟨some 1, (Op.extract (.tmp 0) 1), 3, "", #[], none⟩ [_, undef] 1 rfl rfl ⟨s33, trivial⟩ rfl rfl hQ0 ?_
              clear hQ0 hH s33
              intro Q hQ
              obtain ⟨v9, rfl, h9⟩ := h12
              repeat go_step
              exact hQ _ _ (Grow.refl _) rfl rfl
            refine obls_cons (fun f w' hR hH Q0 hQ0 => ?_) ?_
            · skip
              have h13 : (IsRT L') (f 13) w' := hH.get 0 (46, 13) rfl
              have s46 := sv_at 46 13 hsz f [(46, 13)] rfl
              obtain ⟨u13, hu13⟩ : ∃ u, f 13 = u := ⟨_, rfl⟩
              rw [hu13] at s46 h13
              clear hu13
              refine small_v hsz [(46, _)] ⟨some 1, (Op.assign (.tmp 0)), 28, "", #[], none⟩ [_, undef] 1 rfl rfl ⟨s46, trivial⟩ rfl rfl hQ0 ?_
              clear hQ0 hH s46
              intro Q hQ
              repeat go_step
              exact hQ _ _ (Grow.refl _) h13 rfl
            refine obls_cons (fun f w' hR hH Q0 hQ0 => ?_) ?_
            · skip
              have s47 := (sv_at 47 14 hsz f [(47, 14)] rfl).trans (show f 14 = _ from hH.get 0 (47, 14) rfl)
              refine small_v hsz [(47, _)] ⟨some 1, (Op.assign (.tmp 0)), 3, "", #[], none⟩ [_, undef] 1 rfl rfl ⟨s47, trivial⟩ rfl rfl hQ0 ?_
              clear hQ0 hH s47
              intro Q hQ
              repeat go_step
              exact hQ _ _ (Grow.refl _) rfl rfl
            exact obls_nil
          case mono => exact ⟨Mono.veq _, Mono.veq _, Mono.veq _, Mono.veq _, Mono.veq _, Mono.veq _, Mono.veq _, Mono.veq _, Mono.veq _, Mono.veq _, Mono.veq _, IsRE.mono, IsRE.mono, IsRT.mono, Mono.veq _, IsRT.mono, Mono.veq _, trivial⟩
          case tail =>
            intro f w' hR hH
            have q15 : (IsRT L') (f 15) w' := hH.get 15 (6, 15) rfl
            have q16 := hH.get 16 (8, 16) rfl
            clear hH
            refine wpList_merge (idx := [none, none, none, none, none, none, some 15, none, some 16, none, none, none, none, none, none, none, none, none, none, none, none, none, none, none, none, none, none, none, none, none, none, none, none, some 12, some 0, some 1, some 2, some 3, some 4, some 5, some 6, some 7, some 8, some 9, some 10, some 11, some 13, some 14, none, none, none, none, none, none, none, none, none, none, none, none, none, none, none, none, none, none, none, none, none, none, none, none, none, none, none, none, none, none, none, none, none, none, none, none, none, none, none, none, none, none, none, none, none, none, none, none, none, none, none, none, none, none, none, none, none, none, none, none, none, none, none, none, none, none, none, none, none, none, none, none, none, none, none, none, none, none, none, none, none, none, none, none, none, none, none, none, none, none, none, none, none, none, none, none, none, none, none, none, none, none, none, none, none, none, none, none, none, none, none, none, none, none, none]) (by kernel_rfl) ?_; show wpList _ _ _ [] ⟨#[_, _, _, _, _, _, f 15, _, f 16, _, _, _, _, _, _, _, _, _, _, _, _, _, _, _, _, _, _, _, _, _, _, _, _, f 12, f 0, f 1, f 2, f 3, f 4, f 5, f 6, f 7, f 8, f 9, f 10, f 11, f 13, f 14, _, _, _, _, _, _, _, _, _, _, _, _, _, _, _, _, _, _, _, _, _, _, _, _, _, _, _, _, _, _, _, _, _, _, _, _, _, _, _, _, _, _, _, _, _, _, _, _, _, _, _, _, _, _, _, _, _, _, _, _, _, _, _, _, _, _, _, _, _, _, _, _, _, _, _, _, _, _, _, _, _, _, _, _, _, _, _, _, _, _, _, _, _, _, _, _, _, _, _, _, _, _, _, _, _, _, _, _, _, _, _, _, _, _, _], _⟩ _
            rw [show f 16 = _ from q16]
            clear q16
            obtain ⟨x15, hx15⟩ : ∃ x, f 15 = x := ⟨_, rfl⟩
            rw [hx15] at q15 ⊢
            clear hx15
            obtain ⟨vx', hvx⟩ : ∃ vx', vx' = x15 := ⟨_, rfl⟩
            subst hvx
            have hrt : RT w' vx' L' := q15
            clear q15
            obtain ⟨wy, rfl⟩ : ∃ wy, wy = w' := ⟨_, rfl⟩
            have HRT := Lib.hid hrt
            have HGY := Lib.hid hR
            clear hR hrt HRSE
            go_wp2_with fail
            apply (fun (v0 v1 v2 v3 v4 v5 v6 v7 v8 v9 v10 v11 v12 : Value) mono draw obl tail => wp_region_piv (I := Go.Kit.two (Grow wy) (fun w2 => TagI w2 W0.heap.size g bs bn (7 * k + 7) L' ∧ RT w2 vx' L' ∧ Grow W0 w2)) (G := Grow) (Rp := (fun _ _ _ => True)) (Φ := phi2 [veq2 v0, veq2 v1, veq2 v2, veq2 v3, veq2 v4, veq2 v5, veq2 v6, veq2 v7, veq2 v8, veq2 v9, veq2 v10, veq2 v11, veq2 v12]) (m := 13) (ps := [11]) (qs := [(0, 0, false), (0, 0, false), (0, 0, false), (0, 0, false), (0, 0, false), (0, 0, false), (0, 0, false), (0, 0, false), (0, 0, false), (0, 0, false), (0, 0, false), (0, 0, true), (1, 1, false)]) (dls := [[], [], [], [(49, 1), (50, 2)], [(51, 3)], [(52, 4)], [], [], [(54, 6), (55, 7)], [(56, 8)], [(57, 9)], [(48, 0), (53, 5), (58, 10)], [(59, 11)]]) (ds := [48, 49, 50, 51, 52, 53, 54, 55, 56, 57, 58, 59, 9]) (by kernel_rfl) (by kernel_rfl) (by kernel_rfl) (by decide) rfl rfl draw (mono2_phi mono) (piv2_phi mono) obl tail)
            case obl =>
              refine obls2_cons (fun b hb1 hb2 f w' hI hH Q hQ => ?_) ?_
              · skip
                obtain rfl : b = 0 := by omega
                clear hb1 hb2
                clear hH
                refine wpList_view ?_; show wpList _ _ _ [_] ⟨#[_, _, _, _, _, _, _, _, _, _, _, _, _, _, _, _, _, _, _, _, _, _, _, _, _, _, _, _, _, _, _, _, _, _, _, _, _, _, _, _, _, _, _, _, _, _, _, _, _, _, _, _, _, _, _, _, _, _, _, _, _, _, _, _, _, _, _, _, _, _, _, _, _, _, _, _, _, _, _, _, _, _, _, _, _, _, _, _, _, _, _, _, _, _, _, _, _, _, _, _, _, _, _, _, _, _, _, _, _, _, _, _, _, _, _, _, _, _, _, _, _, _, _, _, _, _, _, _, _, _, _, _, _, _, _, _, _, _, _, _, _, _, _, _, _, _, _, _, _, _, _, _, _, _, _, _, _, _, _, _, _, _, _], _⟩ _
                repeat (first | go_guarded | go_step)
                exact hQ _ _ hI (Grow.refl _) rfl rfl
              refine obls2_cons (fun b hb1 hb2 f w' hI hH Q hQ => ?_) ?_
              · skip
                obtain rfl : b = 0 := by omega
                clear hb1 hb2
                clear hH
                refine wpList_view ?_; show wpList _ _ _ [_] ⟨#[_, _, _, _, _, _, _, _, _, _, _, _, _, _, _, _, _, _, _, _, _, _, _, _, _, _, _, _, _, _, _, _, _, _, _, _, _, _, _, _, _, _, _, _, _, _, _, _, _, _, _, _, _, _, _, _, _, _, _, _, _, _, _, _, _, _, _, _, _, _, _, _, _, _, _, _, _, _, _, _, _, _, _, _, _, _, _, _, _, _, _, _, _, _, _, _, _, _, _, _, _, _, _, _, _, _, _, _, _, _, _, _, _, _, _, _, _, _, _, _, _, _, _, _, _, _, _, _, _, _, _, _, _, _, _, _, _, _, _, _, _, _, _, _, _, _, _, _, _, _, _, _, _, _, _, _, _, _, _, _, _, _, _], _⟩ _
                repeat (first | go_guarded | go_step)
                exact hQ _ _ hI (Grow.refl _) rfl rfl
              refine obls2_cons (fun b hb1 hb2 f w' hI hH Q hQ => ?_) ?_
              · skip
                obtain rfl : b = 0 := by omega
                clear hb1 hb2
                clear hH
                refine wpList_view ?_; show wpList _ _ _ [_] ⟨#[_, _, _, _, _, _, _, _, _, _, _, _, _, _, _, _, _, _, _, _, _, _, _, _, _, _, _, _, _, _, _, _, _, _, _, _, _, _, _, _, _, _, _, _, _, _, _, _, _, _, _, _, _, _, _, _, _, _, _, _, _, _, _, _, _, _, _, _, _, _, _, _, _, _, _, _, _, _, _, _, _, _, _, _, _, _, _, _, _, _, _, _, _, _, _, _, _, _, _, _, _, _, _, _, _, _, _, _, _, _, _, _, _, _, _, _, _, _, _, _, _, _, _, _, _, _, _, _, _, _, _, _, _, _, _, _, _, _, _, _, _, _, _, _, _, _, _, _, _, _, _, _, _, _, _, _, _, _, _, _, _, _, _], _⟩ _
                repeat (first | go_guarded | go_step)
                exact hQ _ _ hI (Grow.refl _) rfl rfl
              refine obls2_cons (fun b hb1 hb2 f w' hI hH Q hQ => ?_) ?_
              · skip
                obtain rfl : b = 0 := by omega
                clear hb1 hb2
                have h1 := hH.get 0 (49, 1) rfl
                have h2 := hH.get 1 (50, 2) rfl
                clear hH
                refine wpList_view ?_; show wpList _ _ _ [_] ⟨#[_, _, _, _, _, _, _, _, _, _, _, _, _, _, _, _, _, _, _, _, _, _, _, _, _, _, _, _, _, _, _, _, _, _, _, _, _, _, _, _, _, _, _, _, _, _, _, _, _, f 1, f 2, _, _, _, _, _, _, _, _, _, _, _, _, _, _, _, _, _, _, _, _, _, _, _, _, _, _, _, _, _, _, _, _, _, _, _, _, _, _, _, _, _, _, _, _, _, _, _, _, _, _, _, _, _, _, _, _, _, _, _, _, _, _, _, _, _, _, _, _, _, _, _, _, _, _, _, _, _, _, _, _, _, _, _, _, _, _, _, _, _, _, _, _, _, _, _, _, _, _, _, _, _, _, _, _, _, _, _, _, _, _, _, _], _⟩ _
                rw [show f 1 = _ from h1]
                rw [show f 2 = _ from h2]
                clear h1 h2
                repeat (first | go_guarded | go_step)
                exact hQ _ _ hI (Grow.refl _) rfl rfl
              refine obls2_cons (fun b hb1 hb2 f w' hI hH Q hQ => ?_) ?_
              · skip
                obtain rfl : b = 0 := by omega
                clear hb1 hb2
                have h3 := hH.get 0 (51, 3) rfl
                clear hH
                refine wpList_view ?_; show wpList _ _ _ [_] ⟨#[_, _, _, _, _, _, _, _, _, _, _, _, _, _, _, _, _, _, _, _, _, _, _, _, _, _, _, _, _, _, _, _, _, _, _, _, _, _, _, _, _, _, _, _, _, _, _, _, _, _, _, f 3, _, _, _, _, _, _, _, _, _, _, _, _, _, _, _, _, _, _, _, _, _, _, _, _, _, _, _, _, _, _, _, _, _, _, _, _, _, _, _, _, _, _, _, _, _, _, _, _, _, _, _, _, _, _, _, _, _, _, _, _, _, _, _, _, _, _, _, _, _, _, _, _, _, _, _, _, _, _, _, _, _, _, _, _, _, _, _, _, _, _, _, _, _, _, _, _, _, _, _, _, _, _, _, _, _, _, _, _, _, _, _], _⟩ _
                rw [show f 3 = _ from h3]
                clear h3
                repeat (first | go_guarded | go_step)
                exact hQ _ _ hI (Grow.refl _) rfl rfl
              refine obls2_cons (fun b hb1 hb2 f w' hI hH Q hQ => ?_) ?_
              · skip
                obtain rfl : b = 0 := by omega
                clear hb1 hb2
                have h4 := hH.get 0 (52, 4) rfl
                clear hH
                refine wpList_view ?_; show wpList _ _ _ [_] ⟨#[_, _, _, _, _, _, _, _, _, _, _, _, _, _, _, _, _, _, _, _, _, _, _, _, _, _, _, _, _, _, _, _, _, _, _, _, _, _, _, _, _, _, _, _, _, _, _, _, _, _, _, _, f 4, _, _, _, _, _, _, _, _, _, _, _, _, _, _, _, _, _, _, _, _, _, _, _, _, _, _, _, _, _, _, _, _, _, _, _, _, _, _, _, _, _, _, _, _, _, _, _, _, _, _, _, _, _, _, _, _, _, _, _, _, _, _, _, _, _, _, _, _, _, _, _, _, _, _, _, _, _, _, _, _, _, _, _, _, _, _, _, _, _, _, _, _, _, _, _, _, _, _, _, _, _, _, _, _, _, _, _, _, _, _], _⟩ _
                rw [show f 4 = _ from h4]
                clear h4
                have z1 := HNAME.out _ ((HG.out.trans HGY.out).trans (show Grow wy w' from hI.get0))
                repeat (first | go_guarded | go_step)
                exact hQ _ _ hI (Grow.refl _) rfl rfl
              refine obls2_cons (fun b hb1 hb2 f w' hI hH Q hQ => ?_) ?_
              · skip
                obtain rfl : b = 0 := by omega
                clear hb1 hb2
                clear hH
                refine wpList_view ?_; show wpList _ _ _ [_] ⟨#[_, _, _, _, _, _, _, _, _, _, _, _, _, _, _, _, _, _, _, _, _, _, _, _, _, _, _, _, _, _, _, _, _, _, _, _, _, _, _, _, _, _, _, _, _, _, _, _, _, _, _, _, _, _, _, _, _, _, _, _, _, _, _, _, _, _, _, _, _, _, _, _, _, _, _, _, _, _, _, _, _, _, _, _, _, _, _, _, _, _, _, _, _, _, _, _, _, _, _, _, _, _, _, _, _, _, _, _, _, _, _, _, _, _, _, _, _, _, _, _, _, _, _, _, _, _, _, _, _, _, _, _, _, _, _, _, _, _, _, _, _, _, _, _, _, _, _, _, _, _, _, _, _, _, _, _, _, _, _, _, _, _, _], _⟩ _
                repeat (first | go_guarded | go_step)
                exact hQ _ _ hI (Grow.refl _) rfl rfl
              refine obls2_cons (fun b hb1 hb2 f w' hI hH Q hQ => ?_) ?_
              · skip
                obtain rfl : b = 0 := by omega
                clear hb1 hb2
                clear hH
                refine wpList_view ?_; show wpList _ _ _ [_] ⟨#[_, _, _, _, _, _, _, _, _, _, _, _, _, _, _, _, _, _, _, _, _, _, _, _, _, _, _, _, _, _, _, _, _, _, _, _, _, _, _, _, _, _, _, _, _, _, _, _, _, _, _, _, _, _, _, _, _, _, _, _, _, _, _, _, _, _, _, _, _, _, _, _, _, _, _, _, _, _, _, _, _, _, _, _, _, _, _, _, _, _, _, _, _, _, _, _, _, _, _, _, _, _, _, _, _, _, _, _, _, _, _, _, _, _, _, _, _, _, _, _, _, _, _, _, _, _, _, _, _, _, _, _, _, _, _, _, _, _, _, _, _, _, _, _, _, _, _, _, _, _, _, _, _, _, _, _, _, _, _, _, _, _, _], _⟩ _
                repeat (first | go_guarded | go_step)
                exact hQ _ _ hI (Grow.refl _) rfl rfl
              refine obls2_cons (fun b hb1 hb2 f w' hI hH Q hQ => ?_) ?_
              · skip
                obtain rfl : b = 0 := by omega
                clear hb1 hb2
                have h6 := hH.get 0 (54, 6) rfl
                have h7 := hH.get 1 (55, 7) rfl
                clear hH
                refine wpList_view ?_; show wpList _ _ _ [_] ⟨#[_, _, _, _, _, _, _, _, _, _, _, _, _, _, _, _, _, _, _, _, _, _, _, _, _, _, _, _, _, _, _, _, _, _, _, _, _, _, _, _, _, _, _, _, _, _, _, _, _, _, _, _, _, _, f 6, f 7, _, _, _, _, _, _, _, _, _, _, _, _, _, _, _, _, _, _, _, _, _, _, _, _, _, _, _, _, _, _, _, _, _, _, _, _, _, _, _, _, _, _, _, _, _, _, _, _, _, _, _, _, _, _, _, _, _, _, _, _, _, _, _, _, _, _, _, _, _, _, _, _, _, _, _, _, _, _, _, _, _, _, _, _, _, _, _, _, _, _, _, _, _, _, _, _, _, _, _, _, _, _, _, _, _, _, _], _⟩ _
                rw [show f 6 = _ from h6]
                rw [show f 7 = _ from h7]
                clear h6 h7
                repeat (first | go_guarded | go_step)
                exact hQ _ _ hI (Grow.refl _) rfl rfl
              refine obls2_cons (fun b hb1 hb2 f w' hI hH Q hQ => ?_) ?_
              · skip
                obtain rfl : b = 0 := by omega
                clear hb1 hb2
                have h8 := hH.get 0 (56, 8) rfl
                clear hH
                refine wpList_view ?_; show wpList _ _ _ [_] ⟨#[_, _, _, _, _, _, _, _, _, _, _, _, _, _, _, _, _, _, _, _, _, _, _, _, _, _, _, _, _, _, _, _, _, _, _, _, _, _, _, _, _, _, _, _, _, _, _, _, _, _, _, _, _, _, _, _, f 8, _, _, _, _, _, _, _, _, _, _, _, _, _, _, _, _, _, _, _, _, _, _, _, _, _, _, _, _, _, _, _, _, _, _, _, _, _, _, _, _, _, _, _, _, _, _, _, _, _, _, _, _, _, _, _, _, _, _, _, _, _, _, _, _, _, _, _, _, _, _, _, _, _, _, _, _, _, _, _, _, _, _, _, _, _, _, _, _, _, _, _, _, _, _, _, _, _, _, _, _, _, _, _, _, _, _], _⟩ _
                rw [show f 8 = _ from h8]
                clear h8
                repeat (first | go_guarded | go_step)
                exact hQ _ _ hI (Grow.refl _) rfl rfl
              refine obls2_cons (fun b hb1 hb2 f w' hI hH Q hQ => ?_) ?_
              · skip
                obtain rfl : b = 0 := by omega
                clear hb1 hb2
                have h9 := hH.get 0 (57, 9) rfl
                clear hH
                refine wpList_view ?_; show wpList _ _ _ [_] ⟨#[_, _, _, _, _, _, _, _, _, _, _, _, _, _, _, _, _, _, _, _, _, _, _, _, _, _, _, _, _, _, _, _, _, _, _, _, _, _, _, _, _, _, _, _, _, _, _, _, _, _, _, _, _, _, _, _, _, f 9, _, _, _, _, _, _, _, _, _, _, _, _, _, _, _, _, _, _, _, _, _, _, _, _, _, _, _, _, _, _, _, _, _, _, _, _, _, _, _, _, _, _, _, _, _, _, _, _, _, _, _, _, _, _, _, _, _, _, _, _, _, _, _, _, _, _, _, _, _, _, _, _, _, _, _, _, _, _, _, _, _, _, _, _, _, _, _, _, _, _, _, _, _, _, _, _, _, _, _, _, _, _, _, _, _], _⟩ _
                rw [show f 9 = _ from h9]
                clear h9
                have hG := Lib.hid (show Grow wy w' from hI.get0)
                have hcc := Lib.hid (HVEC.out _ ((HG.out.trans HGY.out).trans hG.out))
                clear hI
                refine load_cells rfl _ _ rfl b (off + k * 66 + 2) rfl cs _ hcc.out undV rfl (by rw [sizeV, HIO.out.1]) ?_
                exact hQ _ _ (Go.Kit.two.zero hG.out) (Grow.refl _) rfl rfl
              refine oblsP_cons (fun f w' hI hH Q hQ => ?_) ?_
              · skip
                have h0 := hH.get 0 (48, 0) rfl
                have h5 := hH.get 1 (53, 5) rfl
                have h10 := hH.get 2 (58, 10) rfl
                clear hH
                refine wpList_merge (idx := [none, none, none, none, none, none, none, none, none, none, none, none, none, none, none, none, none, none, none, none, none, none, none, none, none, none, none, none, none, none, none, none, none, none, none, none, none, none, none, none, none, none, none, none, none, none, none, none, some 0, none, none, none, none, some 5, none, none, none, none, some 10, none, none, none, none, none, none, none, none, none, none, none, none, none, none, none, none, none, none, none, none, none, none, none, none, none, none, none, none, none, none, none, none, none, none, none, none, none, none, none, none, none, none, none, none, none, none, none, none, none, none, none, none, none, none, none, none, none, none, none, none, none, none, none, none, none, none, none, none, none, none, none, none, none, none, none, none, none, none, none, none, none, none, none, none, none, none, none, none, none, none, none, none, none, none, none, none, none, none, none, none, none, none, none, none]) (by kernel_rfl) ?_; show wpList _ _ _ [_] ⟨#[_, _, _, _, _, _, _, _, _, _, _, _, _, _, _, _, _, _, _, _, _, _, _, _, _, _, _, _, _, _, _, _, _, _, _, _, _, _, _, _, _, _, _, _, _, _, _, _, f 0, _, _, _, _, f 5, _, _, _, _, f 10, _, _, _, _, _, _, _, _, _, _, _, _, _, _, _, _, _, _, _, _, _, _, _, _, _, _, _, _, _, _, _, _, _, _, _, _, _, _, _, _, _, _, _, _, _, _, _, _, _, _, _, _, _, _, _, _, _, _, _, _, _, _, _, _, _, _, _, _, _, _, _, _, _, _, _, _, _, _, _, _, _, _, _, _, _, _, _, _, _, _, _, _, _, _, _, _, _, _, _, _, _, _, _, _], _⟩ _
                rw [show f 0 = _ from h0]
                rw [show f 5 = _ from h5]
                rw [show f 10 = _ from h10]
                clear h0 h5 h10
                have hG := Lib.hid (show Grow wy w' from hI.get0)
                clear hI
                go_wp2_with (refine (HSET.out _ (HGY.out.trans hG.out)).mono ?_; rintro r w2 ⟨rfl, ht2, hk2⟩)
                exact hQ _ _ (Go.Kit.two.one ⟨ht2, (HRT.out.grow hG.out).keep (HT.out.grow (HGY.out.trans hG.out)) hk2, hk2.grow ((HG.out.trans HGY.out).trans hG.out) rfl⟩) trivial rfl rfl
              refine obls2_cons (fun b hb1 hb2 f w' hI hH Q hQ => ?_) ?_
              · skip
                obtain rfl : b = 1 := by omega
                clear hb1 hb2
                have h11 := hH.get 0 (59, 11) rfl
                clear hH
                refine wpList_view ?_; show wpList _ _ _ [_] ⟨#[_, _, _, _, _, _, _, _, _, _, _, _, _, _, _, _, _, _, _, _, _, _, _, _, _, _, _, _, _, _, _, _, _, _, _, _, _, _, _, _, _, _, _, _, _, _, _, _, _, _, _, _, _, _, _, _, _, _, _, f 11, _, _, _, _, _, _, _, _, _, _, _, _, _, _, _, _, _, _, _, _, _, _, _, _, _, _, _, _, _, _, _, _, _, _, _, _, _, _, _, _, _, _, _, _, _, _, _, _, _, _, _, _, _, _, _, _, _, _, _, _, _, _, _, _, _, _, _, _, _, _, _, _, _, _, _, _, _, _, _, _, _, _, _, _, _, _, _, _, _, _, _, _, _, _, _, _, _, _, _, _, _, _, _], _⟩ _
                rw [show f 11 = _ from h11]
                clear h11
                repeat (first | go_guarded | go_step)
                exact hQ _ _ hI (Grow.refl _) rfl rfl
              exact obls2_nil
            case draw =>
              exact Go.Kit.two.zero (Grow.drew _)
            case mono => exact ⟨Mono2.veq _, Mono2.veq _, Mono2.veq _, Mono2.veq _, Mono2.veq _, Mono2.veq _, Mono2.veq _, Mono2.veq _, Mono2.veq _, Mono2.veq _, Mono2.veq _, Mono2.veq _, Mono2.veq _, trivial⟩
            case tail =>
              intro f w' hI hH
              have q12 := hH.get 12 (9, 12) rfl
              clear hH
              refine wpList_merge (idx := [none, none, none, none, none, none, none, none, none, some 12, none, none, none, none, none, none, none, none, none, none, none, none, none, none, none, none, none, none, none, none, none, none, none, none, none, none, none, none, none, none, none, none, none, none, none, none, none, none, some 0, some 1, some 2, some 3, some 4, some 5, some 6, some 7, some 8, some 9, some 10, some 11, none, none, none, none, none, none, none, none, none, none, none, none, none, none, none, none, none, none, none, none, none, none, none, none, none, none, none, none, none, none, none, none, none, none, none, none, none, none, none, none, none, none, none, none, none, none, none, none, none, none, none, none, none, none, none, none, none, none, none, none, none, none, none, none, none, none, none, none, none, none, none, none, none, none, none, none, none, none, none, none, none, none, none, none, none, none, none, none, none, none, none, none, none, none, none, none, none, none, none, none, none, none, none]) (by kernel_rfl) ?_; show wpList _ _ _ [] ⟨#[_, _, _, _, _, _, _, _, _, f 12, _, _, _, _, _, _, _, _, _, _, _, _, _, _, _, _, _, _, _, _, _, _, _, _, _, _, _, _, _, _, _, _, _, _, _, _, _, _, f 0, f 1, f 2, f 3, f 4, f 5, f 6, f 7, f 8, f 9, f 10, f 11, _, _, _, _, _, _, _, _, _, _, _, _, _, _, _, _, _, _, _, _, _, _, _, _, _, _, _, _, _, _, _, _, _, _, _, _, _, _, _, _, _, _, _, _, _, _, _, _, _, _, _, _, _, _, _, _, _, _, _, _, _, _, _, _, _, _, _, _, _, _, _, _, _, _, _, _, _, _, _, _, _, _, _, _, _, _, _, _, _, _, _, _, _, _, _, _, _, _, _, _, _, _, _], _⟩ _
              rw [show f 12 = _ from q12]
              clear q12
              have HM := Lib.hid hI.get1
              clear hI
              go_wp2_with fail
              refine CutEnd.mk rfl ?_
              exact ⟨L', (e : Int), rfl, rfl, HM.out.1, HM.out.2.1, HM.out.2.2⟩
        · have hset := fun (w2 : World) (hg : Grow wa w2) => drop_any (HT.out.grow hg) (by omega) a.s HS.out
          have hrse := fun (w2 : World) (hg : Grow wa w2) => rdropS (HR.out.grow hg) HT.out.ok a.s
          obtain ⟨e, he⟩ : ∃ e, e = dropE L a.s := ⟨_, rfl⟩
          obtain ⟨L', hL'⟩ : ∃ L', L' = delT L a.s := ⟨_, rfl⟩
          rw [← he, ← HNM.out, ← hL'] at hset hrse
          have HSET := Lib.hid hset
          have HRSE := Lib.hid hrse
          have z1 := HNAME.out wa HG.out
          clear hset hrse he hL'
          go_wp2_with fail
          refine (HRSE.out wa (Grow.refl _)).mono ?_
          rintro r wy ⟨⟨vx', rfl, hrt⟩, hgy⟩
          have HRT := Lib.hid hrt
          have HGY := Lib.hid hgy
          have z2 := HNAME.out wy (HG.out.trans hgy)
          clear hrt hgy HRSE z1
          go_wp2_with fail
          refine (HSET.out wy HGY.out).mono ?_
          rintro r w2 ⟨rfl, ht2, hk2⟩
          have HM := Lib.hid (And.intro (ht2.mono (by omega : 7 * k + 3 ≤ 7 * k + 7)) (And.intro (HRT.out.keep (HT.out.grow HGY.out) hk2) (hk2.grow (HG.out.trans HGY.out) rfl)))
          clear ht2 hk2
          go_wp2_with fail
          refine CutEnd.mk rfl ?_
          exact ⟨L', (e : Int), rfl, rfl, HM.out.1, HM.out.2.1, HM.out.2.2⟩
        · have u0 : ((kn : Int) == 0) = false := beq_false_of_ne (by omega)
          have u0' : (kn == 0) = false := beq_false_of_ne (by omega)
          have u1 : ((kn : Int) == 1) = false := beq_false_of_ne (by omega)
          have u1' : (kn == 1) = false := beq_false_of_ne (by omega)
          have u2 : ((kn : Int) == 2) = false := beq_false_of_ne (by omega)
          have u2' : (kn == 2) = false := beq_false_of_ne (by omega)
          clear hk2
          go_wp2_with fail
          refine CutEnd.mk rfl ?_
          exact ⟨L, 0, rfl, rfl, HT.out.mono (by omega), HR.out, HG.out⟩
      · obtain rfl : k = n := by omega
        have t1 : decide (k < k) = false := decide_eq_false hlt
        have ok2 := HT.out.ok
        have hsa := fun (w2 : World) (hg : Grow wa w2) => same_any (HT.out.grow hg) (by omega) vx (HR.out.grow hg)
        have hof := fun (w2 : World) (hg : Grow wa w2) => ofS (HT.out.grow hg) (by omega) v HVV.out
        have hrof := fun (w2 : World) (hg : Grow wa w2) => rofS (HR.out.grow hg) ok2 v HVV.out
        have hwi := fun (w2 : World) (hg : Grow wa w2) => winS (HT.out.grow hg) (by omega) v HVV.out
        have hrwi := fun (w2 : World) (hg : Grow wa w2) => rwinS (HR.out.grow hg) ok2 v HVV.out
        have hby := fun (w2 : World) (hg : Grow wa w2) => bytesI (HT.out.grow hg) (by omega)
        have hrby := fun (w2 : World) (hg : Grow wa w2) => rbytesI (HR.out.grow hg) ok2
        have HXL : Hid ((namesT (fun x => x == v) L).length ≤ 1000) := Lib.hid (by have h1 := names_le (fun x => x == v) L; have := ok2.len; omega)
        have HYL : Hid ((namesT (fun x => withinV x v) L).length ≤ 1000) := Lib.hid (by have h1 := names_le (fun x => withinV x v) L; have := ok2.len; omega)
        unfold vv at hof hrof hwi hrwi
        obtain ⟨xs, hxs⟩ : ∃ xs, xs = namesT (fun x => x == v) L := ⟨_, rfl⟩
        obtain ⟨ys, hys⟩ : ∃ ys, ys = namesT (fun x => withinV x v) L := ⟨_, rfl⟩
        obtain ⟨E, hE⟩ : ∃ E, E = encT L := ⟨_, rfl⟩
        rw [← HCVE.out, ← hxs] at hof hrof
        rw [← HCVE.out, ← hys] at hwi hrwi
        rw [← hxs] at HXL
        rw [← hys] at HYL
        rw [← hE] at hby hrby
        have HSA := Lib.hid hsa
        have HOF := Lib.hid hof
        have HROF := Lib.hid hrof
        have HWI := Lib.hid hwi
        have HRWI := Lib.hid hrwi
        have HBY := Lib.hid hby
        have HRBY := Lib.hid hrby
        have te : ((str E).toList == (str E).toList) = true := beq_self_eq_true _
        clear ok2 hsa hof hrof hwi hrwi hby hrby hxs hys hE hlt hk
        go_wp2_with fail
        apply (fun (v0 v1 v2 v3 v4 v5 v7 v8 v10 v11 v12 v13 v14 v16 v17 v19 v20 v21 v22 v24 v25 v27 v28 v29 v30 v31 v32 v33 : Value) mono obl tail => wp_region_par (R := Grow) (Φ := phi [veq v0, veq v1, veq v2, veq v3, veq v4, veq v5, (IsT ys), veq v7, veq v8, (IsT ys), veq v10, veq v11, veq v12, veq v13, veq v14, (IsT xs), veq v16, veq v17, (IsT xs), veq v19, veq v20, veq v21, veq v22, (IsSl E), veq v24, veq v25, (IsSl E), veq v27, veq v28, veq v29, veq v30, veq v31, veq v32, veq v33]) (m := 34) (dls := [[], [], [(130, 0), (131, 1)], [(132, 2)], [(133, 3)], [(133, 3)], [(134, 4), (135, 5), (133, 3)], [(133, 3)], [(133, 3)], [(137, 7), (138, 8), (133, 3)], [(136, 6), (139, 9), (133, 3)], [(133, 3), (140, 10)], [(141, 11)], [(142, 12)], [(142, 12)], [(143, 13), (144, 14), (142, 12)], [(142, 12)], [(142, 12)], [(146, 16), (147, 17), (142, 12)], [(145, 15), (148, 18), (142, 12)], [(142, 12), (149, 19)], [(150, 20)], [(151, 21)], [(152, 22), (151, 21)], [(153, 23), (151, 21)], [(151, 21)], [(155, 25), (151, 21)], [(156, 26), (151, 21)], [(154, 24), (157, 27), (151, 21)], [(151, 21), (158, 28)], [(159, 29)], [(160, 30)], [(160, 30), (161, 31)], [(162, 32)]]) (ds := [130, 131, 132, 133, 134, 135, 136, 137, 138, 139, 140, 141, 142, 143, 144, 145, 146, 147, 148, 149, 150, 151, 152, 153, 154, 155, 156, 157, 158, 159, 160, 161, 162, 4]) (by kernel_rfl) (by kernel_rfl) (by decide) rfl (Grow.drew _) (fun _ _ _ => Grow.trans) (mono_phi mono) obl tail)
        case obl =>
          refine obls_frame (fun a1 ha => ?_)
          have hsz := rd_size (n := 163) ha rfl
          have e5 := rd_slot 5 ha rfl
          have e6 := rd_slot 6 ha rfl
          have e3 := rd_slot 3 ha rfl
          clear ha
          refine obls_cons (fun f w' hR hH Q0 hQ0 => ?_) ?_
          · skip
            have s5 := sv_off f [] e5 rfl
            refine small_v hsz [(5, _)] ⟨some 1, (Op.move (.tmp 0)), 24, "", #[], none⟩ [_, undef] 1 rfl rfl ⟨s5, trivial⟩ rfl rfl hQ0 ?_
            clear hQ0 hH s5
            intro Q hQ
            repeat go_step
            exact hQ _ _ (Grow.refl _) rfl rfl
          refine obls_cons (fun f w' hR hH Q0 hQ0 => ?_) ?_
          · skip
            have s6 := sv_off f [] e6 rfl
            refine small_v hsz [(6, _)] ⟨some 1, (Op.move (.tmp 0)), 28, "", #[], none⟩ [_, undef] 1 rfl rfl ⟨s6, trivial⟩ rfl rfl hQ0 ?_
            clear hQ0 hH s6
            intro Q hQ
            repeat go_step
            exact hQ _ _ (Grow.refl _) rfl rfl
          refine obls_cons (fun f w' hR hH Q0 hQ0 => ?_) ?_
          · skip
            have s130 := (sv_at 130 0 hsz f [(130, 0), (131, 1)] rfl).trans (show f 0 = _ from hH.get 0 (130, 0) rfl)
            have s131 := (sv_at 131 1 hsz f [(130, 0), (131, 1)] rfl).trans (show f 1 = _ from hH.get 1 (131, 1) rfl)
            refine small_v hsz [(130, _), (131, _)] ⟨some 2, (Op.call (Call.mk (Callee.value (Operand.func 9)) #[(.tmp 0), (.tmp 1)] #[24, 28])), 4, "", #[], none⟩ [_, _, undef] 2 rfl rfl ⟨s130, s131, trivial⟩ rfl (ren_call rfl rfl) hQ0 ?_
            clear hQ0 hH s130 s131
            intro Q hQ
            go_wp2_with (go_at_call 9; refine (HSA.out _ hR).mono ?_; rintro e w1 ⟨rfl, hg1⟩)
            exact hQ _ _ hg1 rfl rfl
          refine obls_cons (fun f w' hR hH Q0 hQ0 => ?_) ?_
          · skip
            have s132 := (sv_at 132 2 hsz f [(132, 2)] rfl).trans (show f 2 = _ from hH.get 0 (132, 2) rfl)
            refine small_v hsz [(132, _)] ⟨some 1, (Op.move (.tmp 0)), 4, "", #[], none⟩ [_, undef] 1 rfl rfl ⟨s132, trivial⟩ rfl rfl hQ0 ?_
            clear hQ0 hH s132
            intro Q hQ
            repeat go_step
            exact hQ _ _ (Grow.refl _) rfl rfl
          refine obls_cons (fun f w' hR hH Q0 hQ0 => ?_) ?_
          · skip
            have s5 := sv_off f [(133, 3)] e5 rfl
            have s133 := (sv_at 133 3 hsz f [(133, 3)] rfl).trans (show f 3 = _ from hH.get 0 (133, 3) rfl)
            first
              | exact skip_v hsz rfl ((wanted_some (b := false) rfl rfl s133).trans rfl) hQ0 (Grow.refl _) rfl
              | exact skip_v hsz rfl (wanted_undef rfl rfl s133) hQ0 (Grow.refl _) rfl
              | refine small_v hsz [(5, _)] ⟨some 1, (Op.move (.tmp 0)), 24, "", #[], none⟩ [_, undef] 1 rfl ((wanted_some (b := true) rfl rfl s133).trans rfl) ⟨s5, trivial⟩ rfl rfl hQ0 ?_
                clear hQ0 hH s5 s133
                intro Q hQ
                repeat go_step
                exact hQ _ _ (Grow.refl _) rfl rfl
          refine obls_cons (fun f w' hR hH Q0 hQ0 => ?_) ?_
          · skip
            have s3 := sv_off f [(133, 3)] e3 rfl
            have s133 := (sv_at 133 3 hsz f [(133, 3)] rfl).trans (show f 3 = _ from hH.get 0 (133, 3) rfl)
            first
              | exact skip_v hsz rfl ((wanted_some (b := false) rfl rfl s133).trans rfl) hQ0 (Grow.refl _) rfl
              | exact skip_v hsz rfl (wanted_undef rfl rfl s133) hQ0 (Grow.refl _) rfl
              | refine small_v hsz [(3, _)] ⟨some 1, (Op.load 37 (.tmp 0)), 37, "", #[], none⟩ [_, undef] 1 rfl ((wanted_some (b := true) rfl rfl s133).trans rfl) ⟨s3, trivial⟩ rfl rfl hQ0 ?_
                clear hQ0 hH s3 s133
                intro Q hQ
                have hb9 := HBX.out.grow (HG.out.trans hR)
                refine load_blk rfl _ _ rfl b0 rfl _ _ _ hb9 undV rfl (by rw [sizeV, HCV.out]) ?_
                exact hQ _ _ (Grow.refl _) rfl rfl
          refine obls_cons (fun f w' hR hH Q0 hQ0 => ?_) ?_
          · skip
            have s134 := (sv_at 134 4 hsz f [(134, 4), (135, 5), (133, 3)] rfl).trans (show f 4 = _ from hH.get 0 (134, 4) rfl)
            have s135 := (sv_at 135 5 hsz f [(134, 4), (135, 5), (133, 3)] rfl).trans (show f 5 = _ from hH.get 1 (135, 5) rfl)
            have s133 := (sv_at 133 3 hsz f [(134, 4), (135, 5), (133, 3)] rfl).trans (show f 3 = _ from hH.get 2 (133, 3) rfl)
            first
              | exact skip_v hsz rfl ((wanted_some (b := false) rfl rfl s133).trans rfl) hQ0 (Grow.refl _) rfl
              | exact skip_v hsz rfl (wanted_undef rfl rfl s133) hQ0 (Grow.refl _) rfl
              | refine small_v hsz [(134, _), (135, _)] ⟨some 2, (Op.call (Call.mk (Callee.value (Operand.func 22)) #[(.tmp 0), (.tmp 1)] #[24, 37])), 50, "", #[], none⟩ [_, _, undef] 2 rfl ((wanted_some (b := true) rfl rfl s133).trans rfl) ⟨s134, s135, trivial⟩ rfl (ren_call rfl rfl) hQ0 ?_
                clear hQ0 hH s134 s135 s133
                intro Q hQ
                go_wp2_with (go_at_call 22; refine (HWI.out _ hR).mono ?_; rintro e9 w9 ⟨u9, rfl, h9, hg9⟩)
                exact hQ _ _ hg9 h9 rfl
          refine obls_cons (fun f w' hR hH Q0 hQ0 => ?_) ?_
          · skip
            have s6 := sv_off f [(133, 3)] e6 rfl
            have s133 := (sv_at 133 3 hsz f [(133, 3)] rfl).trans (show f 3 = _ from hH.get 0 (133, 3) rfl)
            first
              | exact skip_v hsz rfl ((wanted_some (b := false) rfl rfl s133).trans rfl) hQ0 (Grow.refl _) rfl
              | exact skip_v hsz rfl (wanted_undef rfl rfl s133) hQ0 (Grow.refl _) rfl
              | refine small_v hsz [(6, _)] ⟨some 1, (Op.move (.tmp 0)), 28, "", #[], none⟩ [_, undef] 1 rfl ((wanted_some (b := true) rfl rfl s133).trans rfl) ⟨s6, trivial⟩ rfl rfl hQ0 ?_
                clear hQ0 hH s6 s133
                intro Q hQ
                repeat go_step
                exact hQ _ _ (Grow.refl _) rfl rfl
          refine obls_cons (fun f w' hR hH Q0 hQ0 => ?_) ?_
          · skip
            have s3 := sv_off f [(133, 3)] e3 rfl
            have s133 := (sv_at 133 3 hsz f [(133, 3)] rfl).trans (show f 3 = _ from hH.get 0 (133, 3) rfl)
            first
              | exact skip_v hsz rfl ((wanted_some (b := false) rfl rfl s133).trans rfl) hQ0 (Grow.refl _) rfl
              | exact skip_v hsz rfl (wanted_undef rfl rfl s133) hQ0 (Grow.refl _) rfl
              | refine small_v hsz [(3, _)] ⟨some 1, (Op.load 37 (.tmp 0)), 37, "", #[], none⟩ [_, undef] 1 rfl ((wanted_some (b := true) rfl rfl s133).trans rfl) ⟨s3, trivial⟩ rfl rfl hQ0 ?_
                clear hQ0 hH s3 s133
                intro Q hQ
                have hb9 := HBX.out.grow (HG.out.trans hR)
                refine load_blk rfl _ _ rfl b0 rfl _ _ _ hb9 undV rfl (by rw [sizeV, HCV.out]) ?_
                exact hQ _ _ (Grow.refl _) rfl rfl
          refine obls_cons (fun f w' hR hH Q0 hQ0 => ?_) ?_
          · skip
            have s137 := (sv_at 137 7 hsz f [(137, 7), (138, 8), (133, 3)] rfl).trans (show f 7 = _ from hH.get 0 (137, 7) rfl)
            have s138 := (sv_at 138 8 hsz f [(137, 7), (138, 8), (133, 3)] rfl).trans (show f 8 = _ from hH.get 1 (138, 8) rfl)
            have s133 := (sv_at 133 3 hsz f [(137, 7), (138, 8), (133, 3)] rfl).trans (show f 3 = _ from hH.get 2 (133, 3) rfl)
            first
              | exact skip_v hsz rfl ((wanted_some (b := false) rfl rfl s133).trans rfl) hQ0 (Grow.refl _) rfl
              | exact skip_v hsz rfl (wanted_undef rfl rfl s133) hQ0 (Grow.refl _) rfl
              | refine small_v hsz [(137, _), (138, _)] ⟨some 2, (Op.call (Call.mk (Callee.value (Operand.func 23)) #[(.tmp 0), (.tmp 1)] #[28, 37])), 50, "", #[], none⟩ [_, _, undef] 2 rfl ((wanted_some (b := true) rfl rfl s133).trans rfl) ⟨s137, s138, trivial⟩ rfl (ren_call rfl rfl) hQ0 ?_
                clear hQ0 hH s137 s138 s133
                intro Q hQ
                go_wp2_with (go_at_call 23; refine (HRWI.out _ hR).mono ?_; rintro e9 w9 ⟨u9, rfl, h9, hg9⟩)
                exact hQ _ _ hg9 h9 rfl
          refine obls_cons (fun f w' hR hH Q0 hQ0 => ?_) ?_
          · skip
            have h6 : (IsT ys) (f 6) w' := hH.get 0 (136, 6) rfl
            have s136 := sv_at 136 6 hsz f [(136, 6), (139, 9), (133, 3)] rfl
            obtain ⟨u6, hu6⟩ : ∃ u, f 6 = u := ⟨_, rfl⟩
            rw [hu6] at s136 h6
            clear hu6
            have h9 : (IsT ys) (f 9) w' := hH.get 1 (139, 9) rfl
            have s139 := sv_at 139 9 hsz f [(136, 6), (139, 9), (133, 3)] rfl
            obtain ⟨u9, hu9⟩ : ∃ u, f 9 = u := ⟨_, rfl⟩
            rw [hu9] at s139 h9
            clear hu9
            have s133 := (sv_at 133 3 hsz f [(136, 6), (139, 9), (133, 3)] rfl).trans (show f 3 = _ from hH.get 2 (133, 3) rfl)
            first
              | exact skip_v hsz rfl ((wanted_some (b := false) rfl rfl s133).trans rfl) hQ0 (Grow.refl _) rfl
              | exact skip_v hsz rfl (wanted_undef rfl rfl s133) hQ0 (Grow.refl _) rfl
              | refine small_v hsz [(136, _), (139, _)] ⟨some 2, (Op.call (Call.mk (Callee.value (Operand.func 19)) #[(.tmp 0), (.tmp 1)] #[50, 50])), 4, "", #[], none⟩ [_, _, undef] 2 rfl ((wanted_some (b := true) rfl rfl s133).trans rfl) ⟨s136, s139, trivial⟩ rfl (ren_call rfl rfl) hQ0 ?_
                clear hQ0 hH s136 s139 s133
                intro Q hQ
                go_wp2_with (go_at_call 19; refine (texts_any _ _ _ _ h6 h9 HYL.out).mono ?_; rintro e9 w9 ⟨rfl, hg9⟩)
                exact hQ _ _ hg9 rfl rfl
          refine obls_cons (fun f w' hR hH Q0 hQ0 => ?_) ?_
          · skip
            have s133 := (sv_at 133 3 hsz f [(133, 3), (140, 10)] rfl).trans (show f 3 = _ from hH.get 0 (133, 3) rfl)
            have s140 := (sv_at 140 10 hsz f [(133, 3), (140, 10)] rfl).trans (show f 10 = _ from hH.get 1 (140, 10) rfl)
            refine small_v hsz [(133, _), (140, _)] ⟨some 2, (Op.pick (.tmp 0) (.tmp 1) (Operand.const (Value.bool false))), 4, "", #[], none⟩ [_, _, undef] 2 rfl rfl ⟨s133, s140, trivial⟩ rfl rfl hQ0 ?_
            clear hQ0 hH s133 s140
            intro Q hQ
            repeat go_step
            exact hQ _ _ (Grow.refl _) rfl rfl
          refine obls_cons (fun f w' hR hH Q0 hQ0 => ?_) ?_
          · skip
            have s141 := (sv_at 141 11 hsz f [(141, 11)] rfl).trans (show f 11 = _ from hH.get 0 (141, 11) rfl)
            refine small_v hsz [(141, _)] ⟨some 1, (Op.move (.tmp 0)), 4, "", #[], none⟩ [_, undef] 1 rfl rfl ⟨s141, trivial⟩ rfl rfl hQ0 ?_
            clear hQ0 hH s141
            intro Q hQ
            repeat go_step
            exact hQ _ _ (Grow.refl _) rfl rfl
          refine obls_cons (fun f w' hR hH Q0 hQ0 => ?_) ?_
          · skip
            have s5 := sv_off f [(142, 12)] e5 rfl
            have s142 := (sv_at 142 12 hsz f [(142, 12)] rfl).trans (show f 12 = _ from hH.get 0 (142, 12) rfl)
            first
              | exact skip_v hsz rfl ((wanted_some (b := false) rfl rfl s142).trans rfl) hQ0 (Grow.refl _) rfl
              | exact skip_v hsz rfl (wanted_undef rfl rfl s142) hQ0 (Grow.refl _) rfl
              | refine small_v hsz [(5, _)] ⟨some 1, (Op.move (.tmp 0)), 24, "", #[], none⟩ [_, undef] 1 rfl ((wanted_some (b := true) rfl rfl s142).trans rfl) ⟨s5, trivial⟩ rfl rfl hQ0 ?_
                clear hQ0 hH s5 s142
                intro Q hQ
                repeat go_step
                exact hQ _ _ (Grow.refl _) rfl rfl
          refine obls_cons (fun f w' hR hH Q0 hQ0 => ?_) ?_
          · skip
            have s3 := sv_off f [(142, 12)] e3 rfl
            have s142 := (sv_at 142 12 hsz f [(142, 12)] rfl).trans (show f 12 = _ from hH.get 0 (142, 12) rfl)
            first
              | exact skip_v hsz rfl ((wanted_some (b := false) rfl rfl s142).trans rfl) hQ0 (Grow.refl _) rfl
              | exact skip_v hsz rfl (wanted_undef rfl rfl s142) hQ0 (Grow.refl _) rfl
              | refine small_v hsz [(3, _)] ⟨some 1, (Op.load 37 (.tmp 0)), 37, "", #[], none⟩ [_, undef] 1 rfl ((wanted_some (b := true) rfl rfl s142).trans rfl) ⟨s3, trivial⟩ rfl rfl hQ0 ?_
                clear hQ0 hH s3 s142
                intro Q hQ
                have hb9 := HBX.out.grow (HG.out.trans hR)
                refine load_blk rfl _ _ rfl b0 rfl _ _ _ hb9 undV rfl (by rw [sizeV, HCV.out]) ?_
                exact hQ _ _ (Grow.refl _) rfl rfl
          refine obls_cons (fun f w' hR hH Q0 hQ0 => ?_) ?_
          · skip
            have s143 := (sv_at 143 13 hsz f [(143, 13), (144, 14), (142, 12)] rfl).trans (show f 13 = _ from hH.get 0 (143, 13) rfl)
            have s144 := (sv_at 144 14 hsz f [(143, 13), (144, 14), (142, 12)] rfl).trans (show f 14 = _ from hH.get 1 (144, 14) rfl)
            have s142 := (sv_at 142 12 hsz f [(143, 13), (144, 14), (142, 12)] rfl).trans (show f 12 = _ from hH.get 2 (142, 12) rfl)
            first
              | exact skip_v hsz rfl ((wanted_some (b := false) rfl rfl s142).trans rfl) hQ0 (Grow.refl _) rfl
              | exact skip_v hsz rfl (wanted_undef rfl rfl s142) hQ0 (Grow.refl _) rfl
              | refine small_v hsz [(143, _), (144, _)] ⟨some 2, (Op.call (Call.mk (Callee.value (Operand.func 20)) #[(.tmp 0), (.tmp 1)] #[24, 37])), 50, "", #[], none⟩ [_, _, undef] 2 rfl ((wanted_some (b := true) rfl rfl s142).trans rfl) ⟨s143, s144, trivial⟩ rfl (ren_call rfl rfl) hQ0 ?_
                clear hQ0 hH s143 s144 s142
                intro Q hQ
                go_wp2_with (go_at_call 20; refine (HOF.out _ hR).mono ?_; rintro e9 w9 ⟨u9, rfl, h9, hg9⟩)
                exact hQ _ _ hg9 h9 rfl
          refine obls_cons (fun f w' hR hH Q0 hQ0 => ?_) ?_
          · skip
            have s6 := sv_off f [(142, 12)] e6 rfl
            have s142 := (sv_at 142 12 hsz f [(142, 12)] rfl).trans (show f 12 = _ from hH.get 0 (142, 12) rfl)
            first
              | exact skip_v hsz rfl ((wanted_some (b := false) rfl rfl s142).trans rfl) hQ0 (Grow.refl _) rfl
              | exact skip_v hsz rfl (wanted_undef rfl rfl s142) hQ0 (Grow.refl _) rfl
              | refine small_v hsz [(6, _)] ⟨some 1, (Op.move (.tmp 0)), 28, "", #[], none⟩ [_, undef] 1 rfl ((wanted_some (b := true) rfl rfl s142).trans rfl) ⟨s6, trivial⟩ rfl rfl hQ0 ?_
                clear hQ0 hH s6 s142
                intro Q hQ
                repeat go_step
                exact hQ _ _ (Grow.refl _) rfl rfl
          refine obls_cons (fun f w' hR hH Q0 hQ0 => ?_) ?_
          · skip
            have s3 := sv_off f [(142, 12)] e3 rfl
            have s142 := (sv_at 142 12 hsz f [(142, 12)] rfl).trans (show f 12 = _ from hH.get 0 (142, 12) rfl)
            first
              | exact skip_v hsz rfl ((wanted_some (b := false) rfl rfl s142).trans rfl) hQ0 (Grow.refl _) rfl
              | exact skip_v hsz rfl (wanted_undef rfl rfl s142) hQ0 (Grow.refl _) rfl
              | refine small_v hsz [(3, _)] ⟨some 1, (Op.load 37 (.tmp 0)), 37, "", #[], none⟩ [_, undef] 1 rfl ((wanted_some (b := true) rfl rfl s142).trans rfl) ⟨s3, trivial⟩ rfl rfl hQ0 ?_
                clear hQ0 hH s3 s142
                intro Q hQ
                have hb9 := HBX.out.grow (HG.out.trans hR)
                refine load_blk rfl _ _ rfl b0 rfl _ _ _ hb9 undV rfl (by rw [sizeV, HCV.out]) ?_
                exact hQ _ _ (Grow.refl _) rfl rfl
          refine obls_cons (fun f w' hR hH Q0 hQ0 => ?_) ?_
          · skip
            have s146 := (sv_at 146 16 hsz f [(146, 16), (147, 17), (142, 12)] rfl).trans (show f 16 = _ from hH.get 0 (146, 16) rfl)
            have s147 := (sv_at 147 17 hsz f [(146, 16), (147, 17), (142, 12)] rfl).trans (show f 17 = _ from hH.get 1 (147, 17) rfl)
            have s142 := (sv_at 142 12 hsz f [(146, 16), (147, 17), (142, 12)] rfl).trans (show f 12 = _ from hH.get 2 (142, 12) rfl)
            first
              | exact skip_v hsz rfl ((wanted_some (b := false) rfl rfl s142).trans rfl) hQ0 (Grow.refl _) rfl
              | exact skip_v hsz rfl (wanted_undef rfl rfl s142) hQ0 (Grow.refl _) rfl
              | refine small_v hsz [(146, _), (147, _)] ⟨some 2, (Op.call (Call.mk (Callee.value (Operand.func 21)) #[(.tmp 0), (.tmp 1)] #[28, 37])), 50, "", #[], none⟩ [_, _, undef] 2 rfl ((wanted_some (b := true) rfl rfl s142).trans rfl) ⟨s146, s147, trivial⟩ rfl (ren_call rfl rfl) hQ0 ?_
                clear hQ0 hH s146 s147 s142
                intro Q hQ
                go_wp2_with (go_at_call 21; refine (HROF.out _ hR).mono ?_; rintro e9 w9 ⟨u9, rfl, h9, hg9⟩)
                exact hQ _ _ hg9 h9 rfl
          refine obls_cons (fun f w' hR hH Q0 hQ0 => ?_) ?_
          · skip
            have h15 : (IsT xs) (f 15) w' := hH.get 0 (145, 15) rfl
            have s145 := sv_at 145 15 hsz f [(145, 15), (148, 18), (142, 12)] rfl
            obtain ⟨u15, hu15⟩ : ∃ u, f 15 = u := ⟨_, rfl⟩
            rw [hu15] at s145 h15
            clear hu15
            have h18 : (IsT xs) (f 18) w' := hH.get 1 (148, 18) rfl
            have s148 := sv_at 148 18 hsz f [(145, 15), (148, 18), (142, 12)] rfl
            obtain ⟨u18, hu18⟩ : ∃ u, f 18 = u := ⟨_, rfl⟩
            rw [hu18] at s148 h18
            clear hu18
            have s142 := (sv_at 142 12 hsz f [(145, 15), (148, 18), (142, 12)] rfl).trans (show f 12 = _ from hH.get 2 (142, 12) rfl)
            first
              | exact skip_v hsz rfl ((wanted_some (b := false) rfl rfl s142).trans rfl) hQ0 (Grow.refl _) rfl
              | exact skip_v hsz rfl (wanted_undef rfl rfl s142) hQ0 (Grow.refl _) rfl
              | refine small_v hsz [(145, _), (148, _)] ⟨some 2, (Op.call (Call.mk (Callee.value (Operand.func 19)) #[(.tmp 0), (.tmp 1)] #[50, 50])), 4, "", #[], none⟩ [_, _, undef] 2 rfl ((wanted_some (b := true) rfl rfl s142).trans rfl) ⟨s145, s148, trivial⟩ rfl (ren_call rfl rfl) hQ0 ?_
                clear hQ0 hH s145 s148 s142
                intro Q hQ
                go_wp2_with (go_at_call 19; refine (texts_any _ _ _ _ h15 h18 HXL.out).mono ?_; rintro e9 w9 ⟨rfl, hg9⟩)
                exact hQ _ _ hg9 rfl rfl
          refine obls_cons (fun f w' hR hH Q0 hQ0 => ?_) ?_
          · skip
            have s142 := (sv_at 142 12 hsz f [(142, 12), (149, 19)] rfl).trans (show f 12 = _ from hH.get 0 (142, 12) rfl)
            have s149 := (sv_at 149 19 hsz f [(142, 12), (149, 19)] rfl).trans (show f 19 = _ from hH.get 1 (149, 19) rfl)
            refine small_v hsz [(142, _), (149, _)] ⟨some 2, (Op.pick (.tmp 0) (.tmp 1) (Operand.const (Value.bool false))), 4, "", #[], none⟩ [_, _, undef] 2 rfl rfl ⟨s142, s149, trivial⟩ rfl rfl hQ0 ?_
            clear hQ0 hH s142 s149
            intro Q hQ
            repeat go_step
            exact hQ _ _ (Grow.refl _) rfl rfl
          refine obls_cons (fun f w' hR hH Q0 hQ0 => ?_) ?_
          · skip
            have s150 := (sv_at 150 20 hsz f [(150, 20)] rfl).trans (show f 20 = _ from hH.get 0 (150, 20) rfl)
            refine small_v hsz [(150, _)] ⟨some 1, (Op.move (.tmp 0)), 4, "", #[], none⟩ [_, undef] 1 rfl rfl ⟨s150, trivial⟩ rfl rfl hQ0 ?_
            clear hQ0 hH s150
            intro Q hQ
            repeat go_step
            exact hQ _ _ (Grow.refl _) rfl rfl
          refine obls_cons (fun f w' hR hH Q0 hQ0 => ?_) ?_
          · skip
            have s5 := sv_off f [(151, 21)] e5 rfl
            have s151 := (sv_at 151 21 hsz f [(151, 21)] rfl).trans (show f 21 = _ from hH.get 0 (151, 21) rfl)
            first
              | exact skip_v hsz rfl ((wanted_some (b := false) rfl rfl s151).trans rfl) hQ0 (Grow.refl _) rfl
              | exact skip_v hsz rfl (wanted_undef rfl rfl s151) hQ0 (Grow.refl _) rfl
              | refine small_v hsz [(5, _)] ⟨some 1, (Op.move (.tmp 0)), 24, "", #[], none⟩ [_, undef] 1 rfl ((wanted_some (b := true) rfl rfl s151).trans rfl) ⟨s5, trivial⟩ rfl rfl hQ0 ?_
                clear hQ0 hH s5 s151
                intro Q hQ
                repeat go_step
                exact hQ _ _ (Grow.refl _) rfl rfl
          refine obls_cons (fun f w' hR hH Q0 hQ0 => ?_) ?_
          · skip
            have s152 := (sv_at 152 22 hsz f [(152, 22), (151, 21)] rfl).trans (show f 22 = _ from hH.get 0 (152, 22) rfl)
            have s151 := (sv_at 151 21 hsz f [(152, 22), (151, 21)] rfl).trans (show f 21 = _ from hH.get 1 (151, 21) rfl)
            first
              | exact skip_v hsz rfl ((wanted_some (b := false) rfl rfl s151).trans rfl) hQ0 (Grow.refl _) rfl
              | exact skip_v hsz rfl (wanted_undef rfl rfl s151) hQ0 (Grow.refl _) rfl
              | refine small_v hsz [(152, _)] ⟨some 1, (Op.call (Call.mk (Callee.value (Operand.func 10)) #[(.tmp 0)] #[24])), 22, "", #[], none⟩ [_, undef] 1 rfl ((wanted_some (b := true) rfl rfl s151).trans rfl) ⟨s152, trivial⟩ rfl (ren_call rfl rfl) hQ0 ?_
                clear hQ0 hH s152 s151
                intro Q hQ
                go_wp2_with (go_at_call 10; refine (HBY.out _ hR).mono ?_; rintro e9 w9 ⟨u9, rfl, h9, hg9⟩)
                exact hQ _ _ hg9 h9 rfl
          refine obls_cons (fun f w' hR hH Q0 hQ0 => ?_) ?_
          · skip
            have h23 : (IsSl E) (f 23) w' := hH.get 0 (153, 23) rfl
            have s153 := sv_at 153 23 hsz f [(153, 23), (151, 21)] rfl
            obtain ⟨u23, hu23⟩ : ∃ u, f 23 = u := ⟨_, rfl⟩
            rw [hu23] at s153 h23
            clear hu23
            have s151 := (sv_at 151 21 hsz f [(153, 23), (151, 21)] rfl).trans (show f 21 = _ from hH.get 1 (151, 21) rfl)
            first
              | exact skip_v hsz rfl ((wanted_some (b := false) rfl rfl s151).trans rfl) hQ0 (Grow.refl _) rfl
              | exact skip_v hsz rfl (wanted_undef rfl rfl s151) hQ0 (Grow.refl _) rfl
              | refine small_v hsz [(153, _)] ⟨some 1, (Op.convert 22 9 (.tmp 0)), 9, "", #[], none⟩ [_, undef] 1 rfl ((wanted_some (b := true) rfl rfl s151).trans rfl) ⟨s153, trivial⟩ rfl rfl hQ0 ?_
                clear hQ0 hH s153 s151
                intro Q hQ
                obtain ⟨A1, n1, c1, rfl, -, -, hb1⟩ := h23
                have hcs := conv_str (P := Try.prog) Try.underlying22 Try.underlying5 Try.underlying9 hb1 c1
                clear hb1
                go_wp2_with fail
                exact hQ _ _ (Grow.refl _) rfl rfl
          refine obls_cons (fun f w' hR hH Q0 hQ0 => ?_) ?_
          · skip
            have s6 := sv_off f [(151, 21)] e6 rfl
            have s151 := (sv_at 151 21 hsz f [(151, 21)] rfl).trans (show f 21 = _ from hH.get 0 (151, 21) rfl)
            first
              | exact skip_v hsz rfl ((wanted_some (b := false) rfl rfl s151).trans rfl) hQ0 (Grow.refl _) rfl
              | exact skip_v hsz rfl (wanted_undef rfl rfl s151) hQ0 (Grow.refl _) rfl
              | refine small_v hsz [(6, _)] ⟨some 1, (Op.move (.tmp 0)), 28, "", #[], none⟩ [_, undef] 1 rfl ((wanted_some (b := true) rfl rfl s151).trans rfl) ⟨s6, trivial⟩ rfl rfl hQ0 ?_
                clear hQ0 hH s6 s151
                intro Q hQ
                repeat go_step
                exact hQ _ _ (Grow.refl _) rfl rfl
          refine obls_cons (fun f w' hR hH Q0 hQ0 => ?_) ?_
          · skip
            have s155 := (sv_at 155 25 hsz f [(155, 25), (151, 21)] rfl).trans (show f 25 = _ from hH.get 0 (155, 25) rfl)
            have s151 := (sv_at 151 21 hsz f [(155, 25), (151, 21)] rfl).trans (show f 21 = _ from hH.get 1 (151, 21) rfl)
            first
              | exact skip_v hsz rfl ((wanted_some (b := false) rfl rfl s151).trans rfl) hQ0 (Grow.refl _) rfl
              | exact skip_v hsz rfl (wanted_undef rfl rfl s151) hQ0 (Grow.refl _) rfl
              | refine small_v hsz [(155, _)] ⟨some 1, (Op.call (Call.mk (Callee.value (Operand.func 24)) #[(.tmp 0)] #[28])), 22, "", #[], none⟩ [_, undef] 1 rfl ((wanted_some (b := true) rfl rfl s151).trans rfl) ⟨s155, trivial⟩ rfl (ren_call rfl rfl) hQ0 ?_
                clear hQ0 hH s155 s151
                intro Q hQ
                go_wp2_with (go_at_call 24; refine (HRBY.out _ hR).mono ?_; rintro e9 w9 ⟨u9, rfl, h9, hg9⟩)
                exact hQ _ _ hg9 h9 rfl
          refine obls_cons (fun f w' hR hH Q0 hQ0 => ?_) ?_
          · skip
            have h26 : (IsSl E) (f 26) w' := hH.get 0 (156, 26) rfl
            have s156 := sv_at 156 26 hsz f [(156, 26), (151, 21)] rfl
            obtain ⟨u26, hu26⟩ : ∃ u, f 26 = u := ⟨_, rfl⟩
            rw [hu26] at s156 h26
            clear hu26
            have s151 := (sv_at 151 21 hsz f [(156, 26), (151, 21)] rfl).trans (show f 21 = _ from hH.get 1 (151, 21) rfl)
            first
              | exact skip_v hsz rfl ((wanted_some (b := false) rfl rfl s151).trans rfl) hQ0 (Grow.refl _) rfl
              | exact skip_v hsz rfl (wanted_undef rfl rfl s151) hQ0 (Grow.refl _) rfl
              | refine small_v hsz [(156, _)] ⟨some 1, (Op.convert 22 9 (.tmp 0)), 9, "", #[], none⟩ [_, undef] 1 rfl ((wanted_some (b := true) rfl rfl s151).trans rfl) ⟨s156, trivial⟩ rfl rfl hQ0 ?_
                clear hQ0 hH s156 s151
                intro Q hQ
                obtain ⟨A1, n1, c1, rfl, -, -, hb1⟩ := h26
                have hcs := conv_str (P := Try.prog) Try.underlying22 Try.underlying5 Try.underlying9 hb1 c1
                clear hb1
                go_wp2_with fail
                exact hQ _ _ (Grow.refl _) rfl rfl
          refine obls_cons (fun f w' hR hH Q0 hQ0 => ?_) ?_
          · skip
            have s154 := (sv_at 154 24 hsz f [(154, 24), (157, 27), (151, 21)] rfl).trans (show f 24 = _ from hH.get 0 (154, 24) rfl)
            have s157 := (sv_at 157 27 hsz f [(154, 24), (157, 27), (151, 21)] rfl).trans (show f 27 = _ from hH.get 1 (157, 27) rfl)
            have s151 := (sv_at 151 21 hsz f [(154, 24), (157, 27), (151, 21)] rfl).trans (show f 21 = _ from hH.get 2 (151, 21) rfl)
            first
              | exact skip_v hsz rfl ((wanted_some (b := false) rfl rfl s151).trans rfl) hQ0 (Grow.refl _) rfl
              | exact skip_v hsz rfl (wanted_undef rfl rfl s151) hQ0 (Grow.refl _) rfl
              | refine small_v hsz [(154, _), (157, _)] ⟨some 2, (Op.binOp BinOp.eql 9 (.tmp 0) (.tmp 1) 9), 4, "", #[], none⟩ [_, _, undef] 2 rfl ((wanted_some (b := true) rfl rfl s151).trans rfl) ⟨s154, s157, trivial⟩ rfl rfl hQ0 ?_
                clear hQ0 hH s154 s157 s151
                intro Q hQ
                repeat go_step
                exact hQ _ _ (Grow.refl _) rfl rfl
          refine obls_cons (fun f w' hR hH Q0 hQ0 => ?_) ?_
          · skip
            have s151 := (sv_at 151 21 hsz f [(151, 21), (158, 28)] rfl).trans (show f 21 = _ from hH.get 0 (151, 21) rfl)
            have s158 := (sv_at 158 28 hsz f [(151, 21), (158, 28)] rfl).trans (show f 28 = _ from hH.get 1 (158, 28) rfl)
            refine small_v hsz [(151, _), (158, _)] ⟨some 2, (Op.pick (.tmp 0) (.tmp 1) (Operand.const (Value.bool false))), 4, "", #[], none⟩ [_, _, undef] 2 rfl rfl ⟨s151, s158, trivial⟩ rfl rfl hQ0 ?_
            clear hQ0 hH s151 s158
            intro Q hQ
            repeat go_step
            exact hQ _ _ (Grow.refl _) rfl rfl
          refine obls_cons (fun f w' hR hH Q0 hQ0 => ?_) ?_
          · skip
            have s159 := (sv_at 159 29 hsz f [(159, 29)] rfl).trans (show f 29 = _ from hH.get 0 (159, 29) rfl)
            refine small_v hsz [(159, _)] ⟨some 1, (Op.move (.tmp 0)), 4, "", #[], none⟩ [_, undef] 1 rfl rfl ⟨s159, trivial⟩ rfl rfl hQ0 ?_
            clear hQ0 hH s159
            intro Q hQ
            repeat go_step
            exact hQ _ _ (Grow.refl _) rfl rfl
          refine obls_cons (fun f w' hR hH Q0 hQ0 => ?_) ?_
          · skip
            have s160 := (sv_at 160 30 hsz f [(160, 30)] rfl).trans (show f 30 = _ from hH.get 0 (160, 30) rfl)
            first
              | exact skip_v hsz rfl ((wanted_some (b := false) rfl rfl s160).trans rfl) hQ0 (Grow.refl _) rfl
              | exact skip_v hsz rfl (wanted_undef rfl rfl s160) hQ0 (Grow.refl _) rfl
              | refine small_v hsz [] ⟨some 0, (Op.call (Call.mk (Callee.value (Operand.func 6)) #[] #[])), 4, "", #[], none⟩ [undef] 0 rfl ((wanted_some (b := true) rfl rfl s160).trans rfl) trivial rfl (ren_call rfl rfl) hQ0 ?_
                clear hQ0 hH s160
                intro Q hQ
                go_wp2_with (go_at_call 6; refine (works_any _).mono ?_; rintro e w1 ⟨rfl, hg1⟩)
                exact hQ _ _ hg1 rfl rfl
          refine obls_cons (fun f w' hR hH Q0 hQ0 => ?_) ?_
          · skip
            have s160 := (sv_at 160 30 hsz f [(160, 30), (161, 31)] rfl).trans (show f 30 = _ from hH.get 0 (160, 30) rfl)
            have s161 := (sv_at 161 31 hsz f [(160, 30), (161, 31)] rfl).trans (show f 31 = _ from hH.get 1 (161, 31) rfl)
            refine small_v hsz [(160, _), (161, _)] ⟨some 2, (Op.pick (.tmp 0) (.tmp 1) (Operand.const (Value.bool false))), 4, "", #[], none⟩ [_, _, undef] 2 rfl rfl ⟨s160, s161, trivial⟩ rfl rfl hQ0 ?_
            clear hQ0 hH s160 s161
            intro Q hQ
            repeat go_step
            exact hQ _ _ (Grow.refl _) rfl rfl
          refine obls_cons (fun f w' hR hH Q0 hQ0 => ?_) ?_
          · skip
            have s162 := (sv_at 162 32 hsz f [(162, 32)] rfl).trans (show f 32 = _ from hH.get 0 (162, 32) rfl)
            refine small_v hsz [(162, _)] ⟨some 1, (Op.assign (.tmp 0)), 4, "", #[], none⟩ [_, undef] 1 rfl rfl ⟨s162, trivial⟩ rfl rfl hQ0 ?_
            clear hQ0 hH s162
            intro Q hQ
            repeat go_step
            exact hQ _ _ (Grow.refl _) rfl rfl
          exact obls_nil
        case mono => exact ⟨Mono.veq _, Mono.veq _, Mono.veq _, Mono.veq _, Mono.veq _, Mono.veq _, IsT.mono, Mono.veq _, Mono.veq _, IsT.mono, Mono.veq _, Mono.veq _, Mono.veq _, Mono.veq _, Mono.veq _, IsT.mono, Mono.veq _, Mono.veq _, IsT.mono, Mono.veq _, Mono.veq _, Mono.veq _, Mono.veq _, IsSl.mono, Mono.veq _, Mono.veq _, IsSl.mono, Mono.veq _, Mono.veq _, Mono.veq _, Mono.veq _, Mono.veq _, Mono.veq _, Mono.veq _, trivial⟩
        case tail =>
          intro f w' hR hH
          have q33 := hH.get 33 (4, 33) rfl
          clear hH
          refine wpList_merge (idx := [none, none, none, none, some 33, none, none, none, none, none, none, none, none, none, none, none, none, none, none, none, none, none, none, none, none, none, none, none, none, none, none, none, none, none, none, none, none, none, none, none, none, none, none, none, none, none, none, none, none, none, none, none, none, none, none, none, none, none, none, none, none, none, none, none, none, none, none, none, none, none, none, none, none, none, none, none, none, none, none, none, none, none, none, none, none, none, none, none, none, none, none, none, none, none, none, none, none, none, none, none, none, none, none, none, none, none, none, none, none, none, none, none, none, none, none, none, none, none, none, none, none, none, none, none, none, none, none, none, none, none, some 0, some 1, some 2, some 3, some 4, some 5, some 6, some 7, some 8, some 9, some 10, some 11, some 12, some 13, some 14, some 15, some 16, some 17, some 18, some 19, some 20, some 21, some 22, some 23, some 24, some 25, some 26, some 27, some 28, some 29, some 30, some 31, some 32]) (by kernel_rfl) ?_; show wpList _ _ _ [] ⟨#[_, _, _, _, f 33, _, _, _, _, _, _, _, _, _, _, _, _, _, _, _, _, _, _, _, _, _, _, _, _, _, _, _, _, _, _, _, _, _, _, _, _, _, _, _, _, _, _, _, _, _, _, _, _, _, _, _, _, _, _, _, _, _, _, _, _, _, _, _, _, _, _, _, _, _, _, _, _, _, _, _, _, _, _, _, _, _, _, _, _, _, _, _, _, _, _, _, _, _, _, _, _, _, _, _, _, _, _, _, _, _, _, _, _, _, _, _, _, _, _, _, _, _, _, _, _, _, _, _, _, _, f 0, f 1, f 2, f 3, f 4, f 5, f 6, f 7, f 8, f 9, f 10, f 11, f 12, f 13, f 14, f 15, f 16, f 17, f 18, f 19, f 20, f 21, f 22, f 23, f 24, f 25, f 26, f 27, f 28, f 29, f 30, f 31, f 32], _⟩ _
          rw [show f 33 = _ from q33]
          clear q33
          have HE := Lib.hid (HG0.out.trans (HG.out.trans hR))
          clear hR te
          go_wp2_with fail
          go_ret
          exact ⟨rfl, HE.out⟩
end Go.Proofs.Ythclgmpjmhacdaa.tg
