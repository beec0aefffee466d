/- The statements of frames: FrameCuts. -/
import Derived.Test.YtmkbkophpmkcbaaDoorFrmL
namespace Go.Proofs.YtmkbkophpmkcbaaDoor.frL
open Go Go.RowKit Go.Par Go.Kit Vi Go.Proofs.YtmkbkophpmkcbaaDoor.cl Go.Proofs.YtmkbkophpmkcbaaDoor.slW Go.Proofs.YtmkbkophpmkcbaaDoor.frm Go.Proofs.YtmkbkophpmkcbaaDoor.frW Go.Proofs.YtmkbkophpmkcbaaDoor.crcW

theorem infoI : (Tryd.prog.info? 3).isSome = true := by kernel_rfl
theorem iI : Tryd.prog.info? 3 = some ((Tryd.prog.info? 3).get infoI) := by simp
theorem iIs : ((Tryd.prog.info? 3).get infoI).size = 1 := by kernel_rfl
theorem iIz : ((Tryd.prog.info? 3).get infoI).zero = some (.int .i64 0) := by kernel_rfl
theorem iIb : ((Tryd.prog.info? 3).get infoI).bytes = 8 := by kernel_rfl
/-- an append onto another row leaves a row as it is -/
theorem own_by {w w' : World} {base : Nat} {e : TypeId} {size : Nat} {v : Value} {n : Nat} {xs : List Value} {row : Option Nat} (h : w.ownsRow base e size v n xs) (hg : w.grownBy w' row) (hr : ∀ k, v.ownBlock = some k → row ≠ some k) : w'.ownsRow base e size v n xs := by
  have hlt := h.lt
  obtain ⟨h1, h2⟩ := h
  refine ⟨h1, ?_⟩
  rcases h2 with h2 | ⟨g, cap, cur, rfl, h3, h4, h5⟩
  · exact .inl h2
  · exact .inr ⟨g, cap, cur, rfl, h3, (hg.block g (hlt g rfl).2 (fun e => hr g rfl e.symm)).trans h4, h5⟩
def endv (ls : List (List UInt8)) (k : Nat) : List Value := (List.range (k + 1)).map fun i => .int .i64 (ends ls i : Int)
theorem endv_snoc (ls : List (List UInt8)) (k : Nat) : endv ls (k + 1) = endv ls k ++ [.int .i64 (ends ls (k + 1) : Int)] := by
  unfold endv; rw [List.range_succ, List.map_append]; rfl
theorem endv_at (ls : List (List UInt8)) (k i : Nat) (h : i ≤ k) : (endv ls k)[i]? = some (.int .i64 (ends ls i : Int)) := by
  unfold endv; rw [List.getElem?_map, List.getElem?_range (by omega)]; rfl
theorem cat_snoc (ls : List (List UInt8)) (k : Nat) (l : List UInt8) (h : ls[k]? = some l) : cat (ls.take (k + 1)) = cat (ls.take k) ++ frame8 l := by
  unfold cat; rw [List.take_add_one, h]; simp
theorem ends_zero (ls : List (List UInt8)) : ends ls 0 = 0 := by cases ls <;> rfl
theorem cat_take_len (ls : List (List UInt8)) : ∀ k, k ≤ ls.length → (cat (ls.take k)).length = ends ls k
  | 0, _ => by rw [ends_zero]; simp [cat]
  | k + 1, h => by
    have hx : ls[k]? = some ls[k] := List.getElem?_eq_getElem (by omega)
    rw [cat_snoc ls k _ hx, List.length_append, cat_take_len ls k (by omega), ends_succ ls k _ hx]
theorem frame_le (l : List UInt8) (h : l.length ≤ 300) : (frame8 l).length ≤ 314 := by
  have := vb_len_le l.length; rw [frame8_len]; omega
/-- what the first loop keeps -/
structure Cut (w : World) (ls : List (List UInt8)) (k : Nat) (va ve : Value) (wr : World) : Prop where
  a : wr.ownsRow w.heap.size 5 1 va (ends ls k) (u8s (cat (ls.take k)))
  e : wr.ownsRow w.heap.size 3 1 ve (k + 1) (endv ls k)
  ne : ∀ g, va.ownBlock = some g → ve.ownBlock ≠ some g
  g : Grow w wr
  len : ends ls k ≤ 314 * k
  sm : ∀ (j : Nat) (l : List UInt8), j < k → ls[j]? = some l → l.length ≤ 300

theorem Cut.step {w w1 w2 w3 wr : World} {ls : List (List UInt8)} {k m : Nat} {va ve va2 ve2 : Value} {l : List UInt8} {z : Int} (h : Cut w ls k va ve wr) (hl : ls[k]? = some l) (h3 : l.length ≤ 300) (hg1 : Grow wr w1)
    (ho2 : w2.ownsRow w.heap.size 5 1 va2 m (u8s (cat (ls.take k) ++ frame8 l))) (hgb2 : w1.grownBy w2 va.ownBlock) (hh2 : va2.ownBlock = va.ownBlock ∨ va2.ownBlock = some w1.heap.size) (hz : z = (ends ls (k + 1) : Int))
    (ho3 : w3.ownsRow w.heap.size 3 1 ve2 (k + 1 + 1) (endv ls k ++ [.int .i64 z])) (hgb3 : (w2.alloc (.cells #[.int .i64 z] 3)).grownBy w3 ve.ownBlock) (hh3 : ve2.ownBlock = ve.ownBlock ∨ ve2.ownBlock = some (w2.heap.size + 1)) : Cut w ls (k + 1) va2 ve2 w3 := by
  have hes := ends_succ ls k l hl
  have hk := (List.getElem?_eq_some_iff.1 hl).1
  have hee := own_grow h.e hg1
  have hne : ∀ g, va2.ownBlock = some g → ve.ownBlock ≠ some g := by
    intro g hg
    rcases hh2 with e | e
    · exact h.ne g (e ▸ hg)
    · rw [e] at hg
      injection hg with hg
      intro hv
      have := (hee.lt g hv).2
      omega
  have hm : m = ends ls (k + 1) := by
    have := ho2.1
    rw [← cat_snoc ls k l hl] at this
    have h2 := cat_take_len ls (k + 1) (by omega)
    simp [u8s] at this
    omega
  subst hm
  have hg2 := grow_by (h.g.trans hg1) hgb2 (own_base h.a)
  refine ⟨?_, by rw [endv_snoc, ← hz]; exact ho3, ?_, grow_by (hg2.trans (Grow.alloc w2 _)) hgb3 (own_base h.e), by have := frame_le l h3; have := h.len; omega, fun j l' hj hl' => ?_⟩
  · rw [cat_snoc ls k l hl]
    exact own_by (own_grow ho2 (Grow.alloc w2 _)) hgb3 hne
  · intro g hg
    rcases hh3 with e | e
    · rw [e]; exact hne g hg
    · rw [e]
      intro hv
      injection hv with hv
      have := (ho2.lt g hg).2
      omega
  · by_cases hjk : j < k
    · exact h.sm j l' hjk hl'
    · obtain rfl : j = k := by omega
      rw [hl] at hl'
      obtain rfl := Option.some.inj hl'
      exact h3

set_option maxRecDepth 100000 in
set_option maxHeartbeats 2000000 in
theorem cuts_walk (A : Option Addr) (n c : Nat) (ls : List (List UInt8)) (x : Int) (w : World) (hb : Parts w A n ls) (hx0 : 0 ≤ x) (hx1 : x ≤ 65535) (hnm : n ≤ maxLen) (ht : Tab w) :
    Calls Tryd.prog 14 #[.slice A n c, .int .u16 x] w fun e w' => e = .returned (.bool true) ∧ Grow w w' := by
  unfold maxLen at hnm
  by_cases hn : n ≤ 20
  · have HB := Lib.hid hb
    have HLS := Lib.hid hb.len
    have H0 : Hid (Cut w ls 0 (.slice none 0 0) (.slice (some ⟨w.heap.size, 0, none⟩) 1 1) (w.alloc (.cells #[.int .i64 0] 3))) := Lib.hid
      ⟨by rw [ends_zero]; exact own_none _ _ _, own_lit (Blk.new w _ _ _ (by simp [endv, ends_zero]) rfl) (Nat.le_refl _) (by simp [endv]) (by decide), (fun g h => by cases h), Grow.alloc _ _, by rw [ends_zero]; decide, fun j l h => absurd h (by omega)⟩
    clear hb
    go_enter Tryd.func14, Tryd.ntmps14
    go_wp2_with fail
    go_loopw [5, 6, 7] (fun va0 ve0 i wr => ∃ (k : Nat) (va ve : Value), k ≤ n ∧ i = .int .i64 (k : Int) ∧ va = va0 ∧ ve = ve0 ∧ Cut w ls k va ve wr) (fun _ _ i _ => n - (intOf i).toNat)
    case atStart => exact ⟨0, _, _, by omega, rfl, rfl, rfl, H0.out⟩
    case round =>
      obtain ⟨k, va, ve, hk, rfl, rfl, rfl, hcut⟩ := hrel
      clear H0
      by_cases hlt : k < n
      · obtain ⟨b, off, A1, n1, c1, l, rfl, hl, cl, e1, e2, hb1⟩ := (HB.out.grow hcut.g).at_ hlt
        have hll := hb1.len
        have hlen := hcut.len
        by_cases h3 : n1 ≤ 300
        · have t1 : decide ((300 : Int) < (n1 : Int)) = false := decide_eq_false (by omega)
          have hfr := frame_any A1 n1 c1 l wr hb1 (by omega) (ht.grow hcut.g)
          have hes := ends_succ ls k l hl
          have hfl := frame_le l (by omega)
          obtain ⟨F, hF⟩ : ∃ F, F = frame8 l := ⟨_, rfl⟩
          rw [← hF] at hfr hes hfl
          have HLK := Lib.hid hl
          have HFF := Lib.hid hF
          have hl3 : l.length ≤ 300 := by omega
          obtain ⟨E, hE⟩ : ∃ E, E = ends ls k := ⟨_, rfl⟩
          obtain ⟨E1, hE1⟩ : ∃ E1, E1 = ends ls (k + 1) := ⟨_, rfl⟩
          rw [← hE] at hlen hes
          rw [← hE1] at hes
          have HE := Lib.hid hE
          have HE1 := Lib.hid hE1
          have hes2 : (E1 : Int) = (E : Int) + (F.length : Int) := by omega
          have HES2 := Lib.hid hes2
          have HFR := Lib.hid hfr
          have HC := Lib.hid hcut
          have hbnd : E + F.length ≤ 7000 := by omega
          clear hl hb1 hll hfr hF hE hE1 hes hes2 hcut hfl hlen
          go_wp2_with fail
          refine HFR.out.mono ?_
          rintro e w1 ⟨v1, rfl, ho1, hg1⟩
          obtain ⟨A2, c2, rfl, f1, f2, f3⟩ := own_form ho1
          rw [Nat.mul_one] at f3
          have hA1 : w1.ownsRow w.heap.size 5 1 va E (u8s (cat (ls.take k))) := by rw [HE.out]; exact own_grow HC.out.a hg1
          have HEE := Lib.hid (own_grow HC.out.e hg1)
          have HG1 := Lib.hid (HC.out.g.trans hg1)
          have hsz1 : w.heap.size ≤ w1.heap.size := HG1.out.size
          have hbF : Bytes w1 A2 F.length F := f3
          have hlim : E + F.length ≤ 140737488355328 := by omega
          have HGW := Lib.hid hg1
          have HEN := Lib.hid (fun (g : Nat) (hv : ve.ownBlock = some g) (e : va.ownBlock = some g) => HC.out.ne g e hv)
          have hk20 : k + 1 + 1 ≤ maxLen := by unfold maxLen; omega
          have hk8 : (k + 1 + 1) * 8 ≤ 140737488355328 := by omega
          have hba := own_base hA1
          have HBA := Lib.hid hba
          clear ho1 hg1 f3 f2 HFR hba
          go_wp2_with (at_builtin; first
            | (refine append_bytes Tryd.underlying25 i8 i8z i8s i8b rfl _ _ rfl w.heap.size va E (cat (ls.take k)) hA1 rfl A2 F.length c2 F hbF rfl hlim hsz1 ?_; intro va2 w2 hown2 hgb2 hh2; have he2 := own_by HEE.out hgb2 HEN.out; have hsz2 := (grow_by HG1.out hgb2 HBA.out).size; have HO2 := Lib.hid hown2; have HGB2 := Lib.hid hgb2; have HH2 := Lib.hid hh2; obtain ⟨A4, c4, rfl, -, -, -⟩ := own_form hown2; clear hown2 hgb2 hh2 hA1)
            | (refine append_fresh 8 Tryd.underlying53 iI iIz iIs iIb rfl rfl _ _ rfl w.heap.size ve (k + 1) (endv ls k) he2 rfl rfl rfl hk20 hk8 hsz2 ?_; intro ve2 w3 hown3 hgb3 hh3))
          have hst := HC.out.step HLK.out hl3 HGW.out (by rw [← HFF.out]; exact HO2.out) HGB2.out HH2.out (by rw [← HES2.out, HE1.out]) hown3 hgb3 hh3
          obtain ⟨A5, c5, rfl, -, -, -⟩ := own_form hown3
          have HST := Lib.hid hst
          clear hst hown3 hgb3 hh3 he2
          go_roundw
          case rel => exact ⟨k + 1, _, _, by omega, by go_num, rfl, rfl, HST.out⟩
          case measure => simp [intOf] <;> omega
        · have t1 : decide ((300 : Int) < (n1 : Int)) = true := decide_eq_true (by omega)
          have HW := Lib.hid (works_any wr (ht.grow hcut.g))
          have HG := Lib.hid hcut.g
          clear hl hb1 hll hcut
          go_wp2_with fail
          refine HW.out.mono ?_
          rintro e w1 ⟨rfl, hg1⟩
          go_wp2_with fail
          go_ret
          exact ⟨rfl, HG.out.trans hg1⟩
      · obtain rfl : k = n := by omega
        have hlk : ls.length = k := HLS.out
        have e : ls.take k = ls := List.take_of_length_le (by omega)
        have ha := hcut.a
        have hcl := cat_take_len ls k (by omega)
        rw [e] at ha hcl
        obtain ⟨T, hT⟩ : ∃ T, T = ends ls k := ⟨_, rfl⟩
        obtain ⟨C, hC⟩ : ∃ C, C = cat ls := ⟨_, rfl⟩
        rw [← hT] at ha hcl
        rw [← hC] at ha hcl
        have hTb : T ≤ 7000 := by have := hcut.len; omega
        obtain ⟨K, hK, hKT⟩ : ∃ K : Nat, x % ((T : Int) + 1) = K ∧ K ≤ T := by
          have h1 := Int.emod_nonneg x (show ((T : Int) + 1) ≠ 0 by omega)
          have h2 := Int.emod_lt_of_pos x (show 0 < ((T : Int) + 1) by omega)
          exact ⟨(x % ((T : Int) + 1)).toNat, by omega, by omega⟩
        have hall := all_cut ls K (fun l hl => by
          obtain ⟨j, hj, rfl⟩ := List.getElem_of_mem hl
          have := hcut.sm j _ (by omega) (List.getElem?_eq_getElem hj)
          omega) (by rw [← hC, hcl]; exact hKT)
        rw [← hC] at hall
        obtain ⟨A4, c4, rfl, f1, f2, f3⟩ := own_form ha
        rw [Nat.mul_one] at f3
        have hbK : Bytes wr A4 K (C.take K) := Bytes.take (show Bytes wr A4 T C from f3) hKT
        have hsl := slice_hi (P := Tryd.prog) Tryd.underlying25 i8 A4 T c4 K (by omega)
        have haa := all_any A4 K c4 (C.take K) wr hbK (by omega) f2 (by omega) (ht.grow hcut.g)
        have hwle := whole_le ls K
        have HWI := Lib.hid (fun m h1 h2 h3 => whole_is ls K m h1 h2 h3)
        rw [hall] at haa
        obtain ⟨M, hM⟩ : ∃ M, M = whole ls K := ⟨_, rfl⟩
        rw [← hM] at haa hwle
        have hMk : M ≤ k := by omega
        have HAA := Lib.hid haa
        have HM := Lib.hid hM
        have HE := Lib.hid hcut.e
        have HG := Lib.hid hcut.g
        have hne : (T : Int) + 1 ≠ 0 := by omega
        have HEM : Hid (∀ i, ends ls i ≤ ends ls (i + 1)) := Lib.hid (ends_mono ls)
        have HLK := Lib.hid hlk
        clear e ha hcl hT hC hall f3 f2 hbK haa hM hcut hlk hwle
        go_wp2_with fail
        refine HAA.out.mono ?_
        rintro e w1 ⟨v1, rfl, hp1, hg1⟩
        obtain ⟨A5, c5, rfl, -, -, hp5⟩ := hp1.form
        have hlM : (ls.take M).length = M := by rw [List.length_take]; have := HLK.out; omega
        rw [hlM] at hp5 ⊢
        have HP := Lib.hid hp5
        have HE1 := Lib.hid (own_grow HE.out hg1)
        have HG1 := Lib.hid (HG.out.trans hg1)
        obtain ⟨A6, c6, rfl, -, -, -⟩ := own_form HE1.out
        clear hp1 hp5 hg1 HAA HE hlM
        obtain ⟨EM, hEM⟩ : ∃ EM, EM = ends ls M := ⟨_, rfl⟩
        rw [← hEM]
        obtain ⟨er, her⟩ : ∃ er : Nat, er = (if EM = K then 0 else 2) := ⟨_, rfl⟩
        have hcs : (er = 0 ∧ EM = K) ∨ (er = 2 ∧ ¬ EM = K) := by
          rw [her]
          by_cases h : EM = K
          · exact .inl ⟨if_pos h, h⟩
          · exact .inr ⟨if_neg h, h⟩
        rw [← her]
        have HEMM := Lib.hid hEM
        clear her hEM
        obtain ⟨g6, hA6, -⟩ := own_some HE1.out (by omega)
        subst hA6
        rcases hcs with ⟨rfl, h0⟩ | ⟨rfl, h0⟩
        all_goals
          first
            | (have q1 : ((EM : Int) == (K : Int)) = true := beq_iff_eq.2 (by omega)
               have q2 : (EM == K) = true := beq_iff_eq.2 h0
               have Q1 := Lib.hid q1
               have Q2 := Lib.hid q2
               clear q1 q2)
            | (have q1 : ((EM : Int) == (K : Int)) = false := beq_false_of_ne (by omega)
               have q2 : (EM == K) = false := beq_false_of_ne h0
               have Q1 := Lib.hid q1
               have Q2 := Lib.hid q2
               clear q1 q2)
          clear h0
          go_wp2_with fail
          go_loop [14] (fun i => ∃ m : Nat, m ≤ k ∧ i = .int .i64 (m : Int) ∧ Hid (∀ i, i < m → ends ls (i + 1) ≤ K)) (fun i => k - (intOf i).toNat)
          case atStart => exact ⟨0, by omega, rfl, Lib.hid fun i h => absurd h (by omega)⟩
          case round =>
            obtain ⟨m, hm, rfl, HI⟩ := hrel
            have hc0 : w1.cell? ⟨g6, m, none⟩ = some (.int .i64 (ends ls m : Int)) := by rw [HE1.out.cellAt _ (by omega)]; exact endv_at ls k m hm
            by_cases hgo : m < k ∧ ends ls (m + 1) ≤ K
            · obtain ⟨hlt, hle⟩ := hgo
              have hc1 : w1.cell? ⟨g6, m + 1, none⟩ = some (.int .i64 (ends ls (m + 1) : Int)) := by rw [HE1.out.cellAt _ (by omega)]; exact endv_at ls k (m + 1) (by omega)
              have HI2 : Hid (∀ i, i < m + 1 → ends ls (i + 1) ≤ K) := Lib.hid fun i hi => by
                by_cases him : i < m
                · exact HI.out i him
                · obtain rfl : i = m := by omega
                  exact hle
              obtain ⟨E1, hE1⟩ : ∃ E1, E1 = ends ls (m + 1) := ⟨_, rfl⟩
              rw [← hE1] at hc1 hle
              have t1 : decide ((E1 : Int) ≤ (K : Int)) = true := decide_eq_true (by omega)
              have t2 : decide (E1 ≤ K) = true := decide_eq_true hle
              clear hE1 hc0 HI
              go_wp2_with fail
              go_round
              case rel => exact ⟨m + 1, by omega, by go_num, HI2⟩
              case measure => simp [intOf] <;> omega
            · have hmM : M = m := by rw [HM.out]; exact HWI.out m (by have := HLK.out; omega) (fun i hi => HI.out i hi) (fun h => by have := HLK.out; omega)
              subst hmM
              rw [← HEMM.out] at hc0
              have q1 := Q1.out
              have q2 := Q2.out
              by_cases hlt : M < k
              all_goals
                first
                  | (have hc1 : w1.cell? ⟨g6, M + 1, none⟩ = some (.int .i64 (ends ls (M + 1) : Int)) := by rw [HE1.out.cellAt _ (by omega)]; exact endv_at ls k (M + 1) (by omega)
                     have hle : K < ends ls (M + 1) := by omega
                     obtain ⟨E1, hE1⟩ : ∃ E1, E1 = ends ls (M + 1) := ⟨_, rfl⟩
                     rw [← hE1] at hc1 hle
                     have t1 : decide ((E1 : Int) ≤ (K : Int)) = false := decide_eq_false (by omega)
                     have t2 : decide (E1 ≤ K) = false := decide_eq_false (by omega)
                     clear hE1)
                  | (obtain rfl : M = k := by omega
                     skip)
                clear hgo
                go_wp2_with fail
                clear hc0 q1 q2
                go_loopw [15] (fun i wr => ∃ j : Nat, j ≤ M ∧ i = .int .i64 (j : Int) ∧ Grow w1 wr) (fun i _ => M - (intOf i).toNat)
                case atStart => exact ⟨0, by omega, rfl, Grow.refl _⟩
                case round =>
                  obtain ⟨j, hj, rfl, hg⟩ := hrel
                  by_cases hjl : j < M
                  · obtain ⟨b, off, A7, n7, c7, l, hA7, hx, cl7, e1, e2, hb7⟩ := (HP.out.grow hg).at_ hjl
                    obtain ⟨b', off', A8, n8, c8, l', hA8, hx', cl8, e3, e4, hb8⟩ := ((HB.out.grow HG1.out).grow hg).at_ (show j < _ by omega)
                    obtain rfl : l = l' := by
                      rw [List.getElem?_take_of_lt hjl, hx'] at hx
                      exact (Option.some.inj hx).symm
                    subst hA7
                    subst hA8
                    have HB7 := Lib.hid hb7
                    have HB8 := Lib.hid hb8
                    have HC7 := Lib.hid cl7
                    have HC8 := Lib.hid cl8
                    have HGJ := Lib.hid hg
                    clear hx hx' hb7 hb8 cl7 cl8 hg
                    go_wp2_with fail
                    apply (fun (v0 v1 v2 v3 v4 v5 v6 v7 v8 v9 v10 : Value) mono obl tail => wp_region_par (R := Grow) (Φ := phi [veq v0, veq v1, veq v2, veq v3, veq v4, veq v5, veq v6, veq v7, veq v8, veq v9, veq v10]) (m := 11) (dls := [[], [], [(114, 0), (115, 1)], [(116, 2)], [(117, 3)], [], [], [(119, 5), (120, 6)], [(121, 7)], [(122, 8)], [(118, 4), (123, 9)]]) (ds := [114, 115, 116, 117, 118, 119, 120, 121, 122, 123, 124]) (by kernel_rfl) (by kernel_rfl) (by decide) rfl (Grow.drew _) (fun _ _ _ => Grow.trans) (mono_phi mono) obl tail)
                    case obl =>
                      refine obls_cons (fun f w' hR hH Q hQ => ?_) ?_
                      · skip
                        simp only [view, List.foldl]
                        repeat (first | go_guarded | go_step)
                        exact hQ _ _ (Grow.refl _) rfl rfl
                      refine obls_cons (fun f w' hR hH Q hQ => ?_) ?_
                      · skip
                        simp only [view, List.foldl]
                        repeat (first | go_guarded | go_step)
                        exact hQ _ _ (Grow.refl _) rfl rfl
                      refine obls_cons (fun f w' hR hH Q hQ => ?_) ?_
                      · skip
                        obtain ⟨h0, h1, -⟩ := hH
                        simp only [view, List.foldl, Act.put, List.setIfInBounds_toArray, List.set_cons_zero, List.set_cons_succ]
                        rw [show f 0 = _ from h0]
                        rw [show f 1 = _ from h1]
                        clear h0 h1
                        repeat (first | go_guarded | go_step)
                        exact hQ _ _ (Grow.refl _) rfl rfl
                      refine obls_cons (fun f w' hR hH Q hQ => ?_) ?_
                      · skip
                        obtain ⟨h2, -⟩ := hH
                        simp only [view, List.foldl, Act.put, List.setIfInBounds_toArray, List.set_cons_zero, List.set_cons_succ]
                        rw [show f 2 = _ from h2]
                        clear h2
                        have c7 := hR.cell HC7.out
                        repeat (first | go_guarded | go_step)
                        exact hQ _ _ (Grow.refl _) rfl rfl
                      refine obls_cons (fun f w' hR hH Q hQ => ?_) ?_
                      · skip
                        obtain ⟨h3, -⟩ := hH
                        simp only [view, List.foldl, Act.put, List.setIfInBounds_toArray, List.set_cons_zero, List.set_cons_succ]
                        rw [show f 3 = _ from h3]
                        clear h3
                        have hcs := fun c => conv_str (P := Tryd.prog) Tryd.underlying25 Tryd.underlying5 Tryd.underlying9 ((HB7.out).grow hR) c
                        go_wp2_with fail
                        exact hQ _ _ (Grow.refl _) rfl rfl
                      refine obls_cons (fun f w' hR hH Q hQ => ?_) ?_
                      · skip
                        simp only [view, List.foldl]
                        repeat (first | go_guarded | go_step)
                        exact hQ _ _ (Grow.refl _) rfl rfl
                      refine obls_cons (fun f w' hR hH Q hQ => ?_) ?_
                      · skip
                        simp only [view, List.foldl]
                        repeat (first | go_guarded | go_step)
                        exact hQ _ _ (Grow.refl _) rfl rfl
                      refine obls_cons (fun f w' hR hH Q hQ => ?_) ?_
                      · skip
                        obtain ⟨h5, h6, -⟩ := hH
                        simp only [view, List.foldl, Act.put, List.setIfInBounds_toArray, List.set_cons_zero, List.set_cons_succ]
                        rw [show f 5 = _ from h5]
                        rw [show f 6 = _ from h6]
                        clear h5 h6
                        repeat (first | go_guarded | go_step)
                        exact hQ _ _ (Grow.refl _) rfl rfl
                      refine obls_cons (fun f w' hR hH Q hQ => ?_) ?_
                      · skip
                        obtain ⟨h7, -⟩ := hH
                        simp only [view, List.foldl, Act.put, List.setIfInBounds_toArray, List.set_cons_zero, List.set_cons_succ]
                        rw [show f 7 = _ from h7]
                        clear h7
                        have c8 := hR.cell HC8.out
                        repeat (first | go_guarded | go_step)
                        exact hQ _ _ (Grow.refl _) rfl rfl
                      refine obls_cons (fun f w' hR hH Q hQ => ?_) ?_
                      · skip
                        obtain ⟨h8, -⟩ := hH
                        simp only [view, List.foldl, Act.put, List.setIfInBounds_toArray, List.set_cons_zero, List.set_cons_succ]
                        rw [show f 8 = _ from h8]
                        clear h8
                        have hcs := fun c => conv_str (P := Tryd.prog) Tryd.underlying25 Tryd.underlying5 Tryd.underlying9 ((HB8.out).grow hR) c
                        go_wp2_with fail
                        exact hQ _ _ (Grow.refl _) rfl rfl
                      refine obls_cons (fun f w' hR hH Q hQ => ?_) ?_
                      · skip
                        obtain ⟨h4, h9, -⟩ := hH
                        simp only [view, List.foldl, Act.put, List.setIfInBounds_toArray, List.set_cons_zero, List.set_cons_succ]
                        rw [show f 4 = _ from h4]
                        rw [show f 9 = _ from h9]
                        clear h4 h9
                        repeat (first | go_guarded | go_step)
                        exact hQ _ _ (Grow.refl _) rfl rfl
                      exact obls_nil
                    case mono => exact ⟨Mono.veq _, Mono.veq _, Mono.veq _, Mono.veq _, Mono.veq _, Mono.veq _, Mono.veq _, Mono.veq _, Mono.veq _, Mono.veq _, Mono.veq _, trivial⟩
                    case tail =>
                      intro f w' hR hH
                      simp only [view, List.zipIdx, List.foldl, Act.put, List.setIfInBounds_toArray, List.set_cons_zero, List.set_cons_succ, List.drop_succ_cons, List.drop_zero]
                      obtain ⟨-, -, -, -, -, -, -, -, -, -, q10, -⟩ := hH
                      rw [show f 10 = _ from q10]
                      clear q10
                      generalize f 0 = x0
                      generalize f 1 = x1
                      generalize f 2 = x2
                      generalize f 3 = x3
                      generalize f 4 = x4
                      generalize f 5 = x5
                      generalize f 6 = x6
                      generalize f 7 = x7
                      generalize f 8 = x8
                      generalize f 9 = x9
                      have HR := Lib.hid (HGJ.out.trans hR)
                      clear hR
                      go_wp2_with fail
                      go_roundw
                      case rel => exact ⟨j + 1, by omega, by go_num, HR.out⟩
                      case measure => simp [intOf] <;> omega
                  · have HW := Lib.hid (works_any wr (ht.grow (HG1.out.trans hg)))
                    have HGJ := Lib.hid (HG1.out.trans hg)
                    clear hg
                    go_wp2_with fail
                    refine HW.out.mono ?_
                    rintro e w5 ⟨rfl, hg5⟩
                    go_wp2_with fail
                    go_ret
                    exact ⟨rfl, HGJ.out.trans hg5⟩
  · have HW0 := Lib.hid (works_any w ht)
    have t1 : decide ((20 : Int) < (n : Int)) = true := decide_eq_true (by omega)
    go_enter Tryd.func14, Tryd.ntmps14
    go_wp2_with fail
    refine HW0.out.mono ?_
    rintro e w' ⟨rfl, hg⟩
    go_wp2_with fail
    go_ret
    exact ⟨rfl, hg⟩
end Go.Proofs.YtmkbkophpmkcbaaDoor.frL
