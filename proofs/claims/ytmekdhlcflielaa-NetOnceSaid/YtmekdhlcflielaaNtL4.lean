/- The walk of NetOnce. -/
import Derived.Test.YtmekdhlcflielaaNtQ
import Derived.Test.YtmekdhlcflielaaLdC
import Derived.Test.YtmekdhlcflielaaNspR
namespace Go.Proofs.Ytmekdhlcflielaa.ntL
open Go Go.RowKit Go.Par Go.Kit Go.Proofs.Ytmekdhlcflielaa.mpA Go.Proofs.Ytmekdhlcflielaa.cl Go.Proofs.Ytmekdhlcflielaa.nt

theorem new4 (w : World) : Calls Try.prog 7 #[.int .i64 4] w fun e w' => ∃ g bm, e = .returned (.pointer (some ⟨g, 0, none⟩)) ∧ NetI w' w.heap.size g bm 4 0 (.slice none 0 0) [] (fun _ _ => false) ∧ Grow w w' := new_any 4 w
/-- behind the first test: what was sent, grown by the act's text or not -/
def JS (w : World) (g bm cnt : Nat) (t lv : Value) (ps : List PkR) (C : Cuts) (sent spoilt : List (List UInt8)) (x : Act) (f : Nat → Value) (w' : World) : Prop := ∃ s', f 4 = s' ∧ OnI w' w.heap.size g bm cnt s' t lv ps C (sentS sent x) spoilt ∧ Grow w w'
theorem undAc : Try.prog.underlying TA = some (.struct (Try.prog.fieldsOf TA)) := by kernel_rfl
theorem sizeAc : (Try.prog.info? TA).map (·.size) = some 7 := by kernel_rfl
theorem sentS_len (sent : List (List UInt8)) (x : Act) : (sentS sent x).length ≤ sent.length + 1 := by
  unfold sentS; split <;> simp
theorem spoiltS_len (sp : List (List UInt8)) (ps : List Pk) (x : Act) : (spoiltS sp ps x).length ≤ sp.length + 1 := by
  unfold spoiltS
  split
  · split <;> simp
  · omega
/-- behind the second test: what was spoilt, grown or not -/
def JT (w : World) (g bm cnt : Nat) (s lv : Value) (ps : List PkR) (C : Cuts) (sent spoilt : List (List UInt8)) (x : Act) (f : Nat → Value) (w' : World) : Prop := ∃ t', f 5 = t' ∧ OnI w' w.heap.size g bm cnt s t' lv ps C sent (spoiltS spoilt (ps.map pkOf) x) ∧ Grow w w'
/-- a list of one text, new -/
def NewT (L : List UInt8) : Value → World → Prop := fun u w => ∃ g, u = .slice (some ⟨g, 0, none⟩) 1 1 ∧ Row w (some ⟨g, 0, none⟩) (1 * 1) [.string (str L)]
theorem NewT.mono {L : List UInt8} : Mono Grow (NewT L) := fun _ _ _ ⟨g, e, h⟩ hg => ⟨g, e, h.grow hg⟩
def IsT (B g bm cnt : Nat) (s lv : Value) (ps : List PkR) (C : Cuts) (sent sp : List (List UInt8)) : Value → World → Prop := fun u w => OnI w B g bm cnt s u lv ps C sent sp
theorem IsT.mono {B g bm cnt : Nat} {s lv : Value} {ps : List PkR} {C : Cuts} {sent sp : List (List UInt8)} : Mono Grow (IsT B g bm cnt s lv ps C sent sp) := fun _ _ _ h hg => h.grow hg
set_option maxRecDepth 100000 in
set_option maxHeartbeats 8000000 in
theorem once_walk (A : Option Addr) (n c : Nat) (ac : List Act) (w : World) (ha : Acts w A n ac) (hn : n ≤ maxLen) :
    Calls Try.prog 5 #[.slice A n c] w fun e w' => e = .returned (.bool true) ∧ Grow w w' := by
  have HF := Lib.hid (few_any A n c ac w w ha (Grow.refl w) hn)
  have HA := Lib.hid ha
  rcases hfew : fewB ac with _ | _
  · have HWK := Lib.hid (works_any w)
    rw [hfew] at HF
    clear ha hfew
    unfold maxLen at hn
    go_enter Try.func5, Try.ntmps5
    go_wp2_with fail
    refine HF.out.mono ?_
    rintro e w' ⟨rfl, rfl⟩
    go_wp2_with fail
    refine HWK.out.mono ?_
    rintro e w1 ⟨rfl, hg1⟩
    go_wp2_with fail
    go_ret
    exact ⟨rfl, hg1⟩
  · have HFW := Lib.hid (few_get hfew)
    rw [hfew] at HF
    have hn60 : n ≤ 60 := by have := HFW.out.1; have := HA.out.1; omega
    clear ha hfew hn
    go_enter Try.func5, Try.ntmps5
    go_wp2_with fail
    refine HF.out.mono ?_
    rintro e w' ⟨rfl, rfl⟩
    go_wp2_with fail
    refine (new4 w).mono ?_
    rintro e w1 ⟨g, bm, rfl, hn1, hg1⟩
    have HN1 := Lib.hid hn1
    have HG1 := Lib.hid hg1
    clear hn1 hg1
    go_wp2_with fail
    go_loopw [4, 5, 6] (fun s0 t0 i' wr => ∃ (k cnt : Nat) (s t lv : Value) (ps : List PkR) (C : Cuts) (sent spoilt : List (List UInt8)), k ≤ n ∧ i' = .int .i64 (k : Int) ∧ s = s0 ∧ t = t0 ∧ OnI wr w.heap.size g bm cnt s t lv ps C sent spoilt ∧ cnt ≤ k ∧ sent.length ≤ k ∧ spoilt.length ≤ k ∧ Once sent spoilt (ps.map pkOf) ∧ Grow w wr) (fun s t i' _ => n - (intOf i').toNat)
    case atStart => exact ⟨0, 0, _, _, _, [], _, [], [], by omega, rfl, rfl, rfl, ⟨HN1.out, ⟨rfl, .inl ⟨rfl, rfl⟩⟩, ⟨rfl, .inl ⟨rfl, rfl⟩⟩, fun j hj => by cases hj⟩, by omega, by simp, by simp, (by intro p hp; cases hp), HG1.out⟩
    case round =>
      clear HN1 HG1 HF
      obtain ⟨k, cnt, s, t, lv, ps, C, sent, spoilt, hkl, rfl, rfl, rfl, hI, hcn, hs1, hs2, ho, hg⟩ := hrel
      by_cases hlt : k < n
      · obtain ⟨b, off, x, A', n', c', rfl, hx, hc, b1, b2, b3, b4⟩ := HA.out.at_ (Grow.refl w) hlt
        have c0 : wr.cell? ⟨b, off + k * 7, none⟩ = some (.int .u8 (x.k : Int)) := hg.cell (hc 0 _ rfl)
        have HX := Lib.hid hx
        have HC := Lib.hid hc
        have HB := Lib.hid b3
        have HOK := Lib.hid b4
        have HI := Lib.hid hI
        have HG := Lib.hid hg
        have HN := Lib.hid (And.intro hcn (And.intro hs1 (And.intro hs2 (And.intro hlt (And.intro b1 b2)))))
        have HO := Lib.hid ho
        have t1 : decide (k < n) = true := decide_eq_true hlt
        have t2 : decide ((k : Int) < (n : Int)) = true := decide_eq_true (by omega)
        obtain ⟨q0, hq0⟩ : ∃ q, q = decide (x.k = 0) := ⟨_, rfl⟩
        have t3 : ((x.k : Int) == 0) = q0 := by rw [hq0, Bool.eq_iff_iff]; simp
        have t4 : (x.k == 0) = q0 := by rw [hq0, Bool.eq_iff_iff]; simp
        have HQ0 := Lib.hid hq0
        clear hx hc b1 b2 b3 b4 hI hg hcn hs1 hs2 ho hq0
        repeat (first | with_reducible (refine wp_cond_cut (k := 28) ?_) | go_values | go_guarded | go_step | go_upon | go_back)
        refine wp_cut [none, none, none, none, some 4, none, none, none, none, none, none, none, none, none, none, none, none, none, none, none, none, none, none, none, none, none, none, none, none, some 29, some 30, some 31, some 32, some 33, some 34, some 35, some 36, some 37, none, none, none, none, none, none, none, none, none, none, none, none, none, none, none, none, none, none, none, none, none, none, none, none, none, none, none, none, none, none, none, none, none, none, none, none, none, none, none, none, none, none, none, none, none, none, none, none, none, none, none, none, none, none, none, none, none, none, none, none, none, none, none, none, none, none, none, none, none, none, none, none, none, none, none, none, none, none, none, none, none, none, none] (JS w g bm cnt t lv ps C sent spoilt x) ?cutA ?cutB
        case cutB =>
          intro f w' A hA hJ
          replace hA : A = ⟨#[_, _, _, _, f 4, _, _, _, _, _, _, _, _, _, _, _, _, _, _, _, _, _, _, _, _, _, _, _, _, f 29, f 30, f 31, f 32, f 33, f 34, f 35, f 36, f 37, _, _, _, _, _, _, _, _, _, _, _, _, _, _, _, _, _, _, _, _, _, _, _, _, _, _, _, _, _, _, _, _, _, _, _, _, _, _, _, _, _, _, _, _, _, _, _, _, _, _, _, _, _, _, _, _, _, _, _, _, _, _, _, _, _, _, _, _, _, _, _, _, _, _, _, _, _, _, _, _, _, _, _], _⟩ := hA
          subst hA
          obtain ⟨s', e4, hI1, hg1⟩ := hJ
          rw [e4]
          have HI1 := Lib.hid hI1
          have HG1 := Lib.hid hg1
          have c3 := hg1.cell (HC.out 3 _ rfl)
          clear e4 hI1 hg1
          obtain ⟨p, hp⟩ : ∃ p, p = (getK (ps.map pkOf) x.K).getD zpk := ⟨_, rfl⟩
          obtain ⟨ok, hok⟩ : ∃ q, q = (getK (ps.map pkOf) x.K).isSome := ⟨_, rfl⟩
          have HAT := Lib.hid (at_all HI1.out.net x.K p ok hp hok)
          have HP := Lib.hid (And.intro hp hok)
          clear hp hok
          go_wp2_with fail
          refine HAT.out.mono ?_
          rintro e w2 ⟨v7, rfl, hbv, hg2⟩
          obtain ⟨W3, hW3⟩ : ∃ W, W = w2.alloc (.cells #[.int .u8 (p.fr : Int), .int .u8 (p.to : Int), v7, .bool p.sp] TK) := ⟨_, rfl⟩
          obtain ⟨b7, hb7⟩ : ∃ b, b = w2.heap.size := ⟨_, rfl⟩
          have hg3 : Grow w' W3 := by rw [hW3]; exact hg2.trans (Grow.alloc _ _)
          have hbx : Blk W3 b7 TK [.int .u8 (p.fr : Int), .int .u8 (p.to : Int), v7, .bool p.sp] := by rw [hW3]; exact Blk.new _ _ _ _ rfl hb7
          have HBV := Lib.hid (hbv.grow (show Grow w2 W3 by rw [hW3]; exact Grow.alloc _ _))
          have HI3 := Lib.hid (HI1.out.grow hg3)
          have HG3 := Lib.hid (HG1.out.trans hg3)
          have HBX := Lib.hid hbx
          have d0 : W3.cell? ⟨b, off + k * 7, none⟩ = some (.int .u8 (x.k : Int)) := HG3.out.cell (HC.out 0 _ rfl)
          have e3 := hbx.cell (i := 3) rfl
          have HW3 := Lib.hid hW3
          have HB7 := Lib.hid hb7
          obtain ⟨A7, c7, rfl, -⟩ := hbv
          obtain ⟨q4, hq4⟩ : ∃ q, q = decide (x.k = 4) := ⟨_, rfl⟩
          have t5 : ((x.k : Int) == 4) = q4 := by rw [hq4, Bool.eq_iff_iff]; simp; omega
          have t6 : (x.k == 4) = q4 := by rw [hq4, Bool.eq_iff_iff]; simp
          have HQ4 := Lib.hid hq4
          clear hW3 hb7 hg3 hbx hg2 hq4 c3 t3 t4 HAT c0
          dsimp only
          repeat (first | with_reducible (refine wp_region_cut (k := 12) ?_) | go_values | go_guarded | go_step | go_upon | go_back)
          rw [← HW3.out, ← HB7.out]
          obtain ⟨z7, hz7⟩ : ∃ z, z = p.sp := ⟨_, rfl⟩
          rw [← hz7] at e3
          have HZ7 := Lib.hid hz7
          clear hz7
          repeat (first | with_reducible (refine wp_region_cut (k := 12) ?_) | go_values | go_guarded | go_step | go_upon | go_back)
          refine wp_cut [none, none, none, none, none, none, none, none, none, none, none, none, none, none, none, none, none, none, none, none, none, none, none, none, none, none, none, none, none, none, none, none, none, none, none, none, none, none, none, none, none, none, none, none, none, none, none, none, some 48, some 49, some 50, some 51, some 52, some 53, some 54, some 55, some 56, some 57, some 58, some 59, some 60, some 61, none, none, none, none, none, none, none, none, none, none, none, none, none, none, none, none, none, none, none, none, none, none, none, none, none, none, none, none, none, none, none, none, none, none, none, none, none, none, none, none, none, none, none, none, none, none, none, none, none, none, none, none, none, none, none, none, none, none, none] (AtB 61 (q4 && (ok && !z7)) W3) ?cutA2 ?cutB2
          case cutB2 =>
            intro f w' A hA hJ
            replace hA : A = ⟨#[_, _, _, _, _, _, _, _, _, _, _, _, _, _, _, _, _, _, _, _, _, _, _, _, _, _, _, _, _, _, _, _, _, _, _, _, _, _, _, _, _, _, _, _, _, _, _, _, f 48, f 49, f 50, f 51, f 52, f 53, f 54, f 55, f 56, f 57, f 58, f 59, f 60, f 61, _, _, _, _, _, _, _, _, _, _, _, _, _, _, _, _, _, _, _, _, _, _, _, _, _, _, _, _, _, _, _, _, _, _, _, _, _, _, _, _, _, _, _, _, _, _, _, _, _, _, _, _, _, _, _, _, _, _, _], _⟩ := hA
            subst hA
            obtain ⟨f61, hw3⟩ := hJ
            replace hw3 := hw3.symm
            first | subst hw3 | skip
            rw [f61]
            clear f61
            repeat (first | with_reducible (refine wp_cond_cut (k := 61) ?_) | go_values | go_guarded | go_step | go_upon | go_back)
            refine wp_cut [none, none, none, none, none, some 5, none, none, none, none, none, none, none, none, none, none, none, none, none, none, none, none, none, none, none, none, none, none, none, none, none, none, none, none, none, none, none, none, none, none, none, none, none, none, none, none, none, none, none, none, none, none, none, none, none, none, none, none, none, none, none, none, some 62, some 63, some 64, some 65, some 66, some 67, some 68, some 69, some 70, some 71, some 72, some 73, some 74, some 75, some 76, some 77, some 78, none, none, none, none, none, none, none, none, none, none, none, none, none, none, none, none, none, none, none, none, none, none, none, none, none, none, none, none, none, none, none, none, none, none, none, none, none, none, none, none, none, none] (JT w g bm cnt s' lv ps C (sentS sent x) spoilt x) ?cutA3 ?cutB3
            case cutB3 =>
              intro f w' A hA hJ
              replace hA : A = ⟨#[_, _, _, _, _, f 5, _, _, _, _, _, _, _, _, _, _, _, _, _, _, _, _, _, _, _, _, _, _, _, _, _, _, _, _, _, _, _, _, _, _, _, _, _, _, _, _, _, _, _, _, _, _, _, _, _, _, _, _, _, _, _, _, f 62, f 63, f 64, f 65, f 66, f 67, f 68, f 69, f 70, f 71, f 72, f 73, f 74, f 75, f 76, f 77, f 78, _, _, _, _, _, _, _, _, _, _, _, _, _, _, _, _, _, _, _, _, _, _, _, _, _, _, _, _, _, _, _, _, _, _, _, _, _, _, _, _, _, _], _⟩ := hA
              subst hA
              obtain ⟨t', e5, hI4, hg4⟩ := hJ
              rw [e5]
              have HI4 := Lib.hid hI4
              have HG4 := Lib.hid hg4
              clear e5 hI4 hg4
              have hcs : ∀ j u, (actRow (.slice A' n' c') x)[j]? = some u → w'.cell? ⟨b, off + k * 7 + j, none⟩ = some u := fun j u hu => HG4.out.cell (HC.out j u hu)
              have HCS := Lib.hid hcs
              have HDO := Lib.hid (do_all HI4.out.net (by have := HN.out.1; omega) x HOK.out A' n' c' (Sl.mk (HB.out.grow HG4.out) HN.out.2.2.2.2.1 HN.out.2.2.2.2.2) (by have := HFW.out.2 x (List.mem_of_getElem? HX.out); omega))
              clear hcs
              go_wp2_with (refine load_cells rfl _ _ rfl b (off + k * 7) rfl _ _ HCS.out undAc rfl (by rw [sizeAc]; rfl) ?_)
              refine HDO.out.mono ?_
              rintro e w5 ⟨⟨u5, rfl, -⟩, hnx⟩
              obtain ⟨cnt5, lv5, ps5, hc5, hI5, hps5, hk5⟩ := HI4.out.next hnx
              have HI5 := Lib.hid hI5
              have HG5 := Lib.hid (hk5.grow HG4.out rfl)
              have HON := Lib.hid (show Once (sentS sent x) (spoiltS spoilt (ps.map pkOf) x) (ps5.map pkOf) by rw [hps5]; exact HO.out.step 4 C x)
              have HC5 := Lib.hid hc5
              clear hnx hI5 hps5 hk5 hc5
              obtain ⟨l5, hl5⟩ : ∃ q, q = ps5.length := ⟨_, rfl⟩
              have HL5 := Lib.hid hl5
              have hl4 : l5 ≤ 4096 := by rw [hl5]; exact HI5.out.net.len
              clear hl5
              go_wp2_with fail
              go_loopw [9] (fun i' wx => ∃ k2 : Nat, k2 ≤ l5 ∧ i' = .int .i64 (k2 : Int) ∧ OnI wx w.heap.size g bm cnt5 s' t' lv5 ps5 (doS 4 C (ps.map pkOf) x).2.1 (sentS sent x) (spoiltS spoilt (ps.map pkOf) x) ∧ Grow w wx) (fun i' _ => l5 - (intOf i').toNat)
              case atStart => exact ⟨0, by omega, rfl, HI5.out, HG5.out⟩
              case round =>
                clear HI5 HG5 HDO HCS
                obtain ⟨k2, hk2, rfl, hI6, hg6⟩ := hrel
                have hln := len_any _ _ _ _ _ _ _ _ _ hI6.net
                rw [← HL5.out] at hln
                have HLN := Lib.hid hln
                have HI6 := Lib.hid hI6
                have HG6 := Lib.hid hg6
                clear hln hI6 hg6
                by_cases hlt2 : k2 < l5
                · obtain ⟨p6, hp6⟩ : ∃ q, ps5[k2]? = some q := ⟨_, List.getElem?_eq_getElem (by have := HL5.out; omega)⟩
                  have HAT := Lib.hid (fun w9 hg => at_yes w9 _ _ _ _ _ _ _ _ (HI6.out.net.grow hg) k2 p6 hp6)
                  have hon := HON.out (pkOf p6) (List.mem_map_of_mem (List.mem_of_getElem? hp6))
                  have HB6 := Lib.hid (HI6.out.net.ok p6 (List.mem_of_getElem? hp6)).b
                  have t7 : decide (k2 < l5) = true := decide_eq_true hlt2
                  have t8 : decide ((k2 : Int) < (l5 : Int)) = true := decide_eq_true (by omega)
                  have HK2 := Lib.hid hlt2
                  have HON6 := Lib.hid hon
                  clear hp6 hon
                  go_wp2_with fail
                  refine HLN.out.mono ?_
                  rintro e w' ⟨rfl, rfl⟩
                  go_wp2_with fail
                  refine (HAT.out _ (Grow.refl _)).mono ?_
                  rintro e w6 ⟨v6, rfl, hown6, hg6⟩
                  have hb6 : BV w6 v6 p6.b := BV.own hown6
                  obtain ⟨W7, hW7⟩ : ∃ W, W = w6.alloc (.cells #[.int .u8 (p6.fr : Int), .int .u8 (p6.to : Int), v6, .bool p6.sp] TK) := ⟨_, rfl⟩
                  obtain ⟨b8, hb8⟩ : ∃ b, b = w6.heap.size := ⟨_, rfl⟩
                  have hgA : Grow w6 W7 := by rw [hW7]; exact Grow.alloc _ _
                  have hbx : Blk W7 b8 TK [.int .u8 (p6.fr : Int), .int .u8 (p6.to : Int), v6, .bool p6.sp] := by rw [hW7]; exact Blk.new _ _ _ _ rfl hb8
                  have hbv7 := hb6.grow hgA
                  have HI7 := Lib.hid (HI6.out.grow (hg6.trans hgA))
                  have HG7 := Lib.hid (HG6.out.trans (hg6.trans hgA))
                  have e2 := hbx.cell (i := 2) rfl
                  have e3 := hbx.cell (i := 3) rfl
                  have HBX7 := Lib.hid hbx
                  have HW7 := Lib.hid hW7
                  have HB8 := Lib.hid hb8
                  obtain ⟨A8, c8, rfl, -, -, hby8, -⟩ := hbv7
                  have cs8 := conv_str (P := Try.prog) Try.underlying26 Try.underlying5 Try.underlying9 hby8 c8
                  obtain ⟨As, cs, es, -, -, hrs⟩ := own_form HI7.out.sn
                  obtain ⟨At, ct, et, -, -, hrt⟩ := own_form HI7.out.st
                  rw [Nat.mul_one] at hrs hrt
                  have HINS := Lib.hid (in_any As _ cs _ p6.b W7 hrs (by have := sentS_len sent x; have := HN.out.2.1; unfold maxLen; omega))
                  have HINT := Lib.hid (in_any At _ ct _ p6.b W7 hrt (by have := spoiltS_len spoilt (ps.map pkOf) x; have := HN.out.2.2.1; unfold maxLen; omega))
                  obtain ⟨ls, hls⟩ : ∃ q, q = (sentS sent x).length := ⟨_, rfl⟩
                  obtain ⟨lt, hlt⟩ : ∃ q, q = (spoiltS spoilt (ps.map pkOf) x).length := ⟨_, rfl⟩
                  rw [← hls] at es HINS
                  rw [← hlt] at et HINT
                  subst es
                  subst et
                  have HLS := Lib.hid hls
                  have HLT := Lib.hid hlt
                  obtain ⟨q6, hq6⟩ : ∃ q, q = p6.sp := ⟨_, rfl⟩
                  rw [← hq6] at e3
                  have HQ6 := Lib.hid hq6
                  clear hown6 hg6 hb6 hW7 hb8 hgA hbx hby8 hrs hrt hls hlt hq6 HAT HLN
                  cases q6
                  · have hin := HINS.out
                    rw [decide_eq_true (by
                      have h1 := HON6.out
                      rw [if_neg (show ¬ (pkOf p6).sp = true by rw [show (pkOf p6).sp = p6.sp from rfl, ← HQ6.out]; decide)] at h1
                      exact h1)] at hin
                    have HIN := Lib.hid hin
                    clear hin HINS HINT
                    go_wp2_with (rw [← HW7.out, ← HB8.out])
                    refine HIN.out.mono ?_
                    rintro e w' ⟨rfl, rfl⟩
                    go_wp2_with fail
                    go_roundw
                    case rel => exact ⟨k2 + 1, by have := HK2.out; omega, by go_num, HI7.out, HG7.out⟩
                    case measure => have := HK2.out; simp [intOf] <;> omega
                  · have hin := HINT.out
                    rw [decide_eq_true (by
                      have h1 := HON6.out
                      rw [if_pos (show (pkOf p6).sp = true by rw [show (pkOf p6).sp = p6.sp from rfl, ← HQ6.out])] at h1
                      exact h1)] at hin
                    have HIN := Lib.hid hin
                    clear hin HINS HINT
                    go_wp2_with (rw [← HW7.out, ← HB8.out])
                    refine HIN.out.mono ?_
                    rintro e w' ⟨rfl, rfl⟩
                    go_wp2_with fail
                    go_roundw
                    case rel => exact ⟨k2 + 1, by have := HK2.out; omega, by go_num, HI7.out, HG7.out⟩
                    case measure => have := HK2.out; simp [intOf] <;> omega
                · have t7 : decide (k2 < l5) = false := decide_eq_false hlt2
                  have t8 : decide ((k2 : Int) < (l5 : Int)) = false := decide_eq_false (by omega)
                  have hk2' : k2 = l5 := by omega
                  clear hlt2 hk2
                  go_wp2_with fail
                  refine HLN.out.mono ?_
                  rintro e w' ⟨rfl, rfl⟩
                  go_wp2_with fail
                  go_roundw
                  case rel => exact ⟨k + 1, cnt5, _, _, lv5, ps5, _, _, _, by omega, by go_num, rfl, rfl, HI6.out, by have := HC5.out; have := HN.out.1; omega, by have := sentS_len sent x; have := HN.out.2.1; omega, by have := spoiltS_len spoilt (ps.map pkOf) x; have := HN.out.2.2.1; omega, HON.out, HG6.out⟩
                  case measure => simp [intOf] <;> omega
            have spN : ∀ q, (q4 && (ok && !z7)) = q → q = false → spoiltS spoilt (ps.map pkOf) x = spoilt := fun q h1 h2 => by
              unfold spoiltS
              rcases hgk : getK (ps.map pkOf) x.K with _ | p'
              · rfl
              · dsimp only
                refine if_neg fun hh => ?_
                have h3 := HP.out.1
                have h4 := HP.out.2
                rw [hgk] at h3 h4
                have h5 : z7 = p'.sp := by rw [HZ7.out, h3]; rfl
                rw [h2, HQ4.out, h4, h5, hh.2, decide_eq_true hh.1] at h1
                cases h1
            obtain ⟨tst, htst⟩ : ∃ q, q = (q4 && (ok && !z7)) := ⟨_, rfl⟩
            rw [← htst]
            have HTST := Lib.hid htst
            have HSPN := Lib.hid spN
            clear htst spN
            cases tst
            · go_wp2_with fail
              exact CutEnd.mk rfl ⟨_, rfl, by rw [HSPN.out _ HTST.out.symm rfl]; exact HI3.out, HG3.out⟩
            · have HP1 : Hid (getK (ps.map pkOf) x.K = some p ∧ x.k = 4 ∧ p.sp = false ∧ p.b.length ≤ 1000) := Lib.hid (by
                have h1 := HTST.out.symm
                rw [Bool.and_eq_true, Bool.and_eq_true] at h1
                obtain ⟨h2, h3, h4⟩ := h1
                obtain ⟨h5, h6⟩ := HP.out
                rw [h3] at h6
                obtain ⟨p', hp'⟩ := Option.isSome_iff_exists.1 h6.symm
                rw [hp'] at h5
                have h5 : p = p' := h5
                subst h5
                refine ⟨hp', by simpa using HQ4.out.symm.trans h2, by rw [← HZ7.out]; simpa using h4, ?_⟩
                obtain ⟨q, hq, he⟩ := List.mem_map.1 (getK_mem hp')
                rw [← he]
                exact (HI3.out.net.ok q hq).len)
              have HSL : spoiltS spoilt (ps.map pkOf) x = spoilt ++ [slW.spo p.b x.at_ x.m 32] := by unfold spoiltS; rw [HP1.out.1]; dsimp only; rw [if_pos ⟨HP1.out.2.1, HP1.out.2.2.1⟩]
              obtain ⟨L, hL⟩ : ∃ L, L = slW.spo p.b x.at_ x.m 32 := ⟨_, rfl⟩
              rw [← hL] at HSL
              replace HSL := Lib.hid HSL
              have HL := Lib.hid hL
              clear hL HSPN
              go_wp2_with fail
              apply (fun (v0 v1 v2 v3 v4 v5 v6 v7 v8 v9 v10 v11 v12 v14 : Value) mono draw obl tail => wp_region_piv (I := two (Grow W3) (Grow w)) (G := Grow) (Rp := (fun _ _ _ => True)) (Φ := phi2 [veq2 v0, veq2 v1, veq2 v2, veq2 v3, veq2 v4, veq2 v5, veq2 v6, veq2 v7, veq2 v8, veq2 v9, veq2 v10, veq2 v11, veq2 v12, (from2 0 (IsSl L)), veq2 v14, (from2 0 (NewT L)), (from2 1 (IsT w.heap.size g bm cnt s' lv ps C (sentS sent x) (spoilt ++ [L]))), (from2 1 (IsT w.heap.size g bm cnt s' lv ps C (sentS sent x) (spoilt ++ [L])))]) (m := 18) (ps := [16]) (qs := [(0, 0, false), (0, 0, false), (0, 0, false), (0, 0, false), (0, 0, false), (0, 0, false), (0, 0, false), (0, 0, false), (0, 0, false), (0, 0, false), (0, 0, false), (0, 0, false), (0, 0, false), (0, 0, false), (0, 0, false), (0, 0, false), (0, 0, true), (1, 1, false)]) (dls := [[], [], [(63, 1)], [], [], [(65, 3), (66, 4)], [(67, 5)], [(68, 6)], [], [], [(70, 8), (71, 9)], [(72, 10)], [(73, 11)], [(64, 2), (69, 7), (74, 12)], [(75, 13)], [(76, 14)], [(62, 0), (77, 15)], [(78, 16)]]) (ds := [62, 63, 64, 65, 66, 67, 68, 69, 70, 71, 72, 73, 74, 75, 76, 77, 78, 5]) (by kernel_rfl) (by kernel_rfl) (by kernel_rfl) (by decide) rfl rfl draw (mono2_phi mono) (piv2_phi mono) obl tail)
              case obl =>
                refine obls2_cons (fun b hb1 hb2 f w' hI hH Q hQ => ?_) ?_
                · skip
                  obtain rfl : b = 0 := by omega
                  clear hb1 hb2
                  clear hH
                  refine wpList_view ?_; show wpList _ _ _ [_] ⟨#[_, _, _, _, _, _, _, _, _, _, _, _, _, _, _, _, _, _, _, _, _, _, _, _, _, _, _, _, _, _, _, _, _, _, _, _, _, _, _, _, _, _, _, _, _, _, _, _, _, _, _, _, _, _, _, _, _, _, _, _, _, _, _, _, _, _, _, _, _, _, _, _, _, _, _, _, _, _, _, _, _, _, _, _, _, _, _, _, _, _, _, _, _, _, _, _, _, _, _, _, _, _, _, _, _, _, _, _, _, _, _, _, _, _, _, _, _, _, _, _, _], _⟩ _
                  repeat (first | go_guarded | go_step)
                  exact hQ _ _ hI (Grow.refl _) rfl rfl
                refine obls2_cons (fun b hb1 hb2 f w' hI hH Q hQ => ?_) ?_
                · skip
                  obtain rfl : b = 0 := by omega
                  clear hb1 hb2
                  clear hH
                  refine wpList_view ?_; show wpList _ _ _ [_] ⟨#[_, _, _, _, _, _, _, _, _, _, _, _, _, _, _, _, _, _, _, _, _, _, _, _, _, _, _, _, _, _, _, _, _, _, _, _, _, _, _, _, _, _, _, _, _, _, _, _, _, _, _, _, _, _, _, _, _, _, _, _, _, _, _, _, _, _, _, _, _, _, _, _, _, _, _, _, _, _, _, _, _, _, _, _, _, _, _, _, _, _, _, _, _, _, _, _, _, _, _, _, _, _, _, _, _, _, _, _, _, _, _, _, _, _, _, _, _, _, _, _, _], _⟩ _
                  repeat (first | go_guarded | go_step)
                  exact hQ _ _ hI (Grow.refl _) rfl rfl
                refine obls2_cons (fun b hb1 hb2 f w' hI hH Q hQ => ?_) ?_
                · skip
                  obtain rfl : b = 0 := by omega
                  clear hb1 hb2
                  have h1 := hH.get 0 (63, 1) rfl
                  clear hH
                  refine wpList_view ?_; show wpList _ _ _ [_] ⟨#[_, _, _, _, _, _, _, _, _, _, _, _, _, _, _, _, _, _, _, _, _, _, _, _, _, _, _, _, _, _, _, _, _, _, _, _, _, _, _, _, _, _, _, _, _, _, _, _, _, _, _, _, _, _, _, _, _, _, _, _, _, _, _, f 1, _, _, _, _, _, _, _, _, _, _, _, _, _, _, _, _, _, _, _, _, _, _, _, _, _, _, _, _, _, _, _, _, _, _, _, _, _, _, _, _, _, _, _, _, _, _, _, _, _, _, _, _, _, _, _, _, _], _⟩ _
                  rw [show f 1 = _ from h1]
                  clear h1
                  have y0 := (HBX.out.grow hI.get0).cell (i := 2) rfl
                  repeat (first | go_guarded | go_step)
                  exact hQ _ _ hI (Grow.refl _) rfl rfl
                refine obls2_cons (fun b hb1 hb2 f w' hI hH Q hQ => ?_) ?_
                · skip
                  obtain rfl : b = 0 := by omega
                  clear hb1 hb2
                  clear hH
                  refine wpList_view ?_; show wpList _ _ _ [_] ⟨#[_, _, _, _, _, _, _, _, _, _, _, _, _, _, _, _, _, _, _, _, _, _, _, _, _, _, _, _, _, _, _, _, _, _, _, _, _, _, _, _, _, _, _, _, _, _, _, _, _, _, _, _, _, _, _, _, _, _, _, _, _, _, _, _, _, _, _, _, _, _, _, _, _, _, _, _, _, _, _, _, _, _, _, _, _, _, _, _, _, _, _, _, _, _, _, _, _, _, _, _, _, _, _, _, _, _, _, _, _, _, _, _, _, _, _, _, _, _, _, _, _], _⟩ _
                  repeat (first | go_guarded | go_step)
                  exact hQ _ _ hI (Grow.refl _) rfl rfl
                refine obls2_cons (fun b hb1 hb2 f w' hI hH Q hQ => ?_) ?_
                · skip
                  obtain rfl : b = 0 := by omega
                  clear hb1 hb2
                  clear hH
                  refine wpList_view ?_; show wpList _ _ _ [_] ⟨#[_, _, _, _, _, _, _, _, _, _, _, _, _, _, _, _, _, _, _, _, _, _, _, _, _, _, _, _, _, _, _, _, _, _, _, _, _, _, _, _, _, _, _, _, _, _, _, _, _, _, _, _, _, _, _, _, _, _, _, _, _, _, _, _, _, _, _, _, _, _, _, _, _, _, _, _, _, _, _, _, _, _, _, _, _, _, _, _, _, _, _, _, _, _, _, _, _, _, _, _, _, _, _, _, _, _, _, _, _, _, _, _, _, _, _, _, _, _, _, _, _], _⟩ _
                  repeat (first | go_guarded | go_step)
                  exact hQ _ _ hI (Grow.refl _) rfl rfl
                refine obls2_cons (fun b hb1 hb2 f w' hI hH Q hQ => ?_) ?_
                · skip
                  obtain rfl : b = 0 := by omega
                  clear hb1 hb2
                  have h3 := hH.get 0 (65, 3) rfl
                  have h4 := hH.get 1 (66, 4) rfl
                  clear hH
                  refine wpList_view ?_; show wpList _ _ _ [_] ⟨#[_, _, _, _, _, _, _, _, _, _, _, _, _, _, _, _, _, _, _, _, _, _, _, _, _, _, _, _, _, _, _, _, _, _, _, _, _, _, _, _, _, _, _, _, _, _, _, _, _, _, _, _, _, _, _, _, _, _, _, _, _, _, _, _, _, f 3, f 4, _, _, _, _, _, _, _, _, _, _, _, _, _, _, _, _, _, _, _, _, _, _, _, _, _, _, _, _, _, _, _, _, _, _, _, _, _, _, _, _, _, _, _, _, _, _, _, _, _, _, _, _, _, _], _⟩ _
                  rw [show f 3 = _ from h3]
                  rw [show f 4 = _ from h4]
                  clear h3 h4
                  repeat (first | go_guarded | go_step)
                  exact hQ _ _ hI (Grow.refl _) rfl rfl
                refine obls2_cons (fun b hb1 hb2 f w' hI hH Q hQ => ?_) ?_
                · skip
                  obtain rfl : b = 0 := by omega
                  clear hb1 hb2
                  have h5 := hH.get 0 (67, 5) rfl
                  clear hH
                  refine wpList_view ?_; show wpList _ _ _ [_] ⟨#[_, _, _, _, _, _, _, _, _, _, _, _, _, _, _, _, _, _, _, _, _, _, _, _, _, _, _, _, _, _, _, _, _, _, _, _, _, _, _, _, _, _, _, _, _, _, _, _, _, _, _, _, _, _, _, _, _, _, _, _, _, _, _, _, _, _, _, f 5, _, _, _, _, _, _, _, _, _, _, _, _, _, _, _, _, _, _, _, _, _, _, _, _, _, _, _, _, _, _, _, _, _, _, _, _, _, _, _, _, _, _, _, _, _, _, _, _, _, _, _, _, _], _⟩ _
                  rw [show f 5 = _ from h5]
                  clear h5
                  repeat (first | go_guarded | go_step)
                  exact hQ _ _ hI (Grow.refl _) rfl rfl
                refine obls2_cons (fun b hb1 hb2 f w' hI hH Q hQ => ?_) ?_
                · skip
                  obtain rfl : b = 0 := by omega
                  clear hb1 hb2
                  have h6 := hH.get 0 (68, 6) rfl
                  clear hH
                  refine wpList_view ?_; show wpList _ _ _ [_] ⟨#[_, _, _, _, _, _, _, _, _, _, _, _, _, _, _, _, _, _, _, _, _, _, _, _, _, _, _, _, _, _, _, _, _, _, _, _, _, _, _, _, _, _, _, _, _, _, _, _, _, _, _, _, _, _, _, _, _, _, _, _, _, _, _, _, _, _, _, _, f 6, _, _, _, _, _, _, _, _, _, _, _, _, _, _, _, _, _, _, _, _, _, _, _, _, _, _, _, _, _, _, _, _, _, _, _, _, _, _, _, _, _, _, _, _, _, _, _, _, _, _, _, _], _⟩ _
                  rw [show f 6 = _ from h6]
                  clear h6
                  have y1 := (HG3.out.trans hI.get0).cell (HC.out 4 _ rfl)
                  repeat (first | go_guarded | go_step)
                  exact hQ _ _ hI (Grow.refl _) rfl rfl
                refine obls2_cons (fun b hb1 hb2 f w' hI hH Q hQ => ?_) ?_
                · skip
                  obtain rfl : b = 0 := by omega
                  clear hb1 hb2
                  clear hH
                  refine wpList_view ?_; show wpList _ _ _ [_] ⟨#[_, _, _, _, _, _, _, _, _, _, _, _, _, _, _, _, _, _, _, _, _, _, _, _, _, _, _, _, _, _, _, _, _, _, _, _, _, _, _, _, _, _, _, _, _, _, _, _, _, _, _, _, _, _, _, _, _, _, _, _, _, _, _, _, _, _, _, _, _, _, _, _, _, _, _, _, _, _, _, _, _, _, _, _, _, _, _, _, _, _, _, _, _, _, _, _, _, _, _, _, _, _, _, _, _, _, _, _, _, _, _, _, _, _, _, _, _, _, _, _, _], _⟩ _
                  repeat (first | go_guarded | go_step)
                  exact hQ _ _ hI (Grow.refl _) rfl rfl
                refine obls2_cons (fun b hb1 hb2 f w' hI hH Q hQ => ?_) ?_
                · skip
                  obtain rfl : b = 0 := by omega
                  clear hb1 hb2
                  clear hH
                  refine wpList_view ?_; show wpList _ _ _ [_] ⟨#[_, _, _, _, _, _, _, _, _, _, _, _, _, _, _, _, _, _, _, _, _, _, _, _, _, _, _, _, _, _, _, _, _, _, _, _, _, _, _, _, _, _, _, _, _, _, _, _, _, _, _, _, _, _, _, _, _, _, _, _, _, _, _, _, _, _, _, _, _, _, _, _, _, _, _, _, _, _, _, _, _, _, _, _, _, _, _, _, _, _, _, _, _, _, _, _, _, _, _, _, _, _, _, _, _, _, _, _, _, _, _, _, _, _, _, _, _, _, _, _, _], _⟩ _
                  repeat (first | go_guarded | go_step)
                  exact hQ _ _ hI (Grow.refl _) rfl rfl
                refine obls2_cons (fun b hb1 hb2 f w' hI hH Q hQ => ?_) ?_
                · skip
                  obtain rfl : b = 0 := by omega
                  clear hb1 hb2
                  have h8 := hH.get 0 (70, 8) rfl
                  have h9 := hH.get 1 (71, 9) rfl
                  clear hH
                  refine wpList_view ?_; show wpList _ _ _ [_] ⟨#[_, _, _, _, _, _, _, _, _, _, _, _, _, _, _, _, _, _, _, _, _, _, _, _, _, _, _, _, _, _, _, _, _, _, _, _, _, _, _, _, _, _, _, _, _, _, _, _, _, _, _, _, _, _, _, _, _, _, _, _, _, _, _, _, _, _, _, _, _, _, f 8, f 9, _, _, _, _, _, _, _, _, _, _, _, _, _, _, _, _, _, _, _, _, _, _, _, _, _, _, _, _, _, _, _, _, _, _, _, _, _, _, _, _, _, _, _, _, _, _, _, _, _], _⟩ _
                  rw [show f 8 = _ from h8]
                  rw [show f 9 = _ from h9]
                  clear h8 h9
                  repeat (first | go_guarded | go_step)
                  exact hQ _ _ hI (Grow.refl _) rfl rfl
                refine obls2_cons (fun b hb1 hb2 f w' hI hH Q hQ => ?_) ?_
                · skip
                  obtain rfl : b = 0 := by omega
                  clear hb1 hb2
                  have h10 := hH.get 0 (72, 10) rfl
                  clear hH
                  refine wpList_view ?_; show wpList _ _ _ [_] ⟨#[_, _, _, _, _, _, _, _, _, _, _, _, _, _, _, _, _, _, _, _, _, _, _, _, _, _, _, _, _, _, _, _, _, _, _, _, _, _, _, _, _, _, _, _, _, _, _, _, _, _, _, _, _, _, _, _, _, _, _, _, _, _, _, _, _, _, _, _, _, _, _, _, f 10, _, _, _, _, _, _, _, _, _, _, _, _, _, _, _, _, _, _, _, _, _, _, _, _, _, _, _, _, _, _, _, _, _, _, _, _, _, _, _, _, _, _, _, _, _, _, _, _], _⟩ _
                  rw [show f 10 = _ from h10]
                  clear h10
                  repeat (first | go_guarded | go_step)
                  exact hQ _ _ hI (Grow.refl _) rfl rfl
                refine obls2_cons (fun b hb1 hb2 f w' hI hH Q hQ => ?_) ?_
                · skip
                  obtain rfl : b = 0 := by omega
                  clear hb1 hb2
                  have h11 := hH.get 0 (73, 11) rfl
                  clear hH
                  refine wpList_view ?_; show wpList _ _ _ [_] ⟨#[_, _, _, _, _, _, _, _, _, _, _, _, _, _, _, _, _, _, _, _, _, _, _, _, _, _, _, _, _, _, _, _, _, _, _, _, _, _, _, _, _, _, _, _, _, _, _, _, _, _, _, _, _, _, _, _, _, _, _, _, _, _, _, _, _, _, _, _, _, _, _, _, _, f 11, _, _, _, _, _, _, _, _, _, _, _, _, _, _, _, _, _, _, _, _, _, _, _, _, _, _, _, _, _, _, _, _, _, _, _, _, _, _, _, _, _, _, _, _, _, _, _], _⟩ _
                  rw [show f 11 = _ from h11]
                  clear h11
                  have y2 := (HG3.out.trans hI.get0).cell (HC.out 5 _ rfl)
                  repeat (first | go_guarded | go_step)
                  exact hQ _ _ hI (Grow.refl _) rfl rfl
                refine obls2_cons (fun b hb1 hb2 f w' hI hH Q hQ => ?_) ?_
                · skip
                  obtain rfl : b = 0 := by omega
                  clear hb1 hb2
                  have h2 := hH.get 0 (64, 2) rfl
                  have h7 := hH.get 1 (69, 7) rfl
                  have h12 := hH.get 2 (74, 12) rfl
                  clear hH
                  refine wpList_merge (idx := [none, none, none, none, none, none, none, none, none, none, none, none, none, none, none, none, none, none, none, none, none, none, none, none, none, none, none, none, none, none, none, none, none, none, none, none, none, none, none, none, none, none, none, none, none, none, none, none, none, none, none, none, none, none, none, none, none, none, none, none, none, none, none, none, some 2, none, none, none, none, some 7, none, none, none, none, some 12, none, none, none, none, none, none, none, none, none, none, none, none, none, none, none, none, none, none, none, none, none, none, none, none, none, none, none, none, none, none, none, none, none, none, none, none, none, none, none, none, none, none, none, none, none, none]) (by kernel_rfl) ?_; show wpList _ _ _ [_] ⟨#[_, _, _, _, _, _, _, _, _, _, _, _, _, _, _, _, _, _, _, _, _, _, _, _, _, _, _, _, _, _, _, _, _, _, _, _, _, _, _, _, _, _, _, _, _, _, _, _, _, _, _, _, _, _, _, _, _, _, _, _, _, _, _, _, f 2, _, _, _, _, f 7, _, _, _, _, f 12, _, _, _, _, _, _, _, _, _, _, _, _, _, _, _, _, _, _, _, _, _, _, _, _, _, _, _, _, _, _, _, _, _, _, _, _, _, _, _, _, _, _, _, _, _, _], _⟩ _
                  rw [show f 2 = _ from h2]
                  rw [show f 7 = _ from h7]
                  rw [show f 12 = _ from h12]
                  clear h2 h7 h12
                  have HIg := Lib.hid hI
                  have HSP := Lib.hid (slW.ref_spoil_any A7 p.b.length c7 p.b x.at_ x.m w' (by obtain ⟨A9, c9, e9, -, -, h9, -⟩ := HBV.out; cases e9; exact h9.grow hI.get0) (by have := HP1.out.2.2.2; omega) HOK.out.lo2 HOK.out.hi2)
                  clear hI
                  go_wp2_with (go_at_call 21; refine HSP.out.mono ?_; rintro e w1 ⟨v1, rfl, ho, hg1⟩)
                  have hsl : Sl w1 v1 L := by rw [HL.out]; exact own_sl ho
                  exact hQ _ _ (two.zero (HIg.out.get0.trans hg1)) hg1 (from2.mk hsl) rfl
                refine obls2_cons (fun b hb1 hb2 f w' hI hH Q hQ => ?_) ?_
                · skip
                  obtain rfl : b = 0 := by omega
                  clear hb1 hb2
                  have h13 := hH.get 0 (75, 13) rfl
                  clear hH
                  refine wpList_view ?_; show wpList _ _ _ [_] ⟨#[_, _, _, _, _, _, _, _, _, _, _, _, _, _, _, _, _, _, _, _, _, _, _, _, _, _, _, _, _, _, _, _, _, _, _, _, _, _, _, _, _, _, _, _, _, _, _, _, _, _, _, _, _, _, _, _, _, _, _, _, _, _, _, _, _, _, _, _, _, _, _, _, _, _, _, f 13, _, _, _, _, _, _, _, _, _, _, _, _, _, _, _, _, _, _, _, _, _, _, _, _, _, _, _, _, _, _, _, _, _, _, _, _, _, _, _, _, _, _, _, _, _], _⟩ _
                  replace h13 : (from2 0 (IsSl L)) (f 13) 0 w' := h13
                  obtain ⟨u13, hu13⟩ : ∃ u, u = f 13 := ⟨_, rfl⟩
                  rw [← hu13]
                  rw [← hu13] at h13
                  clear hu13
                  obtain ⟨A1, n1, c1, rfl, -, -, hb1⟩ := h13.get
                  have hcs := conv_str (P := Try.prog) Try.underlying26 Try.underlying5 Try.underlying9 hb1 c1
                  clear hb1 h13
                  go_wp2_with fail
                  exact hQ _ _ hI (Grow.refl _) rfl rfl
                refine obls2_cons (fun b hb1 hb2 f w' hI hH Q hQ => ?_) ?_
                · skip
                  obtain rfl : b = 0 := by omega
                  clear hb1 hb2
                  have h14 := hH.get 0 (76, 14) rfl
                  clear hH
                  refine wpList_view ?_; show wpList _ _ _ [_] ⟨#[_, _, _, _, _, _, _, _, _, _, _, _, _, _, _, _, _, _, _, _, _, _, _, _, _, _, _, _, _, _, _, _, _, _, _, _, _, _, _, _, _, _, _, _, _, _, _, _, _, _, _, _, _, _, _, _, _, _, _, _, _, _, _, _, _, _, _, _, _, _, _, _, _, _, _, _, f 14, _, _, _, _, _, _, _, _, _, _, _, _, _, _, _, _, _, _, _, _, _, _, _, _, _, _, _, _, _, _, _, _, _, _, _, _, _, _, _, _, _, _, _, _], _⟩ _
                  rw [show f 14 = _ from h14]
                  clear h14
                  have HIg := Lib.hid hI
                  clear hI
                  go_wp2_with fail
                  exact hQ _ _ (two.zero (HIg.out.get0.trans (Grow.alloc _ _))) (Grow.alloc _ _) (from2.mk ⟨w'.heap.size, rfl, Row.new w' [.string (str L)] TS (0, 0)⟩) rfl
                refine oblsP_cons (fun f w' hI hH Q hQ => ?_) ?_
                · skip
                  have h0 := hH.get 0 (62, 0) rfl
                  have h15 := hH.get 1 (77, 15) rfl
                  clear hH
                  refine wpList_view ?_; show wpList _ _ _ [_] ⟨#[_, _, _, _, _, _, _, _, _, _, _, _, _, _, _, _, _, _, _, _, _, _, _, _, _, _, _, _, _, _, _, _, _, _, _, _, _, _, _, _, _, _, _, _, _, _, _, _, _, _, _, _, _, _, _, _, _, _, _, _, _, _, f 0, _, _, _, _, _, _, _, _, _, _, _, _, _, _, f 15, _, _, _, _, _, _, _, _, _, _, _, _, _, _, _, _, _, _, _, _, _, _, _, _, _, _, _, _, _, _, _, _, _, _, _, _, _, _, _, _, _, _, _], _⟩ _
                  rw [show f 0 = _ from h0]
                  replace h15 : (from2 0 (NewT L)) (f 15) 0 w' := h15
                  obtain ⟨u15, hu15⟩ : ∃ u, u = f 15 := ⟨_, rfl⟩
                  rw [← hu15]
                  rw [← hu15] at h15
                  have HU15 : Hid (f 15 = u15) := Lib.hid hu15.symm
                  clear hu15
                  clear h0
                  obtain ⟨gs, rfl, hrow⟩ := h15.get
                  have hg := hI.get0
                  have hIb := HI3.out.grow hg
                  refine wpList_append_row rfl _ _ _ rfl w.heap.size TS _ _ 1 16 Try.underlying54 iS iSz iSs iSb rfl (by decide) t spoilt.length (strs spoilt) rfl hIb.st (some ⟨gs, 0, none⟩) 1 1 [.string (str L)] rfl hrow (by simp [Value.oneCell']) (by have := HN.out.2.2.1; have := HN.out.2.2.2.1; unfold maxLen; omega) (by have := HN.out.2.2.1; omega) hIb.net.base ?_
                  intro v1 w1 hown1 hgb1 hh1
                  exact hQ _ _ (two.one (grow_by (HG3.out.trans hg) hgb1 (own_base HI3.out.st))) trivial (from2.mk (hIb.swap.grewS (x := L) hown1 hgb1 hh1).swap) rfl
                refine obls2_cons (fun b hb1 hb2 f w' hI hH Q hQ => ?_) ?_
                · skip
                  obtain rfl : b = 1 := by omega
                  clear hb1 hb2
                  have h16 := hH.get 0 (78, 16) rfl
                  clear hH
                  refine wpList_view ?_; show wpList _ _ _ [_] ⟨#[_, _, _, _, _, _, _, _, _, _, _, _, _, _, _, _, _, _, _, _, _, _, _, _, _, _, _, _, _, _, _, _, _, _, _, _, _, _, _, _, _, _, _, _, _, _, _, _, _, _, _, _, _, _, _, _, _, _, _, _, _, _, _, _, _, _, _, _, _, _, _, _, _, _, _, _, _, _, f 16, _, _, _, _, _, _, _, _, _, _, _, _, _, _, _, _, _, _, _, _, _, _, _, _, _, _, _, _, _, _, _, _, _, _, _, _, _, _, _, _, _, _], _⟩ _
                  replace h16 : (from2 1 (IsT w.heap.size g bm cnt s' lv ps C (sentS sent x) (spoilt ++ [L]))) (f 16) 1 w' := h16
                  obtain ⟨u16, hu16⟩ : ∃ u, u = f 16 := ⟨_, rfl⟩
                  rw [← hu16]
                  rw [← hu16] at h16
                  clear hu16
                  have HIg := Lib.hid hI
                  have HH := Lib.hid h16.get
                  clear hI h16
                  go_wp2_with fail
                  exact hQ _ _ HIg.out (Grow.refl _) (from2.mk HH.out) rfl
                exact obls2_nil
              case draw =>
                exact two.zero (Grow.drew _)
              case mono => exact ⟨Mono2.veq _, Mono2.veq _, Mono2.veq _, Mono2.veq _, Mono2.veq _, Mono2.veq _, Mono2.veq _, Mono2.veq _, Mono2.veq _, Mono2.veq _, Mono2.veq _, Mono2.veq _, Mono2.veq _, Mono2.from IsSl.mono, Mono2.veq _, Mono2.from NewT.mono, Mono2.from IsT.mono, Mono2.from IsT.mono, trivial⟩
              case tail =>
                intro f w' hI hH
                have q17 : (from2 1 (IsT w.heap.size g bm cnt s' lv ps C (sentS sent x) (spoilt ++ [L]))) (f 17) 1 w' := hH.get 17 (5, 17) rfl
                clear hH
                refine wpList_merge (idx := [none, none, none, none, none, some 17, none, none, none, none, none, none, none, none, none, none, none, none, none, none, none, none, none, none, none, none, none, none, none, none, none, none, none, none, none, none, none, none, none, none, none, none, none, none, none, none, none, none, none, none, none, none, none, none, none, none, none, none, none, none, none, none, some 0, some 1, some 2, some 3, some 4, some 5, some 6, some 7, some 8, some 9, some 10, some 11, some 12, some 13, some 14, some 15, some 16, none, none, none, none, none, none, none, none, none, none, none, none, none, none, none, none, none, none, none, none, none, none, none, none, none, none, none, none, none, none, none, none, none, none, none, none, none, none, none, none, none, none]) (by kernel_rfl) ?_; show wpList _ _ _ [] ⟨#[_, _, _, _, _, f 17, _, _, _, _, _, _, _, _, _, _, _, _, _, _, _, _, _, _, _, _, _, _, _, _, _, _, _, _, _, _, _, _, _, _, _, _, _, _, _, _, _, _, _, _, _, _, _, _, _, _, _, _, _, _, _, _, f 0, f 1, f 2, f 3, f 4, f 5, f 6, f 7, f 8, f 9, f 10, f 11, f 12, f 13, f 14, f 15, f 16, _, _, _, _, _, _, _, _, _, _, _, _, _, _, _, _, _, _, _, _, _, _, _, _, _, _, _, _, _, _, _, _, _, _, _, _, _, _, _, _, _, _], _⟩ _
                generalize f 17 = x17 at *
                have hg := hI.get1
                have q := q17.get
                exact CutEnd.mk rfl ⟨_, rfl, by rw [HSL.out]; exact q, hg⟩
          cases q4
          · go_wp2_with fail
            exact CutEnd.mk rfl ⟨rfl, rfl⟩
          · cases ok
            · go_wp2_with fail
              exact CutEnd.mk rfl ⟨rfl, rfl⟩
            · cases z7
              · go_wp2_with fail
                exact CutEnd.mk rfl ⟨rfl, rfl⟩
              · go_wp2_with fail
                exact CutEnd.mk rfl ⟨rfl, rfl⟩
        cases q0
        · go_wp2_with fail
          exact CutEnd.mk rfl ⟨_, rfl, by unfold sentS; rw [if_neg (of_decide_eq_false HQ0.out.symm)]; exact HI.out, HG.out⟩
        · have c6 := HG.out.cell (HC.out 6 _ rfl)
          have cs := conv_str (P := Try.prog) Try.underlying26 Try.underlying5 Try.underlying9 (HB.out.grow HG.out) c'
          go_wp2_with (at_builtin; refine wpList_append_row rfl _ _ _ rfl w.heap.size TS _ _ 1 16 Try.underlying54 iS iSz iSs iSb rfl (by decide) s sent.length (strs sent) rfl (own_grow HI.out.sn (Grow.alloc _ _)) (some ⟨wr.heap.size, 0, none⟩) 1 1 [.string (str x.l)] rfl (Row.new _ [.string (str x.l)] TS (0, 0)) (by simp [Value.oneCell']) (by have := HN.out.2.1; unfold maxLen; omega) (by have := HN.out.2.1; omega) (Nat.le_trans HI.out.net.base (by simp)) ?_; intro v1 w1 hown1 hgb1 hh1)
          have hIa := HI.out.grow (Grow.alloc wr (.cells #[.string (str x.l)] TS))
          have hI1 := hIa.grewS (x := x.l) hown1 hgb1 hh1
          have hg1 : Grow w w1 := grow_by (HG.out.trans (Grow.alloc wr (.cells #[.string (str x.l)] TS))) hgb1 (own_base HI.out.sn)
          exact CutEnd.mk rfl ⟨_, rfl, by unfold sentS; rw [if_pos (of_decide_eq_true HQ0.out.symm)]; exact hI1, hg1⟩
      · have t1 : decide (k < n) = false := decide_eq_false hlt
        have t2 : decide ((k : Int) < (n : Int)) = false := decide_eq_false (by omega)
        have HWK := Lib.hid (works_any wr)
        have HG := Lib.hid hg
        clear hI hcn hs1 hs2 ho hg hlt hkl
        go_wp2_with fail
        refine HWK.out.mono ?_
        rintro e w2 ⟨rfl, hg2⟩
        have HG2 := Lib.hid (HG.out.trans hg2)
        clear hg2
        go_wp2_with fail
        go_ret
        exact ⟨rfl, HG2.out⟩
end Go.Proofs.Ytmekdhlcflielaa.ntL
