/- The walk of Few: a tree that is small. -/
import Derived.Test.YtacgfpjoaikfbaaTcL
namespace Go.Proofs.Ytacgfpjoaikfbaa.tc
open Go Go.RowKit Go.Par Go.Kit Vi Go.Proofs.Ytacgfpjoaikfbaa.bfW
open Go.Proofs.Ytacgfpjoaikfbaa.viW hiding i8 i8s i8z i8b info8

/-- a file that is small -/
def SmF (f : Fil) : Prop := f.name.length ≤ 200 ∧ f.also.length ≤ 40 ∧ f.lines.length ≤ 100 ∧ (∀ t ∈ f.also, t.length ≤ 200) ∧ ∀ t ∈ f.lines, t.length ≤ 200
def bi (q : Bool) : Int := if q then 1 else 0
set_option maxRecDepth 100000 in
set_option maxHeartbeats 1000000 in
theorem few_any (A : Option Addr) (n c : Nat) (fs : List Fil) (w : World) (ha : Fils w A n fs) (hn : n ≤ maxLen) :
    Calls Try.prog 6 #[.slice A n c] w fun e w' => (∃ q, e = .returned (.int .i64 (bi q)) ∧ (q = true → n ≤ 40 ∧ ∀ f ∈ fs, SmF f)) ∧ w = w' := by
  unfold maxLen at hn
  have hlen := ha.1
  by_cases h60 : 40 < n
  · have t1 : decide (40 < n) = true := decide_eq_true h60
    have t1' : decide ((40 : Int) < (n : Int)) = true := decide_eq_true (by omega)
    clear hlen h60
    go_enter Try.func6, Try.ntmps6
    go_wp2_with fail
    go_ret
    exact ⟨⟨false, rfl, fun h => by cases h⟩, rfl⟩
  · have HL := Lib.hid hlen
    have t1 : decide (40 < n) = false := decide_eq_false h60
    have t1' : decide ((40 : Int) < (n : Int)) = false := decide_eq_false (by omega)
    have HN := Lib.hid h60
    clear hlen h60
    go_enter Try.func6, Try.ntmps6
    go_wp2_with fail
    clear t1 t1'
    go_loopw [3, 4, 5] (fun i _ _ wr => ∃ k : Nat, k ≤ n ∧ i = .int .i64 (k : Int) ∧ Hid (∀ (j : Nat) (f : Fil), j < k → fs[j]? = some f → SmF f) ∧ w = wr) (fun i _ _ _ => n - (intOf i).toNat)
    case atStart => exact ⟨0, by omega, rfl, Lib.hid fun j a h => absurd h (by omega), rfl⟩
    case round =>
      obtain ⟨k, hk, rfl, HK, rfl⟩ := hrel
      by_cases hlt : k < n
      · obtain ⟨b, off, f, A1, c1, A2, c2, rfl, hx, d0, d1, d2, ⟨a1, a2, a3⟩, ⟨b1, b2, b3⟩⟩ := ha.at_ hlt
        obtain ⟨nm, hnm⟩ : ∃ nm, nm = f.name := ⟨_, rfl⟩
        obtain ⟨na, hna⟩ : ∃ na, na = f.also.length := ⟨_, rfl⟩
        obtain ⟨nl, hnl⟩ : ∃ nl, nl = f.lines.length := ⟨_, rfl⟩
        rw [← hnm] at d0
        rw [← hna] at d1 a1 a3
        rw [← hnl] at d2 b1 b3
        have hsn := str_size nm
        have HX := Lib.hid hx
        have HF := Lib.hid (And.intro hnm (And.intro hna hnl))
        have HRA := Lib.hid a3
        have HRB := Lib.hid b3
        clear hx hnm hna hnl a3 b3
        unfold maxLen at a2 b2
        by_cases p1 : 200 < nm.length
        · have r1 : decide (200 < nm.length) = true := decide_eq_true (by omega)
          have r1' : decide ((200 : Int) < (nm.length : Int)) = true := decide_eq_true (by omega)
          go_wp2_with fail
          go_ret
          exact ⟨⟨false, rfl, fun h => by cases h⟩, rfl⟩
        by_cases p2 : 40 < na
        · have r1 : decide (200 < nm.length) = false := decide_eq_false (by omega)
          have r1' : decide ((200 : Int) < (nm.length : Int)) = false := decide_eq_false (by omega)
          have r2 : decide (40 < na) = true := decide_eq_true (by omega)
          have r2' : decide ((40 : Int) < (na : Int)) = true := decide_eq_true (by omega)
          go_wp2_with fail
          go_ret
          exact ⟨⟨false, rfl, fun h => by cases h⟩, rfl⟩
        by_cases p3 : 100 < nl
        · have r1 : decide (200 < nm.length) = false := decide_eq_false (by omega)
          have r1' : decide ((200 : Int) < (nm.length : Int)) = false := decide_eq_false (by omega)
          have r2 : decide (40 < na) = false := decide_eq_false (by omega)
          have r2' : decide ((40 : Int) < (na : Int)) = false := decide_eq_false (by omega)
          have r3 : decide (100 < nl) = true := decide_eq_true (by omega)
          have r3' : decide ((100 : Int) < (nl : Int)) = true := decide_eq_true (by omega)
          go_wp2_with fail
          go_ret
          exact ⟨⟨false, rfl, fun h => by cases h⟩, rfl⟩
        · have r1 : decide (200 < nm.length) = false := decide_eq_false (by omega)
          have r1' : decide ((200 : Int) < (nm.length : Int)) = false := decide_eq_false (by omega)
          have r2 : decide (40 < na) = false := decide_eq_false (by omega)
          have r2' : decide ((40 : Int) < (na : Int)) = false := decide_eq_false (by omega)
          have r3 : decide (100 < nl) = false := decide_eq_false (by omega)
          have r3' : decide ((100 : Int) < (nl : Int)) = false := decide_eq_false (by omega)
          go_wp2_with fail
          go_loopw [4] (fun i wr => ∃ j : Nat, j ≤ na ∧ i = .int .i64 (j : Int) ∧ Hid (∀ (q : Nat) (t : List UInt8), q < j → f.also[q]? = some t → t.length ≤ 200) ∧ w = wr) (fun i _ => na - (intOf i).toNat)
          case atStart => exact ⟨0, by omega, rfl, Lib.hid fun q t h => absurd h (by omega), rfl⟩
          case round =>
            obtain ⟨j, hj, rfl, HJ, rfl⟩ := hrel
            by_cases hjl : j < na
            · obtain ⟨b', off', t, rfl, hx', hc'⟩ := strs_g HRA.out (Grow.refl _) hjl
              have hsl := str_size t
              by_cases h2 : 200 < t.length
              · have e1 : decide (200 < t.length) = true := decide_eq_true h2
                have e1' : decide ((200 : Int) < (t.length : Int)) = true := decide_eq_true (by omega)
                clear hx'
                go_wp2_with fail
                go_ret
                exact ⟨⟨false, rfl, fun h => by cases h⟩, rfl⟩
              · have e1 : decide (200 < t.length) = false := decide_eq_false h2
                have e1' : decide ((200 : Int) < (t.length : Int)) = false := decide_eq_false (by omega)
                have HJ' : Hid (∀ (q : Nat) (t : List UInt8), q < j + 1 → f.also[q]? = some t → t.length ≤ 200) := Lib.hid fun q t' hq ht' => by
                  by_cases hqj : q < j
                  · exact HJ.out q t' hqj ht'
                  · obtain rfl : q = j := by omega
                    rw [hx'] at ht'
                    obtain rfl := Option.some.inj ht'
                    omega
                clear hx'
                go_wp2_with fail
                go_roundw
                case rel => exact ⟨j + 1, by omega, by go_num, HJ', trivial⟩
                case measure => simp [intOf] <;> omega
            · obtain rfl : j = na := by omega
              have HALSO := HJ
              clear HJ hjl
              go_wp2_with fail
              go_loopw [5] (fun i wr => ∃ j : Nat, j ≤ nl ∧ i = .int .i64 (j : Int) ∧ Hid (∀ (q : Nat) (t : List UInt8), q < j → f.lines[q]? = some t → t.length ≤ 200) ∧ w = wr) (fun i _ => nl - (intOf i).toNat)
              case atStart => exact ⟨0, by omega, rfl, Lib.hid fun q t h => absurd h (by omega), rfl⟩
              case round =>
                obtain ⟨j, hj, rfl, HJ, rfl⟩ := hrel
                by_cases hjl : j < nl
                · obtain ⟨b', off', t, rfl, hx', hc'⟩ := strs_g HRB.out (Grow.refl _) hjl
                  have hsl := str_size t
                  by_cases h2 : 200 < t.length
                  · have e1 : decide (200 < t.length) = true := decide_eq_true h2
                    have e1' : decide ((200 : Int) < (t.length : Int)) = true := decide_eq_true (by omega)
                    clear hx'
                    go_wp2_with fail
                    go_ret
                    exact ⟨⟨false, rfl, fun h => by cases h⟩, rfl⟩
                  · have e1 : decide (200 < t.length) = false := decide_eq_false h2
                    have e1' : decide ((200 : Int) < (t.length : Int)) = false := decide_eq_false (by omega)
                    have HJ' : Hid (∀ (q : Nat) (t : List UInt8), q < j + 1 → f.lines[q]? = some t → t.length ≤ 200) := Lib.hid fun q t' hq ht' => by
                      by_cases hqj : q < j
                      · exact HJ.out q t' hqj ht'
                      · obtain rfl : q = j := by omega
                        rw [hx'] at ht'
                        obtain rfl := Option.some.inj ht'
                        omega
                    clear hx'
                    go_wp2_with fail
                    go_roundw
                    case rel => exact ⟨j + 1, by omega, by go_num, HJ', trivial⟩
                    case measure => simp [intOf] <;> omega
                · obtain rfl : j = nl := by omega
                  have HLINES := HJ
                  clear HJ hjl
                  go_wp2_with fail
                  have HK' : Hid (∀ (j : Nat) (f : Fil), j < k + 1 → fs[j]? = some f → SmF f) := Lib.hid fun q f' hq hf' => by
                    by_cases hqk : q < k
                    · exact HK.out q f' hqk hf'
                    · obtain rfl : q = k := by omega
                      rw [HX.out] at hf'
                      obtain rfl := Option.some.inj hf'
                      refine ⟨by rw [← HF.out.1]; omega, by rw [← HF.out.2.1]; omega, by rw [← HF.out.2.2]; omega, fun t ht => ?_, fun t ht => ?_⟩
                      · obtain ⟨i, hi, rfl⟩ := List.getElem_of_mem ht
                        exact HALSO.out i _ (by rw [HF.out.2.1]; exact hi) (List.getElem?_eq_getElem hi)
                      · obtain ⟨i, hi, rfl⟩ := List.getElem_of_mem ht
                        exact HLINES.out i _ (by rw [HF.out.2.2]; exact hi) (List.getElem?_eq_getElem hi)
                  go_roundw
                  case rel => exact ⟨k + 1, by omega, by go_num, HK', trivial⟩
                  case measure => simp [intOf] <;> omega
      · obtain rfl : k = n := by omega
        have hf : ∀ f ∈ fs, SmF f := by
          intro a hmem
          obtain ⟨j, hj, rfl⟩ := List.getElem_of_mem hmem
          exact HK.out j _ (by have := HL.out; omega) (List.getElem?_eq_getElem hj)
        have HF := Lib.hid (And.intro (show k ≤ 40 from by have := HN.out; omega) hf)
        clear hf
        go_wp2_with fail
        go_ret
        exact ⟨⟨true, rfl, fun _ => HF.out⟩, rfl⟩
end Go.Proofs.Ytacgfpjoaikfbaa.tc
