/- The walks of the document's steps: in, Of. -/
import Derived.Test.YtbcifodifadoiaaReO
import Derived.Test.YtbcifodifadoiaaPiv
namespace Go.Proofs.Ytbcifodifadoiaa.reW
open Go Go.RowKit Go.Par Go.Kit Go.Proofs.Ytbcifodifadoiaa.Mk Go.Proofs.Ytbcifodifadoiaa.mkW Go.Proofs.Ytbcifodifadoiaa.Re Go.Proofs.Ytbcifodifadoiaa.mkR Go.Proofs.Ytbcifodifadoiaa.mkL

abbrev TX8 : TypeId := 28
theorem und8 : Try.prog.underlying TX8 = some (.struct (Try.prog.fieldsOf TX8)) := by kernel_rfl
theorem size8 : (Try.prog.info? TX8).map (·.size) = some 2 := by kernel_rfl
set_option maxHeartbeats 400000 in
theorem in_any (w : World) (A : Option Addr) (n c : Nat) (L : List Nat) (hn : n = L.length) (hc : n ≤ c) (hm : c ≤ maxLen) (hrow : Row w A L.length (L.map nv)) (i : Int) :
    Calls Try.prog 51 #[.slice A n c, .int .i64 i] w fun e w' => e = .returned (.bool (hasB L i)) ∧ w = w' := by
  unfold maxLen at hm
  obtain ⟨r, hr⟩ : ∃ r, r = hasB L i := ⟨_, rfl⟩
  rw [← hr]
  have HR := Lib.hid hr
  have HN := Lib.hid hn
  have HROW := Lib.hid hrow
  clear hr hn hrow
  go_enter Try.func51, Try.ntmps51
  go_wp2_with fail
  go_loop [5] (fun i' => ∃ k : Nat, k ≤ n ∧ i' = .int .i64 (k : Int) ∧ Hid (∀ (j x : Nat), j < k → L[j]? = some x → (x : Int) ≠ i)) (fun i => n - (intOf i).toNat)
  case atStart => exact ⟨0, by omega, rfl, Lib.hid fun j x h => absurd h (by omega)⟩
  case round =>
    obtain ⟨k, hk, rfl, HI⟩ := hrel
    by_cases hlt : k < n
    · have hrow := HROW.out
      obtain ⟨b, off, x, rfl, hx, hcell⟩ := Row.nat_at hrow (k := k) (by have := HN.out; omega)
      by_cases hxi : (x : Int) = i
      · have hr1 : r = true := by rw [HR.out]; exact hasB_yes hx hxi
        have HR1 := Lib.hid hr1
        have t1 : ((x : Int) == i) = true := beq_iff_eq.2 hxi
        clear hr1 hxi hx hrow HI
        go_wp2_with fail
        go_ret
        exact ⟨by rw [HR1.out]; rfl, rfl⟩
      · have t1 : ((x : Int) == i) = false := beq_false_of_ne hxi
        have HI2 : Hid (∀ (j x : Nat), j < k + 1 → L[j]? = some x → (x : Int) ≠ i) := Lib.hid fun j y hj hy => by
          by_cases hjk : j < k
          · exact HI.out j y hjk hy
          · obtain rfl : j = k := by omega
            rw [hx] at hy
            obtain rfl := Option.some.inj hy
            exact hxi
        clear hxi hx hrow HI
        go_wp2_with fail
        go_round
        case rel => exact ⟨k + 1, by omega, by go_num, HI2⟩
        case measure => simp [intOf] <;> omega
    · obtain rfl : k = n := by omega
      have hr1 : r = false := by rw [HR.out]; exact hasB_no fun j x hx => HI.out j x (by have := (List.getElem?_eq_some_iff.1 hx).1; have := HN.out; omega) hx
      have HR1 := Lib.hid hr1
      clear hr1
      go_wp2_with fail
      go_ret
      exact ⟨by rw [HR1.out]; rfl, rfl⟩
end Go.Proofs.Ytbcifodifadoiaa.reW
