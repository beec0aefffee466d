/- slices.Clone of bytes. -/
import Derived.Test.YthclgmpjmhacdaaMut
import Derived.Test.YthclgmpjmhacdaaRows
import Derived.Lib.Hide
import Derived.Lib.BufferMore
import Derived.Lib.SlBytesConst
import Derived.WalkLawsBesides
namespace Go.Proofs.Ythclgmpjmhacdaa.cl
open Go Go.RowKit Go.Par Go.Kit

theorem info8 : (Try.prog.info? 5).isSome = true := by kernel_rfl
theorem i8 : Try.prog.info? 5 = some ((Try.prog.info? 5).get info8) := by simp
theorem i8s : ((Try.prog.info? 5).get info8).size = 1 := by kernel_rfl
theorem i8z : ((Try.prog.info? 5).get info8).zero = some (.int .u8 0) := by kernel_rfl
theorem i8b : ((Try.prog.info? 5).get info8).bytes = 1 := by kernel_rfl

set_option maxHeartbeats 400000 in
theorem clone_any (A : Option Addr) (n c : Nat) (l : List UInt8) (w : World) (hb : Bytes w A n l) (hn : n ≤ 140737488355328) :
    Calls Try.prog 62 #[.slice A n c] w fun e w' => ∃ v, e = .returned v ∧ w'.ownsRow w.heap.size 5 1 v l.length (u8s l) ∧ Grow w w' := by
  have hlen := hb.len
  cases A with
  | none =>
    have hn0 : n = 0 := by
      rcases Nat.eq_zero_or_pos n with h | h
      · exact h
      · obtain ⟨_, _, e, _⟩ := hb.2 h
        cases e
    subst hn0
    have : l = [] := List.eq_nil_of_length_eq_zero hlen
    subst this
    have hnil := fun W => Lib.run_eql_slice_nil_nil (P := Try.prog) W 0 c Try.underlying22
    clear hlen
    go_enter Try.func62, Try.ntmps62
    go_wp2_with fail
    go_ret
    exact ⟨_, rfl, World.ownsRow_nil _ _ _ _, Grow.refl _⟩
  | some a =>
    have hnil := fun W => Lib.run_eql_slice_some_nil (P := Try.prog) W a n c Try.underlying22
    have HL := Lib.hid hlen
    clear hlen
    go_enter Try.func62, Try.ntmps62
    go_wp2_with (at_builtin; refine append_bytes Try.underlying22 i8 i8z i8s i8b rfl _ _ rfl w.heap.size _ 0 [] (own_zero w _ rfl (Nat.le_refl _)) rfl (some a) n c l (hb.grow (Grow.alloc w _)) rfl ?_ ?_ ?_; omega; (simp); intro v1 w1 hown1 hgb1 hh1)
    go_ret
    rw [Nat.zero_add, List.nil_append] at hown1
    exact ⟨v1, rfl, by rw [HL.out]; exact hown1, grow_by (Grow.alloc w _) hgb1 (own_base (own_zero w 5 rfl (Nat.le_refl _)))⟩

end Go.Proofs.Ythclgmpjmhacdaa.cl
