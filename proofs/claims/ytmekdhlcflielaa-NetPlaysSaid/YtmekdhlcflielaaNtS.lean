/- The walk of the law's same: a packet, and the document's. -/
import Derived.Test.YtmekdhlcflielaaNtL
namespace Go.Proofs.Ytmekdhlcflielaa.ntL
open Go Go.RowKit Go.Par Go.Kit Go.Proofs.Ytmekdhlcflielaa.mpA Go.Proofs.Ytmekdhlcflielaa.cl Go.Proofs.Ytmekdhlcflielaa.nt

abbrev TQ : TypeId := 48
theorem undQ : Try.prog.underlying TQ = some (.struct (Try.prog.fieldsOf TQ)) := by kernel_rfl
theorem sizeQ : (Try.prog.info? TQ).map (·.size) = some 4 := by kernel_rfl
/-- the document's packet -/
def qv (fr to : Nat) (l : List UInt8) (sp : Bool) : Value := .agg #[.int .u8 (fr : Int), .int .u8 (to : Int), .string (str l), .bool sp]
set_option maxRecDepth 100000 in
set_option maxHeartbeats 4000000 in
theorem same_any (w : World) (fr to fr' to' : Nat) (v : Value) (l l' : List UInt8) (sp sp' : Bool) (hv : Sl w v l) :
    Calls Try.prog 18 #[.agg #[.int .u8 (fr : Int), .int .u8 (to : Int), v, .bool sp], qv fr' to' l' sp'] w fun e w' => e = .returned (.bool (decide (fr = fr' ∧ to = to' ∧ l = l' ∧ sp = sp'))) ∧ Grow w w' := by
  obtain ⟨A, n, c, rfl, -, -, hb⟩ := hv
  obtain ⟨r, hr⟩ : ∃ r, r = decide (fr = fr' ∧ to = to' ∧ l = l' ∧ sp = sp') := ⟨_, rfl⟩
  rw [← hr]
  have HR := Lib.hid hr
  unfold qv
  have hk := conv_str (P := Try.prog) Try.underlying26 Try.underlying5 Try.underlying9 (hb.grow ((Grow.alloc w (.cells #[.int .u8 (fr : Int), .int .u8 (to : Int), .slice A n c, .bool sp] TK)).trans (Grow.alloc _ (.cells #[.int .u8 (fr' : Int), .int .u8 (to' : Int), .string (str l'), .bool sp'] TQ)))) c
  have el : ∀ l, (str l).toList = l := fun l => ByteArray.toList_mk l
  have HG := Lib.hid ((Grow.alloc w (.cells #[.int .u8 (fr : Int), .int .u8 (to : Int), .slice A n c, .bool sp] TK)).trans (Grow.alloc _ (.cells #[.int .u8 (fr' : Int), .int .u8 (to' : Int), .string (str l'), .bool sp'] TQ)))
  by_cases h1 : fr = fr'
  · have t1 : ((fr : Int) == (fr' : Int)) = true := beq_iff_eq.2 (by omega)
    have t1' : (fr == fr') = true := beq_iff_eq.2 h1
    by_cases h2 : to = to'
    · have t2 : ((to : Int) == (to' : Int)) = true := beq_iff_eq.2 (by omega)
      have t2' : (to == to') = true := beq_iff_eq.2 h2
      by_cases h3 : l = l'
      · have t3 : ((str l).toList == (str l').toList) = true := by rw [el, el]; exact beq_iff_eq.2 h3
        obtain ⟨q, hq⟩ : ∃ q, q = (sp == sp') := ⟨_, rfl⟩
        have t4 := hq.symm
        have HE : Hid (r = q) := Lib.hid (by rw [HR.out, hq, Bool.eq_iff_iff]; simp [h1, h2, h3])
        clear hr hq h1 h2 h3 el hb
        go_enter Try.func18, Try.ntmps18
        go_wp2_with fail
        go_ret
        exact ⟨by rw [HE.out]; rfl, HG.out⟩
      · have t3 : ((str l).toList == (str l').toList) = false := by rw [el, el]; exact beq_false_of_ne h3
        have HE : Hid (r = false) := Lib.hid (by rw [HR.out]; exact decide_eq_false fun h => h3 h.2.2.1)
        clear hr h1 h2 h3 el hb
        go_enter Try.func18, Try.ntmps18
        go_wp2_with fail
        go_ret
        exact ⟨by rw [HE.out]; rfl, HG.out⟩
    · have t2 : ((to : Int) == (to' : Int)) = false := beq_false_of_ne (by omega)
      have t2' : (to == to') = false := beq_false_of_ne h2
      have HE : Hid (r = false) := Lib.hid (by rw [HR.out]; exact decide_eq_false fun h => h2 h.2.1)
      clear hr h1 h2 el hb hk
      go_enter Try.func18, Try.ntmps18
      go_wp2_with fail
      go_ret
      exact ⟨by rw [HE.out]; rfl, HG.out⟩
  · have t1 : ((fr : Int) == (fr' : Int)) = false := beq_false_of_ne (by omega)
    have t1' : (fr == fr') = false := beq_false_of_ne h1
    have HE : Hid (r = false) := Lib.hid (by rw [HR.out]; exact decide_eq_false fun h => h1 h.1)
    clear hr h1 el hb hk
    go_enter Try.func18, Try.ntmps18
    go_wp2_with fail
    go_ret
    exact ⟨by rw [HE.out]; rfl, HG.out⟩
end Go.Proofs.Ytmekdhlcflielaa.ntL
