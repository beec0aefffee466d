/- The walks of the sum: what crc.More, crc.Sum and the document's More, Sum hand back. -/
import Derived.Test.YtmkbkophpmkcbaaDoorBits
import Derived.Lib.Hide
import Derived.Test.YtmkbkophpmkcbaaDoorCrc
namespace Go.Proofs.YtmkbkophpmkcbaaDoor.crcW
open Go Go.RowKit Go.Par Go.Kit

/-- The table stands in its variable. -/
def Tab (w : World) : Prop := ∀ k, k < 16 → w.cell? ⟨0, k, none⟩ = some (.int .u32 ((Crc.four k).toNat : Int))
theorem Tab.grow {w w' : World} (h : Tab w) (hg : Grow w w') : Tab w' := fun k hk => hg.cell (h k hk)

def bv (l : List UInt8) : List (BitVec 8) := l.map UInt8.toBitVec

theorem top_eq {r1 r : BitVec 32} {x : UInt8} (h : r1 = r ^^^ (x.toBitVec.setWidth 32 <<< 24)) : bits .xor .u32 (r.toNat : Int) ((x.toNat : Int) * 16777216) = (r1.toNat : Int) := by
  subst h
  refine xor32 rfl ?_
  rw [shl32, BitVec.toNat_setWidth]
  have := x.toNat_lt
  simp only [UInt8.toNat_toBitVec]
  omega
theorem nib_eq {r1 r f : BitVec 32} (h : r1 = r <<< 4 ^^^ f) : bits .xor .u32 ((r.toNat : Int) * 16 % 4294967296) (f.toNat : Int) = (r1.toNat : Int) := by
  subst h
  refine xor32 ?_ rfl
  rw [shl32]; rfl
theorem at_eq (w : World) (ht : Tab w) (r f : BitVec 32) (h : f = Crc.four (r >>> 28).toNat) : w.cell? ⟨0, r.toNat / 268435456, none⟩ = some (.int .u32 (f.toNat : Int)) := by
  subst h
  have e : (r >>> 28).toNat = r.toNat / 268435456 := by rw [BitVec.toNat_ushiftRight, Nat.shiftRight_eq_div_pow]
  rw [e]
  have := r.isLt
  exact ht _ (by omega)
theorem reg_snoc (s : BitVec 32) (l : List UInt8) (k : Nat) (x : UInt8) (hx : l[k]? = some x) : Crc.reg s (bv (l.take (k + 1))) = Crc.stepT (Crc.reg s (bv (l.take k))) x.toBitVec := by
  rw [List.take_succ_eq_append_getElem (List.getElem?_eq_some_iff.1 hx).1, Crc.stepT_eq]
  simp [bv, Crc.reg, (List.getElem?_eq_some_iff.1 hx).2]
theorem ret_int {k : IntKind} {a b : Int} (h : a = b) : Ending.returned (.int k a) = .returned (.int k b) := by rw [h]

set_option maxHeartbeats 400000 in
theorem more_any (s : BitVec 32) (A : Option Addr) (n c : Nat) (l : List UInt8) (w : World) (hr : Bytes w A n l) (hn : n ≤ maxLen) (ht : Tab w) :
    Calls Tryd.prog 16 #[.int .u32 (s.toNat : Int), .slice A n c] w fun e w' => e = .returned (.int .u32 ((Crc.more s (bv l)).toNat : Int)) ∧ w = w' := by
  have hsg : IntKind.u32.signed = false := rfl
  unfold maxLen at hn
  have hlen := hr.len
  obtain ⟨s', hs'⟩ : ∃ s', s' = ~~~ s := ⟨_, rfl⟩
  have hs : bits .xor .u32 IntKind.u32.max (s.toNat : Int) = (s'.toNat : Int) := by rw [hs']; exact not32 rfl
  obtain ⟨e', he'⟩ : ∃ e', e' = ~~~ Crc.reg s' (bv l) := ⟨_, rfl⟩
  have hend : Crc.more s (bv l) = e' := by rw [he', hs']; rfl
  rw [hend]
  have HE : bits .xor .u32 IntKind.u32.max ((Crc.reg s' (bv l)).toNat : Int) = (e'.toNat : Int) := by rw [he']; exact not32 rfl
  have HE := Lib.hid HE
  clear hs' hend he'
  go_enter Tryd.func16, Tryd.ntmps16
  go_wp2
  go_loop [5, 7, 12] (fun r _ i => ∃ k : Nat, k ≤ n ∧ i = .int .i64 k ∧ r = .int .u32 ((Crc.reg s' (bv (l.take k))).toNat : Int)) (fun _ _ i => n - (intOf i).toNat)
  case atStart => exact ⟨0, Nat.zero_le _, rfl, rfl⟩
  case round =>
    obtain ⟨k, hk, rfl, rfl⟩ := hrel
    by_cases hlt : k < n
    · obtain ⟨b, off, x, rfl, hx, hcell⟩ := hr.at_ hlt
      have hsn := reg_snoc s' l k x hx
      generalize Crc.reg s' (bv (l.take k)) = r at hsn ⊢
      obtain ⟨r1, h1⟩ : ∃ r1, r1 = r ^^^ (x.toBitVec.setWidth 32 <<< 24) := ⟨_, rfl⟩
      obtain ⟨f1, hf1⟩ : ∃ f, f = Crc.four (r1 >>> 28).toNat := ⟨_, rfl⟩
      obtain ⟨r2, h2⟩ : ∃ r, r = r1 <<< 4 ^^^ f1 := ⟨_, rfl⟩
      obtain ⟨f2, hf2⟩ : ∃ f, f = Crc.four (r2 >>> 28).toNat := ⟨_, rfl⟩
      obtain ⟨r3, h3⟩ : ∃ r, r = r2 <<< 4 ^^^ f2 := ⟨_, rfl⟩
      have he : Crc.stepT r x.toBitVec = r3 := by simp only [Crc.stepT, Crc.nib, h1, h2, h3, hf1, hf2]
      rw [he] at hsn
      have HS := Lib.hid hsn
      have e1 := top_eq h1
      have c1 := at_eq w ht r1 f1 hf1
      have e2 := nib_eq h2
      have c2 := at_eq w ht r2 f2 hf2
      have e3 := nib_eq h3
      have b1 := r1.isLt
      have b2 := r2.isLt
      have hxlt := x.toNat_lt
      clear h1 h2 h3 hf1 hf2 he hsn hs hsg hlen
      go_wp2
      go_round
      case rel => exact ⟨k + 1, by omega, by go_num, by rw [HS.out]⟩
      case measure => simp [intOf]; omega
    · have hk' : l.take k = l := List.take_of_length_le (by omega)
      rw [hk']
      have h2 := HE.out
      clear hk' hs
      go_wp2
      go_ret
      exact ⟨rfl, rfl⟩

/-! the document's text, bit by bit -/
theorem bstep_eq (r : BitVec 32) (b : Bool) : Crc.bstep r b = r <<< 1 ^^^ (if (r.msb ^^ b) = true then Crc.poly else 0#32) := by
  unfold Crc.bstep Crc.step1
  rw [BitVec.msb_xor, BitVec.shiftLeft_xor_distrib]
  cases b
  · simp [Crc.top]
  · have h1 : (Crc.top true) <<< 1 = 0#32 := by decide
    have h2 : (Crc.top true).msb = true := by decide
    rw [h1, h2, BitVec.xor_zero]
theorem msb32 (r : BitVec 32) : r.msb = decide (2147483648 ≤ r.toNat) := by rw [BitVec.msb_eq_decide]
theorem bits_step (x : BitVec 8) (j : Nat) (hj : j < 8) : (Crc.bits8 x)[j]? = some (decide (128 ≤ (x <<< j).toNat)) := by
  have h : ∀ (x : BitVec 8) (j : Fin 8), (Crc.bits8 x)[j.val]? = some (decide (128 ≤ (x <<< j.val).toNat)) := by decide
  exact h x ⟨j, hj⟩
theorem shl8 (x : BitVec 8) (k : Nat) : ((x <<< k).toNat : Int) = (x.toNat : Int) * 2 ^ k % 256 := by
  rw [BitVec.toNat_shiftLeft, Nat.shiftLeft_eq, Int.natCast_emod, Int.natCast_mul, Int.natCast_pow]; rfl
/-- one bit, as the walk has it -/
theorem bit_rel {r0 r r' : BitVec 32} {x : BitVec 8} {j : Nat} (hj : j < 8) (hr : r = ((Crc.bits8 x).take j).foldl Crc.bstep r0)
    (h : r' = r <<< 1 ^^^ (if (decide ((2147483648 : Int) ≤ (r.toNat : Int)) ^^ decide ((128 : Int) ≤ ((x <<< j).toNat : Int))) = true then Crc.poly else 0#32)) : r' = ((Crc.bits8 x).take (j + 1)).foldl Crc.bstep r0 := by
  have hb := bits_step x j hj
  rw [List.take_succ_eq_append_getElem (List.getElem?_eq_some_iff.1 hb).1, List.foldl_append, ← hr, (List.getElem?_eq_some_iff.1 hb).2]
  simp only [List.foldl_cons, List.foldl_nil]
  have e1 : decide ((2147483648 : Int) ≤ (r.toNat : Int)) = decide (2147483648 ≤ r.toNat) := decide_eq_decide.2 (by omega)
  have e2 : decide ((128 : Int) ≤ ((x <<< j).toNat : Int)) = decide (128 ≤ (x <<< j).toNat) := decide_eq_decide.2 (by omega)
  rw [bstep_eq, msb32, h, e1, e2]
theorem reg_snoc' (s : BitVec 32) (l : List UInt8) (k : Nat) (x : UInt8) (hx : l[k]? = some x) : Crc.reg s (bv (l.take (k + 1))) = Crc.step8 (Crc.reg s (bv (l.take k))) x.toBitVec := by
  rw [reg_snoc s l k x hx, Crc.stepT_eq]

set_option maxHeartbeats 400000 in
theorem ref_more_any (s : BitVec 32) (A : Option Addr) (n c : Nat) (l : List UInt8) (w : World) (hr : Bytes w A n l) (hn : n ≤ maxLen) :
    Calls Tryd.prog 17 #[.int .u32 (s.toNat : Int), .slice A n c] w fun e w' => e = .returned (.int .u32 ((Crc.more s (bv l)).toNat : Int)) ∧ w = w' := by
  unfold maxLen at hn
  have hlen := hr.len
  have hslt := s.isLt
  obtain ⟨s', hs'⟩ : ∃ s', s' = ~~~ s := ⟨_, rfl⟩
  have hs : (4294967295 : Int) - (s.toNat : Int) = (s'.toNat : Int) := by rw [hs', BitVec.toNat_not]; omega
  obtain ⟨e', he'⟩ : ∃ e', e' = ~~~ Crc.reg s' (bv l) := ⟨_, rfl⟩
  have hend : Crc.more s (bv l) = e' := by rw [he', hs']; rfl
  rw [hend]
  have HE : (4294967295 : Int) - ((Crc.reg s' (bv l)).toNat : Int) = (e'.toNat : Int) := by
    have := (Crc.reg s' (bv l)).isLt
    rw [he', BitVec.toNat_not]; omega
  have HE := Lib.hid HE
  clear hs' hend he'
  go_enter Tryd.func17, Tryd.ntmps17
  go_wp2
  go_loop [5, 6] (fun r i => ∃ k : Nat, k ≤ n ∧ i = .int .i64 k ∧ r = .int .u32 ((Crc.reg s' (bv (l.take k))).toNat : Int)) (fun _ i => n - (intOf i).toNat)
  case atStart => exact ⟨0, Nat.zero_le _, rfl, rfl⟩
  case round =>
    obtain ⟨k, hk, rfl, rfl⟩ := hrel
    by_cases hlt : k < n
    · obtain ⟨b, off, x, rfl, hx, hcell⟩ := hr.at_ hlt
      have hsn := reg_snoc' s' l k x hx
      generalize Crc.reg s' (bv (l.take k)) = r at hsn ⊢
      have HS := Lib.hid hsn
      have hxlt := x.toNat_lt
      clear hs hsn hlen
      go_wp2
      go_loop [5, 7, 8] (fun q y j => ∃ m : Nat, m ≤ 8 ∧ j = .int .i64 m ∧ y = .int .u8 ((x.toBitVec <<< m).toNat : Int) ∧ q = .int .u32 ((((Crc.bits8 x.toBitVec).take m).foldl Crc.bstep r).toNat : Int)) (fun _ _ j => 8 - (intOf j).toNat)
      case atStart => exact ⟨0, by omega, rfl, by simp, rfl⟩
      case round =>
        obtain ⟨m, hm, rfl, rfl, rfl⟩ := hrel
        by_cases hm8 : m < 8
        · have hbr := fun r' => bit_rel (r0 := r) (r' := r') (x := x.toBitVec) hm8 rfl
          have hsh := shl8 (x.toBitVec <<< m) 1
          rw [← BitVec.shiftLeft_add] at hsh
          generalize ((Crc.bits8 x.toBitVec).take m).foldl Crc.bstep r = q at hbr ⊢
          generalize (x.toBitVec <<< m) = y at hbr hsh ⊢
          have hq := q.isLt
          have hy := y.isLt
          have hb2 := hbr _ rfl
          cases i1 : decide ((2147483648 : Int) ≤ (q.toNat : Int)) <;> cases i2 : decide ((128 : Int) ≤ (y.toNat : Int))
          all_goals
            simp only [i1, i2, Bool.xor_true, Bool.xor_false, Bool.not_true, Bool.not_false, Bool.false_eq_true, if_true, if_false, BitVec.xor_zero] at hb2
            have HB := Lib.hid hb2
            have HY := Lib.hid hsh
            have hx1 : bits .xor .u32 ((q.toNat : Int) * 2 % 4294967296) 79764919 = ((q <<< 1 ^^^ Crc.poly).toNat : Int) := xor32 (shl32 q 1).symm rfl
            have HX1 := Lib.hid hx1
            have HQ := Lib.hid (shl32 q 1)
            clear hb2 hsh hbr hx1
            go_wp2
            go_round
            case measure => simp [intOf]; omega
            case rel =>
              refine ⟨m + 1, by omega, by go_num, congrArg _ (by have := HY.out; omega), ?_⟩
              rw [← HB.out]
              first | rw [HX1.out] | exact congrArg _ (by have := HQ.out; omega)
        · obtain rfl : m = 8 := by omega
          have h8 : (Crc.bits8 x.toBitVec).take 8 = Crc.bits8 x.toBitVec := rfl
          rw [h8]
          go_wp2
          go_round
          case rel => exact ⟨k + 1, by omega, by go_num, by rw [HS.out]; rfl⟩
          case measure => simp [intOf]; omega
    · have hk' : l.take k = l := List.take_of_length_le (by omega)
      rw [hk']
      have h2 := HE.out
      have hlt2 := (Crc.reg s' (bv l)).isLt
      clear hk' hs
      go_wp2
      go_ret
      exact ⟨rfl, rfl⟩

/-- The sum of parts. -/
def sum (ls : List (List UInt8)) : BitVec 32 := ls.foldl (fun s l => Crc.more s (bv l)) 0#32
theorem sum_snoc (ls : List (List UInt8)) (k : Nat) (l : List UInt8) (h : ls[k]? = some l) : sum (ls.take (k + 1)) = Crc.more (sum (ls.take k)) (bv l) := by
  rw [List.take_succ_eq_append_getElem (List.getElem?_eq_some_iff.1 h).1, (List.getElem?_eq_some_iff.1 h).2]
  simp [sum]

set_option maxHeartbeats 400000 in
theorem sum_any (A : Option Addr) (n c : Nat) (ls : List (List UInt8)) (w : World) (hr : Parts w A n ls) (hn : n ≤ maxLen) (ht : Tab w) :
    Calls Tryd.prog 18 #[.slice A n c] w fun e w' => e = .returned (.int .u32 ((sum ls).toNat : Int)) ∧ w = w' := by
  unfold maxLen at hn
  have hlen := hr.len
  have HL := Lib.hid hlen
  clear hlen
  go_enter Tryd.func18, Tryd.ntmps18
  go_wp2
  go_loop [3, 5, 8] (fun r _ i => ∃ k : Nat, k ≤ n ∧ i = .int .i64 k ∧ r = .int .u32 ((sum (ls.take k)).toNat : Int)) (fun _ _ i => n - (intOf i).toNat)
  case atStart => exact ⟨0, Nat.zero_le _, rfl, rfl⟩
  case round =>
    obtain ⟨k, hk, rfl, rfl⟩ := hrel
    by_cases hlt : k < n
    · obtain ⟨b, off, A', n', c', l, rfl, hx, hcell, h1, h2, h3⟩ := hr.at_ hlt
      have HS := Lib.hid (sum_snoc ls k l hx)
      clear hx
      generalize sum (ls.take k) = s at HS ⊢
      go_wp2_with (go_at_call 16; refine (more_any s A' n' c' l _ h3 (by omega) ht).mono ?_; rintro e w' ⟨rfl, rfl⟩)
      go_round
      case rel => exact ⟨k + 1, by omega, by go_num, by rw [HS.out]⟩
      case measure => simp [intOf]; omega
    · have hk' : ls.take k = ls := List.take_of_length_le (by have := HL.out; omega)
      rw [hk']
      clear hk'
      go_wp2
      go_ret
      exact ⟨rfl, rfl⟩

set_option maxHeartbeats 400000 in
theorem ref_sum_any (A : Option Addr) (n c : Nat) (ls : List (List UInt8)) (w : World) (hr : Parts w A n ls) (hn : n ≤ maxLen) :
    Calls Tryd.prog 19 #[.slice A n c] w fun e w' => e = .returned (.int .u32 ((sum ls).toNat : Int)) ∧ w = w' := by
  unfold maxLen at hn
  have hlen := hr.len
  have HL := Lib.hid hlen
  clear hlen
  go_enter Tryd.func19, Tryd.ntmps19
  go_wp2
  go_loop [3, 4] (fun r i => ∃ k : Nat, k ≤ n ∧ i = .int .i64 k ∧ r = .int .u32 ((sum (ls.take k)).toNat : Int)) (fun _ i => n - (intOf i).toNat)
  case atStart => exact ⟨0, Nat.zero_le _, rfl, rfl⟩
  case round =>
    obtain ⟨k, hk, rfl, rfl⟩ := hrel
    by_cases hlt : k < n
    · obtain ⟨b, off, A', n', c', l, rfl, hx, hcell, h1, h2, h3⟩ := hr.at_ hlt
      have HS := Lib.hid (sum_snoc ls k l hx)
      clear hx
      generalize sum (ls.take k) = s at HS ⊢
      go_wp2_with (go_at_call 17; refine (ref_more_any s A' n' c' l _ h3 (by omega)).mono ?_; rintro e w' ⟨rfl, rfl⟩)
      go_round
      case rel => exact ⟨k + 1, by omega, by go_num, by rw [HS.out]⟩
      case measure => simp [intOf]; omega
    · have hk' : ls.take k = ls := List.take_of_length_le (by have := HL.out; omega)
      rw [hk']
      clear hk'
      go_wp2
      go_ret
      exact ⟨rfl, rfl⟩
theorem sum_as {S : BitVec 32} {ls : List (List UInt8)} (h : sum ls = S) (A : Option Addr) (n c : Nat) (w : World) (hr : Parts w A n ls) (hn : n ≤ maxLen) (ht : Tab w) :
    Calls Tryd.prog 18 #[.slice A n c] w fun e w' => e = .returned (.int .u32 (S.toNat : Int)) ∧ w = w' := by subst h; exact sum_any A n c ls w hr hn ht
theorem more_as {s S : BitVec 32} {l : List UInt8} (h : Crc.more s (bv l) = S) (A : Option Addr) (n c : Nat) (w : World) (hr : Bytes w A n l) (hn : n ≤ maxLen) (ht : Tab w) :
    Calls Tryd.prog 16 #[.int .u32 (s.toNat : Int), .slice A n c] w fun e w' => e = .returned (.int .u32 (S.toNat : Int)) ∧ w = w' := by subst h; exact more_any s A n c l w hr hn ht
theorem sum_one (l : List UInt8) : sum [l] = Crc.more 0#32 (bv l) := rfl
theorem sum_two (a b : List UInt8) : sum [a, b] = Crc.more 0#32 (bv (a ++ b)) := by
  show Crc.more (Crc.more 0#32 (bv a)) (bv b) = _
  rw [← Crc.more_append]; simp [bv]
theorem ref_sum_as {S : BitVec 32} {ls : List (List UInt8)} (h : sum ls = S) (A : Option Addr) (n c : Nat) (w : World) (hr : Parts w A n ls) (hn : n ≤ maxLen) :
    Calls Tryd.prog 19 #[.slice A n c] w fun e w' => e = .returned (.int .u32 (S.toNat : Int)) ∧ w = w' := by subst h; exact ref_sum_any A n c ls w hr hn
theorem ref_more_as {s S : BitVec 32} {l : List UInt8} (h : Crc.more s (bv l) = S) (A : Option Addr) (n c : Nat) (w : World) (hr : Bytes w A n l) (hn : n ≤ maxLen) :
    Calls Tryd.prog 17 #[.int .u32 (s.toNat : Int), .slice A n c] w fun e w' => e = .returned (.int .u32 (S.toNat : Int)) ∧ w = w' := by subst h; exact ref_more_any s A n c l w hr hn
end Go.Proofs.YtmkbkophpmkcbaaDoor.crcW
