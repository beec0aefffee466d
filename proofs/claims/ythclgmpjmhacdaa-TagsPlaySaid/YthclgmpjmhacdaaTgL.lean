/- Tags: few; the chapter's example. -/
import Derived.Test.YthclgmpjmhacdaaTgC
import Derived.Test.YthclgmpjmhacdaaTgX
import Derived.Test.YthclgmpjmhacdaaTgW
import Derived.Test.YthclgmpjmhacdaaTgD
namespace Go.Proofs.Ythclgmpjmhacdaa.tg
open Go Go.RowKit Go.Par Go.Kit

def SmA (a : Ac) : Prop := a.s.length ≤ 60
set_option maxRecDepth 100000 in
set_option maxHeartbeats 1000000 in
theorem few_any (A : Option Addr) (n c : Nat) (l : List Ac) (w : World) (ha : Acts w A n l) (hn : n ≤ maxLen) :
    Calls Try.prog 11 #[.slice A n c] w fun e w' => (∃ q, e = .returned (.bool q) ∧ (q = true → n ≤ 60 ∧ ∀ a ∈ l, SmA a)) ∧ w = w' := by
  unfold maxLen at hn
  have hlen := ha.1
  by_cases h60 : 60 < n
  · have t1 : decide (60 < n) = true := decide_eq_true h60
    have t1' : decide ((60 : Int) < (n : Int)) = true := decide_eq_true (by omega)
    clear hlen h60
    go_enter Try.func11, Try.ntmps11
    go_wp2_with fail
    go_ret
    exact ⟨⟨false, rfl, fun h => by cases h⟩, rfl⟩
  · have HL := Lib.hid hlen
    have t1 : decide (60 < n) = false := decide_eq_false h60
    have t1' : decide ((60 : Int) < (n : Int)) = false := decide_eq_false (by omega)
    have HN := Lib.hid h60
    clear hlen h60
    go_enter Try.func11, Try.ntmps11
    go_wp2_with fail
    clear t1 t1'
    go_loopw [3] (fun i wr => ∃ k : Nat, k ≤ n ∧ i = .int .i64 (k : Int) ∧ Hid (∀ (j : Nat) (a : Ac), j < k → l[j]? = some a → SmA a) ∧ w = wr) (fun i _ => n - (intOf i).toNat)
    case atStart => exact ⟨0, by omega, rfl, Lib.hid fun j a h => absurd h (by omega), rfl⟩
    case round =>
      obtain ⟨k, hk, rfl, HK, rfl⟩ := hrel
      by_cases hlt : k < n
      · obtain ⟨b, off, a, rfl, hx, hok, hc⟩ := ha.at_ hlt
        obtain ⟨nm, hnm⟩ : ∃ nm, nm = a.s := ⟨_, rfl⟩
        have d1 := hc 1 _ rfl
        rw [← hnm] at d1
        have hsn := str_size nm
        have HX := Lib.hid hx
        have HF := Lib.hid hnm
        clear hx hnm hc hok
        by_cases p1 : 60 < nm.length
        · have r1 : decide (60 < nm.length) = true := decide_eq_true (by omega)
          have r1' : decide ((60 : Int) < (nm.length : Int)) = true := decide_eq_true (by omega)
          go_wp2_with fail
          go_ret
          exact ⟨⟨false, rfl, fun h => by cases h⟩, rfl⟩
        · have r1 : decide (60 < nm.length) = false := decide_eq_false (by omega)
          have r1' : decide ((60 : Int) < (nm.length : Int)) = false := decide_eq_false (by omega)
          have HJ' : Hid (∀ (j : Nat) (a : Ac), j < k + 1 → l[j]? = some a → SmA a) := Lib.hid fun j a' hj ha' => by
            by_cases hjk : j < k
            · exact HK.out j a' hjk ha'
            · obtain rfl : j = k := by omega
              rw [HX.out] at ha'
              obtain rfl := Option.some.inj ha'
              unfold SmA
              rw [← HF.out]
              omega
          go_wp2_with fail
          go_roundw
          case rel => exact ⟨k + 1, by omega, by go_num, HJ', trivial⟩
          case measure => simp [intOf] <;> omega
      · have hk' : k = n := by omega
        subst hk'
        go_wp2_with fail
        go_ret
        refine ⟨⟨true, rfl, fun _ => ⟨by have := HN.out; omega, fun a ha' => ?_⟩⟩, rfl⟩
        obtain ⟨j, hj, rfl⟩ := List.getElem_of_mem ha'
        exact HK.out j _ (by have := HL.out; omega) (List.getElem?_eq_getElem hj)
theorem lt_of_bytes {w : World} {A : Option Addr} {n : Nat} {l : List UInt8} (h : Bytes w A n l) : 0 < n → ∀ ad, A = some ad → ad.block < w.heap.size := by
  intro hn ad had
  obtain ⟨b, off, x, e, hx, hc⟩ := h.at_ hn
  rw [e] at had
  injection had with had
  rw [← had]
  refine Decidable.byContradiction fun hh => ?_
  have : w.heap[b]? = none := Array.getElem?_eq_none (by simpa using hh)
  simp [World.cell?, this] at hc
section
variable {w : World} {B g bs bn n : Nat} {L : List Tag}
theorem calls_named {P : Program} {f : FuncId} {args : Array Value} {X : World} {Q : Ending → World → Prop} (h : ∀ W, W = X → Calls P f args W Q) : Calls P f args X Q := h X rfl
/-- all bytes, as a slice -/
theorem bytesS (h : TagI w B g bs bn n L) (hn : n ≤ 1000000) : Calls Try.prog 10 #[.pointer (some ⟨g, 0, none⟩)] w fun e w' => ∃ A m c, e = .returned (.slice A m c) ∧ m = (encT L).length ∧ m ≤ c ∧ c ≤ maxLen ∧ Bytes w' A m (encT L) ∧ Grow w w' := by
  refine (tbytes_any h hn).mono ?_
  rintro e w1 ⟨v, rfl, ho, hg⟩
  obtain ⟨A, m, c, rfl, h1, h2, h3⟩ := own_sl ho
  exact ⟨A, m, c, rfl, h3.len.symm, h1, h2, h3, hg⟩
/-- what is told, read -/
theorem decS {A : Option Addr} {m c : Nat} (hb : Bytes w A m (encT L)) (hc : m ≤ c) (hm : c ≤ maxLen) (ok : OkT L) : Calls Try.prog 7 #[.slice A m c] w fun r w' => ∃ gT bs bn n', r = .returned (.tuple #[.pointer (some ⟨gT, 0, none⟩), .int .i64 0]) ∧ n' ≤ 1000 ∧ TagI w' w.heap.size gT bs bn n' L ∧ Grow w w' := by
  have h := decode_any w A m c (encT L) hb hc hm (lt_of_bytes hb)
  rw [err_enc ok, dec_enc ok] at h
  refine h.mono ?_
  rintro r w1 ⟨h0, hg⟩
  rw [if_pos rfl] at h0
  obtain ⟨gT, bs, bn, n', rfl, h1, h2⟩ := h0
  exact ⟨gT, bs, bn, n', rfl, h1, h2, hg⟩
end
def vec2 : List Int := 2 :: List.replicate 63 0
theorem vec2_ok : VecOk vec2 := ⟨by decide, by decide⟩
theorem set2 : setE [] [97] vec2 = 0 := by decide
theorem setT2 : setT [] [97] vec2 = [([97], vec2)] := by decide
theorem enc2 : encT [([97], vec2)] = [1, 1, 97, 1, 1, 2] := by decide +kernel
set_option maxRecDepth 100000 in
set_option maxHeartbeats 1000000 in
theorem works_any (w : World) : Calls Try.prog 6 #[] w fun e w' => e = .returned (.bool true) ∧ Grow w w' := by
  have HNEW := Lib.hid (new_any w)
  go_enter Try.func6, Try.ntmps6
  go_wp2_with fail
  refine HNEW.out.mono ?_
  rintro e w1 ⟨g, bs, bn, rfl, ht1, hg1⟩
  have HT1 := Lib.hid ht1
  have HG1 := Lib.hid hg1
  clear ht1 hg1
  go_wp2_with fail
  refine (set_any HT1.out (by decide) [97] (by decide) vec2 vec2_ok).mono ?_
  rw [set2, if_pos rfl, setT2]
  rintro e w2 ⟨rfl, ht2, hk2⟩
  have HG2 := Lib.hid (hk2.grow HG1.out rfl)
  have HT2 := Lib.hid ht2
  have hbt := fun (w3 : World) (hg : Grow w2 w3) => bytesS (ht2.grow hg) (by decide)
  rw [enc2] at hbt
  have HBT := Lib.hid hbt
  clear ht2 hk2 hbt
  rw [show ((0 : Nat) : Int) = 0 from rfl]
  go_wp2_with fail
  refine (HBT.out w2 (Grow.refl _)).mono ?_
  rintro e w3 ⟨A, m, c, rfl, hm, hc, hcm, hb, hg3⟩
  have hd := decS (L := [([97], vec2)]) (by rw [enc2]; exact hb) hc hcm HT2.out.ok
  have HD := Lib.hid hd
  have HG3 := Lib.hid (HG2.out.trans hg3)
  have HB3 := Lib.hid (hb)
  have HG23 := Lib.hid hg3
  clear hm hc hcm hb hd hg3
  go_wp2_with fail
  refine HD.out.mono ?_
  rintro e w4 ⟨g4, bs4, bn4, n4, rfl, hn4, ht4, hg4⟩
  have HN4 := Lib.hid hn4
  have HT4 := Lib.hid ht4
  have HG4 := Lib.hid (HG3.out.trans hg4)
  have HG24 := Lib.hid (HG23.out.trans hg4)
  clear hn4 ht4 hg4
  go_wp2_with fail
  have hget := get_any HT4.out [97] (by decide)
  rw [show getT [([97], vec2)] [97] = vec2 by decide, show hasT [([97], vec2)] [97] = true by decide] at hget
  unfold vv at hget
  have hvi := ints_ok vec2_ok
  have heq : ∀ w1, (Op.equalIn 10000 TV (.agg (ints .u16 vec2).toArray) (.agg (ints .u16 vec2).toArray)).run Try.prog w1 = .ok true w1 := fun w1 => by rw [eqV w1 _ _ vec2_ok vec2_ok]; rfl
  have hlit : Value.agg (ints .u16 vec2).toArray = .agg #[.int .u16 2, .int .u16 0, .int .u16 0, .int .u16 0, .int .u16 0, .int .u16 0, .int .u16 0, .int .u16 0, .int .u16 0, .int .u16 0, .int .u16 0, .int .u16 0, .int .u16 0, .int .u16 0, .int .u16 0, .int .u16 0, .int .u16 0, .int .u16 0, .int .u16 0, .int .u16 0, .int .u16 0, .int .u16 0, .int .u16 0, .int .u16 0, .int .u16 0, .int .u16 0, .int .u16 0, .int .u16 0, .int .u16 0, .int .u16 0, .int .u16 0, .int .u16 0, .int .u16 0, .int .u16 0, .int .u16 0, .int .u16 0, .int .u16 0, .int .u16 0, .int .u16 0, .int .u16 0, .int .u16 0, .int .u16 0, .int .u16 0, .int .u16 0, .int .u16 0, .int .u16 0, .int .u16 0, .int .u16 0, .int .u16 0, .int .u16 0, .int .u16 0, .int .u16 0, .int .u16 0, .int .u16 0, .int .u16 0, .int .u16 0, .int .u16 0, .int .u16 0, .int .u16 0, .int .u16 0, .int .u16 0, .int .u16 0, .int .u16 0, .int .u16 0] := by rfl
  have heq2 : ∀ w1, (Op.equalIn 10000 TV (.agg (ints .u16 vec2).toArray) (.agg #[.int .u16 2, .int .u16 0, .int .u16 0, .int .u16 0, .int .u16 0, .int .u16 0, .int .u16 0, .int .u16 0, .int .u16 0, .int .u16 0, .int .u16 0, .int .u16 0, .int .u16 0, .int .u16 0, .int .u16 0, .int .u16 0, .int .u16 0, .int .u16 0, .int .u16 0, .int .u16 0, .int .u16 0, .int .u16 0, .int .u16 0, .int .u16 0, .int .u16 0, .int .u16 0, .int .u16 0, .int .u16 0, .int .u16 0, .int .u16 0, .int .u16 0, .int .u16 0, .int .u16 0, .int .u16 0, .int .u16 0, .int .u16 0, .int .u16 0, .int .u16 0, .int .u16 0, .int .u16 0, .int .u16 0, .int .u16 0, .int .u16 0, .int .u16 0, .int .u16 0, .int .u16 0, .int .u16 0, .int .u16 0, .int .u16 0, .int .u16 0, .int .u16 0, .int .u16 0, .int .u16 0, .int .u16 0, .int .u16 0, .int .u16 0, .int .u16 0, .int .u16 0, .int .u16 0, .int .u16 0, .int .u16 0, .int .u16 0, .int .u16 0, .int .u16 0])).run Try.prog w1 = .ok true w1 := fun w1 => by rw [← hlit]; exact heq w1
  clear hlit heq
  obtain ⟨cs, hcs⟩ : ∃ cs, cs = ints .u16 vec2 := ⟨_, rfl⟩
  rw [← hcs] at hget hvi heq2
  have HC := Lib.hid hvi.1
  have HO := Lib.hid hvi.2
  refine hget.mono ?_
  rintro e w5 ⟨rfl, hg5⟩
  have HG5 := Lib.hid (HG4.out.trans hg5)
  have HG25 := Lib.hid (HG24.out.trans hg5)
  clear hg5 hget hcs hvi
  go_wp2_with (refine store_blk rfl _ _ _ rfl w5.heap.size cs rfl rfl TV _ (Blk.new _ _ _ _ rfl rfl) (by rw [sizeV, HC.out]) HC.out.symm HO.out ?_)
  refine calls_named ?_
  intro W6 hW6
  have hg6 : Grow w5 W6 := by rw [hW6]; exact Grow.setRow (Grow.alloc _ _) (Nat.le_refl _) _
  have hb6 : Blk W6 w5.heap.size TV cs := by rw [hW6]; exact (Blk.new _ _ _ _ rfl rfl).setRow _
  have HG6 := Lib.hid (HG5.out.trans hg6)
  refine (HBT.out W6 (HG25.out.trans hg6)).mono ?_
  clear hW6 hg6
  rintro e w7 ⟨A7, m7, c7, rfl, -, -, -, hb7, hg7⟩
  have HG7 := Lib.hid (HG6.out.trans hg7)
  have hb6' := hb6.grow hg7
  have cs1 := conv_str (P := Try.prog) Try.underlying22 Try.underlying5 Try.underlying9 hb7 c7
  have te : ((str [1, 1, 97, 1, 1, 2]).toList == (ByteArray.mk #[1, 1, 97, 1, 1, 2]).toList) = true := beq_self_eq_true (str [1, 1, 97, 1, 1, 2]).toList
  have te1 : (str [1, 1, 97, 1, 1, 2]).toList = [1, 1, 97, 1, 1, 2] := ByteArray.toList_mk _
  have te2 : ((str [1, 1, 97, 1, 1, 2]).toList == [1, 1, 97, 1, 1, 2]) = true := by rw [te1]; rfl
  clear te
  clear hg7 hb6 hb7
  go_wp2_with (refine load_blk rfl _ _ rfl w5.heap.size rfl _ _ _ hb6' undV rfl (by rw [sizeV, HC.out]) ?_)
  go_ret
  exact ⟨rfl, HG7.out⟩
end Go.Proofs.Ythclgmpjmhacdaa.tg
