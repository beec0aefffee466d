/- The walk of tcode.put. -/
import Derived.Test.YtacgfpjoaikfbaaTc
import Derived.Test.YtacgfpjoaikfbaaLdC
import Derived.Test.YtacgfpjoaikfbaaOpen2
namespace Go.Proofs.Ytacgfpjoaikfbaa.tc
open Go Go.RowKit Go.Par Go.Kit Vi Go.Proofs.Ytacgfpjoaikfbaa.bfW
open Go.Proofs.Ytacgfpjoaikfbaa.viW hiding i8 i8s i8z i8b info8

def strs (l : List (List UInt8)) : List Value := l.map fun x => .string (str x)
theorem txf_take {l : List (List UInt8)} {k : Nat} {t : List UInt8} (h : l[k]? = some t) : txf (l.take (k + 1)) = txf (l.take k) ++ tx t := by
  unfold txf
  rw [List.take_add_one, h]
  simp
theorem txf_take_le (l : List (List UInt8)) (k : Nat) : (txf (l.take k)).length ≤ (txf l).length := by
  have e : txf l = txf (l.take k) ++ txf (l.drop k) := by unfold txf; rw [← List.flatten_append, ← List.map_append, List.take_append_drop]
  rw [e, List.length_append]; omega
theorem tx_le : ∀ (l : List (List UInt8)) (k : Nat) (t : List UInt8), l[k]? = some t → (txf (l.take k)).length + (tx t).length ≤ (txf l).length := by
  intro l k t h
  have h1 := txf_take_le l (k + 1)
  rw [txf_take h, List.length_append] at h1
  exact h1
theorem num_wn (w : World) (B : Nat) (K : Nat → Prop) (hK : ∀ k, K k → k < w.heap.size) (g : Nat) (L : List UInt8) (h : Wb w B K g L) (ns : List Nat) (n : Nat) (hn : n = ns.length) (cs : Array Value) (hcs : cs = (ns.map u64v).toArray) (hx : ∀ x ∈ ns, x < 18446744073709551616) (hlen : L.length + 10 * n ≤ 140737488355328) :
    Calls Try.prog 16 #[.pointer (some ⟨g, 0, none⟩), .slice (some ⟨w.heap.size, 0, none⟩) n n] (w.alloc (.cells cs 42)) fun r w' => r = .returned (.tuple #[]) ∧ Wb w' B K g (L ++ vbs ns) ∧ Keep B K w w' := by
  subst hcs
  have hrow : Row (w.alloc (.cells (ns.map u64v).toArray 42)) (some ⟨w.heap.size, 0, none⟩) n (ns.map u64v) := by
    have := Row.new w (ns.map u64v) 42 (0, 0)
    rw [List.length_map, ← hn] at this
    exact this
  refine (num_w (w.alloc (.cells (ns.map u64v).toArray 42)) B (fun i => K i ∨ i = w.heap.size) (fun i hi => by
    rcases hi with hi | hi
    · have := hK i hi; simp; omega
    · simp; omega) g L ((h.more (fun i hi hlt => by rcases hi with hi | hi; exact hi; omega)).grow (Grow.alloc w _)) (some ⟨w.heap.size, 0, none⟩) n n ns hrow (fun _ ad had => by injection had with had; rw [← had]; exact .inr (.inr rfl)) hx hlen).mono ?_
  rintro r w' ⟨rfl, h1, h2⟩
  exact ⟨rfl, h1.more (fun i hi _ => .inl hi), (Keep.of (Grow.alloc w _) h.size).trans (h2.less (fun i hi => .inl hi))⟩
theorem strs_at {w w' : World} {B : Nat} {K : Nat → Prop} {A : Option Addr} {n : Nat} {l : List (List UInt8)} (h : Row w A n (strs l)) (hk : Keep B K w w') (hA : 0 < n → ∀ ad, A = some ad → ad.block < B ∨ K ad.block) {k : Nat} (hlt : k < n) :
    ∃ b off t, A = some ⟨b, off, none⟩ ∧ l[k]? = some t ∧ w'.cell? ⟨b, off + k, none⟩ = some (.string (str t)) := by
  obtain ⟨b, off, x, e, hx, hc⟩ := (h.keep hk hA).at_ hlt
  unfold strs at hx
  rw [List.getElem?_map] at hx
  cases hl : l[k]? with
  | none => rw [hl] at hx; cases hx
  | some t =>
    rw [hl] at hx
    injection hx with hx
    exact ⟨b, off, t, e, rfl, by rw [show Value.string (str t) = x from hx]; exact hc⟩
set_option maxRecDepth 100000 in
set_option maxHeartbeats 2000000 in
theorem put_any (w : World) (B : Nat) (K : Nat → Prop) (hK : ∀ k, K k → k < w.heap.size) (g : Nat) (L : List UInt8) (h : Wb w B K g L) (A : Option Addr) (n c : Nat) (l : List (List UInt8)) (hl : l.length = n) (hr : Row w A n (strs l))
    (hA : 0 < n → ∀ ad, A = some ad → ad.block < B ∨ K ad.block) (hn : n ≤ 140737488355328) (hlen : L.length + 10 + (txs l).length ≤ 140737488355328) :
    Calls Try.prog 18 #[.pointer (some ⟨g, 0, none⟩), .slice A n c] w fun r w' => r = .returned (.tuple #[]) ∧ Wb w' B K g (L ++ txs l) ∧ Keep B K w w' := by
  have HNUM := Lib.hid (num_wn w B K hK g L h [n] 1 rfl #[.int .u64 (n : Int)] rfl (fun y hy => by rw [List.mem_singleton.1 hy]; omega) (by omega))
  have HK := Lib.hid hK
  have HR := Lib.hid hr
  have HA := Lib.hid hA
  have HL := Lib.hid hl
  have HLEN := Lib.hid hlen
  obtain ⟨Z, hZ⟩ : ∃ Z, Z = L ++ txs l := ⟨_, rfl⟩
  rw [← hZ]
  have HZ := Lib.hid hZ
  clear hK h hr hA hl hlen hZ
  go_enter Try.func18, Try.ntmps18
  go_wp2_with fail
  refine HNUM.out.mono ?_
  rintro r w2 ⟨rfl, hw2, hk2⟩
  have hw2' : Wb w2 B K g (L ++ (vb n ++ txf (l.take 0))) := by
    have e : L ++ vbs [n] = L ++ (vb n ++ txf (l.take 0)) := by simp [vbs, txf]
    rw [← e]; exact hw2
  have HW2 := Lib.hid hw2'
  have HK2 := Lib.hid hk2
  clear hw2 hw2' hk2 HNUM
  go_wp2_with fail
  go_loopw [14] (fun i' wr => ∃ k : Nat, k ≤ n ∧ i' = .int .i64 (k : Int) ∧ Wb wr B K g (L ++ (vb n ++ txf (l.take k))) ∧ Keep B K w wr) (fun i' _ => n - (intOf i').toNat)
  case atStart => exact ⟨0, by omega, rfl, HW2.out, HK2.out⟩
  case round =>
    clear HW2 HK2
    obtain ⟨k, hk, rfl, hwb, hkp⟩ := hrel
    by_cases hlt : k < n
    · obtain ⟨b, off, t, rfl, hx, hc⟩ := strs_at HR.out hkp HA.out hlt
      have t1 : decide (k < n) = true := decide_eq_true hlt
      have t2 : decide ((k : Int) < (n : Int)) = true := decide_eq_true (by omega)
      have hle : (L ++ (vb n ++ txf (l.take k))).length + 10 + t.length ≤ 140737488355328 := by
        have h1 := tx_le l k t hx
        have h2 := HLEN.out
        unfold txs at h2
        rw [List.length_append, HL.out] at h2
        have h3 : (tx t).length = (vb t.length).length + t.length := by unfold tx; rw [List.length_append]
        rw [List.length_append, List.length_append]
        omega
      have HT := Lib.hid (text_w wr B K (fun i hi => Nat.lt_of_lt_of_le (HK.out i hi) hkp.size) g _ hwb t hle)
      have HX := Lib.hid hx
      have HLT := Lib.hid hlt
      have HKP := Lib.hid hkp
      clear hx hle hwb hkp hk
      go_wp2_with fail
      refine HT.out.mono ?_
      rintro r w7 ⟨rfl, hw7, hk7⟩
      have hw7' : Wb w7 B K g (L ++ (vb n ++ txf (l.take (k + 1)))) := by
        rw [txf_take HX.out, ← List.append_assoc (vb n), ← List.append_assoc L]; exact hw7
      have HW7 := Lib.hid hw7'
      have HK7 := Lib.hid (HKP.out.trans hk7)
      clear hw7 hw7' hk7 HT hc
      go_wp2_with fail
      go_roundw
      case rel => exact ⟨k + 1, by have := HLT.out; omega, by go_num, HW7.out, HK7.out⟩
      case measure => have := HLT.out; simp [intOf] <;> omega
    · obtain rfl : k = n := by omega
      have htk : l.take k = l := List.take_of_length_le (by rw [HL.out]; exact Nat.le_refl _)
      rw [htk] at hwb
      have t1 : decide (k < k) = false := decide_eq_false hlt
      have hz : Z = L ++ (vb k ++ txf l) := by rw [HZ.out]; unfold txs; rw [HL.out]
      rw [← hz] at hwb
      have HE := Lib.hid (And.intro hwb hkp)
      clear hwb hkp htk hz hlt hk
      go_wp2_with fail
      go_end0
      exact ⟨rfl, HE.out⟩
end Go.Proofs.Ytacgfpjoaikfbaa.tc
