/- The document's tags: Name, Get. -/
import Derived.Test.YthclgmpjmhacdaaTgD
namespace Go.Proofs.Ythclgmpjmhacdaa.tg
open Go Go.RowKit Go.Par Go.Kit Go.Maps

theorem str_byte (s : ByteArray) (l : List UInt8) (hs : s = str l) (i : Nat) (h : i < s.size) (h2 : i < l.length) : s[i] = l[i] := by
  subst hs
  exact str_get l i h h2
set_option maxRecDepth 100000 in
set_option maxHeartbeats 1000000 in
theorem rname_any (w : World) (l : List UInt8) (hl : l.length ≤ maxLen) : Calls Try.prog 35 #[.string (str l)] w fun e w' => e = .returned (.bool (nameB l)) ∧ w = w' := by
  unfold maxLen at hl
  obtain ⟨r, hr⟩ : ∃ r, r = nameB l := ⟨_, rfl⟩
  rw [← hr]
  have HR := Lib.hid hr
  obtain ⟨s, hs⟩ : ∃ s, s = str l := ⟨_, rfl⟩
  have hsz : s.size = l.length := by rw [hs]; exact str_size l
  obtain ⟨n, hn⟩ : ∃ n, n = l.length := ⟨_, rfl⟩
  rw [← hn] at hsz hl
  rw [← hs]
  have HS := Lib.hid hs
  have HN := Lib.hid hn
  clear hr hs hn
  go_enter Try.func35, Try.ntmps35
  go_wp2_with fail
  go_loopw [3] (fun k' wr => ∃ k : Nat, k ≤ n ∧ k' = .int .i64 (k : Int) ∧ wr = w ∧ ∀ (j : Nat) (c : UInt8), j < k → l[j]? = some c → letB c.toNat = true) (fun k' _ => n - (intOf k').toNat)
  case atStart => exact ⟨0, by omega, rfl, rfl, fun j c h => absurd h (by omega)⟩
  case round =>
    obtain ⟨k, hk, rfl, rfl, hal⟩ := hrel
    have HAL := Lib.hid hal
    clear hal
    by_cases hlt : k < n
    · have t1 : decide (k < n) = true := decide_eq_true hlt
      have t1' : decide ((k : Int) < (n : Int)) = true := decide_eq_true (by omega)
      have hil : k < l.length := by rw [← HN.out]; exact hlt
      have hx : l[k]? = some l[k] := List.getElem?_eq_getElem hil
      have hisz : k < s.size := by rw [hsz]; exact hlt
      have hget : s[k]'hisz = l[k] := str_byte s l HS.out k hisz hil
      obtain ⟨c, hc⟩ : ∃ c, c = l[k] := ⟨_, rfl⟩
      rw [← hc] at hx hget
      have HX := Lib.hid hx
      have HLT := Lib.hid hlt
      obtain ⟨m, hm⟩ : ∃ m, m = c.toNat := ⟨_, rfl⟩
      have hm9 : m < 256 := by rw [hm]; exact c.toNat_lt
      have HM := Lib.hid hm
      clear hx hc hlt hk hil hm
      go_wp2_with fail
      all_goals clear HM hm9
      all_goals first
        | (go_roundw
           case rel =>
             have hlet : letB c.toNat = true := decide_eq_true (by first | omega | (rename_i h; simp at h; omega) | (rename_i h1 h2; simp at h1; omega) | (rename_i h1 h2 h3; simp at h1; omega))
             refine ⟨k + 1, by have := HLT.out; omega, by go_num, trivial, fun j c' hj hc' => ?_⟩
             rcases Nat.lt_or_ge j k with h3 | h3
             · exact HAL.out j c' h3 hc'
             · obtain rfl : j = k := by omega
               rw [HX.out] at hc'
               injection hc' with hc'
               rw [← hc']; exact hlet
           case measure => have := HLT.out; simp [intOf] <;> omega)
        | (have hlet : letB c.toNat = false := decide_eq_false (by first | omega | (rename_i h; simp at h; omega) | (rename_i h1 h2; simp at h1; omega) | (rename_i h1 h2 h3; simp at h1; omega))
           go_ret
           rw [show r = false from HR.out.trans (name_no HX.out hlet)]
           exact ⟨rfl, rfl⟩)
    · obtain rfl : k = n := by omega
      have t1 : decide (k < k) = false := decide_eq_false hlt
      have hr := HR.out.trans (name_yes fun j c hj hc => HAL.out j c (by rw [HN.out]; exact hj) hc)
      rw [← HN.out] at hr
      have HR2 := Lib.hid hr
      clear hlt hk hr
      by_cases h1 : 1 ≤ k
      · have s1 : decide (1 ≤ k) = true := decide_eq_true h1
        have s1' : decide ((1 : Int) ≤ (k : Int)) = true := decide_eq_true (by omega)
        have hr3 : r = decide (k ≤ 16) := by rw [HR2.out, s1]; rfl
        have s2 : decide ((k : Int) ≤ 16) = r := by rw [hr3]; simp; omega
        clear h1 hr3
        go_wp2_with fail
        go_ret
        exact ⟨rfl, rfl⟩
      · have s1 : decide (1 ≤ k) = false := decide_eq_false h1
        have s1' : decide ((1 : Int) ≤ (k : Int)) = false := decide_eq_false (by omega)
        have hr3 : r = false := by rw [HR2.out, s1]; rfl
        subst hr3
        clear h1
        go_wp2_with fail
        go_ret
        exact ⟨rfl, rfl⟩
abbrev TRT : TypeId := 68
theorem undRT : Try.prog.underlying TRT = some (.struct (Try.prog.fieldsOf TRT)) := by kernel_rfl
theorem sizeRT : (Try.prog.info? TRT).map (·.size) = some 65 := by kernel_rfl
theorem rt_at {w : World} {A : Option Addr} {L : List Tag} (h : Row w A (L.length * 65) (trows L)) (hv : ∀ t ∈ L, VecOk t.2) {k : Nat} {t : Tag} (ht : L[k]? = some t) :
    ∃ b off, A = some ⟨b, off, none⟩ ∧ ∀ j u, (trow t)[j]? = some u → w.cell? ⟨b, off + k * 65 + j, none⟩ = some u := by
  obtain ⟨hk, -⟩ := List.getElem?_eq_some_iff.1 ht
  obtain ⟨b, off, e, hc⟩ := h.2 (by omega)
  exact ⟨b, off, e, fun j u hu => by rw [Nat.add_assoc]; exact hc _ u (trows_at hv ht hu)⟩
theorem has_at {L : List Tag} {s : List UInt8} {k : Nat} {t : Tag} (ht : L[k]? = some t) (he : t.1 = s) : hasT L s = true := by
  unfold hasT
  rw [List.any_eq_true]
  exact ⟨t, List.mem_of_getElem? ht, by rw [he]; exact beq_self_eq_true _⟩
theorem get_first {L : List Tag} {s : List UInt8} {k : Nat} {t : Tag} (ht : L[k]? = some t) (he : t.1 = s) (hn : ∀ (j : Nat) (u : Tag), j < k → L[j]? = some u → u.1 ≠ s) : getT L s = t.2 := by
  induction L generalizing k with
  | nil => simp at ht
  | cons a r ih =>
    unfold getT
    cases k with
    | zero =>
      simp at ht
      subst ht
      rw [List.find?_cons_of_pos (by simp [he])]
    | succ k =>
      have h0 := hn 0 a (by omega) rfl
      rw [List.find?_cons_of_neg (by simpa using h0)]
      exact ih (k := k) (by simpa using ht) fun j u hj hu => hn (j + 1) u (by omega) (by simpa using hu)
theorem has_none {L : List Tag} {s : List UInt8} (hn : ∀ (j : Nat) (u : Tag), j < L.length → L[j]? = some u → u.1 ≠ s) : hasT L s = false := by
  unfold hasT
  rw [List.any_eq_false]
  intro t ht
  obtain ⟨j, hj, rfl⟩ := List.getElem_of_mem ht
  have := hn j _ hj (List.getElem?_eq_getElem hj)
  simpa using this
theorem trow_vec {t : Tag} : ∀ (i : Nat) (u : Value), (ints .u16 t.2)[i]? = some u → (trow t)[i + 1]? = some u := fun i u h => by unfold trow; simpa using h
set_option maxRecDepth 100000 in
set_option maxHeartbeats 1000000 in
theorem rget_any (w : World) (A : Option Addr) (c : Nat) (L : List Tag) (hr : Row w A (L.length * 65) (trows L)) (hv : ∀ t ∈ L, VecOk t.2) (hm : L.length ≤ 1000) (s : List UInt8) :
    Calls Try.prog 18 #[.slice A L.length c, .string (str s)] w fun e w' => e = .returned (.tuple #[vv (getT L s), .bool (hasT L s)]) ∧ Grow w w' := by
  obtain ⟨W1, hW1⟩ : ∃ W, W = w.alloc (.cells (List.replicate 64 (.int .u16 0)).toArray TV) := ⟨_, rfl⟩
  have hg1 : Grow w W1 := by rw [hW1]; exact Grow.alloc _ _
  have hb1 : Blk W1 w.heap.size TV (List.replicate 64 (.int .u16 0)) := by rw [hW1]; exact Blk.new _ _ _ _ rfl rfl
  obtain ⟨l, hl⟩ : ∃ l, l = L.length := ⟨_, rfl⟩
  obtain ⟨q, hq⟩ : ∃ q, q = str s := ⟨_, rfl⟩
  have HROW : Hid (Row W1 A (L.length * 65) (trows L)) := Lib.hid (hr.grow hg1)
  obtain ⟨gv, hgv⟩ : ∃ v, v = vv (getT L s) := ⟨_, rfl⟩
  obtain ⟨hb, hhb⟩ : ∃ v, v = hasT L s := ⟨_, rfl⟩
  rw [← hl] at hm
  rw [← hl, ← hq, ← hgv, ← hhb]
  have HGV := Lib.hid hgv
  have HHB := Lib.hid hhb
  have HQ := Lib.hid hq
  have HL := Lib.hid hl
  have HV := Lib.hid hv
  have HG1 := Lib.hid hg1
  have HB1 := Lib.hid hb1
  have HW1 := Lib.hid hW1
  clear hr hv hl hq hgv hhb hg1 hb1 hW1
  go_enter Try.func18, Try.ntmps18
  try dsimp only
  repeat (first | with_reducible (refine wp_region_cut (k := 1) ?_) | go_values | go_guarded | go_step | go_upon | go_back)
  unfold Cut
  refine wp_named ?_
  intro W hW
  obtain rfl : W = W1 := hW.trans HW1.out.symm
  clear hW
  go_wp2_with fail
  go_loopw [6] (fun k' wr => ∃ k : Nat, k ≤ l ∧ k' = .int .i64 (k : Int) ∧ W = wr ∧ ∀ (j : Nat) (u : Tag), j < k → L[j]? = some u → u.1 ≠ s) (fun k' _ => l - (intOf k').toNat)
  case atStart => exact ⟨0, by omega, rfl, rfl, fun j u h => absurd h (by omega)⟩
  case round =>
    obtain ⟨k, hk, rfl, rfl, hal⟩ := hrel
    have HAL := Lib.hid hal
    clear hal
    by_cases hlt : k < l
    · have t1 : decide (k < l) = true := decide_eq_true hlt
      have t1' : decide ((k : Int) < (l : Int)) = true := decide_eq_true (by omega)
      obtain ⟨t, ht⟩ : ∃ t, L[k]? = some t := ⟨_, List.getElem?_eq_getElem (by rw [← HL.out]; exact hlt)⟩
      obtain ⟨b, off, rfl, hc⟩ := rt_at HROW.out HV.out ht
      have y0 : W.cell? ⟨b, off + k * 65, none⟩ = some (.string (str t.1)) := hc 0 _ rfl
      obtain ⟨q2, hq2⟩ : ∃ q, q = str t.1 := ⟨_, rfl⟩
      rw [← hq2] at y0
      have he : (q2.toList == q.toList) = (t.1 == s) := by
        rw [hq2, HQ.out, show (str t.1).toList = t.1 from ByteArray.toList_mk _, show (str s).toList = s from ByteArray.toList_mk _]
      have HT := Lib.hid ht
      have HC := Lib.hid hc
      have HLT := Lib.hid hlt
      have hk9 : k < l := hlt
      clear hk ht hc hq2 hlt
      by_cases e : t.1 = s
      · have s1 : (q2.toList == q.toList) = true := by rw [he, e]; exact beq_self_eq_true _
        have hvo := HV.out t (List.mem_of_getElem? HT.out)
        have hio := ints_ok hvo
        have hcv : ∀ j u, (ints .u16 t.2)[j]? = some u → W.cell? ⟨b, off + k * 65 + 1 + j, none⟩ = some u := fun j u hu => by
          rw [Nat.add_assoc (off + k * 65), Nat.add_comm 1 j]
          exact HC.out (j + 1) u (trow_vec j u hu)
        have hgs : gv = vv t.2 := by rw [HGV.out, get_first HT.out e HAL.out]
        have hhs : hb = true := by rw [HHB.out, has_at HT.out e]
        unfold vv at hgs
        obtain ⟨cs, hcs⟩ : ∃ cs, cs = ints .u16 t.2 := ⟨_, rfl⟩
        rw [← hcs] at hio hgs hcv
        have HCV := Lib.hid hcv
        have HIO := Lib.hid hio
        have hb1 := HB1.out
        subst hgs hhs
        clear he e hvo hio hcs hcv
        go_wp2_with (first | (refine load_cells rfl _ _ rfl b (off + k * 65 + 1) rfl cs _ HCV.out undV rfl (by rw [sizeV, HIO.out.1]) ?_) | (refine store_blk rfl _ _ _ rfl w.heap.size cs rfl rfl TV _ hb1 (by rw [sizeV, HIO.out.1]) (by rw [HIO.out.1]; rfl) HIO.out.2 ?_))
        exact ret_blk_tmp rfl w.heap.size _ cs _ _ rfl (hb1.setRow _) undV rfl (by rw [sizeV, HIO.out.1]) rfl rfl ⟨rfl, Grow.setRow HG1.out (Nat.le_refl _) _⟩
      · have s1 : (q2.toList == q.toList) = false := by rw [he]; exact beq_false_of_ne e
        have HE := Lib.hid e
        clear he e
        go_wp2_with fail
        go_roundw
        case rel =>
          refine ⟨k + 1, by have := HLT.out; omega, by go_num, trivial, fun j u hj hu => ?_⟩
          rcases Nat.lt_or_ge j k with h3 | h3
          · exact HAL.out j u h3 hu
          · obtain rfl : j = k := by omega
            rw [HT.out] at hu
            injection hu with hu
            rw [← hu]; exact HE.out
        case measure => have := HLT.out; simp [intOf] <;> omega
    · obtain rfl : k = l := by omega
      have t1 : decide (k < k) = false := decide_eq_false hlt
      have hhs : hb = false := by rw [HHB.out, has_none fun j u hj => HAL.out j u (by rw [HL.out]; exact hj)]
      have hgs : gv = vv (List.replicate 64 0) := by rw [HGV.out, getT_no (HHB.out.symm.trans hhs)]
      have hb1 := HB1.out
      subst hhs hgs
      clear hk hlt
      go_wp2_with (refine store_blk rfl _ _ _ rfl w.heap.size (List.replicate 64 (.int .u16 0)) rfl rfl TV _ hb1 (by rw [sizeV]; rfl) rfl rfl ?_)
      exact ret_blk_tmp rfl w.heap.size _ (List.replicate 64 (.int .u16 0)) _ _ rfl (hb1.setRow _) undV rfl (by rw [sizeV]; rfl) rfl rfl ⟨rfl, Grow.setRow HG1.out (Nat.le_refl _) _⟩
end Go.Proofs.Ythclgmpjmhacdaa.tg
