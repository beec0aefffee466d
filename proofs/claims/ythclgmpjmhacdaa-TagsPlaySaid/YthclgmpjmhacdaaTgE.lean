/- Tags: what reads a vector. -/
import Derived.Test.YthclgmpjmhacdaaTgW
namespace Go.Proofs.Ythclgmpjmhacdaa.tg
open Go Go.RowKit Go.Par Go.Kit Vi Go.Proofs.Ythclgmpjmhacdaa.bfW
open Go.Proofs.Ythclgmpjmhacdaa.viW hiding i8 i8s i8z i8b info8

theorem rbyte_le (L : List UInt8) (e m : Nat) : (rbyte L e m).1 ≤ m := by
  unfold rbyte
  split
  · exact Nat.zero_le _
  · split
    · exact Nat.zero_le _
    · split
      · exact Nat.zero_le _
      · dsimp only; omega
theorem rnum_le (L : List UInt8) (e m : Nat) : (rnum L e m).1 ≤ m := by
  unfold rnum
  split
  · exact Nat.zero_le _
  · split
    · exact Nat.zero_le _
    · split
      · exact Nat.zero_le _
      · dsimp only; omega
/-- the pairs of a vector: what is read, whether it is fine, what is left, what is wrong -/
def decV : Nat → List UInt8 → Nat → List Int → Bool → Nat → (List Int × Bool) × List UInt8 × Nat
  | 0, L, e, v, f, _ => ((v, f), L, e)
  | m + 1, L, e, v, f, la => if e ≠ 0 then ((v, f), L, e) else
    if (rbyte L 0 64).1 ≤ la ∨ (rnum (rbyte L 0 64).2.1 (rbyte L 0 64).2.2 60000).1 = 0 then decV m (rnum (rbyte L 0 64).2.1 (rbyte L 0 64).2.2 60000).2.1 (rnum (rbyte L 0 64).2.1 (rbyte L 0 64).2.2 60000).2.2 v false la
    else decV m (rnum (rbyte L 0 64).2.1 (rbyte L 0 64).2.2 60000).2.1 (rnum (rbyte L 0 64).2.1 (rbyte L 0 64).2.2 60000).2.2 (v.set ((rbyte L 0 64).1 - 1) ((rnum (rbyte L 0 64).2.1 (rbyte L 0 64).2.2 60000).1 : Nat)) f (rbyte L 0 64).1
def rvec (L : List UInt8) (e : Nat) : (List Int × Bool) × List UInt8 × Nat := decV (rnum L e 64).1 (rnum L e 64).2.1 (rnum L e 64).2.2 (List.replicate 64 0) true 0
theorem decV_stop {m e : Nat} {L : List UInt8} {v : List Int} {f : Bool} {la : Nat} (h : m = 0 ∨ e ≠ 0) : decV m L e v f la = ((v, f), L, e) := by
  cases m with
  | zero => rfl
  | succ m =>
    unfold decV
    rw [if_pos (by rcases h with h | h; · omega
                   · exact h)]
theorem decV_step {m : Nat} {L L3 L4 : List UInt8} {v : List Int} {f : Bool} {la a k e3 e4 : Nat} (h1 : rbyte L 0 64 = (a, L3, e3)) (h2 : rnum L3 e3 60000 = (k, L4, e4)) :
    decV (m + 1) L 0 v f la = decV m L4 e4 (if a ≤ la ∨ k = 0 then v else v.set (a - 1) (k : Nat)) (if a ≤ la ∨ k = 0 then false else f) (if a ≤ la ∨ k = 0 then la else a) := by
  rw [decV, if_neg (fun h => h rfl), h1]
  dsimp only
  rw [h2]
  dsimp only
  split <;> rfl
theorem blk_eq {w : World} {g : Nat} {t t' : TypeId} {cs cs' : List Value} (h : Blk w g t cs) (h' : Blk w g t' cs') : t = t' := by
  unfold Blk at h h'
  rw [h] at h'
  injection h' with h'
  injection h' with _ h'
theorem rdr_ne {w : World} {B g : Nat} {K : Nat → Prop} {L : List UInt8} {e : Nat} (h : Rdr TR w B K g L e) {b : Nat} {t : TypeId} {cs : List Value} (hb : Blk w b t cs) (ht : TR ≠ t) : b ≠ g := fun e9 => by
  obtain ⟨A, n, c, h1, -⟩ := h
  subst e9
  exact ht (blk_eq h1 hb)
theorem set_ok {v : List Int} (h : VecOk v) (i x : Nat) (hx : x ≤ 65535) : VecOk (v.set i x) := by
  refine ⟨by rw [List.length_set]; exact h.1, fun y hy => ?_⟩
  rcases List.mem_or_eq_of_mem_set hy with hy | rfl
  · exact h.2 y hy
  · omega
theorem decV_ok : ∀ (m : Nat) (L : List UInt8) (e : Nat) (v : List Int) (f : Bool) (la : Nat), VecOk v → VecOk (decV m L e v f la).1.1
  | 0, _, _, _, _, _, h => h
  | m + 1, L, e, v, f, la, h => by
    unfold decV
    split
    · exact h
    · split
      · exact decV_ok m _ _ v false la h
      · refine decV_ok m _ _ _ f _ (set_ok h _ _ ?_)
        have := rnum_le (rbyte L 0 64).2.1 (rbyte L 0 64).2.2 60000
        omega
theorem rvec_ok (L : List UInt8) (e : Nat) : VecOk (rvec L e).1.1 := decV_ok _ _ _ _ _ _ vec_zero
def VecI (W w : World) (B g b4 : Nat) (v : List Int) (L : List UInt8) (e : Nat) : Prop := Rdr TR w B (fun i => i ≠ g) g L e ∧ Blk w b4 TV (ints .u16 v) ∧ VecOk v ∧ Keep B (fun i => i ≠ g ∧ i ≠ b4) W w
set_option maxRecDepth 100000 in
set_option maxHeartbeats 4000000 in
theorem vector_any (w : World) (B g : Nat) (L : List UInt8) (e : Nat) (h : Rdr TR w B (fun i => i ≠ g) g L e) :
    Calls Try.prog 30 #[.pointer (some ⟨g, 0, none⟩)] w fun r w' => r = .returned (.tuple #[vv (rvec L e).1.1, .bool (rvec L e).1.2]) ∧ Rdr TR w' B (fun i => i ≠ g) g (rvec L e).2.1 (rvec L e).2.2 ∧ Keep B (fun i => i ≠ g) w w' := by
  have hgl := h.lt
  obtain ⟨b2, hb2⟩ : ∃ b, b = w.heap.size := ⟨_, rfl⟩
  obtain ⟨b4, hb4⟩ : ∃ b, b = b2 + 1 := ⟨_, rfl⟩
  obtain ⟨W1, hW1⟩ : ∃ W, W = (w.alloc (.cells (ints .u16 (List.replicate 64 0)).toArray TV)).alloc (.cells (ints .u16 (List.replicate 64 0)).toArray TV) := ⟨_, rfl⟩
  have hg1 : Grow w W1 := by rw [hW1]; exact (Grow.alloc _ _).trans (Grow.alloc _ _)
  have hx2 : Blk W1 b2 TV (ints .u16 (List.replicate 64 0)) := by rw [hW1]; exact (Blk.new _ _ _ _ rfl hb2).grow (Grow.alloc _ _)
  have hx4 : Blk W1 b4 TV (ints .u16 (List.replicate 64 0)) := by rw [hW1]; exact Blk.new _ _ _ _ rfl (by simp [hb4, hb2])
  have hn2 : b2 ≠ g := by omega
  have hn4 : b4 ≠ g := by omega
  have hn24 : b2 ≠ b4 := by omega
  have hnm := num_any W1 B (fun i => i ≠ g) g L e (h.grow hg1) 64
  obtain ⟨⟨M, L1, e1⟩, hr1⟩ : ∃ r, r = rnum L e 64 := ⟨_, rfl⟩
  have hM : M ≤ 64 := by have := rnum_le L e 64; rw [← hr1] at this; exact this
  rw [← hr1] at hnm
  obtain ⟨⟨⟨rv, rf⟩, L9, e9⟩, hres⟩ : ∃ r, r = rvec L e := ⟨_, rfl⟩
  have hres2 : decV M L1 e1 (List.replicate 64 0) true 0 = ((rv, rf), L9, e9) := by rw [hres]; unfold rvec; rw [← hr1]
  rw [← hres]
  dsimp only at hnm ⊢
  have HNM := Lib.hid hnm
  have HRES := Lib.hid hres2
  have HG1 := Lib.hid hg1
  have HX2 := Lib.hid hx2
  have HX4 := Lib.hid hx4
  have HN2 := Lib.hid hn2
  have HN4 := Lib.hid hn4
  have HN24 := Lib.hid hn24
  have HW1 := Lib.hid hW1
  have HB2 := Lib.hid hb2
  have HB4 := Lib.hid hb4
  have HBW : Hid (B ≤ w.heap.size) := Lib.hid (by omega)
  have HB24 : Hid (B ≤ b4) := Lib.hid (by omega)
  have HB22 : Hid (B ≤ b2) := Lib.hid (by omega)
  clear h hgl hnm hr1 hres hres2 hg1 hx2 hx4 hn2 hn4 hn24 hW1
  go_enter Try.func30, Try.ntmps30
  try dsimp only
  repeat (first | with_reducible (refine wp_region_cut (k := 2) ?_) | go_values | go_guarded | go_step | go_upon | go_back)
  unfold Cut
  refine wp_named ?_
  intro W hW
  obtain rfl : W = W1 := hW.trans HW1.out.symm
  clear hW
  try rw [← HB2.out]
  try rw [← HB4.out]
  clear hb2 hb4
  go_wp2_with fail
  refine HNM.out.mono ?_
  rintro r w2 ⟨rfl, hr2, hk2⟩
  have hvi : VecI W w2 B g b4 (List.replicate 64 0) L1 e1 := ⟨hr2, hk2.blk HX4.out HN4.out, vec_zero, hk2.less fun i hi => hi.1⟩
  have HVI := Lib.hid hvi
  clear hr2 hk2 hvi HNM
  go_wp2_with fail
  go_loopw [5, 6, 7] (fun f' a' m' wr => ∃ (m : Nat) (Li : List UInt8) (ei : Nat) (v : List Int) (f : Bool) (la : Nat), f' = .bool f ∧ a' = .int .u8 (la : Int) ∧ m' = .int .u64 (m : Int) ∧ la ≤ 64 ∧ m ≤ 64 ∧ decV m Li ei v f la = ((rv, rf), L9, e9) ∧ VecI W wr B g b4 v Li ei) (fun _ _ m' _ => (intOf m').toNat)
  case atStart => exact ⟨M, L1, e1, _, true, 0, rfl, rfl, rfl, by omega, hM, HRES.out, HVI.out⟩
  case round =>
    clear HVI
    obtain ⟨m, Li, ei, v, f, la, rfl, rfl, rfl, hla, hm, hd, hI⟩ := hrel
    have HERR := Lib.hid (err_any wr _ _ g Li ei hI.1)
    have HI := Lib.hid hI
    have HD := Lib.hid hd
    have HM := Lib.hid hm
    clear hI hd
    by_cases hst : m = 0 ∨ ei ≠ 0
    · have hd := HD.out
      rw [decV_stop hst] at hd
      injection hd with h1 h2
      injection h1 with h1 h4
      injection h2 with h2 h3
      have hx4 := HI.out.2.1
      have hx2 : Blk wr b2 TV (ints .u16 (List.replicate 64 0)) := HI.out.2.2.2.blk HX2.out ⟨HN2.out, HN24.out⟩
      have hio := ints_ok HI.out.2.2.1
      obtain ⟨cs, hcs⟩ : ∃ cs, cs = ints .u16 v := ⟨_, rfl⟩
      rw [← hcs] at hx4 hio
      have HIO := Lib.hid hio
      have HCS : Hid (cs = ints .u16 rv) := Lib.hid (by rw [hcs, h1])
      have HF : Hid (f = rf) := Lib.hid h4
      have HR9 : Hid (Rdr TR wr B (fun i => i ≠ g) g L9 e9) := Lib.hid (by rw [← h2, ← h3]; exact HI.out.1)
      have hk9 : Keep B (fun i => i ≠ g) w (wr.setRow b2 cs.toArray) := by
        have hk := HI.out.2.2.2
        have hb2 := HB2.out
        have hb4 := HB4.out
        have hgw := HG1.out
        refine ⟨below_setRow (Below.trans (hgw.below HBW.out) hk.1) HB22.out _, fun i hi hl => ?_⟩
        rw [setRow_other wr b2 i cs.toArray (by omega)]
        rw [hk.2 i ⟨hi, by omega⟩ (Nat.lt_of_lt_of_le hl hgw.size)]
        exact Below.block hgw i hl
      have HK9 := Lib.hid hk9
      have hr9 : Rdr TR (wr.setRow b2 cs.toArray) B (fun i => i ≠ g) g L9 e9 := by
        refine HR9.out.keep (K2 := fun i => i ≠ b2) ⟨below_setRow (Below.refl _ _) HB22.out _, fun i hi _ => setRow_other wr b2 i cs.toArray hi⟩ (fun e => HN2.out e.symm)
      have HR10 := Lib.hid hr9
      have hrf := HF.out
      subst hrf
      have hx4' := hx4
      clear h1 h2 h3 hcs hio hk9 hr9 hx4
      by_cases hm0 : 0 < m
      · have t1 : decide (0 < m) = true := decide_eq_true hm0
        have t1' : decide ((0 : Int) < (m : Int)) = true := decide_eq_true (by omega)
        have s1 : ((ei : Int) == 0) = false := beq_false_of_ne (by omega)
        have s2 : (ei == 0) = false := beq_false_of_ne (by omega)
        clear hst hm0
        go_wp2_with (first | (go_at_call 28; refine HERR.out.mono ?_; rintro r w' ⟨rfl, rfl⟩) | (refine load_blk rfl _ _ rfl b4 rfl _ _ _ hx4' undV rfl (by rw [sizeV, HIO.out.1]) ?_) | (refine store_blk rfl _ _ _ rfl b2 cs rfl rfl TV _ hx2 (by rw [sizeV, HIO.out.1]) (by rw [HIO.out.1]; rfl) HIO.out.2 ?_))
        exact ret_blk_tmp rfl b2 _ cs _ _ rfl (hx2.setRow _) undV rfl (by rw [sizeV, HIO.out.1]) rfl rfl ⟨by unfold vv; rw [HCS.out]; rfl, HR10.out, HK9.out⟩
      · have t1 : decide (0 < m) = false := decide_eq_false hm0
        have t1' : decide ((0 : Int) < (m : Int)) = false := decide_eq_false (by omega)
        clear hst hm0
        go_wp2_with (first | (go_at_call 28; refine HERR.out.mono ?_; rintro r w' ⟨rfl, rfl⟩) | (refine load_blk rfl _ _ rfl b4 rfl _ _ _ hx4' undV rfl (by rw [sizeV, HIO.out.1]) ?_) | (refine store_blk rfl _ _ _ rfl b2 cs rfl rfl TV _ hx2 (by rw [sizeV, HIO.out.1]) (by rw [HIO.out.1]; rfl) HIO.out.2 ?_))
        exact ret_blk_tmp rfl b2 _ cs _ _ rfl (hx2.setRow _) undV rfl (by rw [sizeV, HIO.out.1]) rfl rfl ⟨by unfold vv; rw [HCS.out]; rfl, HR10.out, HK9.out⟩
    · obtain rfl : ei = 0 := by omega
      obtain ⟨m', rfl⟩ : ∃ m', m = m' + 1 := ⟨m - 1, by omega⟩
      have t1 : decide (0 < m' + 1) = true := decide_eq_true (by omega)
      have t1' : decide ((0 : Int) < ((m' + 1 : Nat) : Int)) = true := decide_eq_true (by omega)
      obtain ⟨⟨a, L3, e3⟩, hra⟩ : ∃ r, r = rbyte Li 0 64 := ⟨_, rfl⟩
      have hal : a ≤ 64 := by have := rbyte_le Li 0 64; rw [← hra] at this; exact this
      obtain ⟨⟨k, L4, e4⟩, hrk⟩ : ∃ r, r = rnum L3 e3 60000 := ⟨_, rfl⟩
      have hkl : k ≤ 60000 := by have := rnum_le L3 e3 60000; rw [← hrk] at this; exact this
      have hby := byte_any wr B (fun i => i ≠ g) g Li 0 HI.out.1 64
      rw [← hra] at hby
      dsimp only at hby
      have HBY := Lib.hid hby
      have HNM : Hid (∀ wz, Rdr TR wz B (fun i => i ≠ g) g L3 e3 → Calls Try.prog 27 #[.pointer (some ⟨g, 0, none⟩), .int .u64 60000] wz fun r w' => r = .returned (.int .u64 (k : Int)) ∧ Rdr TR w' B (fun i => i ≠ g) g L4 e4 ∧ Keep B (fun i => i ≠ g) wz w') := Lib.hid fun wz hz => by
        have := num_any wz B (fun i => i ≠ g) g L3 e3 hz 60000
        rw [← hrk] at this
        exact this
      have HDD : Hid (decV m' L4 e4 (if a ≤ la ∨ k = 0 then v else v.set (a - 1) (k : Nat)) (if a ≤ la ∨ k = 0 then false else f) (if a ≤ la ∨ k = 0 then la else a) = ((rv, rf), L9, e9)) := Lib.hid (by
        rw [← HD.out, decV_step hra.symm hrk.symm])
      clear hst hra hrk hby
      go_wp2_with fail
      refine HERR.out.mono ?_
      rintro r w' ⟨rfl, rfl⟩
      go_wp2_with fail
      refine HBY.out.mono ?_
      rintro r w3 ⟨rfl, hr3, hk3⟩
      have HNM3 := Lib.hid (HNM.out w3 hr3)
      have HK3 := Lib.hid hk3
      clear hr3 hk3 HNM HBY HERR
      go_wp2_with fail
      refine HNM3.out.mono ?_
      rintro r w4 ⟨rfl, hr4, hk4⟩
      have HR4 := Lib.hid hr4
      have hkk := HK3.out.trans hk4
      have HK4 := Lib.hid hkk
      have hb4' := hkk.blk HI.out.2.1 HN4.out
      have HB4' := Lib.hid hb4'
      clear hr4 hk4 hkk hb4' HNM3
      by_cases hle : a ≤ la
      · have s1 : decide (a ≤ la) = true := decide_eq_true hle
        have s1' : decide ((a : Int) ≤ (la : Int)) = true := decide_eq_true (by omega)
        have hdd := HDD.out
        rw [if_pos (.inl hle), if_pos (.inl hle), if_pos (.inl hle)] at hdd
        have HDD2 := Lib.hid hdd
        clear hle hdd
        go_wp2_with fail
        clear s1 s1'
        go_roundw
        case rel =>
          have hm9 := HM.out
          exact ⟨m', L4, e4, v, false, la, rfl, rfl, by go_num, hla, by have := HM.out; omega, HDD2.out, HR4.out, HB4'.out, HI.out.2.2.1, HI.out.2.2.2.trans (HK4.out.less fun i hi => hi.1)⟩
        case measure => have hm9 := HM.out; simp [intOf] <;> omega
      · by_cases hk0 : k = 0
        · subst hk0
          have s1 : decide (a ≤ la) = false := decide_eq_false hle
          have s1' : decide ((a : Int) ≤ (la : Int)) = false := decide_eq_false (by omega)
          have hdd := HDD.out
          rw [if_pos (.inr rfl), if_pos (.inr rfl), if_pos (.inr rfl)] at hdd
          have HDD2 := Lib.hid hdd
          clear hle hdd
          go_wp2_with fail
          go_roundw
          case rel =>
            have hm9 := HM.out
            exact ⟨m', L4, e4, v, false, la, rfl, rfl, by go_num, hla, by have := HM.out; omega, HDD2.out, HR4.out, HB4'.out, HI.out.2.2.1, HI.out.2.2.2.trans (HK4.out.less fun i hi => hi.1)⟩
          case measure => have hm9 := HM.out; simp [intOf] <;> omega
        · have s1 : decide (a ≤ la) = false := decide_eq_false hle
          have s1' : decide ((a : Int) ≤ (la : Int)) = false := decide_eq_false (by omega)
          have s2 : ((k : Int) == 0) = false := beq_false_of_ne (by omega)
          have s3 : (k == 0) = false := beq_false_of_ne hk0
          have hno : ¬ (a ≤ la ∨ k = 0) := by omega
          have hdd := HDD.out
          rw [if_neg hno, if_neg hno, if_neg hno] at hdd
          obtain ⟨a', rfl⟩ : ∃ a', a = a' + 1 := ⟨a - 1, by omega⟩
          rw [Nat.add_sub_cancel] at hdd
          have ha9 : a' < 64 := by omega
          have hb9 := HB4'.out
          obtain ⟨x, hx⟩ := vec_at HI.out.2.2.1 ha9
          have c9 := hb9.cell (ints_at (k := .u16) hx)
          have f9 := hb9.free a'
          have HDD2 := Lib.hid hdd
          have HAL := Lib.hid hal
          have HKL := Lib.hid hkl
          have sv := hb9.set_ a' (.int .u16 (k : Int))
          rw [ints_set] at sv
          have HSV := Lib.hid sv
          have e9' : ((a' + 1 : Nat) : Int) - 1 = (a' : Int) := by omega
          have s4 : decide ((a' : Int) + 1 ≤ (la : Int)) = false := decide_eq_false (by omega)
          clear hle hdd hno hb9 hx sv hk0
          go_wp2_with fail
          clear s1 s1' s2 s3 s4 c9 f9
          go_roundw
          case rel =>
            have hm9 := HM.out
            have hs := HR4.out.keep (K2 := fun i => i ≠ b4) ((Keep.refl w4).setCell (p := ⟨b4, a', none⟩) HB24.out (fun h => h rfl) (.int .u16 (k : Int))) (fun e => HN4.out e.symm)
            refine ⟨m', L4, e4, v.set a' (k : Nat), f, a' + 1, rfl, rfl, by go_num, HAL.out, by omega, HDD2.out, hs, HSV.out, set_ok HI.out.2.2.1 _ _ (by have := HKL.out; omega), ?_⟩
            exact (HI.out.2.2.2.trans (HK4.out.less fun i hi => hi.1)).setCell HB24.out (fun h => h.2 rfl) _
          case measure => have hm9 := HM.out; simp [intOf] <;> omega
end Go.Proofs.Ythclgmpjmhacdaa.tg
