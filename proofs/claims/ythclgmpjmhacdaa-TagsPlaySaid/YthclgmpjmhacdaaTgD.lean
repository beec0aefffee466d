/- Tags: Decode. -/
import Derived.Test.YthclgmpjmhacdaaTgE
import Derived.Test.YthclgmpjmhacdaaTgU
import Derived.Sort.Walk0
namespace Go.Proofs.Ythclgmpjmhacdaa.tg
open Go Go.RowKit Go.Par Go.Kit Vi Go.Proofs.Ythclgmpjmhacdaa.bfW
open Go.Proofs.Ythclgmpjmhacdaa.viW hiding i8 i8s i8z i8b info8

/-- one tag more -/
def putT (T : List Tag) (f : Bool) (last s : List UInt8) (v : List Int) (ok : Bool) : List Tag × Bool :=
  if (f && (ok && decide (last < s))) = true then (if setE T s v = 0 then setT T s v else T, decide (setE T s v = 0)) else (T, false)
def decTs : Nat → List UInt8 → Nat → List Tag → Bool → List UInt8 → (List Tag × Bool) × List UInt8 × Nat
  | 0, L, e, T, f, _ => ((T, f), L, e)
  | m + 1, L, e, T, f, last => if e ≠ 0 then ((T, f), L, e) else
    decTs m (rvec (rtext L 0 16).2.1 (rtext L 0 16).2.2).2.1 (rvec (rtext L 0 16).2.1 (rtext L 0 16).2.2).2.2
      (putT T f last (rtext L 0 16).1 (rvec (rtext L 0 16).2.1 (rtext L 0 16).2.2).1.1 (rvec (rtext L 0 16).2.1 (rtext L 0 16).2.2).1.2).1
      (putT T f last (rtext L 0 16).1 (rvec (rtext L 0 16).2.1 (rtext L 0 16).2.2).1.1 (rvec (rtext L 0 16).2.1 (rtext L 0 16).2.2).1.2).2 (rtext L 0 16).1
theorem decTs_stop {m e : Nat} {L : List UInt8} {T : List Tag} {f : Bool} {la : List UInt8} (h : m = 0 ∨ e ≠ 0) : decTs m L e T f la = ((T, f), L, e) := by
  cases m with
  | zero => rfl
  | succ m =>
    unfold decTs
    rw [if_pos (by rcases h with h | h; · omega
                   · exact h)]
theorem decTs_step {m : Nat} {L L1 L2 : List UInt8} {T : List Tag} {f ok : Bool} {la s : List UInt8} {v : List Int} {e1 e2 : Nat} (h1 : rtext L 0 16 = (s, L1, e1)) (h2 : rvec L1 e1 = ((v, ok), L2, e2)) :
    decTs (m + 1) L 0 T f la = decTs m L2 e2 (putT T f la s v ok).1 (putT T f la s v ok).2 s := by
  rw [decTs, if_neg (fun h => h rfl), h1]
  dsimp only
  rw [h2]
theorem rtext_len (L : List UInt8) (e : Nat) : (rtext L e 16).1.length ≤ 16 := by
  unfold rtext
  split
  · simp
  · split
    · simp
    · split
      · simp
      · split
        · simp
        · dsimp only
          rw [List.length_take]
          omega
def decT (L : List UInt8) : (List Tag × Bool) × List UInt8 × Nat := decTs (rnum L 0 32).1 (rnum L 0 32).2.1 (rnum L 0 32).2.2 [] true []
def errT (L : List UInt8) : Nat := if rend (decT L).2.1 (decT L).2.2 ≠ 0 then rend (decT L).2.1 (decT L).2.2 else if (decT L).1.2 then 0 else 4
section
variable {w w' : World} {B g bs bn n m : Nat} {T : List Tag}
theorem TagI.keep_ne (h : TagI w B g bs bn n T) {r : Nat} {L : List UInt8} {e B' : Nat} {K : Nat → Prop} (hr : Rdr TR w B' K r L e) {B2 : Nat} (hk : Keep B2 (fun i => i ≠ r) w w') : TagI w' B g bs bn n T := by
  have h1 : g ≠ r := rdr_ne hr h.bx (by decide)
  obtain ⟨A, n', c, hb, -⟩ := hr
  exact ⟨hk.blk h.bx h1, h.mt.same (hk.2 bs (fun e => h.mt.not_blk hb e.symm) h.mt.lt), h.mn.same (hk.2 bn (fun e => h.mn.not_blk hb e.symm) h.mn.lt), h.gB, h.sB, h.nB, h.ne, h.ok⟩
theorem TagI.lower (h : TagI w B g bs bn n T) {B' : Nat} (hB : B' ≤ B) : TagI w B' g bs bn n T := ⟨h.bx, h.mt, h.mn, Nat.le_trans hB h.gB, Nat.le_trans hB h.sB, Nat.le_trans hB h.nB, h.ne, h.ok⟩
end
def DecI (W w : World) (g gT bs bn n m : Nat) (T : List Tag) (L : List UInt8) (e : Nat) : Prop :=
  Rdr TR w W.heap.size (fun i => i ≠ g) g L e ∧ TagI w W.heap.size gT bs bn n T ∧ n + 7 * m ≤ 7 * 32 ∧ Grow W w
set_option maxRecDepth 100000 in
set_option maxHeartbeats 4000000 in
theorem decode_any (w : World) (A : Option Addr) (n c : Nat) (L : List UInt8) (hb : Bytes w A n L) (hc : n ≤ c) (hm : c ≤ maxLen) (hA : 0 < n → ∀ ad, A = some ad → ad.block < w.heap.size) :
    Calls Try.prog 7 #[.slice A n c] w fun r w' => (if errT L = 0 then ∃ gT bs bn n', r = .returned (.tuple #[.pointer (some ⟨gT, 0, none⟩), .int .i64 0]) ∧ n' ≤ 1000 ∧ TagI w' w.heap.size gT bs bn n' (decT L).1.1 else r = .returned (.tuple #[.pointer none, .int .i64 (errT L : Int)])) ∧ Grow w w' := by
  have hop := open_any w w.heap.size (fun i => i ≠ w.heap.size ∧ i < w.heap.size) (Nat.le_refl _) (fun k h => h.2) A n c L hb hc hm hA
  obtain ⟨g, hg⟩ : ∃ g, g = w.heap.size := ⟨_, rfl⟩
  have hop : Calls Try.prog 26 #[.slice A n c] w fun e w' => e = .returned (.pointer (some ⟨g, 0, none⟩)) ∧ Rdr TR w' w.heap.size (fun i => i ≠ w.heap.size ∧ i < w.heap.size) g L 0 ∧ Grow w w' := by rw [hg]; exact hop
  obtain ⟨⟨M, L1, e1⟩, hr1⟩ : ∃ r, r = rnum L 0 32 := ⟨_, rfl⟩
  have hM : M ≤ 32 := by have := rnum_le L 0 32; rw [← hr1] at this; exact this
  obtain ⟨⟨⟨T9, f9⟩, L9, e9⟩, hres⟩ : ∃ r, r = decT L := ⟨_, rfl⟩
  have hres2 : decTs M L1 e1 [] true [] = ((T9, f9), L9, e9) := by rw [hres]; unfold decT; rw [← hr1]
  obtain ⟨er, her⟩ : ∃ er, er = errT L := ⟨_, rfl⟩
  have her2 : er = if rend L9 e9 ≠ 0 then rend L9 e9 else if f9 then 0 else 4 := by rw [her]; unfold errT; rw [← hres]
  rw [← hres, ← her]
  have HNUM : Hid (∀ wz, Rdr TR wz w.heap.size (fun i => i ≠ g) g L 0 → Calls Try.prog 27 #[.pointer (some ⟨g, 0, none⟩), .int .u64 32] wz fun r w' => r = .returned (.int .u64 (M : Int)) ∧ Rdr TR w' w.heap.size (fun i => i ≠ g) g L1 e1 ∧ Keep w.heap.size (fun i => i ≠ g) wz w') := Lib.hid fun wz hz => by
    have := num_any wz w.heap.size (fun i => i ≠ g) g L 0 hz 32
    rw [← hr1] at this
    exact this
  have HOP := Lib.hid hop
  have HRES := Lib.hid hres2
  have HER := Lib.hid her2
  have HG := Lib.hid hg
  clear hop hg hr1 hres hres2 her her2 hb hc hm hA
  dsimp only
  go_enter Try.func7, Try.ntmps7
  go_wp2_with fail
  refine HOP.out.mono ?_
  rintro r w1 ⟨rfl, hr1, hg1⟩
  have HR1 := Lib.hid (hr1.to (K2 := fun i => i ≠ g) (fun h => h rfl))
  have HG1 := Lib.hid hg1
  clear hr1 hg1 HOP
  go_wp2_with fail
  refine (new_any w1).mono ?_
  rintro r w2 ⟨gT, bs, bn, rfl, hT, hg2⟩
  have HR2 := Lib.hid (HR1.out.grow hg2)
  have HT2 := Lib.hid (hT.lower HG1.out.size)
  have HG2 := Lib.hid (HG1.out.trans hg2)
  clear hT hg2 HR1
  go_wp2_with fail
  refine (HNUM.out w2 HR2.out).mono ?_
  rintro r w3 ⟨rfl, hr3, hk3⟩
  have hdi : DecI w w3 g gT bs bn 0 M [] L1 e1 := ⟨hr3, HT2.out.keep_ne HR2.out hk3, by omega, hk3.grow HG2.out rfl⟩
  have HDI := Lib.hid hdi
  clear hr3 hk3 hdi HNUM
  go_wp2_with fail
  go_loopw [6, 7, 8] (fun f' a' m' wr => ∃ (m nn : Nat) (Li : List UInt8) (ei : Nat) (T : List Tag) (f : Bool) (la : List UInt8), f' = .bool f ∧ a' = .string (str la) ∧ m' = .int .u64 (m : Int) ∧ m ≤ 32 ∧ decTs m Li ei T f la = ((T9, f9), L9, e9) ∧ DecI w wr g gT bs bn nn m T Li ei) (fun _ _ m' _ => (intOf m').toNat)
  case atStart => exact ⟨M, 0, L1, e1, [], true, [], rfl, rfl, rfl, hM, HRES.out, HDI.out⟩
  case round =>
    clear HDI
    obtain ⟨m, nn, Li, ei, T, f, la, rfl, rfl, rfl, hm, hd, hI⟩ := hrel
    have HERR := Lib.hid (err_any wr _ _ g Li ei hI.1)
    have HI := Lib.hid hI
    have HD := Lib.hid hd
    have HM := Lib.hid hm
    clear hI hd
    by_cases hst : m = 0 ∨ ei ≠ 0
    · have hd := HD.out
      rw [decTs_stop hst] at hd
      injection hd with h1 h2
      injection h1 with h1 h4
      injection h2 with h2 h3
      subst h1 h4 h2 h3
      have HEN0 := end_any wr _ _ g Li ei HI.out.1
      obtain ⟨z, hz⟩ : ∃ z, z = rend Li ei := ⟨_, rfl⟩
      rw [← hz] at HEN0 HER
      have HEN := Lib.hid HEN0
      have HTR := Lib.hid HI.out.2.1
      have HGR := Lib.hid HI.out.2.2.2
      have HNN : Hid (nn ≤ 1000) := Lib.hid (by have := HI.out.2.2.1; omega)
      clear HEN0 hz
      by_cases hm0 : 0 < m
      · have t1 : decide (0 < m) = true := decide_eq_true hm0
        have t1' : decide ((0 : Int) < (m : Int)) = true := decide_eq_true (by omega)
        have s1 : ((ei : Int) == 0) = false := beq_false_of_ne (by omega)
        have s2 : (ei == 0) = false := beq_false_of_ne (by omega)
        clear hst hm0
        go_wp2_with (go_at_call 28; refine HERR.out.mono ?_; rintro r w' ⟨rfl, rfl⟩)
        refine HEN.out.mono ?_
        rintro r w' ⟨rfl, rfl⟩
        by_cases hz : z = 0
        · subst hz
          cases f
          · have he0 : er = 4 := HER.out
            subst he0
            go_wp2_with fail
            go_ret2
            exact ⟨rfl, HGR.out⟩
          · have he0 : er = 0 := HER.out
            subst he0
            go_wp2_with fail
            go_ret2
            exact ⟨⟨gT, rfl, bs, bn, nn, HNN.out, HTR.out⟩, HGR.out⟩
        · have s3 : ((z : Int) == 0) = false := beq_false_of_ne (by omega)
          have s3' : (z == 0) = false := beq_false_of_ne hz
          have he0 : er = z := HER.out.trans (if_pos hz)
          have HZ := Lib.hid hz
          subst he0
          clear hz
          go_wp2_with fail
          go_ret2
          exact ⟨rfl, HGR.out⟩
      · have t1 : decide (0 < m) = false := decide_eq_false hm0
        have t1' : decide ((0 : Int) < (m : Int)) = false := decide_eq_false (by omega)
        clear hst hm0
        go_wp2_with (go_at_call 28; refine HERR.out.mono ?_; rintro r w' ⟨rfl, rfl⟩)
        refine HEN.out.mono ?_
        rintro r w' ⟨rfl, rfl⟩
        by_cases hz : z = 0
        · subst hz
          cases f
          · have he0 : er = 4 := HER.out
            subst he0
            go_wp2_with fail
            go_ret2
            exact ⟨rfl, HGR.out⟩
          · have he0 : er = 0 := HER.out
            subst he0
            go_wp2_with fail
            go_ret2
            exact ⟨⟨gT, rfl, bs, bn, nn, HNN.out, HTR.out⟩, HGR.out⟩
        · have s3 : ((z : Int) == 0) = false := beq_false_of_ne (by omega)
          have s3' : (z == 0) = false := beq_false_of_ne hz
          have he0 : er = z := HER.out.trans (if_pos hz)
          have HZ := Lib.hid hz
          subst he0
          clear hz
          go_wp2_with fail
          go_ret2
          exact ⟨rfl, HGR.out⟩
    · obtain rfl : ei = 0 := by omega
      obtain ⟨m', rfl⟩ : ∃ m', m = m' + 1 := ⟨m - 1, by omega⟩
      have t1 : decide (0 < m' + 1) = true := decide_eq_true (by omega)
      have t1' : decide ((0 : Int) < ((m' + 1 : Nat) : Int)) = true := decide_eq_true (by omega)
      have hsl := rtext_len Li 0
      obtain ⟨⟨s, L3, e3⟩, hra⟩ : ∃ r, r = rtext Li 0 16 := ⟨_, rfl⟩
      rw [← hra] at hsl
      have hvo := rvec_ok L3 e3
      obtain ⟨⟨⟨v, ok⟩, L4, e4⟩, hrk⟩ : ∃ r, r = rvec L3 e3 := ⟨_, rfl⟩
      rw [← hrk] at hvo
      dsimp only at hsl hvo
      have htx := text_any wr w.heap.size (fun i => i ≠ g) g Li 0 HI.out.1 16 (by decide)
      rw [← hra] at htx
      dsimp only at htx
      have HTX := Lib.hid htx
      have HVC : Hid (∀ wz, Rdr TR wz w.heap.size (fun i => i ≠ g) g L3 e3 → Calls Try.prog 30 #[.pointer (some ⟨g, 0, none⟩)] wz fun r w' => r = .returned (.tuple #[vv v, .bool ok]) ∧ Rdr TR w' w.heap.size (fun i => i ≠ g) g L4 e4 ∧ Keep w.heap.size (fun i => i ≠ g) wz w') := Lib.hid fun wz hz => by
        have := vector_any wz w.heap.size g L3 e3 hz
        rw [← hrk] at this
        exact this
      have HDD : Hid (decTs m' L4 e4 (putT T f la s v ok).1 (putT T f la s v ok).2 s = ((T9, f9), L9, e9)) := Lib.hid (by rw [← HD.out, decTs_step hra.symm hrk.symm])
      have HSL := Lib.hid hsl
      have HVO := Lib.hid hvo
      clear hst hra hrk htx hsl hvo
      go_wp2_with fail
      refine HERR.out.mono ?_
      rintro r w' ⟨rfl, rfl⟩
      go_wp2_with fail
      refine HTX.out.mono ?_
      rintro r w4 ⟨rfl, hr4, hk4⟩
      have HVC4 := Lib.hid (HVC.out w4 hr4)
      have HR4 := Lib.hid hr4
      have HK4 := Lib.hid hk4
      have HT4 := Lib.hid (HI.out.2.1.keep_ne HI.out.1 hk4)
      clear hr4 hk4 HVC HTX HERR
      go_wp2_with fail
      refine HVC4.out.mono ?_
      rintro r w5 ⟨rfl, hr5, hk5⟩
      have hio := ints_ok HVO.out
      unfold vv
      obtain ⟨cs, hcs⟩ : ∃ cs, cs = ints .u16 v := ⟨_, rfl⟩
      rw [← hcs] at hio ⊢
      have HIO := Lib.hid hio
      have HCS := Lib.hid hcs
      have HR5 := Lib.hid hr5
      have HT5 := Lib.hid (HT4.out.keep_ne HR4.out hk5)
      have HK5 := Lib.hid hk5
      clear hr5 hk5 hio hcs HVC4
      try dsimp only
      repeat (first | with_reducible (refine wp_region_cut (k := 8) ?_) | (refine store_blk rfl _ _ _ rfl w5.heap.size cs rfl rfl TV _ (Blk.new _ _ _ _ rfl rfl) (by rw [sizeV, HIO.out.1]) HIO.out.1.symm HIO.out.2 ?_) | go_values | go_guarded | go_step | go_upon | go_back)
      unfold Cut
      refine wp_named ?_
      intro W6 hW6
      have hg6 : Grow w5 W6 := by rw [hW6]; exact Grow.setRow (Grow.alloc _ _) (Nat.le_refl _) _
      have hb6 : Blk W6 w5.heap.size TV cs := by rw [hW6]; exact (Blk.new _ _ _ _ rfl rfl).setRow _
      have HG6 := Lib.hid hg6
      have HB6 := Lib.hid hb6
      clear hW6 hg6 hb6
      have HR6 := Lib.hid (HR5.out.grow HG6.out)
      have HT6 := Lib.hid (HT5.out.grow HG6.out)
      have HGW6 := Lib.hid (((HK4.out.trans HK5.out).grow HI.out.2.2.2 rfl).trans HG6.out)
      have hls : (str s).toList = s := ByteArray.toList_mk _
      have hll : (str la).toList = la := ByteArray.toList_mk _
      cases f
      · skip
        go_wp2_with fail
        go_roundw
        case rel =>
          have hm9 := HM.out
          have hdd := HDD.out
          rw [show putT T false la s v ok = (T, false) from rfl] at hdd
          exact ⟨m', nn, L4, e4, T, false, s, rfl, rfl, by go_num, by omega, hdd, HR6.out, HT6.out, by have := HI.out.2.2.1; omega, HGW6.out⟩
        case measure => have hm9 := HM.out; simp [intOf] <;> omega
      · cases ok
        · skip
          go_wp2_with fail
          go_roundw
          case rel =>
            have hm9 := HM.out
            have hdd := HDD.out
            rw [show putT T true la s v false = (T, false) from rfl] at hdd
            exact ⟨m', nn, L4, e4, T, false, s, rfl, rfl, by go_num, by omega, hdd, HR6.out, HT6.out, by have := HI.out.2.2.1; omega, HGW6.out⟩
          case measure => have hm9 := HM.out; simp [intOf] <;> omega
        · by_cases hlt : la < s
          · have q1 : Op.bytesLess (str s).toList (str la).toList = false := by rw [hls, hll, bytesLess_eq]; exact decide_eq_false (fun h => List.lt_irrefl _ (List.lt_trans h hlt))
            have q2 : ((str s).toList == (str la).toList) = false := by rw [hls, hll]; exact beq_false_of_ne (fun e => by rw [e] at hlt; exact List.lt_irrefl _ hlt)
            have hset := set_any HT6.out (by have := HI.out.2.2.1; omega) s (by have := HSL.out; unfold maxLen; omega) v HVO.out
            unfold vv at hset
            rw [← HCS.out] at hset
            obtain ⟨se, hse⟩ : ∃ se, se = setE T s v := ⟨_, rfl⟩
            rw [← hse] at hset
            have hpt : putT T true la s v true = (if se = 0 then setT T s v else T, decide (se = 0)) := by unfold putT; rw [if_pos (by simpa using hlt), ← hse]
            have HSET := Lib.hid hset
            have HPT := Lib.hid hpt
            have hb6 := HB6.out
            clear hlt hls hll hset hse hpt
            go_wp2_with (refine load_blk rfl _ _ rfl w5.heap.size rfl _ _ _ hb6 undV rfl (by rw [sizeV, HIO.out.1]) ?_)
            refine HSET.out.mono ?_
            rintro r w7 ⟨rfl, hT7, hk7⟩
            have hne : Kt bs bn g := by
              obtain ⟨A9, n9, c9, hb9, -⟩ := HR6.out
              exact ⟨HT6.out.mt.not_blk hb9, HT6.out.mn.not_blk hb9⟩
            have HR7 := Lib.hid (HR6.out.keep hk7 hne)
            have HT7 := Lib.hid hT7
            have HG7 := Lib.hid (hk7.grow HGW6.out rfl)
            clear hT7 hk7 hne HSET hb6 q1 q2
            by_cases hz : se = 0
            · subst hz
              go_wp2_with fail
              go_roundw
              case rel =>
                have hm9 := HM.out
                have hdd := HDD.out
                rw [HPT.out] at hdd
                exact ⟨m', nn + 7, L4, e4, _, true, s, rfl, rfl, by go_num, by omega, hdd, HR7.out, HT7.out, by have := HI.out.2.2.1; omega, HG7.out⟩
              case measure => have hm9 := HM.out; simp [intOf] <;> omega
            · have s1 : ((se : Int) == 0) = false := beq_false_of_ne (by omega)
              have s2 : (se == 0) = false := beq_false_of_ne hz
              have HZ := Lib.hid hz
              clear hz
              go_wp2_with fail
              go_roundw
              case rel =>
                have hm9 := HM.out
                have hdd := HDD.out
                rw [HPT.out, decide_eq_false HZ.out] at hdd
                exact ⟨m', nn + 7, L4, e4, _, false, s, rfl, rfl, by go_num, by omega, hdd, HR7.out, HT7.out, by have := HI.out.2.2.1; omega, HG7.out⟩
              case measure => have hm9 := HM.out; simp [intOf] <;> omega
          · have hpt : putT T true la s v true = (T, false) := by unfold putT; rw [if_neg (by simpa using hlt)]
            by_cases hee : s = la
            · have q2 : ((str s).toList == (str la).toList) = true := by rw [hls, hll, hee]; exact beq_self_eq_true _
              have q1 : Op.bytesLess (str s).toList (str la).toList = false := by rw [hls, hll, bytesLess_eq, hee]; exact decide_eq_false (List.lt_irrefl _)
              have HPT := Lib.hid hpt
              clear hlt hls hll hpt hee
              go_wp2_with fail
              go_roundw
              case rel =>
                have hm9 := HM.out
                have hdd := HDD.out
                rw [show putT T true la s v true = (T, false) from HPT.out] at hdd
                exact ⟨m', nn, L4, e4, T, false, s, rfl, rfl, by go_num, by omega, hdd, HR6.out, HT6.out, by have := HI.out.2.2.1; omega, HGW6.out⟩
              case measure => have hm9 := HM.out; simp [intOf] <;> omega
            · have q1 : Op.bytesLess (str s).toList (str la).toList = true := by rw [hls, hll, bytesLess_eq]; exact decide_eq_true (lt_of_not hlt (fun e => hee e.symm))
              have HPT := Lib.hid hpt
              clear hlt hls hll hpt hee
              go_wp2_with fail
              go_roundw
              case rel =>
                have hm9 := HM.out
                have hdd := HDD.out
                rw [show putT T true la s v true = (T, false) from HPT.out] at hdd
                exact ⟨m', nn, L4, e4, T, false, s, rfl, rfl, by go_num, by omega, hdd, HR6.out, HT6.out, by have := HI.out.2.2.1; omega, HGW6.out⟩
              case measure => have hm9 := HM.out; simp [intOf] <;> omega
end Go.Proofs.Ythclgmpjmhacdaa.tg
