/- The walks of the document's hints: places, All, pack, Put, Has, Of, Ones. -/
import Derived.Test.YtgpcijpadelcfaaBlmW
namespace Go.Proofs.Ytgpcijpadelcfaa.blmW
open Go Go.RowKit Go.Par Go.Kit Go.Proofs.Ytgpcijpadelcfaa.btW

theorem infoi : (Try.prog.info? 3).isSome = true := by kernel_rfl
theorem ii : Try.prog.info? 3 = some ((Try.prog.info? 3).get infoi) := by simp
theorem iis : ((Try.prog.info? 3).get infoi).size = 1 := by kernel_rfl
theorem iiz : ((Try.prog.info? 3).get infoi).zero = some (.int .i64 0) := by kernel_rfl
theorem iib : ((Try.prog.info? 3).get infoi).bytes = 8 := by kernel_rfl

def pls (p : Nat × Nat) (k : Nat) : List Value := (List.range k).map fun i => .int .i64 (Blm.pl p (i + 1) : Int)
theorem pls_len (p : Nat × Nat) (k : Nat) : (pls p k).length = k := by simp [pls]
theorem pls_succ (p : Nat × Nat) (k : Nat) : pls p (k + 1) = pls p k ++ [.int .i64 (Blm.pl p (k + 1) : Int)] := by simp [pls, List.range_succ]
theorem pls_at (p : Nat × Nat) (k i : Nat) (h : i < k) : (pls p k)[i]? = some (.int .i64 (Blm.pl p (i + 1) : Int)) := by simp [pls, h]

set_option maxRecDepth 100000 in
set_option maxHeartbeats 1000000 in
theorem ref_places_any (a s : Nat) (ha : a < 256) (hs : s < 65536) (w : World) :
    Calls Try.prog 66 #[.agg #[.int .u8 (a : Int), .int .u16 (s : Int)]] w fun e w' => ∃ v, e = .returned v ∧ w'.ownsRow w.heap.size 3 1 v 3 (pls (a, s) 3) ∧ Grow w w' := by
  go_enter Try.func66, Try.ntmps66
  go_wp2_with fail
  obtain ⟨g, hg⟩ : ∃ g, g = w.heap.size := ⟨_, rfl⟩
  have HG := Lib.hid hg
  rw [← hg]
  clear hg
  go_loopw [3, 4] (fun v i wr => ∃ k : Nat, k ≤ 3 ∧ i = .int .u64 ((k + 1 : Nat) : Int) ∧ wr.ownsRow (g + 1) 3 1 v k (pls (a, s) k) ∧ Blk wr g 49 [.int .u8 (a : Int), .int .u16 (s : Int)] ∧ Grow w wr) (fun _ i _ => 4 - (intOf i).toNat)
  case atStart => exact ⟨0, by omega, rfl, World.ownsRow_nil _ _ _ _, Blk.new _ _ _ _ rfl HG.out, Grow.alloc _ _⟩
  case round =>
    obtain ⟨k, hk, rfl, hown, b3, hgr⟩ := hrel
    by_cases hlt : k < 3
    · have c0 := b3.cell (i := 0) rfl
      have c1 := b3.cell (i := 1) rfl
      obtain ⟨x, hx⟩ : ∃ x, x = plw a s (k + 1) := ⟨_, rfl⟩
      have hxe : ((k + 1 : Nat) : Int) * 4294967296 + (a : Int) * 65536 + (s : Int) = (x.toNat : Int) := by
        rw [hx, plw, BitVec.toNat_ofNat]; omega
      have hp : Blm.pl (a, s) (k + 1) = (Bt.mix x).toNat / 16777216 % 256 := by rw [hx]; rfl
      have hm := Lib.hid (fun W => ref_mix_any x W)
      have hps := pls_succ (a, s) k
      have hb := Blm.pl_lt (a, s) (k + 1)
      generalize Blm.pl (a, s) (k + 1) = q at hp hps hb
      generalize Bt.mix x = y at hp hm
      have HQ := Lib.hid hp
      have HP := Lib.hid hps
      have hy := y.isLt
      have HX := Lib.hid hxe
      have HGR := Lib.hid hgr
      have B3 := Lib.hid b3
      have hsz := hgr.size
      clear hp hps hx hxe b3 hgr
      go_wp2_with fail
      first | rw [HX.out] | rw [show ((k : Int) + 1) * 4294967296 + (a : Int) * 65536 + (s : Int) = (x.toNat : Int) from HX.out]
      refine (hm.out _).mono ?_
      rintro e w1 ⟨rfl, hg1⟩
      have hown' := own_grow hown hg1
      have hbz := (B3.out.grow hg1).lt
      have HG1 := Lib.hid (HGR.out.trans hg1)
      have B3' := Lib.hid (B3.out.grow hg1)
      clear hg1 hown
      go_wp2_with (at_builtin; refine append_fresh 8 Try.underlying90 ii iiz iis iib rfl rfl _ _ rfl (g + 1) _ _ _ hown' rfl rfl rfl ?_ ?_ ?_ ?_; (unfold maxLen; omega); omega; exact hbz; intro v1 w2 hown1 hgb1 hh1)
      go_roundw
      case rel =>
        refine ⟨k + 1, by omega, by go_num, ?_, (B3'.out.grow (Grow.alloc _ _)).by_ hgb1 (own_base hown'), grow_by (HG1.out.trans (Grow.alloc _ _)) hgb1 (fun k hk => by have := own_base hown' k hk; have := HG.out; omega)⟩
        · rw [HP.out, HQ.out]
          have e : (.int .i64 ((y.toNat : Int) / 16777216 % 256) : Value) = .int .i64 ((y.toNat / 16777216 % 256 : Nat) : Int) := by congr 1
          rw [← e]; exact hown1
      case measure => simp [intOf] <;> omega
    · obtain rfl : k = 3 := by omega
      go_wp2_with fail
      go_ret
      exact ⟨_, rfl, own_lower hown (by rw [HG.out]; omega), hgr⟩

theorem all_take (ws : List (BitVec 64)) (k : Nat) (x : BitVec 64) (h : ws[k]? = some x) : Blm.all (ws.take (k + 1)) = Blm.all (ws.take k) ++ Bt.bitsOf x := by
  rw [List.take_succ_eq_append_getElem (List.getElem?_eq_some_iff.1 h).1, (List.getElem?_eq_some_iff.1 h).2]
  simp [Blm.all]
theorem bools_append (a b : List Bool) : bools a ++ bools b = bools (a ++ b) := by simp [bools]
theorem one_bools (l : List Bool) : ∀ u ∈ bools l, u.oneCell' = true := by
  intro u hu
  simp only [bools, List.mem_map] at hu
  obtain ⟨x, _, rfl⟩ := hu
  rfl
set_option maxRecDepth 100000 in
set_option maxHeartbeats 1000000 in
theorem ref_all_any (ws : List (BitVec 64)) (hl : ws.length = 4) (w : World) :
    Calls Try.prog 65 #[bv ws] w fun e w' => ∃ v, e = .returned v ∧ w'.ownsRow w.heap.size 4 1 v 256 (bools (Blm.all ws)) ∧ Grow w w' := by
  have HA := Lib.hid hl
  clear hl
  obtain ⟨x0, x1, x2, x3, ra⟩ := len4 HA.out
  have RA := Lib.hid ra
  have h256 := Blm.all_len ws
  rw [HA.out] at h256
  obtain ⟨O, hO⟩ : ∃ O, O = Blm.all ws := ⟨_, rfl⟩
  rw [← hO]
  have HO := Lib.hid hO
  have HL := Lib.hid h256
  rw [ra]
  clear ra hO h256
  obtain ⟨g, hg⟩ : ∃ g, g = w.heap.size := ⟨_, rfl⟩
  have HG := Lib.hid hg
  clear hg
  go_enter Try.func65, Try.ntmps65
  go_wp2_with fail
  rw [← HG.out]
  go_loopw [3, 4] (fun v i wr => ∃ k : Nat, k ≤ 4 ∧ i = .int .i64 (k : Int) ∧ wr.ownsRow (g + 1) 4 1 v (64 * k) (bools (Blm.all (ws.take k))) ∧ Blk wr g 47 (u64s ws) ∧ Grow w wr) (fun _ i _ => 4 - (intOf i).toNat)
  case atStart => exact ⟨0, by omega, rfl, World.ownsRow_nil _ _ _ _, by rw [RA.out]; exact Blk.new _ _ _ _ rfl HG.out, Grow.alloc _ _⟩
  case round =>
    obtain ⟨k, hk, rfl, hown, b3, hgr⟩ := hrel
    by_cases hlt : k < 4
    · have hak := List.getElem?_eq_getElem (l := ws) (i := k) (by rw [HA.out]; exact hlt)
      generalize ws[k]'(by rw [HA.out]; exact hlt) = x at hak
      have hcell := b3.cell (i := k) (u := .int .u64 (x.toNat : Int)) (by simp [u64s, u64v, hak])
      have HT := Lib.hid (all_take ws k x hak)
      have hbx := Lib.hid (ref_bits_any x)
      have hxl := Bt.bitsOf_len x
      generalize Bt.bitsOf x = bx at hbx HT hxl
      have HGR := Lib.hid hgr
      have B3 := Lib.hid b3
      have HXL := Lib.hid hxl
      clear hak b3 hgr hxl
      go_wp2_with fail
      refine (hbx.out _).mono ?_
      rintro e w1 ⟨v1, rfl, hown1, hg1⟩
      obtain ⟨A1, c1, rfl, a1, a2, a3⟩ := hown1.form
      rw [HXL.out]
      rw [HXL.out] at a1 a3
      have hown' := own_grow hown hg1
      have hbz := (B3.out.grow hg1).lt
      have HG1 := Lib.hid (HGR.out.trans hg1)
      have B3' := Lib.hid (B3.out.grow hg1)
      have A3 := Lib.hid a3
      clear hg1 hown hown1 a3
      go_wp2_with (at_builtin; refine wpList_append_row rfl _ _ 83 rfl (g + 1) 4 _ (.bool false) 1 1 Try.underlying83 ib ibz ibs ibb rfl (by decide) _ _ _ rfl hown' A1 64 c1 (bools bx) rfl A3.out (one_bools _) ?_ ?_ hbz ?_; (unfold maxLen; omega); omega; intro v1 w2 hown1 hgb1 hh1)
      go_roundw
      case rel =>
        refine ⟨k + 1, by omega, by go_num, ?_, B3'.out.by_ hgb1 (own_base hown'), grow_by HG1.out hgb1 (fun k hk => by have := own_base hown' k hk; have := HG.out; omega)⟩
        rw [HT.out, ← bools_append]; exact hown1
      case measure => simp [intOf] <;> omega
    · obtain rfl : k = 4 := by omega
      rw [List.take_of_length_le (by rw [HA.out]; omega), ← HO.out] at hown
      go_wp2_with fail
      go_ret
      exact ⟨_, rfl, own_lower hown (by rw [HG.out]; omega), hgr⟩

def nums (l : List Bool) (k : Nat) : List (BitVec 64) := (List.range k).map fun i => Bt.num ((l.drop (64 * i)).take 64)
theorem nums_set (l : List Bool) (k : Nat) (hk : k < 4) : (u64s (nums l k ++ List.replicate (4 - k) 0#64)).set k (.int .u64 ((Bt.num ((l.drop (64 * k)).take 64)).toNat : Int)) = u64s (nums l (k + 1) ++ List.replicate (4 - (k + 1)) 0#64) := by
  rw [u64s_set]
  congr 1
  have h1 : (nums l k).length = k := by simp [nums]
  rw [List.set_append_right _ _ (by omega), h1, Nat.sub_self, show 4 - k = (4 - (k + 1)) + 1 by omega, List.replicate_succ, List.set_cons_zero]
  simp [nums, List.range_succ]
theorem nums_end (l : List Bool) : nums l 4 ++ List.replicate (4 - 4) 0#64 = Blm.pack l := by simp [nums, Blm.pack]
theorem pack_len (l : List Bool) : (Blm.pack l).length = 4 := by simp [Blm.pack]

set_option maxRecDepth 100000 in
set_option maxHeartbeats 1000000 in
theorem ref_pack_any (A : Option Addr) (c : Nat) (l : List Bool) (w : World) (hb : Bools w A 256 l) (hc : 256 ≤ c) (hm : c ≤ maxLen) :
    Calls Try.prog 67 #[.slice A 256 c] w fun e w' => e = .returned (bv (Blm.pack l)) ∧ Grow w w' := by
  unfold maxLen at hm
  obtain ⟨F, hF⟩ : ∃ F : Nat → List (BitVec 64), F = fun k => nums l k ++ List.replicate (4 - k) 0#64 := ⟨_, rfl⟩
  obtain ⟨O, hO⟩ : ∃ O, O = Blm.pack l := ⟨_, rfl⟩
  have F0 := Lib.hid (show F 0 = [0#64, 0#64, 0#64, 0#64] by rw [hF]; rfl)
  have F4 := Lib.hid (show F 4 = O by rw [hF, hO]; exact nums_end l)
  have FS := Lib.hid (show ∀ k, k < 4 → (u64s (F k)).set k (.int .u64 ((Bt.num ((l.drop (64 * k)).take 64)).toNat : Int)) = u64s (F (k + 1)) by rw [hF]; exact nums_set l)
  have OL := Lib.hid (show O.length = 4 by rw [hO]; exact pack_len l)
  have FL := Lib.hid (show ∀ k, k < 4 → (u64s (F k))[k]? = some (.int .u64 (((F k).getD k 0#64).toNat : Int)) by
    intro k hk
    refine u64s_at ?_
    rw [hF]; simp [nums]; omega)
  rw [← hO]
  clear hF hO
  obtain ⟨g, hg⟩ : ∃ g, g = w.heap.size := ⟨_, rfl⟩
  have HG := Lib.hid hg
  clear hg
  go_enter Try.func67, Try.ntmps67
  go_wp2_with fail
  rw [← HG.out]
  go_loopw [4] (fun i wr => ∃ k : Nat, k ≤ 4 ∧ i = .int .i64 (k : Int) ∧ Blk wr g 47 zeros4 ∧ Blk wr (g + 1) 47 (u64s (F k)) ∧ Grow w wr) (fun i _ => 4 - (intOf i).toNat)
  case atStart =>
    refine ⟨0, by omega, rfl, ?_, ?_, (Grow.alloc _ _).trans (Grow.alloc _ _)⟩
    · exact (Blk.new _ _ _ _ rfl HG.out).grow (Grow.alloc _ _)
    · rw [F0.out]
      exact Blk.new _ _ _ _ rfl (by rw [HG.out]; simp)
  case round =>
    obtain ⟨k, hk, rfl, b3, b4, hgr⟩ := hrel
    by_cases hlt : k < 4
    · have hs1 := slice_both (P := Try.prog) Try.underlying83 ib ibs A 256 c (64 * k) (64 * k + 64) (by omega) (by omega)
      rw [show ((64 * k : Nat) : Int) = 64 * (k : Int) by omega, show ((64 * k + 64 : Nat) : Int) = 64 * (k : Int) + 64 by omega, show 64 * k + 64 - 64 * k = 64 by omega] at hs1
      have hrow := (hb.grow hgr).cutm (k := 64 * k) (m := 64 * k + 64) (by omega) (by omega) hc
      rw [show 64 * k + 64 - 64 * k = 64 by omega] at hrow
      have hbl : Bools wr (cutAt A c (64 * k)) 64 ((l.drop (64 * k)).take 64) := by
        have := hrow
        unfold bools at this
        rw [← List.map_drop, ← List.map_take] at this
        exact this
      have HN := Lib.hid (ref_num_any _ _ (c - 64 * k) _ wr hbl (by unfold maxLen; omega))
      have hst := FS.out k hlt
      generalize Bt.num ((l.drop (64 * k)).take 64) = x at HN hst
      have HS := Lib.hid hst
      have f0 := b4.free k
      have hcell := b4.cell (FL.out k hlt)
      have HGR := Lib.hid hgr
      have B3 := Lib.hid b3
      have B4 := Lib.hid b4
      generalize cutAt A c (64 * k) = A2 at hs1 HN
      clear hrow hbl hst hgr b3 b4
      go_wp2_with fail
      refine HN.out.mono ?_
      rintro e w1 ⟨rfl, rfl⟩
      go_wp2_with fail
      go_roundw
      case rel =>
        refine ⟨k + 1, by omega, by go_num, B3.out.far (by dsimp only; omega) _, ?_, Grow.set_ HGR.out (by dsimp only; have := HG.out; omega) _⟩
        have := B4.out.set_ k (.int .u64 (x.toNat : Int))
        rw [HS.out] at this; exact this
      case measure => simp [intOf] <;> omega
    · obtain rfl : k = 4 := by omega
      rw [F4.out] at b4
      have hol := OL.out
      go_wp2_with (first | (refine load_blk rfl _ _ rfl (g + 1) rfl _ _ _ b4 undB rfl (by rw [infoB]; simp [u64s] <;> omega) ?_) | (refine store_blk rfl _ _ _ rfl g (u64s O) rfl rfl _ _ b3 (by rw [infoB]; simp [u64s] <;> omega) (by simp [u64s, zeros4] <;> omega) (all_u64s O) ?_))
      refine ret_blk rfl g _ (u64s O) _ rfl (b3.setRow (u64s O)) undB rfl (by rw [infoB]; simp [u64s] <;> omega) rfl ⟨rfl, Grow.setRow hgr (by have := HG.out; omega) _⟩
end Go.Proofs.Ytgpcijpadelcfaa.blmW
