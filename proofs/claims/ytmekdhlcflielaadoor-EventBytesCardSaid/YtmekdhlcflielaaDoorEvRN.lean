/- The walk of the document's Encode. -/
import Derived.Test.YtmekdhlcflielaaDoorEvR1
namespace Go.Proofs.YtmekdhlcflielaaDoor.ev
open Go Go.RowKit Go.Par Go.Kit Vi Go.Proofs.YtmekdhlcflielaaDoor.bfW
open Go.Proofs.YtmekdhlcflielaaDoor.viW

set_option maxRecDepth 100000 in
set_option maxHeartbeats 8000000 in
theorem rencode_any (w : World) (A : Option Addr) (n c : Nat) (es : List Ev) (he : Evs w A n es) (hn : n ≤ 2000) (hbl : ∀ e ∈ es, e.b.length ≤ 5000) :
    Calls Tryd.prog 10 #[.slice A n c] w fun r w' => (∃ v, r = .returned (.tuple #[v, .int .i64 ((encS es).2 : Int)]) ∧ HasB w' v (encS es).1) ∧ Grow w w' := by
  have hl := he.1
  have HE := Lib.hid he
  have HBL := Lib.hid hbl
  have HL := Lib.hid hl
  obtain ⟨es9, hes9⟩ : ∃ r, r = encS es := ⟨_, rfl⟩
  rw [← hes9]
  have HR := Lib.hid hes9
  clear he hbl hl hes9
  go_enter Tryd.func10, Tryd.ntmps10
  go_wp2_with fail
  go_loopw [4] (fun i' wr => ∃ k : Nat, k ≤ n ∧ i' = .int .i64 (k : Int) ∧ (∀ e ∈ es.take k, goodB e = true) ∧ Grow w wr) (fun i' _ => n - (intOf i').toNat)
  case atStart => exact ⟨0, by omega, rfl, (by intro e he; rw [List.take_zero] at he; cases he), Grow.refl _⟩
  case round =>
    obtain ⟨k, hk, rfl, hgd, hgr⟩ := hrel
    by_cases hlt : k < n
    · obtain ⟨b, off, e, A', n', c', rfl, hx, hc, b1, b2, b3, b4⟩ := HE.out.at_ hgr hlt
      have t1 : decide (k < n) = true := decide_eq_true hlt
      have t2 : decide ((k : Int) < (n : Int)) = true := decide_eq_true (by omega)
      obtain ⟨q, hq⟩ : ∃ q, q = goodB e := ⟨_, rfl⟩
      have hgo := rgood_any wr e A' n' c' b3
      rw [good_eq, ← hq] at hgo
      have HGO := Lib.hid hgo
      have HC := Lib.hid hc
      have HX := Lib.hid hx
      have HGD := Lib.hid hgd
      have HGR := Lib.hid hgr
      have HQ := Lib.hid hq
      have HLT := Lib.hid hlt
      clear hx hc b1 b2 b3 b4 hq hgo hgd hgr hk
      go_wp2_with (refine load_cells rfl _ _ rfl b (off + k * 8) rfl [.int .u8 (e.k : Int), .int .u8 (e.node : Int), .int .u8 (e.peer : Int), .int .i64 e.K, .int .i64 e.at_, .int .u32 (e.mask : Int), .int .u64 (e.draw : Int), .slice A' n' c'] _ HC.out undE rfl (by rw [sizeE]; rfl) ?_)
      refine HGO.out.mono ?_
      rintro r w6 ⟨rfl, hg6⟩
      have HG6 := Lib.hid (HGR.out.trans hg6)
      clear hg6 HGO
      cases q
      · have hr9 : es9 = ([], 1) := by
          rw [HR.out]
          unfold encS
          rw [if_neg (by
            intro h
            have := List.all_eq_true.1 h e (List.mem_of_getElem? HX.out)
            rw [← HQ.out] at this
            cases this)]
        subst hr9
        go_wp2_with fail
        go_ret2
        exact ⟨⟨_, rfl, HasB.nil _⟩, HG6.out⟩
      · have HGD' : Hid (∀ e ∈ es.take (k + 1), goodB e = true) := Lib.hid (by
          intro e he
          rw [List.take_add_one, HX.out] at he
          rcases List.mem_append.1 he with he | he
          · exact HGD.out e he
          · rw [Option.toList_some, List.mem_singleton] at he; subst he; exact HQ.out.symm)
        go_wp2_with fail
        go_roundw
        case rel => exact ⟨k + 1, by have := HLT.out; omega, by go_num, HGD'.out, HG6.out⟩
        case measure => have := HLT.out; simp [intOf] <;> omega
    · obtain rfl : k = n := by omega
      have htk : es.take k = es := List.take_of_length_le (by rw [HL.out]; exact Nat.le_refl _)
      rw [htk] at hgd
      have t1 : decide (k < k) = false := decide_eq_false hlt
      obtain ⟨ws, hws⟩ : ∃ W, W = wr := ⟨_, rfl⟩
      rw [← hws] at hgr ⊢
      clear hws
      have HALL := Lib.hid (List.all_eq_true.2 hgd)
      have HGD := Lib.hid hgd
      have HGR := Lib.hid hgr
      clear hgd hgr hlt hk htk
      by_cases h1 : 1024 < k
      · have t3 : decide (1024 < k) = true := decide_eq_true h1
        have t3' : decide ((1024 : Int) < (k : Int)) = true := decide_eq_true (by omega)
        have hr9 : es9 = ([], 3) := by
          rw [HR.out]
          unfold encS
          rw [if_pos HALL.out, if_pos (by rw [HL.out]; exact h1)]
        subst hr9
        clear h1
        go_wp2_with fail
        go_ret2
        exact ⟨⟨_, rfl, HasB.nil _⟩, HGR.out⟩
      · have t3 : decide (1024 < k) = false := decide_eq_false h1
        have t3' : decide ((1024 : Int) < (k : Int)) = false := decide_eq_false (by omega)
        have hr9 : es9 = (vb k ++ evbs es, 0) := by
          rw [HR.out]
          unfold encS
          rw [if_pos HALL.out, if_neg (by rw [HL.out]; exact h1), HL.out]
        subst hr9
        have HBY := Lib.hid (ref_bytes_own k (by omega) ws)
        have hk1024 : k ≤ 1024 := by omega
        clear h1 HR
        go_wp2_with fail
        refine HBY.out.mono ?_
        rintro r w2 ⟨v2, rfl, ho2, hg2⟩
        have hos : OneS ws w2 v2 (vb k ++ evbs (es.take 0)) := by
          rw [show vb k ++ evbs (es.take 0) = vb k by simp [evbs]]
          exact ⟨ho2, hg2⟩
        have HOS := Lib.hid hos
        clear ho2 hg2 hos HBY
        go_wp2_with fail
        go_loopw [5, 6] (fun o' i' wx => ∃ (m : Nat) (A5 : Option Addr) (l5 c5 : Nat), m ≤ k ∧ i' = .int .i64 (m : Int) ∧ o' = .slice A5 l5 c5 ∧ OneS ws wx (.slice A5 l5 c5) (vb k ++ evbs (es.take m))) (fun _ i' _ => k - (intOf i').toNat)
        case atStart =>
          obtain ⟨A5, c5, h5, -⟩ := own_form HOS.out.1
          have h9 := HOS.out
          rw [h5] at h9
          exact ⟨0, A5, _, c5, by omega, rfl, h5, h9⟩
        case round =>
          clear HOS
          obtain ⟨m, A5, l5, c5, hmk, rfl, rfl, hos⟩ := hrel
          by_cases hlt : m < k
          · obtain ⟨b, off, e, A', n', c', rfl, hx, hc, b1, b2, b3, b4⟩ := HE.out.at_ (HGR.out.trans hos.2) hlt
            have t1 : decide (m < k) = true := decide_eq_true hlt
            have t2 : decide ((m : Int) < (k : Int)) = true := decide_eq_true (by omega)
            have hel : e.b.length ≤ 5000 := HBL.out e (List.mem_of_getElem? hx)
            have HON := Lib.hid (rone_any wr e b4 (HGD.out e (List.mem_of_getElem? hx)) A' n' c' b3 (by omega))
            have HC := Lib.hid hc
            have HX := Lib.hid hx
            have HOS := Lib.hid hos
            have HLT := Lib.hid hlt
            have HEL : Hid ((evb e).length ≤ 5063 ∧ (vb k ++ evbs (es.take m)).length ≤ 5200000) := Lib.hid ⟨by have := evb_len e; omega, by
              have h1 := vb_len_le k
              have h2 := evbs_len (es.take m) fun x hx => HBL.out x (List.mem_of_mem_take hx)
              have h3 : (es.take m).length ≤ 1024 := by rw [List.length_take]; omega
              rw [List.length_append]
              omega⟩
            clear hx hc b1 b2 b3 b4 hel hos hmk
            go_wp2_with (refine load_cells rfl _ _ rfl b (off + m * 8) rfl [.int .u8 (e.k : Int), .int .u8 (e.node : Int), .int .u8 (e.peer : Int), .int .i64 e.K, .int .i64 e.at_, .int .u32 (e.mask : Int), .int .u64 (e.draw : Int), .slice A' n' c'] _ HC.out undE rfl (by rw [sizeE]; rfl) ?_)
            refine HON.out.mono ?_
            rintro r w7 ⟨v7, rfl, ho7, hg7⟩
            obtain ⟨B7, d7, rfl, hB7⟩ := own_slB ho7
            have HB7 := Lib.hid hB7
            have HOS7 := Lib.hid (HOS.out.grow hg7)
            have HV : Hid (∀ w1 v1, w1.ownsRow ws.heap.size 5 1 v1 ((vb k ++ evbs (es.take m)).length + (evb e).length) (u8s ((vb k ++ evbs (es.take m)) ++ evb e)) → w7.grownBy w1 (Value.slice A5 l5 c5).ownBlock → ∃ A c, v1 = .slice A (vb k ++ evbs (es.take (m + 1))).length c ∧ OneS ws w1 (.slice A (vb k ++ evbs (es.take (m + 1))).length c) (vb k ++ evbs (es.take (m + 1)))) := Lib.hid fun w1 v1 h1 h2 =>
              HOS7.out.next h1 h2 rfl (by rw [evbs_take HX.out, List.append_assoc])
            obtain ⟨Z, hZ⟩ : ∃ Z, Z = vb k ++ evbs (es.take m) := ⟨_, rfl⟩
            obtain ⟨Z', hZ'⟩ : ∃ Z, Z = vb k ++ evbs (es.take (m + 1)) := ⟨_, rfl⟩
            obtain ⟨E, hE⟩ : ∃ E, E = evb e := ⟨_, rfl⟩
            rw [← hZ, ← hZ', ← hE] at HV
            rw [← hZ] at HOS7
            rw [← hE] at HB7 ⊢
            rw [← hE, ← hZ] at HEL
            have HZ' := Lib.hid hZ'
            clear ho7 hg7 hB7 HON HOS hZ hZ' hE
            go_wp2_with (at_builtin; refine append_bytes Tryd.underlying23 i8 i8z i8s i8b rfl _ _ rfl ws.heap.size _ Z.length Z HOS7.out.1 rfl B7 E.length d7 E HB7.out rfl (by have := HEL.out; omega) HOS7.out.2.size ?_; intro v1 w1 ha hb _; obtain ⟨A1, c1, rfl, hs⟩ := HV.out _ _ ha hb; have HS := Lib.hid hs; clear ha hb hs)
            go_roundw
            case rel => exact ⟨m + 1, A1, _, c1, by have := HLT.out; omega, by go_num, rfl, by rw [← HZ'.out]; exact HS.out⟩
            case measure => have := HLT.out; simp [intOf] <;> omega
          · obtain rfl : m = k := by omega
            have htk : es.take m = es := List.take_of_length_le (by rw [HL.out]; exact Nat.le_refl _)
            rw [htk] at hos
            have t1 : decide (m < m) = false := decide_eq_false hlt
            obtain ⟨Z, hZ⟩ : ∃ Z, Z = vb m ++ evbs es := ⟨_, rfl⟩
            rw [← hZ] at hos
            obtain ⟨A9, c9, e9, a1, a2, a3⟩ := own_form hos.1
            rw [Nat.mul_one] at a3
            injection e9 with e1 e2 e3
            subst e1; subst e2; subst e3
            have HEND : Hid (HasB wr (.slice A5 Z.length c5) (vb m ++ evbs es) ∧ Grow w wr) := Lib.hid ⟨by rw [← hZ]; exact ⟨A5, c5, rfl, a1, a2, a3⟩, HGR.out.trans hos.2⟩
            clear hos hlt hmk htk hZ a1 a2 a3
            go_wp2_with fail
            go_ret2
            exact ⟨⟨_, rfl, HEND.out.1⟩, HEND.out.2⟩
end Go.Proofs.YtmekdhlcflielaaDoor.ev
