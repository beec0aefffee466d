/- The statement VarintBack: the walk. -/
import Derived.Test.YtfmaicjgndbffaaViR3
namespace Go.Proofs.Ytfmaicjgndbffaa.viL
open Go Go.RowKit Go.Par Go.Kit Vi viW

/-- a slice of nothing, with no room -/
def Empty : Value → World → Prop := fun v _ => ∃ g, v = .slice (some ⟨g, 0, none⟩) 0 0
theorem Empty.mono {R : World → World → Prop} : Mono R Empty := fun _ _ _ h _ => h
/-- append onto a slice of nothing: a new row -/
theorem wpList_append_empty {P : Program} {ops : Array Oper} {rest : List Oper} {o : Oper} {a : Act} {w : World} {Q : Exit → Act → World → Prop} (hgd : o.guard = none) (s x : Operand) (t : TypeId)
    (ho : o.op = .call { callee := .builtin .append, args := #[s, x], argTypes := #[t, t] })
    (base : Nat) (e : TypeId) (i : TypeInfo) (z : Value) (bytes : Nat) (ht : P.underlying t = some (.slice e)) (hi : P.info? e = some i) (hz : i.zero = some z)
    (hsize : i.size = 1) (hby : i.bytes = bytes) (hzs : z.cells.size = 1) (g : Nat) (hs : a.eval s = .slice (some ⟨g, 0, none⟩) 0 0)
    (A : Option Addr) (m c : Nat) (news : List Value) (hx : a.eval x = .slice A m c) (hr : Row w A m news) (hm : 0 < m)
    (h63 : m ≤ maxLen) (hbytes : m * bytes ≤ 140737488355328) (hbase : base ≤ w.heap.size)
    (h : ∀ v' w', Grow w w' → OwnAt base m e news v' w' → wpList P ops Q rest (a.put o.dst v') w') : wpList P ops Q (o :: rest) a w := by
  refine wpList_plain hgd fun K hK => ?_
  obtain ⟨b2, off, rfl, hc⟩ := hr.2 (by omega)
  have hcells : ∀ j u, news[j]? = some u → w.cell? ((⟨b2, off, none⟩ : Addr).add j) = some u := by
    intro j u hu
    have := hc j u hu
    by_cases hj : j = 0
    · subst hj; simpa [Addr.add] using this
    · simpa [Addr.add, hj] using this
  obtain ⟨v', w', hrun, h2, h3⟩ := run_append_arg_grows (P := P) w t o.type e i z 1 bytes ht hi hz hsize hby hzs (by decide) ⟨g, 0, none⟩ 0 0 [] rfl (fun j u hu => by simp at hu) ⟨b2, off, none⟩ m c news (by rw [hr.1, Nat.mul_one]) hcells (by omega) (by omega) (by rw [Nat.zero_add]; exact hbytes)
  rw [Nat.zero_add, List.nil_append] at h2
  have h4 := own_lower h2 hbase
  unfold Oper.wp execOp
  simp only [ho, resolve, invoke, builtin, Sem.run_bind, Sem.run_pure, Result.andThen_ok, List.map_toArray, List.map_cons, List.map_nil, hs, hx, hrun]
  refine hK _ _ (h v' w' (Below.grown (Below.refl _ w) h3 (Nat.le_refl _) (fun k hk => by cases hk)) ?_)
  rcases h2.2 with ⟨h5, _⟩ | ⟨g', cap', _, hv, _⟩
  · omega
  · exact ⟨g', cap', hv, h4⟩

set_option maxRecDepth 100000 in
set_option maxHeartbeats 1000000 in
theorem back_walk (n : Nat) (hn : n < 18446744073709551616) (A : Option Addr) (m c : Nat) (l : List UInt8) (x : Int) (w : World) (hb : Bytes w A m l) (hc : m ≤ c) (hm : c ≤ maxLen) (hx0 : 0 ≤ x) (hx1 : x ≤ 255) :
    Calls Try.prog 5 #[.int .u64 (n : Int), .slice A m c, .int .u8 x] w fun e w' => e = .returned (.bool true) ∧ Grow w w' := by
  unfold maxLen at hm
  obtain ⟨k, hk⟩ : ∃ k, k = min m 100 := ⟨_, rfl⟩
  have hmin := fun ts t W => run_min2 (P := Try.prog) ts t m 100 k hk W
  simp only [show ((100 : Nat) : Int) = 100 from rfl] at hmin
  have hs1 := slice_hi (P := Try.prog) Try.underlying23 i8 A m c k (by omega)
  have hbk := hb.take (k := k) (by omega)
  have hk100 : k ≤ 100 := by omega
  have h2 := Lib.hid (bytes_any n hn)
  have h10 := vb_len_le n
  have hp := vb_pos n
  have hr0 := Lib.hid (rd_vb0 n hn)
  have hl0 := Lib.hid (lead_vb n hn)
  have hcut := Lib.hid (fun j hj => rd_cut n j hn hj)
  generalize vb n = B at h2 h10 hp hr0 hl0 hcut
  clear hk hb
  go_enter Try.func5, Try.ntmps5
  go_wp2_with fail
  refine (h2.out _).mono ?_
  rintro e w1 ⟨A1, c1, rfl, a1, a2, a3, a4⟩
  have t0 : ((B.length : Int) == 0) = false := beq_false_of_ne (by omega)
  have HG := Lib.hid a4
  have hbk1 := Lib.hid (hbk.grow a4)
  have hb1 := Lib.hid a3
  obtain ⟨base, hbase⟩ : ∃ base, base = w1.heap.size := ⟨_, rfl⟩
  have HB := Lib.hid hbase
  clear a3 a4 hbk hbase
  go_wp2_with fail
  apply (fun (v1 v3 v4 v5 v6 v7 v9 v10 v11 v12 v13 v14 v15 v16 : Value) mono obl tail => wp_region_par (R := Room base B.length) (Φ := phi [(Empty), veq v1, (OwnAt base B.length 5 (u8s B)), veq v3, veq v4, veq v5, veq v6, veq v7, (Begins base B.length (u8s B) (B.length + k)), veq v9, veq v10, veq v11, veq v12, veq v13, veq v14, veq v15, veq v16]) (m := 17) (dls := [[], [], [(20, 0), (21, 1)], [], [], [(24, 4)], [(25, 5)], [(23, 3), (26, 6)], [(22, 2), (27, 7)], [(28, 8)], [(29, 9)], [(19, 10)], [(19, 10)], [(19, 10)], [(30, 11)], [(31, 12)], [(32, 13)]]) (ds := [20, 21, 22, 23, 24, 25, 26, 27, 28, 29, 19, 30, 31, 32, 8, 9, 10]) (by kernel_rfl) (by kernel_rfl) (by decide) rfl (Room.drew _) (fun _ _ _ => Room.trans) (mono_phi mono) obl tail)
  case obl =>
    refine obls_cons (fun f w' hR hH Q hQ => ?_) ?_
    · skip
      simp only [view, List.foldl]
      repeat (first | go_guarded | go_step)
      exact hQ _ _ (Room.of (Grow.alloc _ _)) ⟨_, rfl⟩ rfl
    refine obls_cons (fun f w' hR hH Q hQ => ?_) ?_
    · skip
      simp only [view, List.foldl]
      repeat (first | go_guarded | go_step)
      exact hQ _ _ (Room.refl _) rfl rfl
    refine obls_cons (fun f w' hR hH Q hQ => ?_) ?_
    · skip
      obtain ⟨h0, h1, -⟩ := hH
      simp only [view, List.foldl, Act.put, List.setIfInBounds_toArray, List.set_cons_zero, List.set_cons_succ]
      generalize f 0 = u0 at h0 ⊢
      replace h0 : (Empty) u0 w' := h0
      rw [show f 1 = _ from h1]
      clear h1
      obtain ⟨g, rfl⟩ := h0
      have hR' := hR
      rw [HB.out] at hR'
      have hb2 := hb1.out.grow hR'.grow
      refine wpList_append_empty rfl _ _ 23 rfl base 5 _ (.int .u8 0) 1 Try.underlying23 i8 i8z i8s i8b rfl g rfl _ _ _ (u8s B) rfl hb2 (by omega) (by unfold maxLen; omega) (by omega) (by rw [HB.out]; exact hR'.grow.size) ?_
      intro v' w'' hg hown
      exact hQ _ _ (Room.of hg) hown rfl
    refine obls_cons (fun f w' hR hH Q hQ => ?_) ?_
    · skip
      simp only [view, List.foldl]
      repeat (first | go_guarded | go_step)
      exact hQ _ _ (Room.refl _) rfl rfl
    refine obls_cons (fun f w' hR hH Q hQ => ?_) ?_
    · skip
      simp only [view, List.foldl]
      repeat (first | go_guarded | go_step)
      exact hQ _ _ (Room.refl _) rfl rfl
    refine obls_cons (fun f w' hR hH Q hQ => ?_) ?_
    · skip
      obtain ⟨h4, -⟩ := hH
      simp only [view, List.foldl, Act.put, List.setIfInBounds_toArray, List.set_cons_zero, List.set_cons_succ]
      rw [show f 4 = _ from h4]
      clear h4
      repeat (first | go_guarded | go_step)
      exact hQ _ _ (Room.refl _) rfl rfl
    refine obls_cons (fun f w' hR hH Q hQ => ?_) ?_
    · skip
      obtain ⟨h5, -⟩ := hH
      simp only [view, List.foldl, Act.put, List.setIfInBounds_toArray, List.set_cons_zero, List.set_cons_succ]
      rw [show f 5 = _ from h5]
      clear h5
      repeat (first | go_guarded | go_step)
      exact hQ _ _ (Room.refl _) rfl rfl
    refine obls_cons (fun f w' hR hH Q hQ => ?_) ?_
    · skip
      obtain ⟨h3, h6, -⟩ := hH
      simp only [view, List.foldl, Act.put, List.setIfInBounds_toArray, List.set_cons_zero, List.set_cons_succ]
      rw [show f 3 = _ from h3]
      rw [show f 6 = _ from h6]
      clear h3 h6
      repeat (first | go_guarded | go_step)
      exact hQ _ _ (Room.refl _) rfl rfl
    refine obls_cons (fun f w' hR hH Q hQ => ?_) ?_
    · skip
      obtain ⟨h2, h7, -⟩ := hH
      simp only [view, List.foldl, Act.put, List.setIfInBounds_toArray, List.set_cons_zero, List.set_cons_succ]
      generalize f 2 = u2 at h2 ⊢
      replace h2 : (OwnAt base B.length 5 (u8s B)) u2 w' := h2
      rw [show f 7 = _ from h7]
      clear h7
      have hR' := hR
      rw [HB.out] at hR'
      have hb2 := hbk1.out.grow hR'.grow
      refine wpList_append_room rfl _ _ 23 rfl base B.length 5 _ (.int .u8 0) 1 Try.underlying23 i8 i8z i8s i8b rfl u2 (u8s B) rfl h2 _ _ _ _ rfl hb2 (one_u8s _) (by unfold maxLen; omega) (by omega) (by rw [HB.out]; exact hR'.grow.size) ?_
      intro v' w'' hg hown
      exact hQ _ _ hg hown rfl
    refine obls_cons (fun f w' hR hH Q hQ => ?_) ?_
    · skip
      obtain ⟨h8, -⟩ := hH
      simp only [view, List.foldl, Act.put, List.setIfInBounds_toArray, List.set_cons_zero, List.set_cons_succ]
      generalize f 8 = u8 at h8 ⊢
      replace h8 : (Begins base B.length (u8s B) (B.length + k)) u8 w' := h8
      obtain ⟨g, cap, rfl, b1, b2, b3⟩ := Begins.row h8 (by simp [u8s])
      go_wp2_with (go_at_call 18; refine (read_pre _ _ _ B.length B _ b3 (by omega) b1 (by unfold maxLen at *; omega) h10 n hr0.out hl0.out).mono ?_; rintro e w1 ⟨rfl, rfl⟩)
      exact hQ _ _ (Room.refl _) rfl rfl
    refine obls_cons (fun f w' hR hH Q hQ => ?_) ?_
    · skip
      obtain ⟨h9, -⟩ := hH
      simp only [view, List.foldl, Act.put, List.setIfInBounds_toArray, List.set_cons_zero, List.set_cons_succ]
      rw [show f 9 = _ from h9]
      clear h9
      repeat (first | go_guarded | go_step)
      exact hQ _ _ (Room.refl _) rfl rfl
    refine obls_cons (fun f w' hR hH Q hQ => ?_) ?_
    · skip
      obtain ⟨h10, -⟩ := hH
      simp only [view, List.foldl, Act.put, List.setIfInBounds_toArray, List.set_cons_zero, List.set_cons_succ]
      rw [show f 10 = _ from h10]
      clear h10
      repeat (first | go_guarded | go_step)
      exact hQ _ _ (Room.refl _) rfl rfl
    refine obls_cons (fun f w' hR hH Q hQ => ?_) ?_
    · skip
      obtain ⟨h10, -⟩ := hH
      simp only [view, List.foldl, Act.put, List.setIfInBounds_toArray, List.set_cons_zero, List.set_cons_succ]
      rw [show f 10 = _ from h10]
      clear h10
      repeat (first | go_guarded | go_step)
      exact hQ _ _ (Room.refl _) rfl rfl
    refine obls_cons (fun f w' hR hH Q hQ => ?_) ?_
    · skip
      obtain ⟨h10, -⟩ := hH
      simp only [view, List.foldl, Act.put, List.setIfInBounds_toArray, List.set_cons_zero, List.set_cons_succ]
      rw [show f 10 = _ from h10]
      clear h10
      repeat (first | go_guarded | go_step)
      exact hQ _ _ (Room.refl _) rfl rfl
    refine obls_cons (fun f w' hR hH Q hQ => ?_) ?_
    · skip
      obtain ⟨h11, -⟩ := hH
      simp only [view, List.foldl, Act.put, List.setIfInBounds_toArray, List.set_cons_zero, List.set_cons_succ]
      rw [show f 11 = _ from h11]
      clear h11
      repeat (first | go_guarded | go_step)
      exact hQ _ _ (Room.refl _) rfl rfl
    refine obls_cons (fun f w' hR hH Q hQ => ?_) ?_
    · skip
      obtain ⟨h12, -⟩ := hH
      simp only [view, List.foldl, Act.put, List.setIfInBounds_toArray, List.set_cons_zero, List.set_cons_succ]
      rw [show f 12 = _ from h12]
      clear h12
      repeat (first | go_guarded | go_step)
      exact hQ _ _ (Room.refl _) rfl rfl
    refine obls_cons (fun f w' hR hH Q hQ => ?_) ?_
    · skip
      obtain ⟨h13, -⟩ := hH
      simp only [view, List.foldl, Act.put, List.setIfInBounds_toArray, List.set_cons_zero, List.set_cons_succ]
      rw [show f 13 = _ from h13]
      clear h13
      repeat (first | go_guarded | go_step)
      exact hQ _ _ (Room.refl _) rfl rfl
    exact obls_nil
  case mono => exact ⟨Empty.mono, Mono.veq _, OwnAt.mono, Mono.veq _, Mono.veq _, Mono.veq _, Mono.veq _, Mono.veq _, Begins.mono, Mono.veq _, Mono.veq _, Mono.veq _, Mono.veq _, Mono.veq _, Mono.veq _, Mono.veq _, Mono.veq _, trivial⟩
  case tail =>
    intro f w' hR hH
    simp only [view, List.zipIdx, List.foldl, Act.put, List.setIfInBounds_toArray, List.set_cons_zero, List.set_cons_succ, List.drop_succ_cons, List.drop_zero]
    obtain ⟨-, -, -, -, -, -, -, -, -, -, -, -, -, -, q14, q15, q16, -⟩ := hH
    rw [show f 14 = _ from q14]
    rw [show f 15 = _ from q15]
    rw [show f 16 = _ from q16]
    clear q14 q15 q16
    generalize f 0 = x0
    generalize f 1 = x1
    generalize f 2 = x2
    generalize f 3 = x3
    generalize f 4 = x4
    generalize f 5 = x5
    generalize f 6 = x6
    generalize f 7 = x7
    generalize f 8 = x8
    generalize f 9 = x9
    generalize f 10 = x10
    generalize f 11 = x11
    generalize f 12 = x12
    generalize f 13 = x13
    have hR' := hR
    rw [HB.out] at hR'
    have HR := Lib.hid hR'.grow
    have hb2 := hb1.out.grow hR'.grow
    obtain ⟨j, hj, hjn⟩ : ∃ j : Nat, x % (B.length : Int) = j ∧ j < B.length := ⟨(x % (B.length : Int)).toNat, by have := Int.emod_nonneg x (show (B.length : Int) ≠ 0 by omega); omega, by have := Int.emod_nonneg x (show (B.length : Int) ≠ 0 by omega); have := Int.emod_lt_of_pos x (show 0 < (B.length : Int) by omega); omega⟩
    have hs2 := slice_hi (P := Try.prog) Try.underlying23 i8 A1 B.length c1 j (by omega)
    have hrd := Lib.hid (read_as (c := c1) (hb2.take (k := j) (by omega)) (by omega) (by unfold maxLen; omega) (hcut.out j hjn))
    clear hR hR' hb2
    go_wp2_with fail
    refine hrd.out.mono ?_
    rintro e w1 ⟨rfl, rfl⟩
    go_wp2_with fail
    refine (works_any _).mono ?_
    rintro e w1 ⟨rfl, hg⟩
    go_wp2_with fail
    go_ret
    exact ⟨rfl, (HG.out.trans HR.out).trans hg⟩
end Go.Proofs.Ytfmaicjgndbffaa.viL
