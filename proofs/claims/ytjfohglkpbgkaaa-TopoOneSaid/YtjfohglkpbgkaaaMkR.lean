/- The walks of the document's sets: New, Has, Next, Within. -/
import Derived.Test.YtjfohglkpbgkaaaMkL
import Derived.Test.YtjfohglkpbgkaaaMut
namespace Go.Proofs.Ytjfohglkpbgkaaa.mkR
open Go Go.RowKit Go.Par Go.Kit Go.Proofs.Ytjfohglkpbgkaaa.Mk Go.Proofs.Ytjfohglkpbgkaaa.mkW

abbrev TX : TypeId := 34
theorem undX : Try.prog.underlying TX = some (.struct (Try.prog.fieldsOf TX)) := by kernel_rfl
theorem sizeX : (Try.prog.info? TX).map (·.size) = some 2 := by kernel_rfl
theorem results_cell_tmp {P : Program} {fn : Func} {p q : Tmp} {ty : TypeId} (h : fn.results = #[.cell p ty, .tmp q]) (tmps : Array Value) (w : World) (g : Nat) (t : TypeId) (cs : Array Value) (fr : Nat × Nat) (d : TypeDesc)
    (hp : tmps.getD p undef = .pointer (some ⟨g, 0, none⟩)) (hg : w.heap[g]? = some (.cells cs t fr))
    (hu : P.underlying ty = some d) (hd : (match d with | .struct _ | .array _ _ => true | _ => false) = true) (hi : (P.info? ty).map (·.size) = some cs.size) :
    (results fn tmps).run P w = .ok (.tuple #[.agg cs, tmps.getD q undef]) w := by
  have hp' : tmps[p]?.getD undef = .pointer (some ⟨g, 0, none⟩) := by simpa using hp
  simp [results, h, hp', asAddr, run_loadVar_row w g t ty cs fr d hg hu hd hi]
/-- a value that is a slice of these numbers -/
def IntsV (w : World) (v : Value) (L : List Nat) : Prop := ∃ A c, v = .slice A L.length c ∧ L.length ≤ c ∧ c ≤ maxLen ∧ Row w A L.length (L.map nv) ∧ (0 < L.length → ∀ ad, A = some ad → ∃ cs, Blk w ad.block 3 cs)
theorem Blk.back {w w' : World} {g : Nat} {t : TypeId} {cs : List Value} (hg : Grow w w') (h : Blk w' g t cs) (hlt : g < w.heap.size) : Blk w g t cs := by
  have h1 : w.heap[g]? = some w.heap[g] := Array.getElem?_eq_getElem hlt
  have h2 := hg.block h1
  unfold Blk at h ⊢
  rw [h1, ← h2, h]
theorem IntsV.grow {w w' : World} {v : Value} {L : List Nat} (h : IntsV w v L) (hg : Grow w w') : IntsV w' v L :=
  let ⟨A, c, e, h1, h2, h3, h4⟩ := h; ⟨A, c, e, h1, h2, h3.grow hg, fun hn ad had => let ⟨cs, hb⟩ := h4 hn ad had; ⟨cs, hb.grow hg⟩⟩
theorem IntsV.nil (w : World) : IntsV w (.slice none 0 0) [] := ⟨none, 0, rfl, Nat.le_refl _, Nat.zero_le _, Row.nil w none, fun h => absurd h (by simp)⟩
theorem IntsV.own {w : World} {base : Nat} {v : Value} {n : Nat} {L : List Nat} (h : w.ownsRow base 3 1 v n (L.map nv)) : IntsV w v L := by
  obtain ⟨A, c, rfl, h1, h2, h3⟩ := own_form h
  have hl : L.length = n := by have := h.1; simpa using this
  subst hl
  rw [Nat.mul_one] at h3
  refine ⟨A, c, rfl, h1, h2, h3, fun hn ad had => ?_⟩
  subst had
  rcases h.2 with ⟨e, -⟩ | ⟨g, cap, cur, e, -, h4, -⟩
  · injection e with e; cases e
  · injection e with e
    injection e with e
    subst e
    exact ⟨cur.toList, by unfold Blk; rw [h4]⟩
theorem Blk.ty_eq {w : World} {g : Nat} {t t' : TypeId} {cs cs' : List Value} (h : Blk w g t cs) (h' : Blk w g t' cs') : t = t' := by
  unfold Blk at h h'
  rw [h] at h'
  injection h' with h'
  injection h' with _ h'
theorem IntsV.far {w : World} {v : Value} {L : List Nat} (h : IntsV w v L) {g : Nat} {t : TypeId} {cs : List Value} (hb : Blk w g t cs) (l : Array Value) (ht : 3 ≠ t := by decide) : IntsV (w.setRow g l) v L := by
  obtain ⟨A, c, e, h1, h2, h3, h4⟩ := h
  have hne : 0 < L.length → ∀ ad, A = some ad → ad.block ≠ g := fun hn ad had e => by
    obtain ⟨cs', hb'⟩ := h4 hn ad had
    rw [e] at hb'
    exact ht (Blk.ty_eq hb' hb)
  refine ⟨A, c, e, h1, h2, ⟨h3.1, fun hn => ?_⟩, fun hn ad had => ?_⟩
  · obtain ⟨b, off, e2, hc⟩ := h3.2 hn
    refine ⟨b, off, e2, fun j u hu => ?_⟩
    rw [← hc j u hu]
    exact World.cell?_of_block (w := w) (a := ⟨b, off + j, none⟩) (setRow_other w g b l (hne hn _ e2))
  · obtain ⟨cs', hb'⟩ := h4 hn ad had
    exact ⟨cs', hb'.farRow (hne hn ad had) l⟩
theorem IntsV.keep {w w' : World} {v : Value} {L : List Nat} (h : IntsV w v L) {B : Nat} {K : Nat → Prop} (hk : Keep B K w w') (hK : ∀ g cs, Blk w g 3 cs → K g) : IntsV w' v L := by
  obtain ⟨A, c, e, h1, h2, h3, h4⟩ := h
  refine ⟨A, c, e, h1, h2, ⟨h3.1, fun hn => ?_⟩, fun hn ad had => ?_⟩
  · obtain ⟨b, off, e2, hc⟩ := h3.2 hn
    refine ⟨b, off, e2, fun j u hu => ?_⟩
    obtain ⟨cs, hb⟩ := h4 hn _ e2
    rw [← hc j u hu]
    have hb2 := hk.blk hb (hK _ _ hb)
    unfold Blk at hb hb2
    exact World.cell?_of_block (w := w) (a := ⟨b, off + j, none⟩) (hb2.trans hb.symm)
  · obtain ⟨cs, hb⟩ := h4 hn ad had
    exact ⟨cs, hk.blk hb (hK _ _ hb)⟩
theorem Row.nat_at {w : World} {A : Option Addr} {L : List Nat} (h : Row w A L.length (L.map nv)) {k : Nat} (hk : k < L.length) : ∃ b off x, A = some ⟨b, off, none⟩ ∧ L[k]? = some x ∧ w.cell? ⟨b, off + k, none⟩ = some (.int .i64 (x : Int)) := by
  obtain ⟨b, off, u, e, hu, hc⟩ := h.at_ hk
  simp only [List.getElem?_map, Option.map_eq_some_iff] at hu
  obtain ⟨x, hx, rfl⟩ := hu
  exact ⟨b, off, x, e, hx, hc⟩

theorem ref_new (n : Int) (w : World) (hn0 : -9223372036854775808 ≤ n) (hn1 : n ≤ 9223372036854775807) :
    Calls Try.prog 21 #[.int .i64 n] w fun e w' => e = .returned (.agg #[.int .i64 (clampN n : Int), .slice none 0 0]) ∧ Grow w w' := by
  obtain ⟨m, hm⟩ : ∃ m, m = clampN n := ⟨_, rfl⟩
  rw [← hm]
  unfold clampN at hm
  by_cases h0 : n < 0
  · obtain rfl : m = 0 := by omega
    have t0 : decide (n < 0) = true := decide_eq_true h0
    clear hm h0
    go_enter Try.func21, Try.ntmps21
    go_wp2_with fail
    exact ret_blk rfl w.heap.size _ [.int .i64 0, .slice none 0 0] _ rfl (Blk.new w _ _ _ rfl rfl) undX rfl (by rw [sizeX]; rfl) rfl ⟨rfl, Grow.alloc _ _⟩
  · have t0 : decide (n < 0) = false := decide_eq_false h0
    by_cases h1 : 65536 < n
    · obtain rfl : m = 65536 := by omega
      have t1 : decide ((65536 : Int) < n) = true := decide_eq_true h1
      clear hm h0 h1
      go_enter Try.func21, Try.ntmps21
      go_wp2_with fail
      exact ret_blk rfl w.heap.size _ [.int .i64 65536, .slice none 0 0] _ rfl (Blk.new w _ _ _ rfl rfl) undX rfl (by rw [sizeX]; rfl) rfl ⟨rfl, Grow.alloc _ _⟩
    · obtain rfl : n = (m : Int) := by omega
      have t1 : decide ((65536 : Int) < (m : Int)) = false := decide_eq_false h1
      have t2 : decide (65536 < m) = false := decide_eq_false (by omega)
      clear hm h0 h1
      go_enter Try.func21, Try.ntmps21
      go_wp2_with fail
      exact ret_blk rfl w.heap.size _ [.int .i64 (m : Int), .slice none 0 0] _ rfl (Blk.new w _ _ _ rfl rfl) undX rfl (by rw [sizeX]; rfl) rfl ⟨rfl, Grow.alloc _ _⟩
/-- is a number in a list? -/
def hasB (L : List Nat) (i : Int) : Bool := L.any fun x => decide ((x : Int) = i)
theorem hasB_yes {L : List Nat} {i : Int} {k x : Nat} (h : L[k]? = some x) (e : (x : Int) = i) : hasB L i = true := by
  unfold hasB; rw [List.any_eq_true]; exact ⟨x, List.mem_of_getElem? h, decide_eq_true e⟩
theorem hasB_no {L : List Nat} {i : Int} (h : ∀ (k x : Nat), L[k]? = some x → (x : Int) ≠ i) : hasB L i = false := by
  unfold hasB; rw [List.any_eq_false]
  intro x hx
  obtain ⟨k, hk, rfl⟩ := List.getElem_of_mem hx
  simp only [decide_eq_true_eq]
  exact h k _ (List.getElem?_eq_getElem hk)
set_option maxHeartbeats 400000 in
theorem ref_has (w : World) (N : Int) (v : Value) (L : List Nat) (hv : IntsV w v L) (i : Int) :
    Calls Try.prog 29 #[.agg #[.int .i64 N, v], .int .i64 i] w fun e w' => e = .returned (.bool (hasB L i)) ∧ Grow w w' := by
  obtain ⟨A, c, rfl, h1, h2, h3, -⟩ := hv
  unfold maxLen at h2
  obtain ⟨r, hr⟩ : ∃ r, r = hasB L i := ⟨_, rfl⟩
  rw [← hr]
  have HR := Lib.hid hr
  obtain ⟨n, hn⟩ : ∃ n, n = L.length := ⟨_, rfl⟩
  have HN := Lib.hid hn
  rw [← hn] at h1 h3 ⊢
  obtain ⟨W, hW⟩ : ∃ W, W = w.alloc (.cells #[.int .i64 N, .slice A n c] TX) := ⟨_, rfl⟩
  obtain ⟨b0, hb0⟩ : ∃ b0, b0 = w.heap.size := ⟨_, rfl⟩
  have hgW : Grow w W := by rw [hW]; exact Grow.alloc w _
  have hbx : Blk W b0 TX [.int .i64 N, .slice A n c] := by rw [hW]; exact Blk.new w _ _ _ rfl hb0
  have HROW := Lib.hid (h3.grow hgW)
  have HW := Lib.hid hW
  have HB0 := Lib.hid hb0
  have HGW := Lib.hid hgW
  have x0 := hbx.cell (i := 0) rfl
  have x1 := hbx.cell (i := 1) rfl
  clear hr h3 hn hW hb0 hgW hbx
  go_enter Try.func29, Try.ntmps29
  go_wp2_with fail
  rw [← HW.out, ← HB0.out]
  go_loop [5] (fun i' => ∃ k : Nat, k ≤ n ∧ i' = .int .i64 (k : Int) ∧ Hid (∀ (j x : Nat), j < k → L[j]? = some x → (x : Int) ≠ i)) (fun i => n - (intOf i).toNat)
  case atStart => exact ⟨0, by omega, rfl, Lib.hid fun j x h => absurd h (by omega)⟩
  case round =>
    obtain ⟨k, hk, rfl, HI⟩ := hrel
    by_cases hlt : k < n
    · have hrow := HROW.out
      rw [HN.out] at hrow
      obtain ⟨b, off, x, rfl, hx, hcell⟩ := Row.nat_at hrow (k := k) (by have := HN.out; omega)
      by_cases hxi : (x : Int) = i
      · have hr1 : r = true := by rw [HR.out]; exact hasB_yes hx hxi
        have HR1 := Lib.hid hr1
        have t1 : ((x : Int) == i) = true := beq_iff_eq.2 hxi
        clear hr1 hxi hx hrow HI
        go_wp2_with fail
        go_ret
        exact ⟨by rw [HR1.out]; rfl, HGW.out⟩
      · have t1 : ((x : Int) == i) = false := beq_false_of_ne hxi
        have HI2 : Hid (∀ (j x : Nat), j < k + 1 → L[j]? = some x → (x : Int) ≠ i) := Lib.hid fun j y hj hy => by
          by_cases hjk : j < k
          · exact HI.out j y hjk hy
          · obtain rfl : j = k := by omega
            rw [hx] at hy
            obtain rfl := Option.some.inj hy
            exact hxi
        clear hxi hx hrow HI
        go_wp2_with fail
        go_round
        case rel => exact ⟨k + 1, by omega, by go_num, HI2⟩
        case measure => simp [intOf] <;> omega
    · obtain rfl : k = n := by omega
      have hr1 : r = false := by
        rw [HR.out]
        exact hasB_no (fun j x hx => HI.out j x (by have := (List.getElem?_eq_some_iff.1 hx).1; have := HN.out; omega) hx)
      have HR1 := Lib.hid hr1
      clear hr1 HI
      go_wp2_with fail
      go_ret
      exact ⟨by rw [HR1.out]; rfl, HGW.out⟩
end Go.Proofs.Ytjfohglkpbgkaaa.mkR
