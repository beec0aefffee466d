/- What NetOnce keeps from round to round. -/
import Derived.Test.YtmekdhlcflielaaNtP3
namespace Go.Proofs.Ytmekdhlcflielaa.ntL
open Go Go.RowKit Go.Par Go.Kit Go.Proofs.Ytmekdhlcflielaa.mpA Go.Proofs.Ytmekdhlcflielaa.cl Go.Proofs.Ytmekdhlcflielaa.nt

abbrev TS : TypeId := 9
theorem own_blkS {w : World} {base n : Nat} {v : Value} {xs : List Value} (h : w.ownsRow base TS 1 v n xs) {k : Nat} (hk : v.ownBlock = some k) : ∃ cs, Blk w k TS cs := by
  rcases h.2 with ⟨e, -⟩ | ⟨g', cap, cur, e, -, h5, -⟩
  · rw [e] at hk; cases hk
  · rw [e] at hk
    injection hk with hk
    subst hk
    exact ⟨cur.toList, by unfold Blk; rw [h5]⟩
structure OnI (w : World) (B g bm cnt : Nat) (s t lv : Value) (ps : List PkR) (C : Cuts) (sent spoilt : List (List UInt8)) : Prop where
  net : NetI w B g bm 4 cnt lv ps C
  sn : w.ownsRow B TS 1 s sent.length (strs sent)
  st : w.ownsRow B TS 1 t spoilt.length (strs spoilt)
  apart : ∀ j, s.ownBlock = some j → t.ownBlock ≠ some j
section
variable {w w' : World} {B g bm cnt : Nat} {s t lv : Value} {ps : List PkR} {C : Cuts} {sent spoilt : List (List UInt8)}
theorem OnI.grow (h : OnI w B g bm cnt s t lv ps C sent spoilt) (hg : Grow w w') : OnI w' B g bm cnt s t lv ps C sent spoilt :=
  ⟨h.net.grow hg, own_grow h.sn hg, own_grow h.st hg, h.apart⟩
theorem OnI.offS (h : OnI w B g bm cnt s t lv ps C sent spoilt) {k : Nat} {cs : List Value} (hb : Blk w k TS cs) : Kn g bm lv k := h.net.off hb (by decide) (by decide)
/-- a step of the net turns the lists in no way -/
theorem OnI.next {ps' : List Pk} {C' : Cuts} (h : OnI w B g bm cnt s t lv ps C sent spoilt) (hn : Next w B g bm 4 cnt lv ps' C' w') : ∃ cnt' lv' ps1, cnt' ≤ cnt + 1 ∧ OnI w' B g bm cnt' s t lv' ps1 C' sent spoilt ∧ ps1.map pkOf = ps' ∧ Keep B (Kn g bm lv) w w' := by
  obtain ⟨cnt', lv', ps1, hc, hnet, hps, hk, -⟩ := hn
  refine ⟨cnt', lv', ps1, hc, ⟨hnet, hk.own h.sn fun j hj => ?_, hk.own h.st fun j hj => ?_, h.apart⟩, hps, hk⟩
  · obtain ⟨cs, hb⟩ := own_blkS h.sn hj
    exact h.offS hb
  · obtain ⟨cs, hb⟩ := own_blkS h.st hj
    exact h.offS hb
/-- a list of texts has grown: the net, and the other one, stay -/
theorem OnI.grewS (h : OnI w B g bm cnt s t lv ps C sent spoilt) {s' : Value} {x : List UInt8} (ho : w'.ownsRow B TS 1 s' (sent.length + 1) (strs sent ++ [.string (str x)])) (hg : w.grownBy w' s.ownBlock) (hs : s'.ownBlock = s.ownBlock ∨ s'.ownBlock = some w.heap.size) : OnI w' B g bm cnt s' t lv ps C (sent ++ [x]) spoilt := by
  have hk : Keep B (fun j => s.ownBlock ≠ some j) w w' := Keep.by_ (Keep.refl w) h.net.base hg fun k hk => ⟨(h.sn.lt k hk).1, fun hn => hn hk⟩
  have off : ∀ j, s.ownBlock = some j → Kn g bm lv j := fun j hj => by obtain ⟨cs, hb⟩ := own_blkS h.sn hj; exact h.offS hb
  refine ⟨h.net.keep hk (fun e => (off _ e).1 rfl) (fun e => (off _ e).2.1 rfl) (fun j hj e => (off _ e).2.2 hj) fun j cs hb e => ?_, ?_, hk.own h.st fun j hj e => h.apart j e hj, fun j hj e => ?_⟩
  · obtain ⟨cs', hb'⟩ := own_blkS h.sn e
    exact absurd (Blk.ty_eq hb hb') (by decide)
  · rw [List.length_append]
    unfold strs at ho ⊢
    rw [List.map_append]
    exact ho
  · rcases hs with e1 | e1
    · exact h.apart j (e1 ▸ hj) e
    · rw [e1] at hj
      injection hj with hj
      have := (h.st.lt j e).2
      omega
theorem OnI.swap (h : OnI w B g bm cnt s t lv ps C sent spoilt) : OnI w B g bm cnt t s lv ps C spoilt sent := ⟨h.net, h.st, h.sn, fun j hj e => h.apart j e hj⟩
end
/-- At, whatever is asked: a packet, or none -/
theorem at_all {w : World} {B g bm n cnt : Nat} {lv : Value} {ps : List PkR} {C : Cuts} (h : NetI w B g bm n cnt lv ps C) (K : Int) (p : Pk) (ok : Bool) (hp : p = (getK (ps.map pkOf) K).getD zpk) (hok : ok = (getK (ps.map pkOf) K).isSome) :
    Calls Try.prog 11 #[.pointer (some ⟨g, 0, none⟩), .int .i64 K] w fun e w' => ∃ v, e = .returned (.tuple #[.agg #[.int .u8 (p.fr : Int), .int .u8 (p.to : Int), v, .bool p.sp], .bool ok]) ∧ BV w' v p.b ∧ Grow w w' := by
  subst hp; subst hok
  rcases hk : getK (ps.map pkOf) K with _ | p
  · refine (at_no w B g bm n cnt lv ps C h K (getK_no hk)).mono ?_
    rintro e w' ⟨rfl, hg⟩
    exact ⟨_, rfl, BV.nil w', hg⟩
  · obtain ⟨k, q, rfl, hq, rfl⟩ := getK_yes hk
    refine (at_yes w B g bm n cnt lv ps C h k q hq).mono ?_
    rintro e w' ⟨v, rfl, hown, hg⟩
    exact ⟨v, rfl, BV.own hown, hg⟩
theorem infoS : (Try.prog.info? TS).isSome = true := by kernel_rfl
theorem iS : Try.prog.info? TS = some ((Try.prog.info? TS).get infoS) := by simp
theorem iSs : ((Try.prog.info? TS).get infoS).size = 1 := by kernel_rfl
theorem iSz : ((Try.prog.info? TS).get infoS).zero = some (.string ⟨#[]⟩) := by kernel_rfl
theorem iSb : ((Try.prog.info? TS).get infoS).bytes = 16 := by kernel_rfl
end Go.Proofs.Ytmekdhlcflielaa.ntL
