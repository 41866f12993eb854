/- Part of the reference: the part of a node of a tree (walks). -/
import Derived.Test.YtlabmboedjnpmaaGreatDoorMakeR
import Derived.Test.YtlabmboedjnpmaaGreatDoorShapeR
import Derived.Test.YtlabmboedjnpmaaGreatDoorPartPure
import Derived.Test.YtlabmboedjnpmaaGreatDoorBentR
import Derived.StillTailTactics
namespace Go.Proofs.YtlabmboedjnpmaaGreatDoor
open Go.RowKit
set_option linter.unusedVariables false
/-- a part of a slice of nodes -/
theorem NodesIn.sub {w : World} {B : Nat} {l : List PNode} {A : Option Addr} {n c : Nat} (h : NodesIn w B (.slice A n c) l) {b off : Nat} (hA : A = some ⟨b, off, none⟩) {a e : Nat} (ha : a ≤ e) (he : e ≤ n) : NodesIn w B (.slice (some ⟨b, off + a * 5, none⟩) (e - a) (c - a)) ((l.take e).drop a) := by
  obtain ⟨A', c', ev, h1, h2, h3, h4⟩ := h
  injection ev with e1 e2 e3
  subst e1 e3
  subst e2
  have hl : ((l.take e).drop a).length = e - a := by simp; omega
  refine ⟨some ⟨b, off + a * 5, none⟩, c - a, by rw [hl], by rw [hl]; omega, by omega, fun hp => ?_, fun nd hn => h4 nd (List.mem_of_mem_take (List.mem_of_mem_drop hn))⟩
  rw [hl] at hp
  obtain ⟨b', off', hA', hlt, hc⟩ := h3 (by omega)
  rw [hA] at hA'
  injection hA' with hA'
  injection hA' with e1 e2
  subst e1 e2
  refine ⟨b, off + a * 5, rfl, hlt, fun i nd hx => ?_⟩
  have hi : i < e - a := by have := (List.getElem?_eq_some_iff.1 hx).1; rw [hl] at this; exact this
  rw [List.getElem?_drop, List.getElem?_take_of_lt (by omega)] at hx
  obtain ⟨kv, e0, e1, e2, e3, e4, hk⟩ := hc (a + i) nd hx
  have ea : off + a * 5 + i * 5 = off + (a + i) * 5 := by rw [Nat.add_mul]; omega
  rw [ea]
  exact ⟨kv, e0, e1, e2, e3, e4, hk⟩
theorem partL_eq (l : List PNode) (a i : Nat) : partL l a i = ((l.take (i + 1)).drop a).map (shiftN (-(a : Int))) := rfl
def RetPart (w : World) (l : List PNode) (e : Ending) (w' : World) : Prop := ∃ v, e = .returned v ∧ NodesIn w' w'.heap.size v l ∧ Below w.heap.size w w'
theorem partL_small {l : List PNode} (h : SmallT l) {a i : Nat} (ha : a ≤ 400) : ∀ nd ∈ partL l a i, (okInt nd.kind ∧ okInt nd.op ∧ nd.text.size ≤ maxLen ∧ nd.other.size ≤ maxLen) ∧ ∀ k ∈ nd.kids, okInt k := by
  intro nd hnd
  obtain ⟨nd0, h0, rfl⟩ := List.mem_map.1 hnd
  have hs := h.2 nd0 (List.mem_of_mem_take (List.mem_of_mem_drop h0))
  refine ⟨hs.ok.1, fun k hk => ?_⟩
  obtain ⟨k0, hk0, rfl⟩ := List.mem_map.1 hk
  have := hs.kids k0 hk0
  unfold okInt
  omega
set_option maxRecDepth 100000 in
set_option maxHeartbeats 4000000 in
theorem d_part6 (v : Value) (l : List PNode) (i : Nat) (s : List Nat) (w : World) (hs : startsL l = some s) (hi : i < l.length) (h4 : l.length ≤ 400) (hS : SmallT l) (h : NodesIn w w.heap.size v l) :
    Calls Tryz.prog 31 #[v, .int .i64 (i : Int)] w (RetPart w (partL l (s.getD i 0) i)) := by
  have g := Lib.hid h
  obtain ⟨A, c, rfl, hlc, hcm, hcell, _⟩ := h
  unfold maxLen at hcm
  obtain ⟨b, off, hA, _, _⟩ := hcell (by omega)
  subst hA
  clear hcell
  obtain ⟨hlow, hlen⟩ := startsL_low hs
  obtain ⟨a, hx, hxd, hai⟩ := hlow.get (j := i) (by omega)
  rw [hxd]
  have hcx := Lib.hid (castL_get hx)
  have hsH := Lib.hid hs
  have hlenH := Lib.hid hlen
  have hSH := Lib.hid hS
  clear hs hlow hx hxd hlen hS
  obtain ⟨n, hn⟩ : ∃ n, l.length = n := ⟨_, rfl⟩
  have hl := Lib.hid (show l.length ≤ 1048576 by omega)
  rw [hn] at hi h4 hlc g ⊢
  have hnH := Lib.hid hn
  clear hn
  go_enter Tryz.func31, Tryz.ntmps31
  go_wp2_with fail
  refine (s_starts _ l _ hl.out g.out).mono ?_
  rintro e w1 ⟨v1, rfl, hv1, hf1, hb1⟩
  have hI := hv1 s hsH.out
  obtain ⟨A1, c1, rfl, hl1, hm1, hc1, _⟩ := hI
  rw [castL_len, hlenH.out, hnH.out] at hl1 hc1 ⊢
  unfold maxLen at hm1
  obtain ⟨b1, off1, hA1, _, hcs⟩ := hc1 (by omega)
  subst hA1
  have e0 : w1.cell? ⟨b1, off1 + i, none⟩ = some (.int .i64 (a : Int)) := hcs i _ hcx.out
  have hsub := Lib.hid (((g.out.keep hb1 (Nat.le_refl _)).more hb1.size).sub rfl (show a ≤ i + 1 by omega) (show i + 1 ≤ n by omega))
  have hbH := Lib.hid hb1
  have g3 : IntKind.i64.wrap ((i : Int) + 1) = (i : Int) + 1 := IntWalk.i64_in _ (by omega)
  have g4 : IntKind.i64.wrap (-(a : Int)) = -(a : Int) := IntWalk.i64_in _ (by omega)
  have g5 : ((i : Int) + 1).toNat = i + 1 := by omega
  have g6 : (a : Int) ≤ (i : Int) + 1 := by omega
  have g7 : ((i : Int) + 1) ≤ (n : Int) := by omega
  have g8 : (0 : Int) ≤ (i : Int) + 1 := by omega
  have g9 : (i : Int) + 1 ≤ (c : Int) := by omega
  have g10 : (0 : Int) ≤ (a : Int) := by omega
  clear hv1 hf1 hb1 hc1 hcs
  go_wp2_with fail
  go_still_tail 13, (by kernel_rfl)
  have hs2 : NodesIn w1.drew w1.drew.heap.size (.slice (some ⟨b, off + a * 5, none⟩) (i + 1 - a) (c - a)) ((l.take (i + 1)).drop a) := hsub.out
  have hs2 := Lib.hid hs2
  have hb2 : Hid (Below w.heap.size w w1.drew) := below_drewN hbH.out 1
  change wpList _ _ _ _ _ w1.drew
  clear e0 hsub hbH
  generalize w1.drew = w2 at hs2 hb2 ⊢
  go_wp2_with fail
  refine (d_shift _ _ ((l.take (i + 1)).drop a) _ (by rw [List.length_drop, List.length_take]; have := hl.out; omega) hs2.out (by omega) (fun nd hn => by have h0 := hSH.out.2 nd (List.mem_of_mem_take (List.mem_of_mem_drop hn)); exact ⟨by have := h0.few; omega, fun k hk => by have := h0.kids k hk; omega⟩)).mono ?_
  rintro e w3 ⟨v3, q3, rfl, hnn, hq, hQ, hb3⟩
  have hfin : Hid (RetPart w (partL l a i) (.returned v3) w3) := by
    have hN := partL_small hSH.out (a := a) (i := i) (by omega)
    have ho : OwnN w3 w2.heap.size v3 (partL l a i) := ⟨q3, by rw [hq, partL_eq], hQ⟩
    exact ⟨v3, rfl, ho.nodes (fun nd hn => (hN nd hn).1) (fun nd hn => (hN nd hn).2), hb2.out.trans (hb3.mono hb2.out.size)⟩
  obtain ⟨b3, c3, rfl, _⟩ := hQ.form hnn
  clear hq hQ hb3 hnn
  go_wp2_with fail
  go_ret
  exact hfin.out
set_option maxRecDepth 100000 in
set_option maxHeartbeats 4000000 in
theorem d_part (v : Value) (l : List PNode) (i : Nat) (s : List Nat) (w : World) (hsh : shapeB l = true) (hs : startsL l = some s) (hi : i < l.length) (hS : SmallT l) (h : NodesIn w w.heap.size v l) :
    Calls Tryz.prog 9 #[v, .int .i64 (i : Int)] w (RetPart w (partL l (s.getD i 0) i)) := by
  have g := Lib.hid h
  have hl := Lib.hid (show l.length ≤ 1048576 by have := hS.1; omega)
  have h4 := Lib.hid (show l.length ≤ 400 from (shapeB_parts hsh).2.1)
  obtain ⟨A, c, rfl, hlc, hcm, _, _⟩ := h
  unfold maxLen at hcm
  have hsH := Lib.hid hs
  have hSH := Lib.hid hS
  have hshH := Lib.hid hsh
  have hiH := Lib.hid hi
  have hin := Lib.hid (show inB (i : Int) 0 ((l.length : Int) - 1) = true by unfold inB; simp; omega)
  have hlb := hl.out
  clear hs hS hsh hi
  go_enter Tryz.func9, Tryz.ntmps9
  go_wp2_with (first
    | (go_at_call 21; refine (s_shapeOk _ l _ hl.out g.out).mono ?_; rintro e w1 ⟨rfl, hb⟩; rw [hshH.out]; have g1 := Lib.hid ((g.out.keep hb (Nat.le_refl _)).more hb.size); have hbH := Lib.hid hb; clear hb)
    | (go_at_call 30; refine (s_l1In _ _ _ _).mono ?_; rintro e w' ⟨rfl, rfl⟩; rw [hin.out])
    | (go_at_call 31; refine (d_part6 _ l i s _ hsH.out hiH.out h4.out hSH.out g1.out).mono ?_; rintro e w2 ⟨v2, rfl, hN, hb⟩; have hNH := Lib.hid hN; have hb2 := Lib.hid (hbH.out.trans (hb.mono hbH.out.size)); obtain ⟨A2, c2, rfl, _⟩ := hN; clear hb))
  go_ret
  exact ⟨_, rfl, hNH.out, hb2.out⟩
end Go.Proofs.YtlabmboedjnpmaaGreatDoor
