/- ShapeOk, StartOf of the reference (walks). -/
import Derived.Test.YtnidfoboiddhfaaDoorShape
namespace Go.Proofs.YtnidfoboiddhfaaDoor
open Go.RowKit
set_option linter.unusedVariables false

theorem bulk_len {l : List PNode} {k : Nat} (h : nodesBulk l ≤ k) : l.length ≤ k := by unfold nodesBulk at h; omega
theorem shapeB_size {l : List PNode} (h : inB (l.length : Int) 1 400 = false) : shapeB l = false := by
  have h1 := inB_false.1 h
  unfold shapeB sizeOk
  have : (decide (1 ≤ l.length) && decide (l.length ≤ 400)) = false := by simp; omega
  rw [this]
  rfl
theorem shapeB_none {l : List PNode} (h : startsL l = none) : shapeB l = false := by unfold shapeB; rw [h]; simp
theorem shapeB_some {l : List PNode} {s : List Nat} (hs : inB (l.length : Int) 1 400 = true) (h : startsL l = some s) : shapeB l = (s.getD (l.length - 1) 0 == 0) := by
  have h1 := inB_true.1 hs
  unfold shapeB sizeOk
  rw [h]
  have : (decide (1 ≤ l.length) && decide (l.length ≤ 400)) = true := by simp; omega
  rw [this]
  rfl
def startOfL (l : List PNode) (i : Int) : Int := if shapeB l = true ∧ 0 ≤ i ∧ i < l.length then (match startsL l with
  | some s => ((s.getD i.toNat 0 : Nat) : Int)
  | none => -1) else -1
theorem startOfL_no {l : List PNode} {i : Int} (h : ¬ (shapeB l = true ∧ 0 ≤ i ∧ i < l.length)) : startOfL l i = -1 := by unfold startOfL; rw [if_neg h]
theorem startOfL_yes {l : List PNode} {i : Nat} {s : List Nat} (h : shapeB l = true) (hi : i < l.length) (hs : startsL l = some s) : startOfL l i = ((s.getD i 0 : Nat) : Int) := by
  unfold startOfL
  rw [if_pos ⟨h, by omega, by omega⟩, hs, Int.toNat_natCast]
theorem IntsIn.cellAt {w : World} {B n c : Nat} {A : Option Addr} {l : List Int} (h : IntsIn w B (.slice A n c) l) {j : Nat} {t : Int} (ht : l[j]? = some t) :
    ∃ b off, A = some ⟨b, off, none⟩ ∧ b < B ∧ w.cell? ⟨b, off + j, none⟩ = some (.int .i64 t) := by
  obtain ⟨A', c', e, _, _, hc, _⟩ := h
  obtain ⟨rfl, _, _⟩ := Value.slice.inj e
  obtain ⟨b, off, hA, hlt, hd⟩ := hc (by have := (List.getElem?_eq_some_iff.1 ht).1; omega)
  exact ⟨b, off, hA, hlt, hd j t ht⟩
theorem s_starts_no (v : Value) (l : List PNode) (w : World) (hl : l.length ≤ 1048576) (h : NodesIn w w.heap.size v l) (hs : startsL l = none) :
    Calls Tryd.prog 85 #[v] w fun e w' => ∃ v', e = .returned (.tuple #[v', .bool false]) ∧ Below w.heap.size w w' := by
  refine (s_starts v l w hl h).mono fun e w' h2 => ?_
  obtain ⟨v', he, _, _, hb⟩ := h2
  rw [hs] at he
  exact ⟨v', he, hb⟩
theorem s_starts_yes (v : Value) (l : List PNode) (w : World) (hl : l.length ≤ 1048576) (h : NodesIn w w.heap.size v l) {s : List Nat} (hs : startsL l = some s) :
    Calls Tryd.prog 85 #[v] w fun e w' => ∃ A c, e = .returned (.tuple #[.slice A l.length c, .bool true]) ∧ l.length ≤ c ∧ c ≤ maxLen ∧ IntsIn w' w'.heap.size (.slice A l.length c) (castL s) ∧ FromOn w.heap.size (.slice A l.length c) ∧ Below w.heap.size w w' := by
  refine (s_starts v l w hl h).mono fun e w' h2 => ?_
  obtain ⟨v', he, hi, hf, hb⟩ := h2
  rw [hs] at he
  have hi := hi s hs
  have hi2 := hi
  obtain ⟨A, c, rfl, q1, q2, _⟩ := hi
  have e : (castL s).length = l.length := by rw [castL_len, (startsL_low hs).2]
  rw [e] at he hi2 hf q1
  exact ⟨A, c, he, q1, q2, hi2, hf, hb⟩
set_option maxRecDepth 100000 in
set_option maxHeartbeats 1000000 in
theorem s_shapeOk (v : Value) (l : List PNode) (w : World) (hl : l.length ≤ 1048576) (h : NodesIn w w.heap.size v l) : Calls Tryd.prog 58 #[v] w (RetBool w (shapeB l)) := by
  have g := Lib.hid h
  obtain ⟨A, c, rfl, hlc, hcm, r⟩ := h
  clear r
  unfold maxLen at hcm
  cases hs : inB (l.length : Int) 1 400
  · rw [shapeB_size hs]
    go_enter Tryd.func58, Tryd.ntmps58
    go_wp2_with (go_at_call 47; refine (s_l1In _ _ _ _).mono ?_; rintro e w' ⟨rfl, rfl⟩)
    go_ret
    exact ⟨rfl, Below.refl _ _⟩
  · have hr := inB_true.1 hs
    cases hst : startsL l with
    | none =>
      rw [shapeB_none hst]
      have hstH := Lib.hid hst
      clear hst
      go_enter Tryd.func58, Tryd.ntmps58
      go_wp2_with (first | (go_at_call 47; refine (s_l1In _ _ _ _).mono ?_; rintro e w' ⟨rfl, rfl⟩) | (go_at_call 85; refine (s_starts_no _ l _ hl g.out hstH.out).mono ?_; rintro e w1 ⟨v', rfl, hb⟩))
      go_ret
      exact ⟨rfl, hb⟩
    | some s =>
      rw [shapeB_some hs hst]
      obtain ⟨hlow, hlen⟩ := startsL_low hst
      obtain ⟨x, hx, hxd, hxl⟩ := hlow.get (j := l.length - 1) (by omega)
      rw [hxd]
      have hcx := Lib.hid (castL_get hx)
      have hstH := Lib.hid hst
      clear hst hx hxd hlow hlen hxl
      go_enter Tryd.func58, Tryd.ntmps58
      go_wp2_with (first | (go_at_call 47; refine (s_l1In _ _ _ _).mono ?_; rintro e w' ⟨rfl, rfl⟩) | (go_at_call 85; refine (s_starts_yes _ l _ hl g.out hstH.out).mono ?_; rintro e w1 ⟨A1, c1, rfl, q1, q2, hi, _, hb⟩; obtain ⟨b, off, rfl, _, hcell⟩ := hi.cellAt hcx.out; clear hi; unfold maxLen at q2))
      go_ret
      exact ⟨ret_bool (by first | rfl | (show ((x : Int) == 0) = (x == 0); rw [Bool.eq_iff_iff, beq_iff_eq, beq_iff_eq]; omega)), hb⟩
end Go.Proofs.YtnidfoboiddhfaaDoor
