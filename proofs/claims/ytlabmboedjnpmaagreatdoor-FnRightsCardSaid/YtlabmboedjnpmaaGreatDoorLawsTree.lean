/- ExprOk and ProgramOk of the reference and of the program (walks), and the walks of the laws on them and on TreeOk. -/
import Derived.Test.YtlabmboedjnpmaaGreatDoorTreeI
import Derived.Test.YtlabmboedjnpmaaGreatDoorDepthR
namespace Go.Proofs.YtlabmboedjnpmaaGreatDoor
open Go.RowKit
set_option linter.unusedVariables false
theorem last_kind {l : List PNode} {nd : PNode} (hp : 1 ≤ l.length) (h : l[l.length - 1]? = some nd) : lastKind l = nd.kind := by
  unfold lastKind
  rw [show ((l.length : Nat) : Int) - 1 = ((l.length - 1 : Nat) : Int) by omega]
  exact kindAt_nat h
theorem tree_shape {l : List PNode} (h : treeB l = true) : shapeB l = true := by
  cases hs : shapeB l
  · rw [treeB_no hs] at h; cases h
  · rfl
set_option maxRecDepth 100000 in
set_option maxHeartbeats 1000000 in
theorem i_exprOk (v : Value) (l : List PNode) (w : World) (hbl : nodesBulk l ≤ 1048576) (t0 : TabAt w 1 kwL) (t1 : TabAt w 2 signL) (t2 : TabAt w 0 biL) (h : NodesIn w w.heap.size v l) : Calls Tryz.prog 12 #[v] w (RetBool w (exprTreeB l)) := by
  have g := Lib.hid h
  obtain ⟨A, c, rfl, hlc, hcm, hcell, r⟩ := h
  clear r
  unfold maxLen at hcm
  cases hT : treeB l
  · have hv := Lib.hid (show exprTreeB l = false by unfold exprTreeB; rw [hT]; rfl)
    have hTH := Lib.hid hT
    clear hT hcell
    rw [hv.out]
    go_enter Tryz.func12, Tryz.ntmps12
    go_wp2_with fail
    refine (i_treeOk _ l _ hbl t0 t1 t2 g.out).mono ?_
    rintro e w1 ⟨rfl, hb1⟩
    rw [hTH.out]
    go_wp2_with fail
    go_ret
    exact ⟨rfl, hb1⟩
  · obtain ⟨hl1, hl2, _⟩ := shapeB_parts (tree_shape hT)
    obtain ⟨nd, hnd⟩ : ∃ nd, l[l.length - 1]? = some nd := ⟨l[l.length - 1]'(by omega), List.getElem?_eq_getElem _⟩
    have hv := Lib.hid (show exprTreeB l = isExprB nd.kind by unfold exprTreeB; rw [hT, last_kind hl1 hnd]; rfl)
    have hTH := Lib.hid hT
    clear hT
    rw [hv.out]
    obtain ⟨b, off, hA, hlt2, hc⟩ := hcell (by omega)
    subst hA
    obtain ⟨_, e0, _⟩ := hc _ nd hnd
    obtain ⟨x, hx⟩ : ∃ x, nd.kind = x := ⟨_, rfl⟩
    rw [hx] at e0 ⊢
    have e0H := Lib.hid e0
    clear hcell hc hnd e0 hx
    go_enter Tryz.func12, Tryz.ntmps12
    go_wp2_with fail
    refine (i_treeOk _ l _ hbl t0 t1 t2 g.out).mono ?_
    rintro e w1 ⟨rfl, hb1⟩
    rw [hTH.out]
    have e0 := (hb1.cell (p := ⟨b, off + (l.length - 1) * 5, none⟩) hlt2).trans e0H.out
    go_wp2_with (go_at_call 11; refine (i_isExpr _ _).mono ?_; rintro e w' ⟨rfl, rfl⟩)
    go_ret
    exact ⟨rfl, hb1⟩
set_option maxRecDepth 100000 in
set_option maxHeartbeats 1000000 in
theorem i_programOk (v : Value) (l : List PNode) (w : World) (hbl : nodesBulk l ≤ 1048576) (t0 : TabAt w 1 kwL) (t1 : TabAt w 2 signL) (t2 : TabAt w 0 biL) (h : NodesIn w w.heap.size v l) : Calls Tryz.prog 14 #[v] w (RetBool w (progTreeB l)) := by
  have g := Lib.hid h
  obtain ⟨A, c, rfl, hlc, hcm, hcell, r⟩ := h
  clear r
  unfold maxLen at hcm
  cases hT : treeB l
  · have hv := Lib.hid (show progTreeB l = false by unfold progTreeB; rw [hT]; rfl)
    have hTH := Lib.hid hT
    clear hT hcell
    rw [hv.out]
    go_enter Tryz.func14, Tryz.ntmps14
    go_wp2_with fail
    refine (i_treeOk _ l _ hbl t0 t1 t2 g.out).mono ?_
    rintro e w1 ⟨rfl, hb1⟩
    rw [hTH.out]
    go_wp2_with fail
    go_ret
    exact ⟨rfl, hb1⟩
  · obtain ⟨hl1, hl2, _⟩ := shapeB_parts (tree_shape hT)
    obtain ⟨nd, hnd⟩ : ∃ nd, l[l.length - 1]? = some nd := ⟨l[l.length - 1]'(by omega), List.getElem?_eq_getElem _⟩
    have hv := Lib.hid (show progTreeB l = (nd.kind == 45) by unfold progTreeB; rw [hT, last_kind hl1 hnd]; rfl)
    have hTH := Lib.hid hT
    clear hT
    rw [hv.out]
    obtain ⟨b, off, hA, hlt2, hc⟩ := hcell (by omega)
    subst hA
    obtain ⟨_, e0, _⟩ := hc _ nd hnd
    obtain ⟨x, hx⟩ : ∃ x, nd.kind = x := ⟨_, rfl⟩
    rw [hx] at e0 ⊢
    have e0H := Lib.hid e0
    clear hcell hc hnd e0 hx
    go_enter Tryz.func14, Tryz.ntmps14
    go_wp2_with fail
    refine (i_treeOk _ l _ hbl t0 t1 t2 g.out).mono ?_
    rintro e w1 ⟨rfl, hb1⟩
    rw [hTH.out]
    have e0 := (hb1.cell (p := ⟨b, off + (l.length - 1) * 5, none⟩) hlt2).trans e0H.out
    go_wp2_with fail
    go_ret
    exact ⟨rfl, hb1⟩
end Go.Proofs.YtlabmboedjnpmaaGreatDoor
