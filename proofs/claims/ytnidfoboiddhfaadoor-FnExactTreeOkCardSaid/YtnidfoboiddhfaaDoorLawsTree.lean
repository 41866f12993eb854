/- ExprOk and ProgramOk of the reference and of the program (walks), and the walks of the laws on them and on TreeOk. -/
import Derived.Test.YtnidfoboiddhfaaDoorTreeI
import Derived.Test.YtnidfoboiddhfaaDoorLawsKind
namespace Go.Proofs.YtnidfoboiddhfaaDoor
open Go.RowKit
set_option linter.unusedVariables false
theorem last_kind {l : List PNode} {nd : PNode} (hp : 1 ≤ l.length) (h : l[l.length - 1]? = some nd) : lastKind l = nd.kind := by
  unfold lastKind
  rw [show ((l.length : Nat) : Int) - 1 = ((l.length - 1 : Nat) : Int) by omega]
  exact kindAt_nat h
theorem tree_shape {l : List PNode} (h : treeB l = true) : shapeB l = true := by
  cases hs : shapeB l
  · rw [treeB_no hs] at h; cases h
  · rfl
set_option maxRecDepth 100000 in
set_option maxHeartbeats 1000000 in
theorem s_exprOk (v : Value) (l : List PNode) (w : World) (hbl : nodesBulk l ≤ 1048576) (h : NodesIn w w.heap.size v l) : Calls Tryd.prog 12 #[v] w (RetBool w (exprTreeB l)) := by
  have g := Lib.hid h
  obtain ⟨A, c, rfl, hlc, hcm, hcell, r⟩ := h
  clear r
  unfold maxLen at hcm
  cases hT : treeB l
  · have hv := Lib.hid (show exprTreeB l = false by unfold exprTreeB; rw [hT]; rfl)
    have hTH := Lib.hid hT
    clear hT hcell
    rw [hv.out]
    go_enter Tryd.func12, Tryd.ntmps12
    go_wp2_with fail
    refine (s_treeOk _ l _ hbl g.out).mono ?_
    rintro e w1 ⟨rfl, hb1⟩
    rw [hTH.out]
    go_wp2_with fail
    go_ret
    exact ⟨rfl, hb1⟩
  · obtain ⟨hl1, hl2, _⟩ := shapeB_parts (tree_shape hT)
    obtain ⟨nd, hnd⟩ : ∃ nd, l[l.length - 1]? = some nd := ⟨l[l.length - 1]'(by omega), List.getElem?_eq_getElem _⟩
    have hv := Lib.hid (show exprTreeB l = isExprB nd.kind by unfold exprTreeB; rw [hT, last_kind hl1 hnd]; rfl)
    have hTH := Lib.hid hT
    clear hT
    rw [hv.out]
    obtain ⟨b, off, hA, hlt2, hc⟩ := hcell (by omega)
    subst hA
    obtain ⟨_, e0, _⟩ := hc _ nd hnd
    obtain ⟨x, hx⟩ : ∃ x, nd.kind = x := ⟨_, rfl⟩
    rw [hx] at e0 ⊢
    have e0H := Lib.hid e0
    clear hcell hc hnd e0 hx
    go_enter Tryd.func12, Tryd.ntmps12
    go_wp2_with fail
    refine (s_treeOk _ l _ hbl g.out).mono ?_
    rintro e w1 ⟨rfl, hb1⟩
    rw [hTH.out]
    have e0 := (hb1.cell (p := ⟨b, off + (l.length - 1) * 5, none⟩) hlt2).trans e0H.out
    go_wp2_with (go_at_call 39; refine (s_isExpr _ _).mono ?_; rintro e w' ⟨rfl, rfl⟩)
    go_ret
    exact ⟨rfl, hb1⟩
set_option maxRecDepth 100000 in
set_option maxHeartbeats 1000000 in
theorem s_programOk (v : Value) (l : List PNode) (w : World) (hbl : nodesBulk l ≤ 1048576) (h : NodesIn w w.heap.size v l) : Calls Tryd.prog 16 #[v] w (RetBool w (progTreeB l)) := by
  have g := Lib.hid h
  obtain ⟨A, c, rfl, hlc, hcm, hcell, r⟩ := h
  clear r
  unfold maxLen at hcm
  cases hT : treeB l
  · have hv := Lib.hid (show progTreeB l = false by unfold progTreeB; rw [hT]; rfl)
    have hTH := Lib.hid hT
    clear hT hcell
    rw [hv.out]
    go_enter Tryd.func16, Tryd.ntmps16
    go_wp2_with fail
    refine (s_treeOk _ l _ hbl g.out).mono ?_
    rintro e w1 ⟨rfl, hb1⟩
    rw [hTH.out]
    go_wp2_with fail
    go_ret
    exact ⟨rfl, hb1⟩
  · obtain ⟨hl1, hl2, _⟩ := shapeB_parts (tree_shape hT)
    obtain ⟨nd, hnd⟩ : ∃ nd, l[l.length - 1]? = some nd := ⟨l[l.length - 1]'(by omega), List.getElem?_eq_getElem _⟩
    have hv := Lib.hid (show progTreeB l = (nd.kind == 45) by unfold progTreeB; rw [hT, last_kind hl1 hnd]; rfl)
    have hTH := Lib.hid hT
    clear hT
    rw [hv.out]
    obtain ⟨b, off, hA, hlt2, hc⟩ := hcell (by omega)
    subst hA
    obtain ⟨_, e0, _⟩ := hc _ nd hnd
    obtain ⟨x, hx⟩ : ∃ x, nd.kind = x := ⟨_, rfl⟩
    rw [hx] at e0 ⊢
    have e0H := Lib.hid e0
    clear hcell hc hnd e0 hx
    go_enter Tryd.func16, Tryd.ntmps16
    go_wp2_with fail
    refine (s_treeOk _ l _ hbl g.out).mono ?_
    rintro e w1 ⟨rfl, hb1⟩
    rw [hTH.out]
    have e0 := (hb1.cell (p := ⟨b, off + (l.length - 1) * 5, none⟩) hlt2).trans e0H.out
    go_wp2_with fail
    go_ret
    exact ⟨rfl, hb1⟩
set_option maxRecDepth 100000 in
set_option maxHeartbeats 1000000 in
theorem i_exprOk (v : Value) (l : List PNode) (w : World) (hbl : nodesBulk l ≤ 1048576) (t0 : TabAt w 3 kwL) (t1 : TabAt w 0 signL) (t2 : TabAt w 1 biL) (h : NodesIn w w.heap.size v l) : Calls Tryd.prog 14 #[v] w (RetBool w (exprTreeB l)) := by
  have g := Lib.hid h
  obtain ⟨A, c, rfl, hlc, hcm, hcell, r⟩ := h
  clear r
  unfold maxLen at hcm
  cases hT : treeB l
  · have hv := Lib.hid (show exprTreeB l = false by unfold exprTreeB; rw [hT]; rfl)
    have hTH := Lib.hid hT
    clear hT hcell
    rw [hv.out]
    go_enter Tryd.func14, Tryd.ntmps14
    go_wp2_with fail
    refine (i_treeOk _ l _ hbl t0 t1 t2 g.out).mono ?_
    rintro e w1 ⟨rfl, hb1⟩
    rw [hTH.out]
    go_wp2_with fail
    go_ret
    exact ⟨rfl, hb1⟩
  · obtain ⟨hl1, hl2, _⟩ := shapeB_parts (tree_shape hT)
    obtain ⟨nd, hnd⟩ : ∃ nd, l[l.length - 1]? = some nd := ⟨l[l.length - 1]'(by omega), List.getElem?_eq_getElem _⟩
    have hv := Lib.hid (show exprTreeB l = isExprB nd.kind by unfold exprTreeB; rw [hT, last_kind hl1 hnd]; rfl)
    have hTH := Lib.hid hT
    clear hT
    rw [hv.out]
    obtain ⟨b, off, hA, hlt2, hc⟩ := hcell (by omega)
    subst hA
    obtain ⟨_, e0, _⟩ := hc _ nd hnd
    obtain ⟨x, hx⟩ : ∃ x, nd.kind = x := ⟨_, rfl⟩
    rw [hx] at e0 ⊢
    have e0H := Lib.hid e0
    clear hcell hc hnd e0 hx
    go_enter Tryd.func14, Tryd.ntmps14
    go_wp2_with fail
    refine (i_treeOk _ l _ hbl t0 t1 t2 g.out).mono ?_
    rintro e w1 ⟨rfl, hb1⟩
    rw [hTH.out]
    have e0 := (hb1.cell (p := ⟨b, off + (l.length - 1) * 5, none⟩) hlt2).trans e0H.out
    go_wp2_with (go_at_call 41; refine (i_isExpr _ _).mono ?_; rintro e w' ⟨rfl, rfl⟩)
    go_ret
    exact ⟨rfl, hb1⟩
set_option maxRecDepth 100000 in
set_option maxHeartbeats 1000000 in
theorem i_programOk (v : Value) (l : List PNode) (w : World) (hbl : nodesBulk l ≤ 1048576) (t0 : TabAt w 3 kwL) (t1 : TabAt w 0 signL) (t2 : TabAt w 1 biL) (h : NodesIn w w.heap.size v l) : Calls Tryd.prog 17 #[v] w (RetBool w (progTreeB l)) := by
  have g := Lib.hid h
  obtain ⟨A, c, rfl, hlc, hcm, hcell, r⟩ := h
  clear r
  unfold maxLen at hcm
  cases hT : treeB l
  · have hv := Lib.hid (show progTreeB l = false by unfold progTreeB; rw [hT]; rfl)
    have hTH := Lib.hid hT
    clear hT hcell
    rw [hv.out]
    go_enter Tryd.func17, Tryd.ntmps17
    go_wp2_with fail
    refine (i_treeOk _ l _ hbl t0 t1 t2 g.out).mono ?_
    rintro e w1 ⟨rfl, hb1⟩
    rw [hTH.out]
    go_wp2_with fail
    go_ret
    exact ⟨rfl, hb1⟩
  · obtain ⟨hl1, hl2, _⟩ := shapeB_parts (tree_shape hT)
    obtain ⟨nd, hnd⟩ : ∃ nd, l[l.length - 1]? = some nd := ⟨l[l.length - 1]'(by omega), List.getElem?_eq_getElem _⟩
    have hv := Lib.hid (show progTreeB l = (nd.kind == 45) by unfold progTreeB; rw [hT, last_kind hl1 hnd]; rfl)
    have hTH := Lib.hid hT
    clear hT
    rw [hv.out]
    obtain ⟨b, off, hA, hlt2, hc⟩ := hcell (by omega)
    subst hA
    obtain ⟨_, e0, _⟩ := hc _ nd hnd
    obtain ⟨x, hx⟩ : ∃ x, nd.kind = x := ⟨_, rfl⟩
    rw [hx] at e0 ⊢
    have e0H := Lib.hid e0
    clear hcell hc hnd e0 hx
    go_enter Tryd.func17, Tryd.ntmps17
    go_wp2_with fail
    refine (i_treeOk _ l _ hbl t0 t1 t2 g.out).mono ?_
    rintro e w1 ⟨rfl, hb1⟩
    rw [hTH.out]
    have e0 := (hb1.cell (p := ⟨b, off + (l.length - 1) * 5, none⟩) hlt2).trans e0H.out
    go_wp2_with fail
    go_ret
    exact ⟨rfl, hb1⟩
set_option maxRecDepth 100000 in
set_option maxHeartbeats 1000000 in
theorem l_TreeOk (v0 : Value) (a0 : List PNode) (w : World) (t0 : TabAt w 3 kwL) (t1 : TabAt w 0 signL) (t2 : TabAt w 1 biL) (h0 : NodesIn w w.heap.size v0 a0) : Calls Tryd.prog 10 #[v0] w fun e w' => e = .returned (.bool true) ∧ Below w.heap.size w w' := by
  by_cases hs0 : nodesBulk a0 ≤ 1048576
  · have hz0 : nodesBulk a0 ≤ 1048576 := by omega
    obtain ⟨q0, hq0⟩ : ∃ q : Int, subB 1048576 (nodesBulk a0) = q := ⟨_, rfl⟩
    have hr0 : Hid (q0 = 1048576 - ((nodesBulk a0 : Int) : Int)) := by show _ = _; rw [← hq0, subB_ge (by omega)]
    have hb0 : 0 ≤ q0 ∧ q0 ≤ 1048576 := by have := hr0.out; omega
    go_enter Tryd.func10, Tryd.ntmps10
    go_wp2_with fail
    refine (l_szNodes _ a0 _ _ (by omega) (by omega) h0).mono ?_
    rintro e x1 ⟨rfl, b1⟩
    have c1 := b1
    rw [hq0]
    go_wp2_with fail
    refine (l_toNodes _ a0 _ hz0 ((h0.keep c1 (Nat.le_refl _)).more c1.size)).mono ?_
    rintro e x2 ⟨u0, rfl, s0, _, b2⟩
    have c2 := c1.trans (b2.mono c1.size)
    go_wp2_with fail
    refine (s_treeOk _ a0 _ hz0 s0).mono ?_
    rintro e x3 ⟨rfl, b3⟩
    have c3 := c2.trans (b3.mono c2.size)
    go_wp2_with fail
    refine (l_toNodes _ a0 _ hz0 ((h0.keep c3 (Nat.le_refl _)).more c3.size)).mono ?_
    rintro e x4 ⟨y0, rfl, i0, _, b4⟩
    have c4 := c3.trans (b4.mono c3.size)
    go_wp2_with fail
    refine (i_treeOk _ a0 _ hz0 (t0.later c4) (t1.later c4) (t2.later c4) i0).mono ?_
    rintro e x5 ⟨rfl, b5⟩
    have c5 := c4.trans (b5.mono c4.size)
    have i0 := (i0.keep b5 (Nat.le_refl _)).more b5.size
    go_wp2_with fail
    refine (l_toNodes _ a0 _ hz0 ((h0.keep c5 (Nat.le_refl _)).more c5.size)).mono ?_
    rintro e x6 ⟨z0, rfl, e0, _, b6⟩
    have c6 := c5.trans (b6.mono c5.size)
    have i0 := (i0.keep b6 (Nat.le_refl _)).more b6.size
    go_wp2_with fail
    refine (l_eqNodes _ _ a0 _ i0 e0).mono ?_
    rintro e x7 ⟨rfl, b7⟩
    have c7 := c6.trans (b7.mono c6.size)
    have i0 := (i0.keep b7 (Nat.le_refl _)).more b7.size
    go_wp2_with fail
    go_ret
    exact ⟨rfl, c7⟩
  · go_enter Tryd.func10, Tryd.ntmps10
    go_wp2_with fail
    refine (l_szNodes _ a0 _ _ (by omega) (by omega) h0).mono ?_
    rintro e x1 ⟨rfl, b1⟩
    have c1 := b1
    rw [subB_lt (by omega)]
    go_wp2_with fail
    go_ret
    exact ⟨rfl, c1⟩
set_option maxRecDepth 100000 in
set_option maxHeartbeats 1000000 in
theorem l_ExprOk (v0 : Value) (a0 : List PNode) (w : World) (t0 : TabAt w 3 kwL) (t1 : TabAt w 0 signL) (t2 : TabAt w 1 biL) (h0 : NodesIn w w.heap.size v0 a0) : Calls Tryd.prog 3 #[v0] w fun e w' => e = .returned (.bool true) ∧ Below w.heap.size w w' := by
  by_cases hs0 : nodesBulk a0 ≤ 1048576
  · have hz0 : nodesBulk a0 ≤ 1048576 := by omega
    obtain ⟨q0, hq0⟩ : ∃ q : Int, subB 1048576 (nodesBulk a0) = q := ⟨_, rfl⟩
    have hr0 : Hid (q0 = 1048576 - ((nodesBulk a0 : Int) : Int)) := by show _ = _; rw [← hq0, subB_ge (by omega)]
    have hb0 : 0 ≤ q0 ∧ q0 ≤ 1048576 := by have := hr0.out; omega
    go_enter Tryd.func3, Tryd.ntmps3
    go_wp2_with fail
    refine (l_szNodes _ a0 _ _ (by omega) (by omega) h0).mono ?_
    rintro e x1 ⟨rfl, b1⟩
    have c1 := b1
    rw [hq0]
    go_wp2_with fail
    refine (l_toNodes _ a0 _ hz0 ((h0.keep c1 (Nat.le_refl _)).more c1.size)).mono ?_
    rintro e x2 ⟨u0, rfl, s0, _, b2⟩
    have c2 := c1.trans (b2.mono c1.size)
    go_wp2_with fail
    refine (s_exprOk _ a0 _ hz0 s0).mono ?_
    rintro e x3 ⟨rfl, b3⟩
    have c3 := c2.trans (b3.mono c2.size)
    go_wp2_with fail
    refine (l_toNodes _ a0 _ hz0 ((h0.keep c3 (Nat.le_refl _)).more c3.size)).mono ?_
    rintro e x4 ⟨y0, rfl, i0, _, b4⟩
    have c4 := c3.trans (b4.mono c3.size)
    go_wp2_with fail
    refine (i_exprOk _ a0 _ hz0 (t0.later c4) (t1.later c4) (t2.later c4) i0).mono ?_
    rintro e x5 ⟨rfl, b5⟩
    have c5 := c4.trans (b5.mono c4.size)
    have i0 := (i0.keep b5 (Nat.le_refl _)).more b5.size
    go_wp2_with fail
    refine (l_toNodes _ a0 _ hz0 ((h0.keep c5 (Nat.le_refl _)).more c5.size)).mono ?_
    rintro e x6 ⟨z0, rfl, e0, _, b6⟩
    have c6 := c5.trans (b6.mono c5.size)
    have i0 := (i0.keep b6 (Nat.le_refl _)).more b6.size
    go_wp2_with fail
    refine (l_eqNodes _ _ a0 _ i0 e0).mono ?_
    rintro e x7 ⟨rfl, b7⟩
    have c7 := c6.trans (b7.mono c6.size)
    have i0 := (i0.keep b7 (Nat.le_refl _)).more b7.size
    go_wp2_with fail
    go_ret
    exact ⟨rfl, c7⟩
  · go_enter Tryd.func3, Tryd.ntmps3
    go_wp2_with fail
    refine (l_szNodes _ a0 _ _ (by omega) (by omega) h0).mono ?_
    rintro e x1 ⟨rfl, b1⟩
    have c1 := b1
    rw [subB_lt (by omega)]
    go_wp2_with fail
    go_ret
    exact ⟨rfl, c1⟩
set_option maxRecDepth 100000 in
set_option maxHeartbeats 1000000 in
theorem l_ProgramOk (v0 : Value) (a0 : List PNode) (w : World) (t0 : TabAt w 3 kwL) (t1 : TabAt w 0 signL) (t2 : TabAt w 1 biL) (h0 : NodesIn w w.heap.size v0 a0) : Calls Tryd.prog 4 #[v0] w fun e w' => e = .returned (.bool true) ∧ Below w.heap.size w w' := by
  by_cases hs0 : nodesBulk a0 ≤ 1048576
  · have hz0 : nodesBulk a0 ≤ 1048576 := by omega
    obtain ⟨q0, hq0⟩ : ∃ q : Int, subB 1048576 (nodesBulk a0) = q := ⟨_, rfl⟩
    have hr0 : Hid (q0 = 1048576 - ((nodesBulk a0 : Int) : Int)) := by show _ = _; rw [← hq0, subB_ge (by omega)]
    have hb0 : 0 ≤ q0 ∧ q0 ≤ 1048576 := by have := hr0.out; omega
    go_enter Tryd.func4, Tryd.ntmps4
    go_wp2_with fail
    refine (l_szNodes _ a0 _ _ (by omega) (by omega) h0).mono ?_
    rintro e x1 ⟨rfl, b1⟩
    have c1 := b1
    rw [hq0]
    go_wp2_with fail
    refine (l_toNodes _ a0 _ hz0 ((h0.keep c1 (Nat.le_refl _)).more c1.size)).mono ?_
    rintro e x2 ⟨u0, rfl, s0, _, b2⟩
    have c2 := c1.trans (b2.mono c1.size)
    go_wp2_with fail
    refine (s_programOk _ a0 _ hz0 s0).mono ?_
    rintro e x3 ⟨rfl, b3⟩
    have c3 := c2.trans (b3.mono c2.size)
    go_wp2_with fail
    refine (l_toNodes _ a0 _ hz0 ((h0.keep c3 (Nat.le_refl _)).more c3.size)).mono ?_
    rintro e x4 ⟨y0, rfl, i0, _, b4⟩
    have c4 := c3.trans (b4.mono c3.size)
    go_wp2_with fail
    refine (i_programOk _ a0 _ hz0 (t0.later c4) (t1.later c4) (t2.later c4) i0).mono ?_
    rintro e x5 ⟨rfl, b5⟩
    have c5 := c4.trans (b5.mono c4.size)
    have i0 := (i0.keep b5 (Nat.le_refl _)).more b5.size
    go_wp2_with fail
    refine (l_toNodes _ a0 _ hz0 ((h0.keep c5 (Nat.le_refl _)).more c5.size)).mono ?_
    rintro e x6 ⟨z0, rfl, e0, _, b6⟩
    have c6 := c5.trans (b6.mono c5.size)
    have i0 := (i0.keep b6 (Nat.le_refl _)).more b6.size
    go_wp2_with fail
    refine (l_eqNodes _ _ a0 _ i0 e0).mono ?_
    rintro e x7 ⟨rfl, b7⟩
    have c7 := c6.trans (b7.mono c6.size)
    have i0 := (i0.keep b7 (Nat.le_refl _)).more b7.size
    go_wp2_with fail
    go_ret
    exact ⟨rfl, c7⟩
  · go_enter Tryd.func4, Tryd.ntmps4
    go_wp2_with fail
    refine (l_szNodes _ a0 _ _ (by omega) (by omega) h0).mono ?_
    rintro e x1 ⟨rfl, b1⟩
    have c1 := b1
    rw [subB_lt (by omega)]
    go_wp2_with fail
    go_ret
    exact ⟨rfl, c1⟩
end Go.Proofs.YtnidfoboiddhfaaDoor
