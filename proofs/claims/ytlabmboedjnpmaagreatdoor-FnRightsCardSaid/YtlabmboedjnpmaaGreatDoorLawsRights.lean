/- The walk of the law that a part of a valid tree is valid, and that the nodes of a valid tree have valid fields. -/
import Derived.Test.YtlabmboedjnpmaaGreatDoorLawsTree
import Derived.Test.YtlabmboedjnpmaaGreatDoorBentR
import Derived.Test.YtlabmboedjnpmaaGreatDoorBent
import Derived.Test.YtlabmboedjnpmaaGreatDoorPart
import Derived.Deep.RegionHeld3
namespace Go.Proofs.YtlabmboedjnpmaaGreatDoor
open Go.RowKit
set_option linter.unusedVariables false
theorem l_bigR (v : Value) (l : List UInt8) (w : World) (h : BytesIn w w.heap.size v l) : Calls Tryz.prog 4 #[v] w fun e w' => e = .returned (.bool (decide (1048576 < l.length))) ∧ w = w' := by
  obtain ⟨A, c, rfl, hlc, hcm, _⟩ := h
  unfold maxLen at hcm
  go_enter Tryz.func4, Tryz.ntmps4
  go_wp2_with fail
  go_ret
  exact ⟨ret_bool (by first | rfl | (rw [decide_eq_decide]; omega)), rfl⟩
theorem treeB_falses {l : List PNode} (h : treeB l = false) : exprTreeB l = false ∧ progTreeB l = false := by
  unfold exprTreeB progTreeB
  rw [h]
  exact ⟨rfl, rfl⟩
set_option maxRecDepth 100000 in
set_option maxHeartbeats 4000000 in
theorem l_FnRights (v0 : Value) (a0 : List UInt8) (w : World) (t0 : TabAt w 1 kwL) (t1 : TabAt w 2 signL) (t2 : TabAt w 0 biL) (h0 : BytesIn w w.heap.size v0 a0) : Calls Tryz.prog 3 #[v0] w fun e w' => e = .returned (.bool true) ∧ Below w.heap.size w w' := by
  have hB := Lib.hid h0
  have y0 := Lib.hid t0
  have y1 := Lib.hid t1
  have y2 := Lib.hid t2
  clear t0 t1 t2
  obtain ⟨A, c, rfl, r⟩ := h0
  clear r
  by_cases hbig : 1048576 < a0.length
  · have hd := Lib.hid (show decide (1048576 < a0.length) = true by simpa using hbig)
    clear hbig
    go_enter Tryz.func3, Tryz.ntmps3
    go_wp2_with fail
    refine (l_bigR _ a0 _ hB.out).mono ?_
    rintro e w' ⟨rfl, rfl⟩
    rw [hd.out]
    go_wp2_with fail
    go_ret
    exact ⟨rfl, Below.refl _ _⟩
  · have hd := Lib.hid (show decide (1048576 < a0.length) = false by simpa using hbig)
    have hl := Lib.hid (show a0.length ≤ 1048576 by omega)
    clear hbig
    go_enter Tryz.func3, Tryz.ntmps3
    go_wp2_with fail
    refine (l_bigR _ a0 _ hB.out).mono ?_
    rintro e w' ⟨rfl, rfl⟩
    rw [hd.out]
    go_wp2_with fail
    refine (d_drawTree _ a0 _ hl.out hB.out).mono ?_
    rintro e w1 ⟨A1, n, c1, l, rfl, hN, hS, hbb⟩
    have hNH := Lib.hid hN
    have hSH := Lib.hid hS
    have hbk := Lib.hid hS.bulk
    have hb1 := Lib.hid hbb
    have x0 := Lib.hid (y0.out.later hbb)
    have x1 := Lib.hid (y1.out.later hbb)
    have x2 := Lib.hid (y2.out.later hbb)
    obtain ⟨A', c', ev, hlc, hcm, hcell, hsz⟩ := hN
    injection ev with e1 e2 e3
    subst e1 e3
    have hnH := Lib.hid e2.symm
    rw [← e2] at hlc hcell
    unfold maxLen at hcm
    clear hsz hS hbb e2
    cases hT : treeB l
    · have hTH := Lib.hid hT
      have hE := Lib.hid (treeB_falses hT)
      clear hT hcell
      go_wp2_with fail
      refine (i_treeOk _ l _ hbk.out x0.out x1.out x2.out hNH.out).mono ?_
      rintro e w2 ⟨rfl, hbb⟩
      rw [hTH.out]
      have hb2 := Lib.hid hbb
      clear hbb
      go_wp2_with fail
      refine (s_treeOk _ l _ hbk.out ((hNH.out.keep hb2.out (Nat.le_refl _)).more hb2.out.size)).mono ?_
      rintro e w3 ⟨rfl, hbb⟩
      rw [hTH.out]
      have hb3 := Lib.hid (hb2.out.trans (hbb.mono hb2.out.size))
      clear hbb
      go_wp2_with fail
      go_loopw [5] (fun i wr => i = .int .i64 0 ∧ wr = w3) (fun _ _ => 0)
      case atStart => exact ⟨rfl, rfl⟩
      case round =>
        obtain ⟨rfl, rfl⟩ := hrel
        go_wp2_with fail
        all_goals
          refine (i_exprOk _ l _ hbk.out (x0.out.later hb3.out) (x1.out.later hb3.out) (x2.out.later hb3.out) ((hNH.out.keep hb3.out (Nat.le_refl _)).more hb3.out.size)).mono ?_
          rintro e w4 ⟨rfl, hbb⟩
          rw [hE.out.1]
          have hb4 := Lib.hid (hb3.out.trans (hbb.mono hb3.out.size))
          clear hbb
          go_wp2_with fail
          refine (i_programOk _ l _ hbk.out (x0.out.later hb4.out) (x1.out.later hb4.out) (x2.out.later hb4.out) ((hNH.out.keep hb4.out (Nat.le_refl _)).more hb4.out.size)).mono ?_
          rintro e w5 ⟨rfl, hbb⟩
          rw [hE.out.2]
          have hb5 := Lib.hid (hb4.out.trans (hbb.mono hb4.out.size))
          clear hbb
          go_wp2_with fail
          go_ret
          exact ⟨rfl, hb1.out.trans (hb5.out.mono hb1.out.size)⟩
    · have hTH := Lib.hid hT
      obtain ⟨hl1, hl2, _⟩ := shapeB_parts (tree_shape hT)
      have hshH := Lib.hid (tree_shape hT)
      obtain ⟨s, hs, hparts⟩ := part_tree hT
      have hsH := Lib.hid hs
      have hpaH := Lib.hid hparts
      rw [hnH.out] at hl1 hl2
      obtain ⟨b, off, hA, hlt2, hc⟩ := hcell (by omega)
      subst hA
      have hcH := Lib.hid hc
      clear hT hcell hs hparts hc
      go_wp2_with fail
      refine (i_treeOk _ l _ hbk.out x0.out x1.out x2.out hNH.out).mono ?_
      rintro e w2 ⟨rfl, hbb⟩
      rw [hTH.out]
      have hb2 := Lib.hid hbb
      clear hbb
      go_wp2_with fail
      refine (s_treeOk _ l _ hbk.out ((hNH.out.keep hb2.out (Nat.le_refl _)).more hb2.out.size)).mono ?_
      rintro e w3 ⟨rfl, hbb⟩
      rw [hTH.out]
      have hb3 := Lib.hid (hb2.out.trans (hbb.mono hb2.out.size))
      clear hbb
      go_wp2_with fail
      go_loopw [5] (fun i wr => ∃ j : Nat, j ≤ n ∧ i = .int .i64 (j : Int) ∧ Hid (Below w1.heap.size w1 wr)) (fun i _ => (n - (intOf i).toNat))
      case atStart => exact ⟨0, by omega, by go_num, hb3⟩
      case round =>
        obtain ⟨j, hj, rfl, hbr⟩ := hrel
        by_cases hlt : j < n
        · obtain ⟨nd, hnd⟩ : ∃ nd, l[j]? = some nd := ⟨l[j]'(by rw [hnH.out]; exact hlt), List.getElem?_eq_getElem _⟩
          obtain ⟨kv, e0, e1, e2, e3, e4, K, kc, rfl, hk1, hk2, hk3, hk4⟩ := hcH.out j nd hnd
          have hsn := hSH.out.2 nd (List.mem_of_getElem? hnd)
          obtain ⟨m, hm⟩ : ∃ m, nd.kids.length = m := ⟨_, rfl⟩
          have hm9 : m ≤ 9 := by rw [← hm]; exact hsn.few
          have hfb := tree_node hTH.out hnd
          have hlv := level_expr hfb
          rw [hm] at hfb e4 hk1
          have hkeep : ∀ W, Below wr.drew.heap.size wr.drew W → Below w1.heap.size w1 W := fun W hb => (below_drewN hbr.out 1).trans (hb.mono hbr.out.size)
          have hkeepH := Lib.hid hkeep
          have hkH := Lib.hid (show ∀ W, Below wr.drew.heap.size wr.drew W → W.cell? ⟨b, off + j * 5, none⟩ = some (.int .i64 nd.kind) ∧ W.cell? ⟨b, off + j * 5 + 1, none⟩ = some (.int .i64 nd.op) ∧ W.cell? ⟨b, off + j * 5 + 2, none⟩ = some (.string nd.text) ∧ W.cell? ⟨b, off + j * 5 + 3, none⟩ = some (.string nd.other) ∧ W.cell? ⟨b, off + j * 5 + 4, none⟩ = some (.slice K m kc) from fun W hb => by
            have hw := hkeep W hb
            exact ⟨(hw.cell (p := ⟨b, off + j * 5, none⟩) hlt2).trans e0, (hw.cell (p := ⟨b, off + j * 5 + 1, none⟩) hlt2).trans e1, (hw.cell (p := ⟨b, off + j * 5 + 2, none⟩) hlt2).trans e2, (hw.cell (p := ⟨b, off + j * 5 + 3, none⟩) hlt2).trans e3, (hw.cell (p := ⟨b, off + j * 5 + 4, none⟩) hlt2).trans e4⟩)
          have hF := Lib.hid (show ∀ W, Below wr.drew.heap.size wr.drew W → Calls Tryz.prog 8 #[.agg #[.int .i64 nd.kind, .int .i64 nd.op, .string nd.text, .string nd.other, .slice K m kc]] W (RetBool W true) from fun W hb => by
            have hw := hkeep W hb
            have h := i_fieldsOk nd.kind nd.op nd.text nd.other K m kc W (by have := hsn.text; omega) (by have := hsn.other; omega) (by omega) hk1 hk2 (x0.out.later hw) (x1.out.later hw) (x2.out.later hw)
            rw [hfb] at h
            exact h)
          have hP := Lib.hid (show ∀ W, Below wr.drew.heap.size wr.drew W → Calls Tryz.prog 9 #[.slice (some ⟨b, off, none⟩) n c1, .int .i64 (j : Int)] W (RetPart W (partL l (s.getD j 0) j)) from fun W hb =>
            d_part _ l j s W hshH.out hsH.out (by rw [hnH.out]; exact hlt) hSH.out ((hNH.out.keep (hkeep W hb) (Nat.le_refl _)).more (hkeep W hb).size))
          have hTr := Lib.hid (show ∀ W v, Below wr.drew.heap.size wr.drew W → NodesIn W W.heap.size v (partL l (s.getD j 0) j) → Calls Tryz.prog 6 #[v] W (RetBool W true) from fun W v hb hv => by
            have hw := hkeep W hb
            have h := i_treeOk v _ W (part_bulk hSH.out (s.getD j 0) j) (x0.out.later hw) (x1.out.later hw) (x2.out.later hw) hv
            rw [hpaH.out j (by rw [hnH.out]; exact hlt)] at h
            exact h)
          obtain ⟨L, hL⟩ : ∃ L, levelOf nd.kind nd.op = L := ⟨_, rfl⟩
          have hLv := Lib.hid (show ∀ W, Calls Tryz.prog 10 #[.agg #[.int .i64 nd.kind, .int .i64 nd.op, .string nd.text, .string nd.other, .slice K m kc]] W (RetInt W L) from fun W => by
            have h := i_levelOf nd.kind nd.op nd.text nd.other K m kc W
            rw [hL] at h
            exact h)
          obtain ⟨X, hX⟩ : ∃ X, isExprB nd.kind = X := ⟨_, rfl⟩
          have hIs := Lib.hid (show ∀ W, Calls Tryz.prog 11 #[.int .i64 nd.kind] W fun e w' => e = .returned (.bool X) ∧ W = w' from fun W => by
            have h := i_isExpr nd.kind W
            rw [hX] at h
            exact h)
          rw [hL, hX] at hlv
          have bacc : Below wr.drew.heap.size wr.drew wr.drew := Below.refl _ _
          clear hkeep e0 e1 e2 e3 e4 hk1 hk2 hk3 hk4 hfb hsn hm hnd hL hX
          cases X
          · have hlv : decide (0 < L) = false := hlv
            go_wp2_with fail
            go_region_held3 (fun W => W.cell? ⟨b, off + j * 5, none⟩ = some (.int .i64 nd.kind) ∧ W.cell? ⟨b, off + j * 5 + 1, none⟩ = some (.int .i64 nd.op) ∧ W.cell? ⟨b, off + j * 5 + 2, none⟩ = some (.string nd.text) ∧ W.cell? ⟨b, off + j * 5 + 3, none⟩ = some (.string nd.other) ∧ W.cell? ⟨b, off + j * 5 + 4, none⟩ = some (.slice K m kc)) (exact hkH.out _ bacc) (first
              | ((go_at_call 8; refine (hF.out _ bacc).mono ?_; rintro e x6 ⟨rfl, ba⟩; have bacc := Below.trans bacc (ba.mono bacc.size); clear ba))
              | ((go_at_call 9; refine (hP.out _ bacc).mono ?_; rintro e x7 ⟨v7, rfl, hN7, ba⟩; have bacc := Below.trans bacc (ba.mono bacc.size); have hN7H := Lib.hid hN7; obtain ⟨A7, c7, rfl, _⟩ := hN7; clear ba))
              | ((go_at_call 6; refine (hTr.out _ _ bacc hN7H.out).mono ?_; rintro e x8 ⟨rfl, ba⟩; have bacc := Below.trans bacc (ba.mono bacc.size); clear ba))
              | ((go_at_call 10; refine (hLv.out _).mono ?_; rintro e x9 ⟨rfl, ba⟩; have bacc := Below.trans bacc (ba.mono bacc.size); clear ba))
              | ((go_at_call 11; refine (hIs.out _).mono ?_; rintro e x10 ⟨rfl, rfl⟩)))
            all_goals
              have hbn : Hid (Below w1.heap.size w1 _) := hkeepH.out _ bacc
              clear bacc
              go_wp2_with fail
              go_roundw
              case rel => exact ⟨j + 1, by omega, by go_num, hbn⟩
              case measure => simp [intOf]; omega
          · have hlv : decide (0 < L) = true := hlv
            go_wp2_with fail
            go_region_held3 (fun W => W.cell? ⟨b, off + j * 5, none⟩ = some (.int .i64 nd.kind) ∧ W.cell? ⟨b, off + j * 5 + 1, none⟩ = some (.int .i64 nd.op) ∧ W.cell? ⟨b, off + j * 5 + 2, none⟩ = some (.string nd.text) ∧ W.cell? ⟨b, off + j * 5 + 3, none⟩ = some (.string nd.other) ∧ W.cell? ⟨b, off + j * 5 + 4, none⟩ = some (.slice K m kc)) (exact hkH.out _ bacc) (first
              | ((go_at_call 8; refine (hF.out _ bacc).mono ?_; rintro e x6 ⟨rfl, ba⟩; have bacc := Below.trans bacc (ba.mono bacc.size); clear ba))
              | ((go_at_call 9; refine (hP.out _ bacc).mono ?_; rintro e x7 ⟨v7, rfl, hN7, ba⟩; have bacc := Below.trans bacc (ba.mono bacc.size); have hN7H := Lib.hid hN7; obtain ⟨A7, c7, rfl, _⟩ := hN7; clear ba))
              | ((go_at_call 6; refine (hTr.out _ _ bacc hN7H.out).mono ?_; rintro e x8 ⟨rfl, ba⟩; have bacc := Below.trans bacc (ba.mono bacc.size); clear ba))
              | ((go_at_call 10; refine (hLv.out _).mono ?_; rintro e x9 ⟨rfl, ba⟩; have bacc := Below.trans bacc (ba.mono bacc.size); clear ba))
              | ((go_at_call 11; refine (hIs.out _).mono ?_; rintro e x10 ⟨rfl, rfl⟩)))
            all_goals
              have hbn : Hid (Below w1.heap.size w1 _) := hkeepH.out _ bacc
              clear bacc
              go_wp2_with fail
              go_roundw
              case rel => exact ⟨j + 1, by omega, by go_num, hbn⟩
              case measure => simp [intOf]; omega
        · obtain rfl : j = n := by omega
          obtain ⟨nd, hnd⟩ : ∃ nd, l[j - 1]? = some nd := ⟨l[j - 1]'(by rw [hnH.out]; omega), List.getElem?_eq_getElem _⟩
          obtain ⟨kv, e0, _⟩ := hcH.out (j - 1) nd hnd
          have hlk : lastKind l = nd.kind := last_kind (by rw [hnH.out]; exact hl1) (by rw [hnH.out]; exact hnd)
          obtain ⟨kd, hkd⟩ : ∃ kd, nd.kind = kd := ⟨_, rfl⟩
          rw [hkd] at e0 hlk
          have e0H := Lib.hid e0
          obtain ⟨X, hX⟩ : ∃ X, isExprB kd = X := ⟨_, rfl⟩
          have hE := Lib.hid (show exprTreeB l = X by unfold exprTreeB; rw [hTH.out, hlk, hX]; rfl)
          have hQ := Lib.hid (show progTreeB l = (kd == 45) by unfold progTreeB; rw [hTH.out, hlk]; rfl)
          have hXH := Lib.hid hX
          clear hnd e0 hlk hkd hX
          go_wp2_with fail
          refine (i_exprOk _ l _ hbk.out (x0.out.later hbr.out) (x1.out.later hbr.out) (x2.out.later hbr.out) ((hNH.out.keep hbr.out (Nat.le_refl _)).more hbr.out.size)).mono ?_
          rintro e w4 ⟨rfl, hbb⟩
          rw [hE.out]
          have hb4 := Lib.hid (hbr.out.trans (hbb.mono hbr.out.size))
          clear hbb
          have e4 := (hb4.out.cell (p := ⟨b, off + (j - 1) * 5, none⟩) hlt2).trans e0H.out
          go_wp2_with fail
          refine (s_isExpr _ _).mono ?_
          rintro e w' ⟨rfl, rfl⟩
          rw [hXH.out]
          clear e4
          cases X
          all_goals
            go_wp2_with fail
            refine (i_programOk _ l _ hbk.out (x0.out.later hb4.out) (x1.out.later hb4.out) (x2.out.later hb4.out) ((hNH.out.keep hb4.out (Nat.le_refl _)).more hb4.out.size)).mono ?_
            rintro e w5 ⟨rfl, hbb⟩
            rw [hQ.out]
            have hb5 := Lib.hid (hb4.out.trans (hbb.mono hb4.out.size))
            clear hbb
            have e5 := (hb5.out.cell (p := ⟨b, off + (j - 1) * 5, none⟩) hlt2).trans e0H.out
            go_wp2_with fail
            go_ret
            exact ⟨ret_bool (by simp), hb1.out.trans (hb5.out.mono hb1.out.size)⟩
end Go.Proofs.YtlabmboedjnpmaaGreatDoor
