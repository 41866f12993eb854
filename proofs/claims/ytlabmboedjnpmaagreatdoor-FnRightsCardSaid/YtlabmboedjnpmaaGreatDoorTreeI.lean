/- TreeOk of the program (walk). -/
import Derived.Test.YtlabmboedjnpmaaGreatDoorKidI
import Derived.Test.YtlabmboedjnpmaaGreatDoorTree
import Derived.Test.YtlabmboedjnpmaaGreatDoorFieldI6
import Derived.Test.YtlabmboedjnpmaaGreatDoorDepthR
namespace Go.Proofs.YtlabmboedjnpmaaGreatDoor
open Go.RowKit
set_option linter.unusedVariables false
theorem treeB_and {l : List PNode} (hs : shapeB l = true) : treeB l = (l.all (nodeOkB l) && decide (depthL l ≤ 40)) := by
  simp [treeB, hs, Bool.and_comm]
set_option maxRecDepth 100000 in
set_option maxHeartbeats 4000000 in
theorem i_treeOk (v : Value) (l : List PNode) (w : World) (hb : nodesBulk l ≤ 1048576) (t0 : TabAt w 1 kwL) (t1 : TabAt w 2 signL) (t2 : TabAt w 0 biL) (h : NodesIn w w.heap.size v l) : Calls Tryz.prog 6 #[v] w (RetBool w (treeB l)) := by
  have hl := bulk_len hb
  have hsm : ∀ nd ∈ l, nd.text.size ≤ 16777216 ∧ nd.other.size ≤ 16777216 := fun nd hn => by
    have h1 := bulk_mem hn
    unfold nodesBulk at hb
    unfold nodeBulk at h1
    omega
  have hsmH := Lib.hid hsm
  have t0 := Lib.hid t0
  have t1 := Lib.hid t1
  have t2 := Lib.hid t2
  clear hsm hb
  have g := Lib.hid h
  obtain ⟨A, c, rfl, hlc, hcm, hcell, hsz⟩ := h
  unfold maxLen at hcm
  cases hs : shapeB l
  · rw [treeB_no hs]
    have hsH := Lib.hid hs
    clear hs hcell hsz
    go_enter Tryz.func6, Tryz.ntmps6
    go_wp2_with (first | (go_at_call 17; refine (i_shapeOk _ l _ g.out).mono ?_; rintro e w1 ⟨rfl, hb⟩; rw [hsH.out]))
    go_ret
    exact ⟨rfl, hb⟩
  · have hsH := Lib.hid hs
    obtain ⟨hl1, hl2, s, hst, h0⟩ := shapeB_parts hs
    have hkids := Lib.hid (startsL_kids hst)
    have hkl := Lib.hid (shape_klen hs)
    clear hs h0 hst
    have hall := Lib.hid (treeB_and hsH.out)
    obtain ⟨D, hDD⟩ : ∃ D, depthL l = D := ⟨_, rfl⟩
    obtain ⟨R, hR⟩ : ∃ R, treeB l = R := ⟨_, rfl⟩
    obtain ⟨rt, hrt⟩ : ∃ rt, l[l.length - 1]? = some rt := ⟨l[l.length - 1]'(by omega), List.getElem?_eq_getElem _⟩
    rw [hR]
    have hrtH := Lib.hid hrt
    have hRH := Lib.hid hR
    have hDH := Lib.hid hDD
    clear hR hDD hrt
    obtain ⟨n, hn⟩ : ∃ n, l.length = n := ⟨_, rfl⟩
    rw [hn] at hl hlc hcell g hl1 hl2 ⊢
    have hnH := Lib.hid hn
    clear hn
    have hszH := Lib.hid hsz
    clear hsz
    go_enter Tryz.func6, Tryz.ntmps6
    go_wp2_with (first | (go_at_call 17; refine (i_shapeOk _ l _ g.out).mono ?_; rintro e w1 ⟨rfl, hb⟩; rw [hsH.out]))
    go_loopw [12] (fun i wr => ∃ (j : Nat), j ≤ n ∧ Hid (R = ((l.drop j).all (nodeOkB l) && decide (D ≤ 40))) ∧ i = .int .i64 j ∧ Below w.heap.size w wr) (fun i _ => (n - (intOf i).toNat))
    case atStart => exact ⟨0, by omega, by show _ = _; rw [← hRH.out, hall.out, hDH.out]; rfl, by go_num, hb⟩
    case round =>
      clear hb
      obtain ⟨j, hj, hd, rfl, hb⟩ := hrel
      by_cases hlt : j < n
      · obtain ⟨nd, hnd⟩ : ∃ nd, l[j]? = some nd := ⟨l[j]'(by rw [hnH.out]; exact hlt), List.getElem?_eq_getElem _⟩
        have hcellH := Lib.hid hcell
        obtain ⟨b, off, hA, hlt2, hc⟩ := hcell (by omega)
        subst hA
        have hcH := Lib.hid hc
        obtain ⟨kv, e0, e1, e2, e3, e4, K, kc, rfl, hk1, hk2, hk3, hk4⟩ := hc j nd hnd
        have hcells := Lib.hid (fun (W : World) (hW : Below w.heap.size w W) => (⟨(hW.cell (p := ⟨b, off + j * 5, none⟩) hlt2).trans e0, (hW.cell (p := ⟨b, off + j * 5 + 1, none⟩) hlt2).trans e1, (hW.cell (p := ⟨b, off + j * 5 + 2, none⟩) hlt2).trans e2, (hW.cell (p := ⟨b, off + j * 5 + 3, none⟩) hlt2).trans e3, (hW.cell (p := ⟨b, off + j * 5 + 4, none⟩) hlt2).trans e4⟩ : _ ∧ _ ∧ _ ∧ _ ∧ _))
        clear e0 e1 e2 e3 e4
        obtain ⟨e0, e1, e2, e3, e4⟩ := hcells.out wr hb
        have hmem := List.mem_of_getElem? hnd
        obtain ⟨ht, hu⟩ := hsmH.out nd hmem
        have hk400 := hkl.out nd hmem
        have hst := Lib.hid (all_step (l0 := l) hnd)
        have hkd := Lib.hid (hkids.out j nd hnd)
        have hndH := Lib.hid hnd
        clear hmem hc hnd hcell
        obtain ⟨m, hm⟩ : ∃ m, nd.kids.length = m := ⟨_, rfl⟩
        rw [hm] at e4 hk1 hk3 hcells hk400
        have hmH := Lib.hid hm
        have hm1 : nodeOkB l nd = (fieldsB nd.kind nd.op nd.text nd.other m && kidsFrom l nd.kind nd.op m nd.kids 0) := by
          unfold nodeOkB
          rw [hm]
        have hm1H := Lib.hid hm1
        clear hm hm1
        have hk2' := hk2
        unfold maxLen at hk2'
        have hbA : Below w.heap.size w (wr.alloc (.cells #[.int .i64 nd.kind, .int .i64 nd.op, .string nd.text, .string nd.other, .slice K m kc] 30)) := hb.alloc hb.size _
        have x0 := Lib.hid (t0.out.later hbA)
        have x1 := Lib.hid (t1.out.later hbA)
        have x2 := Lib.hid (t2.out.later hbA)
        have hGA := Has.made wr 30 #[.int .i64 nd.kind, .int .i64 nd.op, .string nd.text, .string nd.other, .slice K m kc]
        cases hF : fieldsB nd.kind nd.op nd.text nd.other m
        · have hRf : Hid (R = false) := by
            show R = false
            rw [hd.out, hst.out, hm1H.out, hF]
            rfl
          have hFH := Lib.hid hF
          clear hF hGA
          go_wp2_with (go_at_call 8; refine (i_fieldsOk _ _ _ _ _ _ _ _ ht hu hk400 hk1 hk2 x0.out x1.out x2.out).mono ?_; rintro e w3 ⟨rfl, hb3⟩; rw [hFH.out])
          go_ret
          exact ⟨ret_bool hRf.out.symm, hbA.trans (hb3.mono hbA.size)⟩
        · have hFH := Lib.hid hF
          clear hF
          have hGH := Lib.hid hGA
          clear hGA
          have hbAH := Lib.hid hbA
          clear hbA
          go_wp2_with fail
          refine (i_fieldsOk _ _ _ _ _ _ _ _ ht hu hk400 hk1 hk2 x0.out x1.out x2.out).mono ?_
          rintro e w3 ⟨rfl, hb3⟩
          rw [hFH.out]
          have hbb := hbAH.out.trans (hb3.mono hbAH.out.size)
          have hG3 := hGH.out.below hb3 (by simp)
          have f0 : w3.cell? ⟨wr.heap.size, 0, none⟩ = _ := hG3.get (i := 0) rfl
          have f1 : w3.cell? ⟨wr.heap.size, 1, none⟩ = _ := hG3.get (i := 1) rfl
          have f2 : w3.cell? ⟨wr.heap.size, 2, none⟩ = _ := hG3.get (i := 2) rfl
          have f3 : w3.cell? ⟨wr.heap.size, 3, none⟩ = _ := hG3.get (i := 3) rfl
          have f4 : w3.cell? ⟨wr.heap.size, 4, none⟩ = _ := hG3.get (i := 4) rfl
          have hG3H := Lib.hid hG3
          clear e0 e1 e2 e3 e4 hb3 hG3
          go_wp2_with fail
          go_loopw [22] (fun k wr2 => ∃ (cc : Nat), cc ≤ m ∧ Hid (R = (kidsFrom l nd.kind nd.op m (nd.kids.drop cc) cc && (l.drop (j + 1)).all (nodeOkB l) && decide (D ≤ 40))) ∧ k = .int .i64 cc ∧ Hid (Has wr2 wr.heap.size 30 #[.int .i64 nd.kind, .int .i64 nd.op, .string nd.text, .string nd.other, .slice K m kc]) ∧ Below w.heap.size w wr2) (fun k _ => (m - (intOf k).toNat))
          case atStart =>
            refine ⟨0, by omega, ?_, by go_num, hG3H, hbb⟩
            show R = _
            rw [hd.out, hst.out, hm1H.out, hFH.out]
            simp
          case round =>
            clear f0 f1 f2 f3 f4 hG3H
            have hb0 := Lib.hid hb
            clear hb hbb
            obtain ⟨cc, hcc, hd2, rfl, hG, hb⟩ := hrel
            have f0 := hG.out.get (i := 0) rfl
            have f1 := hG.out.get (i := 1) rfl
            have f2 := hG.out.get (i := 2) rfl
            have f3 := hG.out.get (i := 3) rfl
            have f4 := hG.out.get (i := 4) rfl
            by_cases hkl : cc < m
            · obtain ⟨x, hx⟩ : ∃ x, nd.kids[cc]? = some x := ⟨nd.kids[cc]'(by rw [hmH.out]; exact hkl), List.getElem?_eq_getElem _⟩
              obtain ⟨bk, ok, hK, hbl, hkc⟩ := hk3 (by omega)
              subst hK
              have ex := (hb.cell (p := ⟨bk, ok + cc, none⟩) hbl).trans (hkc cc x hx)
              obtain ⟨hx0, hx1⟩ := hkd.out x (List.mem_of_getElem? hx)
              obtain ⟨k, rfl⟩ := Int.eq_ofNat_of_zero_le hx0
              have hkj : k < n := by omega
              obtain ⟨n2, hn2⟩ : ∃ n2, l[k]? = some n2 := ⟨l[k]'(by rw [hnH.out]; exact hkj), List.getElem?_eq_getElem _⟩
              obtain ⟨_, y0, _⟩ := hcH.out k n2 hn2
              have y0 := (hb.cell (p := ⟨b, off + k * 5, none⟩) hlt2).trans y0
              have hst2 := kidsFrom_step (l := l) (k := nd.kind) (o := nd.op) (m := m) hx
              rw [kindAt_nat hn2] at hst2
              have hst2H := Lib.hid hst2
              clear hst2 hkc hx hn2 hx0
              go_wp2_with fail
              go_still_tail 7, (by kernel_rfl)
              have hb3 : Below w.heap.size w wr.drew := below_drewN hb 1
              have hG3 := Lib.hid hG.out.drew
              change wpList _ _ _ _ _ wr.drew
              clear f0 f1 f2 f3 f4 ex y0 hb hG
              generalize wr.drew = w4 at hb3 hG3 ⊢
              go_wp2_with fail
              refine (i_kidOk _ _ _ _ _ _ _ _ _ _ hk1 hk2 hkl hFH.out).mono ?_
              rintro e w5 ⟨rfl, hb5⟩
              have hb6 := hb3.trans (hb5.mono hb3.size)
              have hG5 : Hid (Has w5 _ 30 _) := hG3.out.below hb5 hG3.out.lt
              cases hB : kidB nd.kind nd.op m cc n2.kind
              · have hRf : Hid (R = false) := by
                  show R = false
                  rw [hd2.out, hst2H.out, hB]
                  rfl
                clear hB hb3 hb5
                go_wp2_with fail
                go_ret
                exact ⟨ret_bool hRf.out.symm, hb6⟩
              · have hRn : Hid (R = (kidsFrom l nd.kind nd.op m (nd.kids.drop (cc + 1)) ((cc + 1 : Nat) : Int) && (l.drop (j + 1)).all (nodeOkB l) && decide (D ≤ 40))) := by
                  show R = _
                  rw [hd2.out, hst2H.out, hB]
                  rfl
                clear hB hb3 hb5
                go_wp2_with fail
                go_roundw
                case rel => exact ⟨cc + 1, by omega, hRn, by go_num, hG5, hb6⟩
                case measure => simp [intOf]; omega
            · obtain rfl : cc = m := by omega
              have hRn : Hid (R = ((l.drop (j + 1)).all (nodeOkB l) && decide (D ≤ 40))) := by
                show R = _
                rw [hd2.out, List.drop_eq_nil_of_le (by rw [hmH.out]; exact Nat.le_refl _)]
                simp [kidsFrom]
              go_wp2_with fail
              go_roundw
              case rel => exact ⟨j + 1, by omega, hRn, by go_num, hb⟩
              case measure => simp [intOf]; omega
      · obtain rfl : j = n := by omega
        have hRt : Hid (R = decide (D ≤ 40)) := by
          show R = _
          rw [hd.out, List.drop_eq_nil_of_le (by rw [hnH.out]; exact Nat.le_refl _)]
          rfl
        clear hcell
        have g1 := Lib.hid ((g.out.keep hb (Nat.le_refl _)).more hb.size)
        go_wp2_with fail
        refine (i_rootOf _ l rt _ hsH.out hrtH.out g1.out).mono ?_
        rintro e w2 ⟨A2, c2, rfl, hkv, hb2⟩
        have hkv2 := Lib.hid hkv
        clear hkv
        have hb12 := hb.trans (hb2.mono hb.size)
        go_wp2_with fail
        refine (i_rootDepth l rt A2 c2 _ _ hsH.out hrtH.out hkv2.out (fun b hb => hb.2)).mono ?_
        rintro e w3 ⟨rfl, hb3⟩
        rw [hDH.out]
        have hb4 := hb12.trans (hb3.mono hb12.size)
        clear hb3 hb2 hb12
        go_wp2_with fail
        go_ret
        exact ⟨ret_bool (by rw [hRt.out]; first | rfl | (rw [decide_eq_decide]; omega)), hb4⟩
end Go.Proofs.YtlabmboedjnpmaaGreatDoor
