/- TreeOk of the reference (walk). -/
import Derived.Test.YtlabmboedjnpmaaGreatDoorKid
import Derived.Test.YtlabmboedjnpmaaGreatDoorShapeR
import Derived.StillTailTactics
namespace Go.Proofs.YtlabmboedjnpmaaGreatDoor
open Go.RowKit
set_option linter.unusedVariables false
theorem treeB_no {l : List PNode} (h : shapeB l = false) : treeB l = false := by simp [treeB, h]
theorem treeB_deep {l : List PNode} (h : ¬ depthL l ≤ 40) : treeB l = false := by simp [treeB, h]
theorem treeB_go {l : List PNode} (hs : shapeB l = true) (hd : depthL l ≤ 40) : treeB l = l.all (nodeOkB l) := by simp [treeB, hs, hd]
theorem kindAt_nat {l : List PNode} {k : Nat} {nd : PNode} (h : l[k]? = some nd) : kindAt l (k : Int) = nd.kind := by simp [kindAt, h]
theorem fields_known {k o : Int} {t u : ByteArray} {m : Int} (h : fieldsB k o t u m = true) : knownB k = true := by
  cases hk : knownB k
  · simp [fieldsB, hk] at h
  · rfl
set_option maxRecDepth 100000 in
set_option maxHeartbeats 4000000 in
theorem s_treeOk (v : Value) (l : List PNode) (w : World) (hb : nodesBulk l ≤ 1048576) (h : NodesIn w w.heap.size v l) : Calls Tryz.prog 7 #[v] w (RetBool w (treeB l)) := by
  have hl := bulk_len hb
  have hsm : ∀ nd ∈ l, nd.text.size ≤ 16777216 ∧ nd.other.size ≤ 16777216 := fun nd hn => by
    have h1 := bulk_mem hn
    unfold nodesBulk at hb
    unfold nodeBulk at h1
    omega
  have hsmH := Lib.hid hsm
  clear hsm hb
  have g := Lib.hid h
  obtain ⟨A, c, rfl, hlc, hcm, hcell, hsz⟩ := h
  unfold maxLen at hcm
  cases hs : shapeB l
  · rw [treeB_no hs]
    have hsH := Lib.hid hs
    clear hs hcell hsz
    go_enter Tryz.func7, Tryz.ntmps7
    go_wp2_with (first | (go_at_call 21; refine (s_shapeOk _ l _ hl g.out).mono ?_; rintro e w1 ⟨rfl, hb⟩; rw [hsH.out]))
    go_ret
    exact ⟨rfl, hb⟩
  · have hsH := Lib.hid hs
    obtain ⟨hl1, hl2, s, hst, h0⟩ := shapeB_parts hs
    have hkids := Lib.hid (startsL_kids hst)
    clear hs h0 hst
    by_cases hD : depthL l ≤ 40
    · obtain ⟨D, hDD⟩ : ∃ D, depthL l = D := ⟨_, rfl⟩
      have hall := Lib.hid (treeB_go hsH.out hD)
      obtain ⟨R, hR⟩ : ∃ R, treeB l = R := ⟨_, rfl⟩
      rw [hDD] at hD
      rw [hR]
      have hRH := Lib.hid hR
      have hDH := Lib.hid hDD
      clear hR hDD
      have hd1 : decide (40 < (D : Int)) = false := by simp; omega
      obtain ⟨n, hn⟩ : ∃ n, l.length = n := ⟨_, rfl⟩
      have hl3 : l.length ≤ 1048576 := hl
      rw [hn] at hl hlc hcell g hl1 hl2 ⊢
      have hnH := Lib.hid hn
      clear hn
      have hszH := Lib.hid hsz
      clear hsz
      go_enter Tryz.func7, Tryz.ntmps7
      go_wp2_with (first | (go_at_call 21; refine (s_shapeOk _ l _ hl3 g.out).mono ?_; rintro e w1 ⟨rfl, hb1⟩; rw [hsH.out]; have g1 := Lib.hid ((g.out.keep hb1 (Nat.le_refl _)).more hb1.size)) | (go_at_call 22; refine (s_depthOf _ l _ hl3 g1.out).mono ?_; rintro e w2 ⟨rfl, hb2⟩; rw [hDH.out]))
      have hb := hb1.trans (hb2.mono hb1.size)
      clear hb1 hb2 g1
      go_loopw [3] (fun i wr => ∃ (j : Nat), j ≤ n ∧ Hid (R = (l.drop j).all (nodeOkB l)) ∧ i = .int .i64 j ∧ Below w.heap.size w wr) (fun i _ => (n - (intOf i).toNat))
      case atStart => exact ⟨0, by omega, by show _ = _; rw [← hRH.out, hall.out]; rfl, by go_num, hb⟩
      case round =>
        clear hb
        obtain ⟨j, hj, hd, rfl, hb⟩ := hrel
        by_cases hlt : j < n
        · obtain ⟨nd, hnd⟩ : ∃ nd, l[j]? = some nd := ⟨l[j]'(by rw [hnH.out]; exact hlt), List.getElem?_eq_getElem _⟩
          have hcellH := Lib.hid hcell
          obtain ⟨b, off, hA, hlt2, hc⟩ := hcell (by omega)
          subst hA
          have hcH := Lib.hid hc
          obtain ⟨kv, e0, e1, e2, e3, e4, K, kc, rfl, hk1, hk2, hk3, hk4⟩ := hc j nd hnd
          have hcells := Lib.hid (fun (W : World) (hW : Below w.heap.size w W) => (⟨(hW.cell (p := ⟨b, off + j * 5, none⟩) hlt2).trans e0, (hW.cell (p := ⟨b, off + j * 5 + 1, none⟩) hlt2).trans e1, (hW.cell (p := ⟨b, off + j * 5 + 2, none⟩) hlt2).trans e2, (hW.cell (p := ⟨b, off + j * 5 + 3, none⟩) hlt2).trans e3, (hW.cell (p := ⟨b, off + j * 5 + 4, none⟩) hlt2).trans e4⟩ : _ ∧ _ ∧ _ ∧ _ ∧ _))
          clear e0 e1 e2 e3 e4
          obtain ⟨e0, e1, e2, e3, e4⟩ := hcells.out wr hb
          have hmem := List.mem_of_getElem? hnd
          obtain ⟨ht, hu⟩ := hsmH.out nd hmem
          obtain ⟨_, ho, _, _⟩ := hszH.out nd hmem
          have hoH := Lib.hid ho
          have hst := Lib.hid (all_step (l0 := l) hnd)
          have hkd := Lib.hid (hkids.out j nd hnd)
          have hndH := Lib.hid hnd
          clear hmem hc hnd hcell ho
          obtain ⟨m, hm⟩ : ∃ m, nd.kids.length = m := ⟨_, rfl⟩
          rw [hm] at e4 hk1 hk3 hcells
          have hmH := Lib.hid hm
          have hm1 : nodeOkB l nd = (fieldsB nd.kind nd.op nd.text nd.other m && kidsFrom l nd.kind nd.op m nd.kids 0) := by
            unfold nodeOkB
            rw [hm]
          have hm1H := Lib.hid hm1
          clear hm hm1
          have hk2' := hk2
          unfold maxLen at hk2'
          cases hF : fieldsB nd.kind nd.op nd.text nd.other m
          · have hRf : Hid (R = false) := by
              show R = false
              rw [hd.out, hst.out, hm1H.out, hF]
              rfl
            have hFH := Lib.hid hF
            clear hF
            go_wp2_with (go_at_call 23; refine (s_fieldsOk _ _ _ _ _ _ _ _ hoH.out ht hu hk1 hk2).mono ?_; rintro e w3 ⟨rfl, hb3⟩; rw [hFH.out])
            go_ret
            exact ⟨ret_bool hRf.out.symm, hb.trans (hb3.mono hb.size)⟩
          · have hFH := Lib.hid hF
            have hkn := Lib.hid (fields_known hF)
            clear hF
            go_wp2_with (go_at_call 23; refine (s_fieldsOk _ _ _ _ _ _ _ _ hoH.out ht hu hk1 hk2).mono ?_; rintro e w3 ⟨rfl, hb3⟩; rw [hFH.out])
            have hbb := hb.trans (hb3.mono hb.size)
            clear e0 e1 e2 e3 e4 hb3
            go_loopw [4] (fun k wr2 => ∃ (cc : Nat), cc ≤ m ∧ Hid (R = (kidsFrom l nd.kind nd.op m (nd.kids.drop cc) cc && (l.drop (j + 1)).all (nodeOkB l))) ∧ k = .int .i64 cc ∧ Below w.heap.size w wr2) (fun k _ => (m - (intOf k).toNat))
            case atStart =>
              refine ⟨0, by omega, ?_, by go_num, hbb⟩
              show R = _
              rw [hd.out, hst.out, hm1H.out, hFH.out]
              simp
            case round =>
              clear hb hbb
              obtain ⟨cc, hcc, hd2, rfl, hb⟩ := hrel
              obtain ⟨e0, e1, e2, e3, e4⟩ := hcells.out _ hb
              by_cases hkl : cc < m
              · obtain ⟨x, hx⟩ : ∃ x, nd.kids[cc]? = some x := ⟨nd.kids[cc]'(by rw [hmH.out]; exact hkl), List.getElem?_eq_getElem _⟩
                obtain ⟨bk, ok, hK, hbl, hkc⟩ := hk3 (by omega)
                subst hK
                have ex := (hb.cell (p := ⟨bk, ok + cc, none⟩) hbl).trans (hkc cc x hx)
                obtain ⟨hx0, hx1⟩ := hkd.out x (List.mem_of_getElem? hx)
                obtain ⟨k, rfl⟩ := Int.eq_ofNat_of_zero_le hx0
                have hkj : k < n := by omega
                obtain ⟨n2, hn2⟩ : ∃ n2, l[k]? = some n2 := ⟨l[k]'(by rw [hnH.out]; exact hkj), List.getElem?_eq_getElem _⟩
                obtain ⟨_, y0, _⟩ := hcH.out k n2 hn2
                have y0 := (hb.cell (p := ⟨b, off + k * 5, none⟩) hlt2).trans y0
                have hst2 := kidsFrom_step (l := l) (k := nd.kind) (o := nd.op) (m := m) hx
                rw [kindAt_nat hn2] at hst2
                have hst2H := Lib.hid hst2
                clear hst2 hkc hx hn2 hx0
                go_wp2_with fail
                go_still_tail 17, (by kernel_rfl)
                have hb3 : Below w.heap.size w wr.drew := below_drewN hb 1
                change wpList _ _ _ _ _ wr.drew
                clear e0 e1 e2 e3 e4 ex y0 hb
                generalize wr.drew = w3 at hb3 ⊢
                go_wp2_with fail
                refine (s_l7Kid _ hkn.out _ _ _ _ _ _ _ _ _ hk1 hk2 hkl).mono ?_
                rintro e w4 ⟨rfl, hb4⟩
                have hb5 := hb3.trans (hb4.mono hb3.size)
                cases hB : kidB nd.kind nd.op m cc n2.kind
                · have hRf : Hid (R = false) := by
                    show R = false
                    rw [hd2.out, hst2H.out, hB]
                    rfl
                  clear hB hb3 hb4
                  go_wp2_with fail
                  go_ret
                  exact ⟨ret_bool hRf.out.symm, hb5⟩
                · have hRn : Hid (R = (kidsFrom l nd.kind nd.op m (nd.kids.drop (cc + 1)) ((cc + 1 : Nat) : Int) && (l.drop (j + 1)).all (nodeOkB l))) := by
                    show R = _
                    rw [hd2.out, hst2H.out, hB]
                    rfl
                  clear hB hb3 hb4
                  go_wp2_with fail
                  go_roundw
                  case rel => exact ⟨cc + 1, by omega, hRn, by go_num, hb5⟩
                  case measure => simp [intOf]; omega
              · obtain rfl : cc = m := by omega
                have hRn : Hid (R = (l.drop (j + 1)).all (nodeOkB l)) := by
                  show R = _
                  rw [hd2.out, List.drop_eq_nil_of_le (by rw [hmH.out]; exact Nat.le_refl _)]
                  simp [kidsFrom]
                go_wp2_with fail
                go_roundw
                case rel => exact ⟨j + 1, by omega, hRn, by go_num, hb⟩
                case measure => simp [intOf]; omega
        · obtain rfl : j = n := by omega
          have hRt : Hid (R = true) := by
            show R = true
            rw [hd.out, List.drop_eq_nil_of_le (by rw [hnH.out]; exact Nat.le_refl _)]
            rfl
          clear hcell
          go_wp2_with fail
          go_ret
          exact ⟨ret_bool hRt.out.symm, hb⟩
    · rw [treeB_deep hD]
      obtain ⟨D, hDD⟩ : ∃ D, depthL l = D := ⟨_, rfl⟩
      rw [hDD] at hD
      have hDH := Lib.hid hDD
      have hd1 : decide (40 < (D : Int)) = true := by simp; omega
      clear hDD hcell hsz
      go_enter Tryz.func7, Tryz.ntmps7
      go_wp2_with (first | (go_at_call 21; refine (s_shapeOk _ l _ hl g.out).mono ?_; rintro e w1 ⟨rfl, hb1⟩; rw [hsH.out]; have g1 := Lib.hid ((g.out.keep hb1 (Nat.le_refl _)).more hb1.size)) | (go_at_call 22; refine (s_depthOf _ l _ hl g1.out).mono ?_; rintro e w2 ⟨rfl, hb2⟩; rw [hDH.out]))
      go_ret
      exact ⟨rfl, hb1.trans (hb2.mono hb1.size)⟩
end Go.Proofs.YtlabmboedjnpmaaGreatDoor
