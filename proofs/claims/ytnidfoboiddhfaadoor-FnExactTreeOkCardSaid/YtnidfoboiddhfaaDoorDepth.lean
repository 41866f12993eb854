/- DepthOf of the reference (walk). -/
import Derived.Test.YtnidfoboiddhfaaDoorShape2
namespace Go.Proofs.YtnidfoboiddhfaaDoor
open Go.RowKit
set_option linter.unusedVariables false

theorem maxD_le {d : List Nat} {B : Nat} (h : ∀ (j x : Nat), d[j]? = some x → x ≤ B) : ∀ ks : List Int, maxD d ks ≤ B
  | [] => Nat.zero_le _
  | k :: r => by
    have h1 := maxD_le h r
    have h2 : d.getD k.toNat 0 ≤ B := by
      rw [List.getD_eq_getElem?_getD]
      cases hk : d[k.toNat]? with
      | none => simp
      | some x => simpa using h _ x hk
    show max _ _ ≤ B
    omega
/-- each depth is at most the number of nodes up to it -/
def DepOk (d : List Nat) : Prop := ∀ (j x : Nat), d[j]? = some x → x ≤ j + 1
theorem DepOk.all {d : List Nat} (h : DepOk d) : ∀ (j x : Nat), d[j]? = some x → x ≤ d.length := fun j x hx => by
  have := h j x hx
  have := (List.getElem?_eq_some_iff.1 hx).1
  omega
theorem DepOk.snoc {d : List Nat} (h : DepOk d) (ks : List Int) : DepOk (d ++ [maxD d ks + 1]) := by
  intro j x hx
  by_cases hj : j < d.length
  · rw [List.getElem?_append_left hj] at hx; exact h j x hx
  · rw [List.getElem?_append_right (by omega)] at hx
    have hj0 : j - d.length = 0 := by
      by_cases e : j - d.length = 0
      · exact e
      · rw [List.getElem?_eq_none (by simp; omega)] at hx; cases hx
    rw [hj0] at hx
    simp at hx
    have := maxD_le h.all ks
    omega
theorem depthL_no {l : List PNode} (h : shapeB l = false) : depthL l = 0 := by unfold depthL; rw [h]; rfl
theorem depthL_yes {l : List PNode} (h : shapeB l = true) : depthL l = (depsL l).getD (l.length - 1) 0 := by unfold depthL; rw [h]; rfl
theorem castD_ok {s : List Nat} (h : DepOk s) (hl : s.length ≤ 1048576) : ∀ x ∈ castL s, okInt x := by
  intro x hx
  obtain ⟨n, hn, rfl⟩ := List.mem_map.1 hx
  obtain ⟨i, hi⟩ := List.mem_iff_getElem?.1 hn
  have := h.all i n hi
  unfold okInt
  omega
set_option maxRecDepth 100000 in
set_option maxHeartbeats 2000000 in
theorem s_depthOf (v : Value) (l : List PNode) (w : World) (hl : l.length ≤ 1048576) (h : NodesIn w w.heap.size v l) : Calls Tryd.prog 59 #[v] w (RetInt w (depthL l)) := by
  have g := Lib.hid h
  obtain ⟨A, c, rfl, hlc, hcm, hcell, hsz⟩ := h
  unfold maxLen at hcm
  clear hsz
  cases hs : shapeB l
  · rw [depthL_no hs]
    have hsH := Lib.hid hs
    clear hs hcell
    go_enter Tryd.func59, Tryd.ntmps59
    go_wp2_with (go_at_call 58; refine (s_shapeOk _ l _ hl g.out).mono ?_; rintro e w1 ⟨rfl, hb⟩; rw [hsH.out])
    go_ret
    exact ⟨rfl, hb⟩
  · obtain ⟨hl1, hl2, s, hst, h0⟩ := shapeB_parts hs
    have hkids := Lib.hid (startsL_kids hst)
    rw [depthL_yes hs]
    have hsH := Lib.hid hs
    clear hs h0 hst
    obtain ⟨R, hR⟩ : ∃ R, (depsL l).getD (l.length - 1) 0 = R := ⟨_, rfl⟩
    rw [hR]
    have hRH := Lib.hid hR
    clear hR
    obtain ⟨n, hn⟩ : ∃ n, l.length = n := ⟨_, rfl⟩
    rw [hn] at hl hlc hcell g hl1 hl2 ⊢
    have hnH := Lib.hid hn
    clear hn
    have hl3 : l.length ≤ 1048576 := by have := hnH.out; omega
    go_enter Tryd.func59, Tryd.ntmps59
    go_wp2_with (go_at_call 58; refine (s_shapeOk _ l _ hl3 g.out).mono ?_; rintro e w1 ⟨rfl, hb⟩; rw [hsH.out])
    go_loopw [3, 4] (fun x i wr => ∃ (j : Nat) (d : List Nat), j ≤ n ∧ Hid (depsL l = depsF (l.drop j) d ∧ d.length = j ∧ DepOk d) ∧ OwnI wr w.heap.size x (castL d) ∧ i = .int .i64 j ∧ Below w.heap.size w wr) (fun _ i _ => (n - (intOf i).toNat))
    case atStart => exact ⟨0, [], by omega, ⟨rfl, rfl, fun j x h => by simp at h⟩, OwnI.start w1 hb.size, by go_num, hb.alloc hb.size _⟩
    case round =>
      clear hb
      obtain ⟨j, d, hj, hd, hown, rfl, hb⟩ := hrel
      by_cases hlt : j < n
      · obtain ⟨nd, hnd⟩ : ∃ nd, l[j]? = some nd := ⟨l[j]'(by rw [hnH.out]; exact hlt), List.getElem?_eq_getElem _⟩
        obtain ⟨b, off, hA, hlt2, hc⟩ := hcell (by omega)
        subst hA
        obtain ⟨kv, e0, e1, e2, e3, e4, K, kc, rfl, hk1, hk2, hk3, hk4⟩ := hc j nd hnd
        have hk : ∀ o, wr.cell? ⟨b, o, none⟩ = w.cell? ⟨b, o, none⟩ := fun o => hb.cell (p := ⟨b, o, none⟩) hlt2
        rw [← hk] at e4
        have hkd := Lib.hid (hkids.out j nd hnd)
        have hdr := Lib.hid (depsF_drop l j nd hnd d)
        have hmx := maxD_le (DepOk.all hd.out.2.2)
        rw [hd.out.2.1] at hmx
        have hmx := Lib.hid hmx
        clear hk e0 e1 e2 e3 hk4 hc hnd hcell
        obtain ⟨m, hm⟩ : ∃ m, nd.kids.length = m := ⟨_, rfl⟩
        rw [hm] at e4 hk1 hk3
        have hmH := Lib.hid hm
        clear hm
        unfold maxLen at hk2
        have hown2 := Lib.hid hown
        go_wp2_with fail
        go_loop [5, 6] (fun p k => ∃ (cc q : Nat), cc ≤ m ∧ q ≤ j ∧ Hid (q = maxD d (nd.kids.take cc)) ∧ p = .int .i64 ((q : Int) + 1) ∧ k = .int .i64 cc) (fun _ k => (m - (intOf k).toNat))
        case atStart => exact ⟨0, 0, by omega, by omega, by show _ = _; rfl, by go_num, by go_num⟩
        case round =>
          obtain ⟨cc, q, hcc, hq, hqd, rfl, rfl⟩ := hrel
          by_cases hkl : cc < m
          · obtain ⟨x, hx⟩ : ∃ x, nd.kids[cc]? = some x := ⟨nd.kids[cc]'(by rw [hmH.out]; exact hkl), List.getElem?_eq_getElem _⟩
            obtain ⟨bk, ok, hK, hbl, hkc⟩ := hk3 (by omega)
            subst hK
            have ex := (hb.cell (p := ⟨bk, ok + cc, none⟩) hbl).trans (hkc cc x hx)
            obtain ⟨hx0, hx1⟩ := hkd.out x (List.mem_of_getElem? hx)
            obtain ⟨k, rfl⟩ := Int.eq_ofNat_of_zero_le hx0
            obtain ⟨z, hz⟩ : ∃ z, d[k]? = some z := ⟨d[k]'(by rw [hd.out.2.1]; omega), List.getElem?_eq_getElem _⟩
            have hzj : z ≤ j := by have := hd.out.2.2.all k z hz; rw [hd.out.2.1] at this; exact this
            have hst : Hid (max q z = maxD d (nd.kids.take (cc + 1))) := by
              show _ = _
              rw [maxD_take hx, ← hqd.out, Int.toNat_natCast, List.getD_eq_getElem?_getD, hz]
              rfl
            rcases hown2.out.open with ⟨hv0, h0⟩ | ⟨gx, cx, rfl, hgx, hgl, hc1, hc2, hcx⟩
            · have h1 := congrArg List.length h0
              rw [castL_len, hd.out.2.1] at h1
              simp at h1
              omega
            · have ey := hcx k z (castL_get hz)
              have hlen2 : (castL d).length = j := by rw [castL_len, hd.out.2.1]
              rw [hlen2] at hc1 ⊢
              unfold maxLen at hc2
              clear hcx hz hx hkc hk3 hlen2
              go_wp2_with fail
              go_round
              case rel =>
                refine ⟨cc + 1, max q z, by omega, by omega, hst, ?_, by go_num⟩
                congr 1
                split <;> omega
              case measure => simp [intOf]; omega
          · obtain rfl : cc = m := by omega
            have hqf : q = maxD d nd.kids := by rw [hqd.out, List.take_of_length_le (by rw [hmH.out]; omega)]
            have hst : Hid (depsL l = depsF (l.drop (j + 1)) (d ++ [q + 1]) ∧ (d ++ [q + 1]).length = j + 1 ∧ DepOk (d ++ [q + 1])) := by
              rw [hqf]
              exact ⟨hd.out.1.trans hdr.out, by simp [hd.out.2.1], hd.out.2.2.snoc _⟩
            have hlen : Hid ((castL d).length + 1 ≤ 16777216) := by
              show _ ≤ _
              rw [castL_len, hd.out.2.1]
              omega
            have hcs : Hid (castL d ++ [(q : Int) + 1] = castL (d ++ [q + 1])) := by
              show _ = _
              rw [← castL_snoc]
              rfl
            clear hqf
            go_wp2_with (at_builtin; refine app_ints (by rfl) _ _ (by rfl) w.heap.size _ (castL d) (by rfl) (hown2.out.alloc _) _ 1 1 [(q : Int) + 1] (by rfl) rfl (one_newi _ _ _) hlen.out (by have := hb.size; simp; omega) ?_; intro v' w' hown' hb'; rw [hcs.out] at hown'; have hown3 := Lib.hid hown'; clear hown')
            go_roundw
            case rel => exact ⟨j + 1, d ++ [q + 1], by omega, hst, hown3.out, by go_num, (hb.alloc hb.size _).trans hb'⟩
            case measure => simp [intOf]; omega
      · obtain rfl : j = n := by omega
        have hdL : depsL l = d := by
          rw [hd.out.1, List.drop_eq_nil_of_le (by rw [hnH.out]; omega)]
          rfl
        obtain ⟨z, hz⟩ : ∃ z, d[j - 1]? = some z := ⟨d[j - 1]'(by rw [hd.out.2.1]; omega), List.getElem?_eq_getElem _⟩
        have hRz : R = z := by
          rw [← hRH.out, hdL, hnH.out, List.getD_eq_getElem?_getD, hz]
          rfl
        subst hRz
        rcases hown.open with ⟨hv0, h0⟩ | ⟨gx, cx, rfl, hgx, hgl, hc1, hc2, hcx⟩
        · have h1 := congrArg List.length h0
          rw [castL_len, hd.out.2.1] at h1
          simp at h1
          omega
        · have ey := hcx (j - 1) R (castL_get hz)
          have hlen2 : (castL d).length = j := by rw [castL_len, hd.out.2.1]
          rw [hlen2] at hc1 ⊢
          unfold maxLen at hc2
          clear hcx hz hlen2 hcell hdL hown
          go_wp2_with fail
          go_ret
          exact ⟨rfl, hb⟩
end Go.Proofs.YtnidfoboiddhfaaDoor
