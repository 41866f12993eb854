/- Several texts in one (printed by a program): LawsKind, LawsShape, DepthI. -/
import Derived.Test.YtlabmboedjnpmaaGreatDoorKitR
import Derived.Test.YtlabmboedjnpmaaGreatDoorShapeI
import Derived.Test.YtlabmboedjnpmaaGreatDoorTreeAt
import Derived.Test.YtlabmboedjnpmaaGreatDoorShapeR
/-! LawsKind -/
namespace Go.Proofs.YtlabmboedjnpmaaGreatDoor
open Go.RowKit
set_option linter.unusedVariables false
theorem Below.ge {B : Nat} {w w' : World} (h : Below w.heap.size w w') (hB : B ≤ w.heap.size) : Below B w w' := h.mono hB
end Go.Proofs.YtlabmboedjnpmaaGreatDoor
/-! LawsShape -/
namespace Go.Proofs.YtlabmboedjnpmaaGreatDoor
open Go.RowKit
set_option linter.unusedVariables false

set_option maxRecDepth 100000 in
set_option maxHeartbeats 1000000 in
theorem i_shapeOk (v : Value) (l : List PNode) (w : World) (h : NodesIn w w.heap.size v l) : Calls Tryz.prog 17 #[v] w (RetBool w (shapeB l)) := by
  have g := Lib.hid h
  obtain ⟨A, c, rfl, hlc, hcm, r⟩ := h
  clear r
  unfold maxLen at hcm
  go_enter Tryz.func17, Tryz.ntmps17
  go_wp2_with (go_at_call 38; refine (i_startsOf _ l _ g.out).mono ?_; rintro e w1 ⟨v', rfl, _, _, hb⟩)
  go_ret
  exact ⟨rfl, hb⟩
end Go.Proofs.YtlabmboedjnpmaaGreatDoor
/-! DepthI -/
namespace Go.Proofs.YtlabmboedjnpmaaGreatDoor
open Go.RowKit
set_option linter.unusedVariables false

theorem KidsV.form {l : List PNode} {S : Nat → Prop} {w : World} : ∀ {f : Nat} {ks : List Int} {v : Value}, KidsV l S w f ks v → ∃ A c, v = .slice A ks.length c
  | 0, _, _, h => h.elim
  | f + 1, ks, v, ⟨A, c, h1, _⟩ => ⟨A, c, h1⟩
theorem backK_len {st : List Nat} (h : Low st) : ∀ (ks : List Int) (at_ a : Nat), at_ ≤ st.length → backK st ks at_ = some a → ks.length ≤ at_
  | [], _, _, _, _ => Nat.zero_le _
  | k :: r, at_, a, hl, e => by
    rw [backK] at e
    by_cases hc : at_ ≠ 0 ∧ k = (at_ : Int) - 1
    · rw [if_pos hc] at e
      obtain ⟨y, _, h2, h3⟩ := h.get (j := at_ - 1) (by omega)
      rw [h2] at e
      have := backK_len h r y a (by omega) e
      simp only [List.length_cons]
      omega
    · rw [if_neg hc] at e; cases e
theorem startsF_klen : ∀ (l : List PNode) (done s : List Nat), Low done → startsF l done = some s → ∀ nd ∈ l, nd.kids.length ≤ done.length + l.length
  | [], _, _, _, _, nd, hn => by cases hn
  | x :: r, done, s, h, e, nd, hn => by
    rw [startsF] at e
    cases hb : backK done x.kids.reverse done.length with
    | none => rw [hb] at e; cases e
    | some a =>
      rw [hb] at e
      rcases List.mem_cons.1 hn with rfl | hn
      · have := backK_len h _ _ _ (Nat.le_refl _) hb
        simp at this ⊢
        omega
      · have := startsF_klen r (done ++ [a]) s (h.snoc (backK_le h _ _ _ (Nat.le_refl _) hb)) e nd hn
        simp at this ⊢
        omega
theorem shape_klen {l : List PNode} (h : shapeB l = true) : ∀ nd ∈ l, nd.kids.length ≤ 400 := by
  obtain ⟨h1, h2, s, hs, _⟩ := shapeB_parts h
  intro nd hn
  have := startsF_klen l [] s Low.nil hs nd hn
  simp at this
  omega
set_option maxRecDepth 100000 in
set_option maxHeartbeats 2000000 in
theorem i_depth (l : List PNode) (hlow : KidsLow l) (hl4 : l.length ≤ 400) : ∀ (f : Nat) (S : Nat → Prop) (nd : PNode) (A : Option Addr) (c : Nat) (w : World), KidsV l S w f nd.kids (.slice A nd.kids.length c) → (∀ b, S b → b < w.heap.size) →
    Calls Tryz.prog 20 #[.agg #[.int .i64 nd.kind, .int .i64 nd.op, .string nd.text, .string nd.other, .slice A nd.kids.length c]] w (RetInt w ((maxD (depsL l) nd.kids : Nat) + 1 : Int)) := by
  have hDB : ∀ (j x : Nat), (depsL l)[j]? = some x → x ≤ 1000 := fun j x hx => by
    have h1 := depsL_le hx
    have h2 := (List.getElem?_eq_some_iff.1 hx).1
    rw [depsL_len] at h2
    omega
  have hDBm := Lib.hid (maxD_le hDB)
  have hlowH := Lib.hid hlow
  clear hDB hlow
  intro f
  induction f with
  | zero => intro S nd A c w h; exact h.elim
  | succ f ih =>
    intro S nd A c w h hS
    obtain ⟨A', c', e, hlc, hcm, hcell⟩ := h
    obtain ⟨rfl, _, rfl⟩ := Value.slice.inj e
    clear e
    have ihH := Lib.hid ih
    clear ih
    have hSH := Lib.hid hS
    clear hS
    unfold maxLen at hcm
    obtain ⟨R, hR⟩ : ∃ R, ((maxD (depsL l) nd.kids : Nat) + 1 : Int) = R := ⟨_, rfl⟩
    rw [hR]
    have hRH := Lib.hid hR
    clear hR
    obtain ⟨m, hm⟩ : ∃ m, nd.kids.length = m := ⟨_, rfl⟩
    rw [hm] at hlc hcell ⊢
    have hmH := Lib.hid hm
    clear hm
    have hb0 : Below w.heap.size w (w.alloc (.cells #[.int .i64 nd.kind, .int .i64 nd.op, .string nd.text, .string nd.other, .slice A m c] 40)) := (Below.refl _ _).alloc (Nat.le_refl _) _
    go_enter Tryz.func20, Tryz.ntmps20
    go_wp2_with fail
    go_loopw [3, 9] (fun p z wr => ∃ (j q : Nat), j ≤ m ∧ q ≤ 1000 ∧ Hid (q = maxD (depsL l) (nd.kids.take j)) ∧ p = .int .i64 q ∧ z = .int .i64 j ∧ Below w.heap.size w wr) (fun _ z _ => (m - (intOf z).toNat))
    case atStart => exact ⟨0, 0, by omega, by omega, by show _ = _; rfl, by go_num, by go_num, hb0⟩
    case round =>
      obtain ⟨j, q, hj, hq, hqd, rfl, rfl, hb⟩ := hrel
      by_cases hlt : j < m
      · obtain ⟨x, hx⟩ : ∃ x, nd.kids[j]? = some x := ⟨nd.kids[j]'(by rw [hmH.out]; exact hlt), List.getElem?_eq_getElem _⟩
        obtain ⟨b, off, hA, hbS, hc⟩ := hcell (by omega)
        subst hA
        obtain ⟨kd, kv, hkd, e0, e1, e2, e3, e4, hkv⟩ := hc j x hx
        obtain ⟨A1, c1, rfl⟩ := hkv.form
        have hk : ∀ o, wr.cell? ⟨b, o, none⟩ = w.cell? ⟨b, o, none⟩ := fun o => hb.cell (p := ⟨b, o, none⟩) (hSH.out b hbS)
        rw [← hk] at e0 e1 e2 e3 e4
        have hkv2 := Lib.hid (hkv.below hb (fun b h => h) hSH.out)
        have hS2 : Hid (∀ b, S b → b < wr.heap.size) := fun b h => by have := hSH.out b h; have := hb.size; omega
        have hkd2 : Hid ((depsL l).getD x.toNat 0 = maxD (depsL l) kd.kids + 1) := by
          show _ = _
          rw [List.getD_eq_getElem?_getD, depsL_get hlowH.out hkd]
          rfl
        have hkb := hDBm.out kd.kids
        obtain ⟨z, hz⟩ : ∃ z, maxD (depsL l) kd.kids = z := ⟨_, rfl⟩
        have hst : Hid (max q (z + 1) = maxD (depsL l) (nd.kids.take (j + 1))) := by
          show _ = _
          rw [maxD_take hx, ← hqd.out, hkd2.out, hz]
        have hst2 : max q (z + 1) ≤ 1001 := by rw [hz] at hkb; omega
        have hst3 : max q (z + 1) ≤ 1000 := by rw [hst.out]; exact hDBm.out _
        have hzH := Lib.hid hz
        rw [hz] at hkb
        clear hk hc hx hkv hcell hkd hz
        go_wp2_with fail
        have hb2 : Below w.heap.size w (wr.alloc (.cells #[.int .i64 kd.kind, .int .i64 kd.op, .string kd.text, .string kd.other, .slice A1 kd.kids.length c1] 40)) := hb.alloc hb.size _
        refine (ihH.out S kd A1 c1 _ (hkv2.out.below ((Below.refl _ wr).alloc (Nat.le_refl _) _) (fun b h => h) hS2.out) (fun b h => by have := hS2.out b h; simp; omega)).mono ?_
        rintro e w3 ⟨rfl, hb3⟩
        rw [hzH.out]
        have hb4 := hb2.trans (hb3.mono hb2.size)
        go_wp2_with fail
        go_roundw
        case rel =>
          refine ⟨j + 1, max q (z + 1), by omega, hst3, hst, ?_, by go_num, hb4⟩
          congr 1
          split <;> omega
        case measure => simp [intOf]; omega
      · obtain rfl : j = m := by omega
        have hRq : R = (q : Int) + 1 := by rw [← hRH.out, hqd.out, List.take_of_length_le (by rw [hmH.out]; exact Nat.le_refl _)]
        subst hRq
        clear hcell
        go_wp2_with fail
        go_ret
        exact ⟨rfl, hb⟩
set_option maxRecDepth 100000 in
set_option maxHeartbeats 2000000 in
theorem i_rootOf (v : Value) (l : List PNode) (nd : PNode) (w : World) (hs : shapeB l = true) (hnd : l[l.length - 1]? = some nd) (h : NodesIn w w.heap.size v l) : Calls Tryz.prog 19 #[v] w (RetTree l w l.length nd) := by
  obtain ⟨hl1, hl2, s, hst, _⟩ := shapeB_parts hs
  have hlow := Lib.hid (startsL_kids hst)
  have hkl := Lib.hid (fun x hx => by have := shape_klen hs x hx; omega : ∀ x ∈ l, x.kids.length ≤ 1048576)
  have hndH := Lib.hid hnd
  clear hs hst hnd
  have hb0 : Below w.heap.size w (w.alloc (.cells #[.int .i64 0, .int .i64 0, .string ⟨#[]⟩, .string ⟨#[]⟩, .slice none 0 0] 40)) := (Below.refl _ _).alloc (Nat.le_refl _) _
  have g := Lib.hid ((h.keep hb0 (Nat.le_refl _)).more hb0.size)
  obtain ⟨A, c, rfl, hlc, hcm, r⟩ := h
  clear r
  unfold maxLen at hcm
  obtain ⟨k, hk⟩ : ∃ k, l.length = k + 1 := ⟨l.length - 1, by omega⟩
  have hc1 : ((l.length : Nat) : Int) - 1 = (k : Int) := by omega
  have hkH := Lib.hid hk
  have hc1H := Lib.hid hc1
  clear hk hc1
  go_enter Tryz.func19, Tryz.ntmps19
  go_wp2_with fail
  rw [hc1H.out]
  refine (i_treeAt _ l.length _ l rfl hl2 hlow.out hkl.out l.length k nd _ (by have := hkH.out; omega) (by have h1 := hndH.out; rw [hkH.out] at h1; simpa using h1) g.out).mono ?_
  rintro e w1 ⟨A1, c1, rfl, hkv, hb1⟩
  have h4 : Has w1 w.heap.size 40 #[.int .i64 0, .int .i64 0, .string ⟨#[]⟩, .string ⟨#[]⟩, .slice none 0 0] := (Has.made w _ _).below hb1 (by simp)
  have hbb := hb0.trans (hb1.mono hb0.size)
  have hkv2 := Lib.hid hkv
  have c40 := h4.get (i := 0) rfl
  have c41 := h4.get (i := 1) rfl
  have c42 := h4.get (i := 2) rfl
  have c43 := h4.get (i := 3) rfl
  have c44 := h4.get (i := 4) rfl
  have f40 := h4.free 0
  have f41 := h4.free 1
  have f42 := h4.free 2
  have f43 := h4.free 3
  have f44 := h4.free 4
  clear hkv hc1H
  go_wp2_with fail
  refine bodyPost_ret (v := .agg #[.int .i64 nd.kind, .int .i64 nd.op, .string nd.text, .string nd.other, .slice A1 nd.kids.length c1]) (by simp [results, Tryz.results19, go_sem, c40, c41, c42, c43, c44]) rfl ⟨A1, c1, rfl, ?_, ?_⟩
  · refine hkv2.out.same (fun b hb => ?_) (fun b hb o => World.cell?_of_block (set5_other _ _ _ _ _ _ _ b ?_))
    · have := hb.1
      simp only [World.size_alloc] at this
      exact ⟨by omega, by simpa using hb.2⟩
    · have := hb.1
      simp only [World.size_alloc] at this
      omega
  · exact ((((hbb.setCell (p := ⟨w.heap.size, 0, none⟩) (Nat.le_refl _) _).setCell (p := ⟨w.heap.size, 1, none⟩) (Nat.le_refl _) _).setCell (p := ⟨w.heap.size, 2, none⟩) (Nat.le_refl _) _).setCell (p := ⟨w.heap.size, 3, none⟩) (Nat.le_refl _) _).setCell (p := ⟨w.heap.size, 4, none⟩) (Nat.le_refl _) _
/-- the depth of the whole tree -/
theorem i_rootDepth (l : List PNode) (nd : PNode) (A : Option Addr) (c : Nat) (w : World) (S : Nat → Prop) (hs : shapeB l = true) (hnd : l[l.length - 1]? = some nd) (hkv : KidsV l S w l.length nd.kids (.slice A nd.kids.length c)) (hS : ∀ b, S b → b < w.heap.size) :
    Calls Tryz.prog 20 #[.agg #[.int .i64 nd.kind, .int .i64 nd.op, .string nd.text, .string nd.other, .slice A nd.kids.length c]] w (RetInt w (depthL l)) := by
  obtain ⟨hl1, hl2, s, hst, _⟩ := shapeB_parts hs
  have hd : (depthL l : Int) = ((maxD (depsL l) nd.kids : Nat) + 1 : Int) := by
    rw [depthL_yes hs, List.getD_eq_getElem?_getD, depsL_get (startsL_kids hst) hnd]
    rfl
  rw [hd]
  exact i_depth l (startsL_kids hst) hl2 l.length S nd A c w hkv hS
end Go.Proofs.YtlabmboedjnpmaaGreatDoor
