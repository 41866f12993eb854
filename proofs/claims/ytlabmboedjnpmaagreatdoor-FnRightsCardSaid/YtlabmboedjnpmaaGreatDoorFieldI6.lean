/- FieldsOk of the program (walk). -/
import Derived.Test.YtlabmboedjnpmaaGreatDoorFieldI5
import Derived.Deep.DeepCutAuto
namespace Go.Proofs.YtlabmboedjnpmaaGreatDoor
open Go.RowKit
set_option linter.unusedVariables false
set_option linter.unusedSimpArgs false
theorem set_six {W : World} {g : Nat} {T : TypeId} {x0 x1 x2 x3 x4 : Value} (H : Has W g T #[x0, x1, x2, x3, x4]) (v0 v1 v2 v3 v4 v5 : Value) : Five ((((((W.setCell ⟨g, 0, none⟩ v0).setCell ⟨g, 1, none⟩ v1).setCell ⟨g, 2, none⟩ v2).setCell ⟨g, 3, none⟩ v3).setCell ⟨g, 4, none⟩ v4).setCell ⟨g, 2, none⟩ v5) g v0 v1 v5 v3 v4 := by
  have K := ((((H.set 0 v0).set 1 v1).set 2 v2).set 3 v3).set 4 v4
  obtain ⟨cs, hcs, e0, e1, e2, e3, e4⟩ : ∃ cs : Array Value, (((((#[x0, x1, x2, x3, x4].setIfInBounds 0 v0).setIfInBounds 1 v1).setIfInBounds 2 v2).setIfInBounds 3 v3).setIfInBounds 4 v4) = cs ∧ cs[0]? = some v0 ∧ cs[1]? = some v1 ∧ cs[2]? = some v2 ∧ cs[3]? = some v3 ∧ cs[4]? = some v4 := ⟨_, rfl, rfl, rfl, rfl, rfl, rfl⟩
  rw [hcs] at K
  have K2 := K.set 2 v5
  have h2 := (Array.getElem?_eq_some_iff.1 e2).1
  refine ⟨K2.get ?_, K2.get ?_, K2.get ?_, K2.get ?_, K2.get ?_⟩
  · rw [Array.getElem?_setIfInBounds_ne (by omega)]; exact e0
  · rw [Array.getElem?_setIfInBounds_ne (by omega)]; exact e1
  · rw [Array.getElem?_setIfInBounds_self_of_lt h2]
  · rw [Array.getElem?_setIfInBounds_ne (by omega)]; exact e3
  · rw [Array.getElem?_setIfInBounds_ne (by omega)]; exact e4
theorem six_other {W : World} {g h o : Nat} {x : Value} (hn : h ≠ g) (hx : W.cell? ⟨h, o, none⟩ = some x) (v0 v1 v2 v3 v4 v5 : Value) : ((((((W.setCell ⟨g, 0, none⟩ v0).setCell ⟨g, 1, none⟩ v1).setCell ⟨g, 2, none⟩ v2).setCell ⟨g, 3, none⟩ v3).setCell ⟨g, 4, none⟩ v4).setCell ⟨g, 2, none⟩ v5).cell? ⟨h, o, none⟩ = some x := by
  have k : ∀ (V : World) (i : Nat) (v : Value), (V.setCell ⟨g, i, none⟩ v).cell? ⟨h, o, none⟩ = V.cell? ⟨h, o, none⟩ := fun V i v => World.cell?_setCell_other V ⟨g, i, none⟩ ⟨h, o, none⟩ v (fun e => hn (by injection e with e1; exact e1.symm))
  rw [k, k, k, k, k, k]
  exact hx
set_option maxRecDepth 100000 in
set_option maxHeartbeats 4000000 in
theorem i_fieldsOk_no (k o : Int) (t u : ByteArray) (A : Option Addr) (n c : Nat) (w : World) (ht : t.size ≤ 16777216) (hu : u.size ≤ 16777216) (hn : n ≤ 400) (hnc : n ≤ c) (hc : c ≤ maxLen) (t0 : TabAt w 1 kwL) (t1 : TabAt w 2 signL) (t2 : TabAt w 0 biL) (h1 : isExprB k = false) (h4 : (k == 16) = false) (h2 : isStmtB k = false) (h3 : inB k 40 45 = false) : Calls Tryz.prog 8 #[.agg #[.int .i64 k, .int .i64 o, .string t, .string u, .slice A n c]] w (RetBool w (fieldsB k o t u n)) := by
  have ht := Lib.hid ht
  have hu := Lib.hid hu
  unfold maxLen at hc
  have hb : Below w.heap.size w ((w.alloc (.cells #[.int .i64 k, .int .i64 o, .string t, .string u, .slice A n c] 30)).alloc (.cells #[.bool false, .bool false, .bool false, .int .i64 0, .int .i64 0] 45)) := ((Below.refl _ _).alloc (Nat.le_refl _) _).alloc (by simp) _
  have x0 := Lib.hid (t0.later hb)
  have x1 := Lib.hid (t1.later hb)
  have x2 := Lib.hid (t2.later hb)
  have hbH := Lib.hid hb
  clear hb t0 t1 t2
  have hkn : knownB k = false := by
    simp [knownB, isExprB, isStmtB, inB] at h1 h2 h3 h4 ⊢
    omega
  have hknH := Lib.hid hkn
  clear hkn
  go_enter Tryz.func8, Tryz.ntmps8
  go_wp2_with (first | (go_at_call 11; refine (i_isExpr _ _).mono ?_; rintro e w' ⟨rfl, rfl⟩; rw [h1]) | (go_at_call 26; refine (i_isStmt _ _).mono ?_; rintro e w' ⟨rfl, rfl⟩; rw [h2]) | (go_at_call 28; refine (i_within _ _ _ _).mono ?_; rintro e w' ⟨rfl, rfl⟩; rw [h3]))
  go_ret
  exact ⟨ret_bool (by simp [fieldsB, hknH.out]), hbH.out⟩
set_option maxRecDepth 100000 in
set_option maxHeartbeats 4000000 in
theorem i_fieldsOk_item (k o : Int) (t u : ByteArray) (A : Option Addr) (n c : Nat) (w : World) (ht : t.size ≤ 16777216) (hu : u.size ≤ 16777216) (hn : n ≤ 400) (hnc : n ≤ c) (hc : c ≤ maxLen) (t0 : TabAt w 1 kwL) (t1 : TabAt w 2 signL) (t2 : TabAt w 0 biL) (h1 : isExprB k = false) (h4 : (k == 16) = false) (h2 : isStmtB k = false) (h3 : inB k 40 45 = true) : Calls Tryz.prog 8 #[.agg #[.int .i64 k, .int .i64 o, .string t, .string u, .slice A n c]] w (RetBool w (fieldsB k o t u n)) := by
  have ht := Lib.hid ht
  have hu := Lib.hid hu
  unfold maxLen at hc
  have hb : Below w.heap.size w ((w.alloc (.cells #[.int .i64 k, .int .i64 o, .string t, .string u, .slice A n c] 30)).alloc (.cells #[.bool false, .bool false, .bool false, .int .i64 0, .int .i64 0] 45)) := ((Below.refl _ _).alloc (Nat.le_refl _) _).alloc (by simp) _
  have x0 := Lib.hid (t0.later hb)
  have x1 := Lib.hid (t1.later hb)
  have x2 := Lib.hid (t2.later hb)
  have hbH := Lib.hid hb
  clear hb t0 t1 t2
  have hkn : knownB k = true := by simp [knownB, h3]
  have hknH := Lib.hid hkn
  have hk := h3
  clear hkn
  go_enter Tryz.func8, Tryz.ntmps8
  go_wp2_with (first | (go_at_call 11; refine (i_isExpr _ _).mono ?_; rintro e w' ⟨rfl, rfl⟩; rw [h1]) | (go_at_call 26; refine (i_isStmt _ _).mono ?_; rintro e w' ⟨rfl, rfl⟩; rw [h2]) | (go_at_call 28; refine (i_within _ _ _ _).mono ?_; rintro e w' ⟨rfl, rfl⟩; rw [h3]))
  refine (i_itemForm _ hk _ _ _ _ _ _ _ ht.out hu.out x0.out x1.out x2.out hn).mono ?_
  rintro e w1 ⟨a, b, c', lo, hi, ⟨rfl, hb1⟩, hx⟩
  have hc1 : ∀ o, w1.cell? ⟨w.heap.size + 1, o, none⟩ = _ := fun o => hb1.cell (p := ⟨w.heap.size + 1, o, none⟩) (by simp)
  have hf1 : ∀ o, w1.frozen? ⟨w.heap.size + 1, o, none⟩ = _ := fun o => hb1.frozen (p := ⟨w.heap.size + 1, o, none⟩) (by simp)
  have hc0 : ∀ o, w1.cell? ⟨w.heap.size, o, none⟩ = _ := fun o => hb1.cell (p := ⟨w.heap.size, o, none⟩) (by simp; omega)
  have hB : Hid (Below w.heap.size w w1) := hbH.out.trans (hb1.mono hbH.out.size)
  have hR : Hid (fieldsB k o t u n = (a && b && c' && inB n lo hi)) := by
    show fieldsB k o t u n = (a && b && c' && inB n lo hi)
    rw [hx, fieldsB, hknH.out]; simp [Bool.and_assoc]
  clear hx hb1
  have q1 : w.heap.size ≤ w.heap.size + 1 := by omega
  cases a
  · go_wp2_with fail
    go_ret
    exact ⟨ret_bool (by simp [hR.out]), (((((hB.out.setCell (p := ⟨w.heap.size + 1, 0, none⟩) q1 _).setCell (p := ⟨w.heap.size + 1, 1, none⟩) q1 _).setCell (p := ⟨w.heap.size + 1, 2, none⟩) q1 _).setCell (p := ⟨w.heap.size + 1, 3, none⟩) q1 _).setCell (p := ⟨w.heap.size + 1, 4, none⟩) q1 _)⟩
  · cases b
    · go_wp2_with fail
      go_ret
      exact ⟨ret_bool (by simp [hR.out]), (((((hB.out.setCell (p := ⟨w.heap.size + 1, 0, none⟩) q1 _).setCell (p := ⟨w.heap.size + 1, 1, none⟩) q1 _).setCell (p := ⟨w.heap.size + 1, 2, none⟩) q1 _).setCell (p := ⟨w.heap.size + 1, 3, none⟩) q1 _).setCell (p := ⟨w.heap.size + 1, 4, none⟩) q1 _)⟩
    · cases c'
      · go_wp2_with fail
        go_ret
        exact ⟨ret_bool (by simp [hR.out]), (((((hB.out.setCell (p := ⟨w.heap.size + 1, 0, none⟩) q1 _).setCell (p := ⟨w.heap.size + 1, 1, none⟩) q1 _).setCell (p := ⟨w.heap.size + 1, 2, none⟩) q1 _).setCell (p := ⟨w.heap.size + 1, 3, none⟩) q1 _).setCell (p := ⟨w.heap.size + 1, 4, none⟩) q1 _)⟩
      · go_wp2_with (go_at_call 28; refine (i_within _ _ _ _).mono ?_; rintro e w' ⟨rfl, rfl⟩)
        go_ret
        exact ⟨ret_bool (by simp [hR.out]), (((((hB.out.setCell (p := ⟨w.heap.size + 1, 0, none⟩) q1 _).setCell (p := ⟨w.heap.size + 1, 1, none⟩) q1 _).setCell (p := ⟨w.heap.size + 1, 2, none⟩) q1 _).setCell (p := ⟨w.heap.size + 1, 3, none⟩) q1 _).setCell (p := ⟨w.heap.size + 1, 4, none⟩) q1 _)⟩
set_option maxRecDepth 100000 in
set_option maxHeartbeats 4000000 in
theorem i_fieldsOk_stmt (k o : Int) (t u : ByteArray) (A : Option Addr) (n c : Nat) (w : World) (ht : t.size ≤ 16777216) (hu : u.size ≤ 16777216) (hn : n ≤ 400) (hnc : n ≤ c) (hc : c ≤ maxLen) (t0 : TabAt w 1 kwL) (t1 : TabAt w 2 signL) (t2 : TabAt w 0 biL) (h1 : isExprB k = false) (h4 : (k == 16) = false) (h2 : isStmtB k = true) : Calls Tryz.prog 8 #[.agg #[.int .i64 k, .int .i64 o, .string t, .string u, .slice A n c]] w (RetBool w (fieldsB k o t u n)) := by
  have ht := Lib.hid ht
  have hu := Lib.hid hu
  unfold maxLen at hc
  have hb : Below w.heap.size w ((w.alloc (.cells #[.int .i64 k, .int .i64 o, .string t, .string u, .slice A n c] 30)).alloc (.cells #[.bool false, .bool false, .bool false, .int .i64 0, .int .i64 0] 45)) := ((Below.refl _ _).alloc (Nat.le_refl _) _).alloc (by simp) _
  have x0 := Lib.hid (t0.later hb)
  have x1 := Lib.hid (t1.later hb)
  have x2 := Lib.hid (t2.later hb)
  have hbH := Lib.hid hb
  clear hb t0 t1 t2
  have hkn : knownB k = true := by simp [knownB]; unfold isStmtB at h2; simp [h2]
  have hknH := Lib.hid hkn
  have hk := h2
  clear hkn
  go_enter Tryz.func8, Tryz.ntmps8
  go_wp2_with (first | (go_at_call 11; refine (i_isExpr _ _).mono ?_; rintro e w' ⟨rfl, rfl⟩; rw [h1]) | (go_at_call 26; refine (i_isStmt _ _).mono ?_; rintro e w' ⟨rfl, rfl⟩; rw [h2]))
  refine (i_stmtForm _ hk _ _ _ _ _ _ _ ht.out hu.out x0.out x1.out x2.out hn).mono ?_
  rintro e w1 ⟨a, b, c', lo, hi, ⟨rfl, hb1⟩, hx⟩
  have hc1 : ∀ o, w1.cell? ⟨w.heap.size + 1, o, none⟩ = _ := fun o => hb1.cell (p := ⟨w.heap.size + 1, o, none⟩) (by simp)
  have hf1 : ∀ o, w1.frozen? ⟨w.heap.size + 1, o, none⟩ = _ := fun o => hb1.frozen (p := ⟨w.heap.size + 1, o, none⟩) (by simp)
  have hc0 : ∀ o, w1.cell? ⟨w.heap.size, o, none⟩ = _ := fun o => hb1.cell (p := ⟨w.heap.size, o, none⟩) (by simp; omega)
  have hB : Hid (Below w.heap.size w w1) := hbH.out.trans (hb1.mono hbH.out.size)
  have hR : Hid (fieldsB k o t u n = (a && b && c' && inB n lo hi)) := by
    show fieldsB k o t u n = (a && b && c' && inB n lo hi)
    rw [hx, fieldsB, hknH.out]; simp [Bool.and_assoc]
  clear hx hb1
  have q1 : w.heap.size ≤ w.heap.size + 1 := by omega
  cases a
  · go_wp2_with fail
    go_ret
    exact ⟨ret_bool (by simp [hR.out]), (((((hB.out.setCell (p := ⟨w.heap.size + 1, 0, none⟩) q1 _).setCell (p := ⟨w.heap.size + 1, 1, none⟩) q1 _).setCell (p := ⟨w.heap.size + 1, 2, none⟩) q1 _).setCell (p := ⟨w.heap.size + 1, 3, none⟩) q1 _).setCell (p := ⟨w.heap.size + 1, 4, none⟩) q1 _)⟩
  · cases b
    · go_wp2_with fail
      go_ret
      exact ⟨ret_bool (by simp [hR.out]), (((((hB.out.setCell (p := ⟨w.heap.size + 1, 0, none⟩) q1 _).setCell (p := ⟨w.heap.size + 1, 1, none⟩) q1 _).setCell (p := ⟨w.heap.size + 1, 2, none⟩) q1 _).setCell (p := ⟨w.heap.size + 1, 3, none⟩) q1 _).setCell (p := ⟨w.heap.size + 1, 4, none⟩) q1 _)⟩
    · cases c'
      · go_wp2_with fail
        go_ret
        exact ⟨ret_bool (by simp [hR.out]), (((((hB.out.setCell (p := ⟨w.heap.size + 1, 0, none⟩) q1 _).setCell (p := ⟨w.heap.size + 1, 1, none⟩) q1 _).setCell (p := ⟨w.heap.size + 1, 2, none⟩) q1 _).setCell (p := ⟨w.heap.size + 1, 3, none⟩) q1 _).setCell (p := ⟨w.heap.size + 1, 4, none⟩) q1 _)⟩
      · go_wp2_with (go_at_call 28; refine (i_within _ _ _ _).mono ?_; rintro e w' ⟨rfl, rfl⟩)
        go_ret
        exact ⟨ret_bool (by simp [hR.out]), (((((hB.out.setCell (p := ⟨w.heap.size + 1, 0, none⟩) q1 _).setCell (p := ⟨w.heap.size + 1, 1, none⟩) q1 _).setCell (p := ⟨w.heap.size + 1, 2, none⟩) q1 _).setCell (p := ⟨w.heap.size + 1, 3, none⟩) q1 _).setCell (p := ⟨w.heap.size + 1, 4, none⟩) q1 _)⟩
set_option maxRecDepth 100000 in
set_option maxHeartbeats 4000000 in
theorem i_fieldsOk_none (k o : Int) (t u : ByteArray) (A : Option Addr) (n c : Nat) (w : World) (ht : t.size ≤ 16777216) (hu : u.size ≤ 16777216) (hn : n ≤ 400) (hnc : n ≤ c) (hc : c ≤ maxLen) (t0 : TabAt w 1 kwL) (t1 : TabAt w 2 signL) (t2 : TabAt w 0 biL) (h1 : isExprB k = false) (h4 : (k == 16) = true) : Calls Tryz.prog 8 #[.agg #[.int .i64 k, .int .i64 o, .string t, .string u, .slice A n c]] w (RetBool w (fieldsB k o t u n)) := by
  have ht := Lib.hid ht
  have hu := Lib.hid hu
  unfold maxLen at hc
  have hb : Below w.heap.size w ((w.alloc (.cells #[.int .i64 k, .int .i64 o, .string t, .string u, .slice A n c] 30)).alloc (.cells #[.bool false, .bool false, .bool false, .int .i64 0, .int .i64 0] 45)) := ((Below.refl _ _).alloc (Nat.le_refl _) _).alloc (by simp) _
  have x0 := Lib.hid (t0.later hb)
  have x1 := Lib.hid (t1.later hb)
  have x2 := Lib.hid (t2.later hb)
  have hbH := Lib.hid hb
  clear hb t0 t1 t2
  obtain rfl : k = 16 := by simpa using h4
  go_enter Tryz.func8, Tryz.ntmps8
  go_wp2_with (first | (go_at_call 11; refine (i_isExpr _ _).mono ?_; rintro e w' ⟨rfl, rfl⟩; rw [h1]) | (go_at_call 28; refine (i_within _ _ _ _).mono ?_; rintro e w' ⟨rfl, rfl⟩))
  all_goals (go_ret; refine ⟨ret_bool ?_, by first | exact hbH.out | exact (form_made w _ _ _ _ _ _ _ _ _ _ _ _).2.1 | exact ((Below.refl _ _).alloc (Nat.le_refl _) _).alloc (by simp) _⟩; simp_all [fieldsB, (show knownB 16 = true by decide), opOkB, textOkB, manyLo, manyHi, emptyB])
set_option maxRecDepth 100000 in
set_option maxHeartbeats 4000000 in
theorem i_fieldsOk_expr (k o : Int) (t u : ByteArray) (A : Option Addr) (n c : Nat) (w : World) (ht : t.size ≤ 16777216) (hu : u.size ≤ 16777216) (hn : n ≤ 400) (hnc : n ≤ c) (hc : c ≤ maxLen) (t0 : TabAt w 1 kwL) (t1 : TabAt w 2 signL) (t2 : TabAt w 0 biL) (h1 : isExprB k = true) : Calls Tryz.prog 8 #[.agg #[.int .i64 k, .int .i64 o, .string t, .string u, .slice A n c]] w (RetBool w (fieldsB k o t u n)) := by
  have ht := Lib.hid ht
  have hu := Lib.hid hu
  unfold maxLen at hc
  have hb : Below w.heap.size w ((w.alloc (.cells #[.int .i64 k, .int .i64 o, .string t, .string u, .slice A n c] 30)).alloc (.cells #[.bool false, .bool false, .bool false, .int .i64 0, .int .i64 0] 45)) := ((Below.refl _ _).alloc (Nat.le_refl _) _).alloc (by simp) _
  have x0 := Lib.hid (t0.later hb)
  have x1 := Lib.hid (t1.later hb)
  have x2 := Lib.hid (t2.later hb)
  have hbH := Lib.hid hb
  clear hb t0 t1 t2
  have hkn : knownB k = true := by
    simp [knownB, isExprB, inB] at h1 ⊢
    omega
  have hknH := Lib.hid hkn
  have hk := h1
  clear hkn
  go_enter Tryz.func8, Tryz.ntmps8
  go_wp2_with (go_at_call 11; refine (i_isExpr _ _).mono ?_; rintro e w' ⟨rfl, rfl⟩; rw [h1])
  refine (i_exprForm _ hk _ _ _ _ _ _ _ ht.out hu.out x0.out x1.out x2.out).mono ?_
  rintro e w1 ⟨a, b, lo, hi, ⟨rfl, hb1⟩, hx⟩
  have hc1 : ∀ o, w1.cell? ⟨w.heap.size + 1, o, none⟩ = _ := fun o => hb1.cell (p := ⟨w.heap.size + 1, o, none⟩) (by simp)
  have hf1 : ∀ o, w1.frozen? ⟨w.heap.size + 1, o, none⟩ = _ := fun o => hb1.frozen (p := ⟨w.heap.size + 1, o, none⟩) (by simp)
  have hc0 : ∀ o, w1.cell? ⟨w.heap.size, o, none⟩ = _ := fun o => hb1.cell (p := ⟨w.heap.size, o, none⟩) (by simp; omega)
  have hB : Hid (Below w.heap.size w w1) := hbH.out.trans (hb1.mono hbH.out.size)
  have hR : Hid (fieldsB k o t u n = (a && b && u.toList.isEmpty && inB n lo hi)) := by
    show fieldsB k o t u n = (a && b && u.toList.isEmpty && inB n lo hi)
    rw [hx, fieldsB, hknH.out]; simp [Bool.and_assoc]
  have hG : Hid (Has w1 (w.heap.size + 1) 45 #[.bool false, .bool false, .bool false, .int .i64 0, .int .i64 0] ∧ w1.cell? ⟨w.heap.size, 4, none⟩ = some (.slice A n c)) := by
    have eh : (w.alloc (.cells #[.int .i64 k, .int .i64 o, .string t, .string u, .slice A n c] 30)).heap.size = w.heap.size + 1 := by simp
    have G1 : Has ((w.alloc (.cells #[.int .i64 k, .int .i64 o, .string t, .string u, .slice A n c] 30)).alloc (.cells #[.bool false, .bool false, .bool false, .int .i64 0, .int .i64 0] 45)) (w.heap.size + 1) 45 #[.bool false, .bool false, .bool false, .int .i64 0, .int .i64 0] := by
      rw [← eh]; exact Has.made _ _ _
    have G0 := (Has.made w 30 #[.int .i64 k, .int .i64 o, .string t, .string u, .slice A n c]).alloc (.cells #[.bool false, .bool false, .bool false, .int .i64 0, .int .i64 0] 45)
    exact ⟨G1.below hb1 (by simp), (G0.below hb1 (by simp; omega)).get rfl⟩
  clear hx hb1
  have q1 : w.heap.size ≤ w.heap.size + 1 := by omega
  cases a
  · go_wp2_with fail
    go_ret
    exact ⟨ret_bool (by simp [hR.out]), ((((((hB.out.setCell (p := ⟨w.heap.size + 1, 0, none⟩) q1 _).setCell (p := ⟨w.heap.size + 1, 1, none⟩) q1 _).setCell (p := ⟨w.heap.size + 1, 2, none⟩) q1 _).setCell (p := ⟨w.heap.size + 1, 3, none⟩) q1 _).setCell (p := ⟨w.heap.size + 1, 4, none⟩) q1 _).setCell (p := ⟨w.heap.size + 1, 2, none⟩) q1 _)⟩
  · cases b
    · go_wp2_with fail
      go_ret
      exact ⟨ret_bool (by simp [hR.out]), ((((((hB.out.setCell (p := ⟨w.heap.size + 1, 0, none⟩) q1 _).setCell (p := ⟨w.heap.size + 1, 1, none⟩) q1 _).setCell (p := ⟨w.heap.size + 1, 2, none⟩) q1 _).setCell (p := ⟨w.heap.size + 1, 3, none⟩) q1 _).setCell (p := ⟨w.heap.size + 1, 4, none⟩) q1 _).setCell (p := ⟨w.heap.size + 1, 2, none⟩) q1 _)⟩
    · go_upto_region 12 with (fail)
      obtain ⟨E, hE⟩ : ∃ E, u.toList.isEmpty = E := ⟨_, rfl⟩
      rw [hE] at hR ⊢
      clear hE
      obtain ⟨W, hW, ⟨y0, y1, y2, y3, y4⟩, n4, hBW⟩ : ∃ W, ((((((w1.setCell ⟨w.heap.size + 1, 0, none⟩ (.bool true)).setCell ⟨w.heap.size + 1, 1, none⟩ (.bool true)).setCell ⟨w.heap.size + 1, 2, none⟩ (.bool false)).setCell ⟨w.heap.size + 1, 3, none⟩ (.int .i64 lo)).setCell ⟨w.heap.size + 1, 4, none⟩ (.int .i64 hi)).setCell ⟨w.heap.size + 1, 2, none⟩ (.bool E)) = W ∧ Five W (w.heap.size + 1) (.bool true) (.bool true) (.bool E) (.int .i64 lo) (.int .i64 hi) ∧ W.cell? ⟨w.heap.size, 4, none⟩ = some (.slice A n c) ∧ Below w.heap.size w W :=
        ⟨_, rfl, set_six hG.out.1 _ _ _ _ _ _, six_other (by simp) hG.out.2 _ _ _ _ _ _, ((((((hB.out.setCell (p := ⟨w.heap.size + 1, 0, none⟩) q1 _).setCell (p := ⟨w.heap.size + 1, 1, none⟩) q1 _).setCell (p := ⟨w.heap.size + 1, 2, none⟩) q1 _).setCell (p := ⟨w.heap.size + 1, 3, none⟩) q1 _).setCell (p := ⟨w.heap.size + 1, 4, none⟩) q1 _).setCell (p := ⟨w.heap.size + 1, 2, none⟩) q1 _)⟩
      rw [hW]
      clear hW hc1 hf1 hc0
      have hBH := Lib.hid hBW
      clear hBW
      cases E
      · go_wp2_with fail
        go_ret
        exact ⟨ret_bool (by simp [hR.out]), hBH.out⟩
      · go_wp2_with (go_at_call 28; refine (i_within _ _ _ _).mono ?_; rintro e w' ⟨rfl, rfl⟩)
        go_ret
        exact ⟨ret_bool (by simp [hR.out]), hBH.out⟩
theorem i_fieldsOk (k o : Int) (t u : ByteArray) (A : Option Addr) (n c : Nat) (w : World) (ht : t.size ≤ 16777216) (hu : u.size ≤ 16777216) (hn : n ≤ 400) (hnc : n ≤ c) (hc : c ≤ maxLen) (t0 : TabAt w 1 kwL) (t1 : TabAt w 2 signL) (t2 : TabAt w 0 biL) : Calls Tryz.prog 8 #[.agg #[.int .i64 k, .int .i64 o, .string t, .string u, .slice A n c]] w (RetBool w (fieldsB k o t u n)) := by
  cases h1 : isExprB k
  · cases h4 : k == 16
    · cases h2 : isStmtB k
      · cases h3 : inB k 40 45
        · exact i_fieldsOk_no k o t u A n c w ht hu hn hnc hc t0 t1 t2 h1 h4 h2 h3
        · exact i_fieldsOk_item k o t u A n c w ht hu hn hnc hc t0 t1 t2 h1 h4 h2 h3
      · exact i_fieldsOk_stmt k o t u A n c w ht hu hn hnc hc t0 t1 t2 h1 h4 h2
    · exact i_fieldsOk_none k o t u A n c w ht hu hn hnc hc t0 t1 t2 h1 h4
  · exact i_fieldsOk_expr k o t u A n c w ht hu hn hnc hc t0 t1 t2 h1
end Go.Proofs.YtlabmboedjnpmaaGreatDoor
