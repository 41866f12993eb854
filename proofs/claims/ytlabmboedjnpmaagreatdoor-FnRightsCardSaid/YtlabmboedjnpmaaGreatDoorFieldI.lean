/- The forms of nodes of the program (walks; written by gen_fieldi.py). -/
import Derived.Test.YtlabmboedjnpmaaGreatDoorField
import Derived.Test.YtlabmboedjnpmaaGreatDoorFiveR
import Derived.Deep.RegionHeld3
namespace Go.Proofs.YtlabmboedjnpmaaGreatDoor
open Go.RowKit
set_option linter.unusedVariables false
set_option linter.unusedSimpArgs false
def RetForm (w : World) (a b c : Bool) (lo hi : Int) (e : Ending) (w' : World) : Prop := e = .returned (.agg #[.bool a, .bool b, .bool c, .int .i64 lo, .int .i64 hi]) ∧ Below w.heap.size w w'
abbrev two5 (w : World) (a b c d e : Value) (t : TypeId) (a' b' c' d' e' : Value) (t2 : TypeId) : World := (w.alloc (.cells #[a, b, c, d, e] t)).alloc (.cells #[a', b', c', d', e'] t2)
theorem form_made (w : World) (a b c d e : Value) (t t2 : TypeId) : ∀ a' b' c' d' e' : Value, (((w.alloc (.cells #[a, b, c, d, e] t)).alloc (.cells #[a', b', c', d', e'] t2)).drew.cell? ⟨w.heap.size, 0, none⟩ = some a ∧ ((w.alloc (.cells #[a, b, c, d, e] t)).alloc (.cells #[a', b', c', d', e'] t2)).drew.cell? ⟨w.heap.size, 1, none⟩ = some b ∧ ((w.alloc (.cells #[a, b, c, d, e] t)).alloc (.cells #[a', b', c', d', e'] t2)).drew.cell? ⟨w.heap.size, 2, none⟩ = some c ∧
    ((w.alloc (.cells #[a, b, c, d, e] t)).alloc (.cells #[a', b', c', d', e'] t2)).drew.cell? ⟨w.heap.size, 3, none⟩ = some d ∧ ((w.alloc (.cells #[a, b, c, d, e] t)).alloc (.cells #[a', b', c', d', e'] t2)).drew.cell? ⟨w.heap.size, 4, none⟩ = some e) ∧ Below w.heap.size w ((w.alloc (.cells #[a, b, c, d, e] t)).alloc (.cells #[a', b', c', d', e'] t2)).drew ∧
    Five ((w.alloc (.cells #[a, b, c, d, e] t)).alloc (.cells #[a', b', c', d', e'] t2)) (w.heap.size + 1) a' b' c' d' e' := fun a' b' c' d' e' => by
  have eh : (w.alloc (.cells #[a, b, c, d, e] t)).heap.size = w.heap.size + 1 := by simp
  refine ⟨(Five.made w a b c d e t).keep (below_drewN ((Below.refl _ _).alloc (Nat.le_refl _) _) 1) (by simp), below_drewN (((Below.refl _ _).alloc (Nat.le_refl _) _).alloc (by simp) _) 1, ?_⟩
  rw [← eh]
  exact Five.made _ a' b' c' d' e' t2
theorem i_isAssign (k : Int) (w : World) : Calls Tryz.prog 52 #[.int .i64 k] w fun e w' => e = .returned (.bool (isAssignB k)) ∧ w = w' := by
  unfold isAssignB
  cases h : k == 54
  · go_enter Tryz.func52, Tryz.ntmps52
    go_wp2_with (go_at_call 28; refine (i_within _ _ _ _).mono ?_; rintro e w' ⟨rfl, rfl⟩)
    go_ret
    exact ⟨rfl, rfl⟩
  · go_enter Tryz.func52, Tryz.ntmps52
    go_wp2_with fail
    go_ret
    exact ⟨rfl, rfl⟩
theorem i_isStep (k : Int) (w : World) : Calls Tryz.prog 51 #[.int .i64 k] w fun e w' => e = .returned (.bool (stepB k)) ∧ w = w' := by
  unfold stepB
  cases h : k == 51
  · go_enter Tryz.func51, Tryz.ntmps51
    go_wp2_with fail
    go_ret
    exact ⟨rfl, rfl⟩
  · go_enter Tryz.func51, Tryz.ntmps51
    go_wp2_with fail
    go_ret
    exact ⟨rfl, rfl⟩
set_option maxRecDepth 100000 in
set_option maxHeartbeats 1000000 in
theorem i_exprForm_1 (o : Int) (t u : ByteArray) (A : Option Addr) (n c : Nat) (w : World) (ht : t.size ≤ 16777216) (t0 : TabAt w 1 kwL) (t1 : TabAt w 2 signL) (t2 : TabAt w 0 biL) : Calls Tryz.prog 25 #[.agg #[.int .i64 1, .int .i64 o, .string t, .string u, .slice A n c]] w (RetForm w (o == 0) (nameOkB t) false 0 0) := by
  have hF := form_made w (.int .i64 1) (.int .i64 o) (.string t) (.string u) (.slice A n c) 30 45
  obtain ⟨⟨d0, d1, d2, d3, d4⟩, hb, _⟩ := hF (.bool false) (.bool false) (.bool false) (.int .i64 0) (.int .i64 0)
  have x0 := Lib.hid (t0.later hb)
  have x2 := Lib.hid (t2.later hb)
  clear hb t0 t1 t2
  obtain ⟨N, hN⟩ : ∃ N, nameOkB t = N := ⟨_, rfl⟩
  rw [hN]
  have hN := Lib.hid hN
  go_enter Tryz.func25, Tryz.ntmps25
  go_wp2_with fail
  go_region_held3 (fun W => W.cell? ⟨w.heap.size, 0, none⟩ = some (.int .i64 1) ∧ W.cell? ⟨w.heap.size, 1, none⟩ = some (.int .i64 o) ∧ W.cell? ⟨w.heap.size, 2, none⟩ = some (.string t) ∧ W.cell? ⟨w.heap.size, 3, none⟩ = some (.string u) ∧ W.cell? ⟨w.heap.size, 4, none⟩ = some (.slice A n c)) (first | exact ⟨d0, d1, d2, d3, d4⟩ | exact (hF _ _ _ _ _).1) ((go_at_call 48; refine (i_nameOk _ _ ht x0.out x2.out).mono ?_; rintro e xa ⟨rfl, rfl⟩; rw [hN.out]))
  go_wp2_with fail
  obtain ⟨c0, c1, c2, c3, c4⟩ := (hF (.bool (o == 0)) (.bool (N)) (.bool false) (.int .i64 0) (.int .i64 0)).2.2
  refine bodyPost_ret (v := .agg #[.bool (o == 0), .bool (N), .bool false, .int .i64 0, .int .i64 0]) (by simp [results, Tryz.results25, go_sem, c0, c1, c2, c3, c4]) rfl ⟨rfl, by first | exact (hF _ _ _ _ _).2.1 | exact ((Below.refl _ _).alloc (Nat.le_refl _) _).alloc (by simp) _⟩
set_option maxRecDepth 100000 in
set_option maxHeartbeats 1000000 in
theorem i_exprForm_5 (o : Int) (t u : ByteArray) (A : Option Addr) (n c : Nat) (w : World) (ht : t.size ≤ 16777216) (t0 : TabAt w 1 kwL) (t1 : TabAt w 2 signL) (t2 : TabAt w 0 biL) : Calls Tryz.prog 25 #[.agg #[.int .i64 5, .int .i64 o, .string t, .string u, .slice A n c]] w (RetForm w (o == 0) (nameOkB t) false 1 6) := by
  have hF := form_made w (.int .i64 5) (.int .i64 o) (.string t) (.string u) (.slice A n c) 30 45
  obtain ⟨⟨d0, d1, d2, d3, d4⟩, hb, _⟩ := hF (.bool false) (.bool false) (.bool false) (.int .i64 0) (.int .i64 0)
  have x0 := Lib.hid (t0.later hb)
  have x2 := Lib.hid (t2.later hb)
  clear hb t0 t1 t2
  obtain ⟨N, hN⟩ : ∃ N, nameOkB t = N := ⟨_, rfl⟩
  rw [hN]
  have hN := Lib.hid hN
  go_enter Tryz.func25, Tryz.ntmps25
  go_wp2_with fail
  go_region_held3 (fun W => W.cell? ⟨w.heap.size, 0, none⟩ = some (.int .i64 5) ∧ W.cell? ⟨w.heap.size, 1, none⟩ = some (.int .i64 o) ∧ W.cell? ⟨w.heap.size, 2, none⟩ = some (.string t) ∧ W.cell? ⟨w.heap.size, 3, none⟩ = some (.string u) ∧ W.cell? ⟨w.heap.size, 4, none⟩ = some (.slice A n c)) (first | exact ⟨d0, d1, d2, d3, d4⟩ | exact (hF _ _ _ _ _).1) ((go_at_call 48; refine (i_nameOk _ _ ht x0.out x2.out).mono ?_; rintro e xa ⟨rfl, rfl⟩; rw [hN.out]))
  go_wp2_with fail
  obtain ⟨c0, c1, c2, c3, c4⟩ := (hF (.bool (o == 0)) (.bool (N)) (.bool false) (.int .i64 1) (.int .i64 6)).2.2
  refine bodyPost_ret (v := .agg #[.bool (o == 0), .bool (N), .bool false, .int .i64 1, .int .i64 6]) (by simp [results, Tryz.results25, go_sem, c0, c1, c2, c3, c4]) rfl ⟨rfl, by first | exact (hF _ _ _ _ _).2.1 | exact ((Below.refl _ _).alloc (Nat.le_refl _) _).alloc (by simp) _⟩
set_option maxRecDepth 100000 in
set_option maxHeartbeats 1000000 in
theorem i_exprForm_13 (o : Int) (t u : ByteArray) (A : Option Addr) (n c : Nat) (w : World) (ht : t.size ≤ 16777216) (t0 : TabAt w 1 kwL) (t1 : TabAt w 2 signL) (t2 : TabAt w 0 biL) : Calls Tryz.prog 25 #[.agg #[.int .i64 13, .int .i64 o, .string t, .string u, .slice A n c]] w (RetForm w (o == 0) (nameOkB t) false 1 6) := by
  have hF := form_made w (.int .i64 13) (.int .i64 o) (.string t) (.string u) (.slice A n c) 30 45
  obtain ⟨⟨d0, d1, d2, d3, d4⟩, hb, _⟩ := hF (.bool false) (.bool false) (.bool false) (.int .i64 0) (.int .i64 0)
  have x0 := Lib.hid (t0.later hb)
  have x2 := Lib.hid (t2.later hb)
  clear hb t0 t1 t2
  obtain ⟨N, hN⟩ : ∃ N, nameOkB t = N := ⟨_, rfl⟩
  rw [hN]
  have hN := Lib.hid hN
  go_enter Tryz.func25, Tryz.ntmps25
  go_wp2_with fail
  go_region_held3 (fun W => W.cell? ⟨w.heap.size, 0, none⟩ = some (.int .i64 13) ∧ W.cell? ⟨w.heap.size, 1, none⟩ = some (.int .i64 o) ∧ W.cell? ⟨w.heap.size, 2, none⟩ = some (.string t) ∧ W.cell? ⟨w.heap.size, 3, none⟩ = some (.string u) ∧ W.cell? ⟨w.heap.size, 4, none⟩ = some (.slice A n c)) (first | exact ⟨d0, d1, d2, d3, d4⟩ | exact (hF _ _ _ _ _).1) ((go_at_call 48; refine (i_nameOk _ _ ht x0.out x2.out).mono ?_; rintro e xa ⟨rfl, rfl⟩; rw [hN.out]))
  go_wp2_with fail
  obtain ⟨c0, c1, c2, c3, c4⟩ := (hF (.bool (o == 0)) (.bool (N)) (.bool false) (.int .i64 1) (.int .i64 6)).2.2
  refine bodyPost_ret (v := .agg #[.bool (o == 0), .bool (N), .bool false, .int .i64 1, .int .i64 6]) (by simp [results, Tryz.results25, go_sem, c0, c1, c2, c3, c4]) rfl ⟨rfl, by first | exact (hF _ _ _ _ _).2.1 | exact ((Below.refl _ _).alloc (Nat.le_refl _) _).alloc (by simp) _⟩
set_option maxRecDepth 100000 in
set_option maxHeartbeats 1000000 in
theorem i_exprForm_6 (o : Int) (t u : ByteArray) (A : Option Addr) (n c : Nat) (w : World) (ht : t.size ≤ 16777216) (t0 : TabAt w 1 kwL) (t1 : TabAt w 2 signL) (t2 : TabAt w 0 biL) : Calls Tryz.prog 25 #[.agg #[.int .i64 6, .int .i64 o, .string t, .string u, .slice A n c]] w (RetForm w (o == 0) (t.toList.isEmpty) false 1 1) := by
  have hF := form_made w (.int .i64 6) (.int .i64 o) (.string t) (.string u) (.slice A n c) 30 45
  obtain ⟨⟨d0, d1, d2, d3, d4⟩, hb, _⟩ := hF (.bool false) (.bool false) (.bool false) (.int .i64 0) (.int .i64 0)
  have x0 := Lib.hid (t0.later hb)
  have x2 := Lib.hid (t2.later hb)
  clear hb t0 t1 t2
  go_enter Tryz.func25, Tryz.ntmps25
  go_wp2_with fail
  obtain ⟨c0, c1, c2, c3, c4⟩ := (hF (.bool (o == 0)) (.bool (t.toList.isEmpty)) (.bool false) (.int .i64 1) (.int .i64 1)).2.2
  refine bodyPost_ret (v := .agg #[.bool (o == 0), .bool (t.toList.isEmpty), .bool false, .int .i64 1, .int .i64 1]) (by simp [results, Tryz.results25, go_sem, c0, c1, c2, c3, c4]) rfl ⟨rfl, by first | exact (hF _ _ _ _ _).2.1 | exact ((Below.refl _ _).alloc (Nat.le_refl _) _).alloc (by simp) _⟩
set_option maxRecDepth 100000 in
set_option maxHeartbeats 1000000 in
theorem i_exprForm_7 (o : Int) (t u : ByteArray) (A : Option Addr) (n c : Nat) (w : World) (ht : t.size ≤ 16777216) (t0 : TabAt w 1 kwL) (t1 : TabAt w 2 signL) (t2 : TabAt w 0 biL) : Calls Tryz.prog 25 #[.agg #[.int .i64 7, .int .i64 o, .string t, .string u, .slice A n c]] w (RetForm w (o == 0) (nameOkB t) false 0 6) := by
  have hF := form_made w (.int .i64 7) (.int .i64 o) (.string t) (.string u) (.slice A n c) 30 45
  obtain ⟨⟨d0, d1, d2, d3, d4⟩, hb, _⟩ := hF (.bool false) (.bool false) (.bool false) (.int .i64 0) (.int .i64 0)
  have x0 := Lib.hid (t0.later hb)
  have x2 := Lib.hid (t2.later hb)
  clear hb t0 t1 t2
  obtain ⟨N, hN⟩ : ∃ N, nameOkB t = N := ⟨_, rfl⟩
  rw [hN]
  have hN := Lib.hid hN
  go_enter Tryz.func25, Tryz.ntmps25
  go_wp2_with fail
  go_region_held3 (fun W => W.cell? ⟨w.heap.size, 0, none⟩ = some (.int .i64 7) ∧ W.cell? ⟨w.heap.size, 1, none⟩ = some (.int .i64 o) ∧ W.cell? ⟨w.heap.size, 2, none⟩ = some (.string t) ∧ W.cell? ⟨w.heap.size, 3, none⟩ = some (.string u) ∧ W.cell? ⟨w.heap.size, 4, none⟩ = some (.slice A n c)) (first | exact ⟨d0, d1, d2, d3, d4⟩ | exact (hF _ _ _ _ _).1) ((go_at_call 48; refine (i_nameOk _ _ ht x0.out x2.out).mono ?_; rintro e xa ⟨rfl, rfl⟩; rw [hN.out]))
  go_wp2_with fail
  obtain ⟨c0, c1, c2, c3, c4⟩ := (hF (.bool (o == 0)) (.bool (N)) (.bool false) (.int .i64 0) (.int .i64 6)).2.2
  refine bodyPost_ret (v := .agg #[.bool (o == 0), .bool (N), .bool false, .int .i64 0, .int .i64 6]) (by simp [results, Tryz.results25, go_sem, c0, c1, c2, c3, c4]) rfl ⟨rfl, by first | exact (hF _ _ _ _ _).2.1 | exact ((Below.refl _ _).alloc (Nat.le_refl _) _).alloc (by simp) _⟩
set_option maxRecDepth 100000 in
set_option maxHeartbeats 1000000 in
theorem i_exprForm_8 (o : Int) (t u : ByteArray) (A : Option Addr) (n c : Nat) (w : World) (ht : t.size ≤ 16777216) (t0 : TabAt w 1 kwL) (t1 : TabAt w 2 signL) (t2 : TabAt w 0 biL) : Calls Tryz.prog 25 #[.agg #[.int .i64 8, .int .i64 o, .string t, .string u, .slice A n c]] w (RetForm w (o == 0) (isBuiltinB t) false 0 6) := by
  have hF := form_made w (.int .i64 8) (.int .i64 o) (.string t) (.string u) (.slice A n c) 30 45
  obtain ⟨⟨d0, d1, d2, d3, d4⟩, hb, _⟩ := hF (.bool false) (.bool false) (.bool false) (.int .i64 0) (.int .i64 0)
  have x0 := Lib.hid (t0.later hb)
  have x2 := Lib.hid (t2.later hb)
  clear hb t0 t1 t2
  obtain ⟨N, hN⟩ : ∃ N, isBuiltinB t = N := ⟨_, rfl⟩
  rw [hN]
  have hN := Lib.hid hN
  go_enter Tryz.func25, Tryz.ntmps25
  go_wp2_with fail
  go_region_held3 (fun W => W.cell? ⟨w.heap.size, 0, none⟩ = some (.int .i64 8) ∧ W.cell? ⟨w.heap.size, 1, none⟩ = some (.int .i64 o) ∧ W.cell? ⟨w.heap.size, 2, none⟩ = some (.string t) ∧ W.cell? ⟨w.heap.size, 3, none⟩ = some (.string u) ∧ W.cell? ⟨w.heap.size, 4, none⟩ = some (.slice A n c)) (first | exact ⟨d0, d1, d2, d3, d4⟩ | exact (hF _ _ _ _ _).1) ((go_at_call 50; refine (i_isBuiltin _ _ x2.out).mono ?_; rintro e xa ⟨rfl, rfl⟩; rw [hN.out]))
  go_wp2_with fail
  obtain ⟨c0, c1, c2, c3, c4⟩ := (hF (.bool (o == 0)) (.bool (N)) (.bool false) (.int .i64 0) (.int .i64 6)).2.2
  refine bodyPost_ret (v := .agg #[.bool (o == 0), .bool (N), .bool false, .int .i64 0, .int .i64 6]) (by simp [results, Tryz.results25, go_sem, c0, c1, c2, c3, c4]) rfl ⟨rfl, by first | exact (hF _ _ _ _ _).2.1 | exact ((Below.refl _ _).alloc (Nat.le_refl _) _).alloc (by simp) _⟩
set_option maxRecDepth 100000 in
set_option maxHeartbeats 1000000 in
theorem i_exprForm_9 (o : Int) (t u : ByteArray) (A : Option Addr) (n c : Nat) (w : World) (ht : t.size ≤ 16777216) (t0 : TabAt w 1 kwL) (t1 : TabAt w 2 signL) (t2 : TabAt w 0 biL) : Calls Tryz.prog 25 #[.agg #[.int .i64 9, .int .i64 o, .string t, .string u, .slice A n c]] w (RetForm w (stepB o) (t.toList.isEmpty) false 1 1) := by
  have hF := form_made w (.int .i64 9) (.int .i64 o) (.string t) (.string u) (.slice A n c) 30 45
  obtain ⟨⟨d0, d1, d2, d3, d4⟩, hb, _⟩ := hF (.bool false) (.bool false) (.bool false) (.int .i64 0) (.int .i64 0)
  have x0 := Lib.hid (t0.later hb)
  have x2 := Lib.hid (t2.later hb)
  clear hb t0 t1 t2
  obtain ⟨N, hN⟩ : ∃ N, stepB o = N := ⟨_, rfl⟩
  rw [hN]
  have hN := Lib.hid hN
  go_enter Tryz.func25, Tryz.ntmps25
  go_wp2_with fail
  go_region_held3 (fun W => W.cell? ⟨w.heap.size, 0, none⟩ = some (.int .i64 9) ∧ W.cell? ⟨w.heap.size, 1, none⟩ = some (.int .i64 o) ∧ W.cell? ⟨w.heap.size, 2, none⟩ = some (.string t) ∧ W.cell? ⟨w.heap.size, 3, none⟩ = some (.string u) ∧ W.cell? ⟨w.heap.size, 4, none⟩ = some (.slice A n c)) (first | exact ⟨d0, d1, d2, d3, d4⟩ | exact (hF _ _ _ _ _).1) ((go_at_call 51; refine (i_isStep _ _).mono ?_; rintro e xa ⟨rfl, rfl⟩; rw [hN.out]))
  go_wp2_with fail
  obtain ⟨c0, c1, c2, c3, c4⟩ := (hF (.bool (N)) (.bool (t.toList.isEmpty)) (.bool false) (.int .i64 1) (.int .i64 1)).2.2
  refine bodyPost_ret (v := .agg #[.bool (N), .bool (t.toList.isEmpty), .bool false, .int .i64 1, .int .i64 1]) (by simp [results, Tryz.results25, go_sem, c0, c1, c2, c3, c4]) rfl ⟨rfl, by first | exact (hF _ _ _ _ _).2.1 | exact ((Below.refl _ _).alloc (Nat.le_refl _) _).alloc (by simp) _⟩
set_option maxRecDepth 100000 in
set_option maxHeartbeats 1000000 in
theorem i_exprForm_10 (o : Int) (t u : ByteArray) (A : Option Addr) (n c : Nat) (w : World) (ht : t.size ≤ 16777216) (t0 : TabAt w 1 kwL) (t1 : TabAt w 2 signL) (t2 : TabAt w 0 biL) : Calls Tryz.prog 25 #[.agg #[.int .i64 10, .int .i64 o, .string t, .string u, .slice A n c]] w (RetForm w (stepB o) (t.toList.isEmpty) false 1 1) := by
  have hF := form_made w (.int .i64 10) (.int .i64 o) (.string t) (.string u) (.slice A n c) 30 45
  obtain ⟨⟨d0, d1, d2, d3, d4⟩, hb, _⟩ := hF (.bool false) (.bool false) (.bool false) (.int .i64 0) (.int .i64 0)
  have x0 := Lib.hid (t0.later hb)
  have x2 := Lib.hid (t2.later hb)
  clear hb t0 t1 t2
  obtain ⟨N, hN⟩ : ∃ N, stepB o = N := ⟨_, rfl⟩
  rw [hN]
  have hN := Lib.hid hN
  go_enter Tryz.func25, Tryz.ntmps25
  go_wp2_with fail
  go_region_held3 (fun W => W.cell? ⟨w.heap.size, 0, none⟩ = some (.int .i64 10) ∧ W.cell? ⟨w.heap.size, 1, none⟩ = some (.int .i64 o) ∧ W.cell? ⟨w.heap.size, 2, none⟩ = some (.string t) ∧ W.cell? ⟨w.heap.size, 3, none⟩ = some (.string u) ∧ W.cell? ⟨w.heap.size, 4, none⟩ = some (.slice A n c)) (first | exact ⟨d0, d1, d2, d3, d4⟩ | exact (hF _ _ _ _ _).1) ((go_at_call 51; refine (i_isStep _ _).mono ?_; rintro e xa ⟨rfl, rfl⟩; rw [hN.out]))
  go_wp2_with fail
  obtain ⟨c0, c1, c2, c3, c4⟩ := (hF (.bool (N)) (.bool (t.toList.isEmpty)) (.bool false) (.int .i64 1) (.int .i64 1)).2.2
  refine bodyPost_ret (v := .agg #[.bool (N), .bool (t.toList.isEmpty), .bool false, .int .i64 1, .int .i64 1]) (by simp [results, Tryz.results25, go_sem, c0, c1, c2, c3, c4]) rfl ⟨rfl, by first | exact (hF _ _ _ _ _).2.1 | exact ((Below.refl _ _).alloc (Nat.le_refl _) _).alloc (by simp) _⟩
set_option maxRecDepth 100000 in
set_option maxHeartbeats 1000000 in
theorem i_exprForm_14 (o : Int) (t u : ByteArray) (A : Option Addr) (n c : Nat) (w : World) (ht : t.size ≤ 16777216) (t0 : TabAt w 1 kwL) (t1 : TabAt w 2 signL) (t2 : TabAt w 0 biL) : Calls Tryz.prog 25 #[.agg #[.int .i64 14, .int .i64 o, .string t, .string u, .slice A n c]] w (RetForm w (o == 0) (t.toList.isEmpty) false 3 3) := by
  have hF := form_made w (.int .i64 14) (.int .i64 o) (.string t) (.string u) (.slice A n c) 30 45
  obtain ⟨⟨d0, d1, d2, d3, d4⟩, hb, _⟩ := hF (.bool false) (.bool false) (.bool false) (.int .i64 0) (.int .i64 0)
  have x0 := Lib.hid (t0.later hb)
  have x2 := Lib.hid (t2.later hb)
  clear hb t0 t1 t2
  go_enter Tryz.func25, Tryz.ntmps25
  go_wp2_with fail
  obtain ⟨c0, c1, c2, c3, c4⟩ := (hF (.bool (o == 0)) (.bool (t.toList.isEmpty)) (.bool false) (.int .i64 3) (.int .i64 3)).2.2
  refine bodyPost_ret (v := .agg #[.bool (o == 0), .bool (t.toList.isEmpty), .bool false, .int .i64 3, .int .i64 3]) (by simp [results, Tryz.results25, go_sem, c0, c1, c2, c3, c4]) rfl ⟨rfl, by first | exact (hF _ _ _ _ _).2.1 | exact ((Below.refl _ _).alloc (Nat.le_refl _) _).alloc (by simp) _⟩
set_option maxRecDepth 100000 in
set_option maxHeartbeats 1000000 in
theorem i_exprForm_15 (o : Int) (t u : ByteArray) (A : Option Addr) (n c : Nat) (w : World) (ht : t.size ≤ 16777216) (t0 : TabAt w 1 kwL) (t1 : TabAt w 2 signL) (t2 : TabAt w 0 biL) : Calls Tryz.prog 25 #[.agg #[.int .i64 15, .int .i64 o, .string t, .string u, .slice A n c]] w (RetForm w (isAssignB o) (t.toList.isEmpty) false 2 2) := by
  have hF := form_made w (.int .i64 15) (.int .i64 o) (.string t) (.string u) (.slice A n c) 30 45
  obtain ⟨⟨d0, d1, d2, d3, d4⟩, hb, _⟩ := hF (.bool false) (.bool false) (.bool false) (.int .i64 0) (.int .i64 0)
  have x0 := Lib.hid (t0.later hb)
  have x2 := Lib.hid (t2.later hb)
  clear hb t0 t1 t2
  obtain ⟨N, hN⟩ : ∃ N, isAssignB o = N := ⟨_, rfl⟩
  rw [hN]
  have hN := Lib.hid hN
  go_enter Tryz.func25, Tryz.ntmps25
  go_wp2_with fail
  go_region_held3 (fun W => W.cell? ⟨w.heap.size, 0, none⟩ = some (.int .i64 15) ∧ W.cell? ⟨w.heap.size, 1, none⟩ = some (.int .i64 o) ∧ W.cell? ⟨w.heap.size, 2, none⟩ = some (.string t) ∧ W.cell? ⟨w.heap.size, 3, none⟩ = some (.string u) ∧ W.cell? ⟨w.heap.size, 4, none⟩ = some (.slice A n c)) (first | exact ⟨d0, d1, d2, d3, d4⟩ | exact (hF _ _ _ _ _).1) ((go_at_call 52; refine (i_isAssign _ _).mono ?_; rintro e xa ⟨rfl, rfl⟩; rw [hN.out]))
  go_wp2_with fail
  obtain ⟨c0, c1, c2, c3, c4⟩ := (hF (.bool (N)) (.bool (t.toList.isEmpty)) (.bool false) (.int .i64 2) (.int .i64 2)).2.2
  refine bodyPost_ret (v := .agg #[.bool (N), .bool (t.toList.isEmpty), .bool false, .int .i64 2, .int .i64 2]) (by simp [results, Tryz.results25, go_sem, c0, c1, c2, c3, c4]) rfl ⟨rfl, by first | exact (hF _ _ _ _ _).2.1 | exact ((Below.refl _ _).alloc (Nat.le_refl _) _).alloc (by simp) _⟩
set_option maxRecDepth 100000 in
set_option maxHeartbeats 1000000 in
theorem i_exprForm_12 (o : Int) (t u : ByteArray) (A : Option Addr) (n c : Nat) (w : World) (ht : t.size ≤ 16777216) (t0 : TabAt w 1 kwL) (t1 : TabAt w 2 signL) (t2 : TabAt w 0 biL) : Calls Tryz.prog 25 #[.agg #[.int .i64 12, .int .i64 o, .string t, .string u, .slice A n c]] w (RetForm w (opLevel o != 0) (t.toList.isEmpty) false 2 2) := by
  have hF := form_made w (.int .i64 12) (.int .i64 o) (.string t) (.string u) (.slice A n c) 30 45
  obtain ⟨⟨d0, d1, d2, d3, d4⟩, hb, _⟩ := hF (.bool false) (.bool false) (.bool false) (.int .i64 0) (.int .i64 0)
  have x0 := Lib.hid (t0.later hb)
  have x2 := Lib.hid (t2.later hb)
  clear hb t0 t1 t2
  obtain ⟨N, hN⟩ : ∃ N, opLevel o = N := ⟨_, rfl⟩
  rw [hN]
  have hN := Lib.hid hN
  go_enter Tryz.func25, Tryz.ntmps25
  go_wp2_with fail
  go_region_held3 (fun W => W.cell? ⟨w.heap.size, 0, none⟩ = some (.int .i64 12) ∧ W.cell? ⟨w.heap.size, 1, none⟩ = some (.int .i64 o) ∧ W.cell? ⟨w.heap.size, 2, none⟩ = some (.string t) ∧ W.cell? ⟨w.heap.size, 3, none⟩ = some (.string u) ∧ W.cell? ⟨w.heap.size, 4, none⟩ = some (.slice A n c)) (first | exact ⟨d0, d1, d2, d3, d4⟩ | exact (hF _ _ _ _ _).1) ((go_at_call 32; refine (i_opLevel _ _).mono ?_; rintro e xa ⟨rfl, rfl⟩; rw [hN.out]))
  go_wp2_with fail
  obtain ⟨c0, c1, c2, c3, c4⟩ := (hF (.bool (N != 0)) (.bool (t.toList.isEmpty)) (.bool false) (.int .i64 2) (.int .i64 2)).2.2
  refine bodyPost_ret (v := .agg #[.bool (N != 0), .bool (t.toList.isEmpty), .bool false, .int .i64 2, .int .i64 2]) (by simp [results, Tryz.results25, go_sem, c0, c1, c2, c3, c4]) rfl ⟨rfl, by first | exact (hF _ _ _ _ _).2.1 | exact ((Below.refl _ _).alloc (Nat.le_refl _) _).alloc (by simp) _⟩
theorem three_made (w : World) (a b c d e : Value) (t t2 : TypeId) : ∀ a' b' c' d' e' a2 b2 c2 d2 e2 : Value, Below w.heap.size w (((w.alloc (.cells #[a, b, c, d, e] t)).alloc (.cells #[a', b', c', d', e'] t2)).alloc (.cells #[a2, b2, c2, d2, e2] t2)) ∧
    Five (((w.alloc (.cells #[a, b, c, d, e] t)).alloc (.cells #[a', b', c', d', e'] t2)).alloc (.cells #[a2, b2, c2, d2, e2] t2)) (w.heap.size + 1) a' b' c' d' e' ∧ Five (((w.alloc (.cells #[a, b, c, d, e] t)).alloc (.cells #[a', b', c', d', e'] t2)).alloc (.cells #[a2, b2, c2, d2, e2] t2)) w.heap.size a b c d e ∧
    Five (((w.alloc (.cells #[a, b, c, d, e] t)).alloc (.cells #[a', b', c', d', e'] t2)).alloc (.cells #[a2, b2, c2, d2, e2] t2)) (w.heap.size + 1 + 1) a2 b2 c2 d2 e2 := fun a' b' c' d' e' a2 b2 c2 d2 e2 => by
  have F := form_made w a b c d e t t2 a' b' c' d' e'
  have hb : Below w.heap.size w ((w.alloc (.cells #[a, b, c, d, e] t)).alloc (.cells #[a', b', c', d', e'] t2)) := ((Below.refl _ _).alloc (Nat.le_refl _) _).alloc (by simp) _
  have es : ((w.alloc (.cells #[a, b, c, d, e] t)).alloc (.cells #[a', b', c', d', e'] t2)).heap.size = w.heap.size + 1 + 1 := by simp
  refine ⟨hb.alloc hb.size _, F.2.2.keep ((Below.refl _ _).alloc (Nat.le_refl _) _) (by omega), (show Five ((w.alloc (.cells #[a, b, c, d, e] t)).alloc (.cells #[a', b', c', d', e'] t2)) _ _ _ _ _ _ from F.1).keep ((Below.refl _ _).alloc (Nat.le_refl _) _) (by omega), ?_⟩
  rw [← es]
  exact Five.made _ a2 b2 c2 d2 e2 t2
set_option maxRecDepth 100000 in
set_option maxHeartbeats 1000000 in
theorem i_stmtForm_20 (o : Int) (t u : ByteArray) (A : Option Addr) (n c : Nat) (w : World) (ht : t.size ≤ 16777216) (hu : u.size ≤ 16777216) (t0 : TabAt w 1 kwL) (t1 : TabAt w 2 signL) (t2 : TabAt w 0 biL) : Calls Tryz.prog 27 #[.agg #[.int .i64 20, .int .i64 o, .string t, .string u, .slice A n c]] w (RetForm w (o == 0) (t.toList.isEmpty) (u.toList.isEmpty) 1 1) := by
  have hF := three_made w (.int .i64 20) (.int .i64 o) (.string t) (.string u) (.slice A n c) 30 45
  obtain ⟨hb, _, _, _⟩ := hF (.bool false) (.bool false) (.bool false) (.int .i64 0) (.int .i64 0) (.bool (o == 0)) (.bool t.toList.isEmpty) (.bool u.toList.isEmpty) (.int .i64 0) (.int .i64 0)
  have x0 := Lib.hid (t0.later hb)
  have x2 := Lib.hid (t2.later hb)
  clear hb t0 t1 t2
  go_enter Tryz.func27, Tryz.ntmps27
  go_wp2_with fail
  obtain ⟨hb, ⟨c0, c1, c2, c3, c4⟩, _, _⟩ := hF (.bool (o == 0)) (.bool (t.toList.isEmpty)) (.bool (u.toList.isEmpty)) (.int .i64 1) (.int .i64 1) (.bool (o == 0)) (.bool (t.toList.isEmpty)) (.bool (u.toList.isEmpty)) (.int .i64 1) (.int .i64 1)
  refine bodyPost_ret (v := .agg #[.bool (o == 0), .bool (t.toList.isEmpty), .bool (u.toList.isEmpty), .int .i64 1, .int .i64 1]) (by simp [results, Tryz.results27, go_sem, c0, c1, c2, c3, c4]) rfl ⟨rfl, hb⟩
set_option maxRecDepth 100000 in
set_option maxHeartbeats 1000000 in
theorem i_stmtForm_22 (o : Int) (t u : ByteArray) (A : Option Addr) (n c : Nat) (w : World) (ht : t.size ≤ 16777216) (hu : u.size ≤ 16777216) (t0 : TabAt w 1 kwL) (t1 : TabAt w 2 signL) (t2 : TabAt w 0 biL) : Calls Tryz.prog 27 #[.agg #[.int .i64 22, .int .i64 o, .string t, .string u, .slice A n c]] w (RetForm w (o == 0) (t.toList.isEmpty) (u.toList.isEmpty) 0 0) := by
  have hF := three_made w (.int .i64 22) (.int .i64 o) (.string t) (.string u) (.slice A n c) 30 45
  obtain ⟨hb, _, _, _⟩ := hF (.bool false) (.bool false) (.bool false) (.int .i64 0) (.int .i64 0) (.bool (o == 0)) (.bool t.toList.isEmpty) (.bool u.toList.isEmpty) (.int .i64 0) (.int .i64 0)
  have x0 := Lib.hid (t0.later hb)
  have x2 := Lib.hid (t2.later hb)
  clear hb t0 t1 t2
  go_enter Tryz.func27, Tryz.ntmps27
  go_wp2_with fail
  obtain ⟨hb, ⟨c0, c1, c2, c3, c4⟩, _, _⟩ := hF (.bool (o == 0)) (.bool (t.toList.isEmpty)) (.bool (u.toList.isEmpty)) (.int .i64 0) (.int .i64 0) (.bool (o == 0)) (.bool (t.toList.isEmpty)) (.bool (u.toList.isEmpty)) (.int .i64 0) (.int .i64 0)
  refine bodyPost_ret (v := .agg #[.bool (o == 0), .bool (t.toList.isEmpty), .bool (u.toList.isEmpty), .int .i64 0, .int .i64 0]) (by simp [results, Tryz.results27, go_sem, c0, c1, c2, c3, c4]) rfl ⟨rfl, hb⟩
set_option maxRecDepth 100000 in
set_option maxHeartbeats 1000000 in
theorem i_stmtForm_23 (o : Int) (t u : ByteArray) (A : Option Addr) (n c : Nat) (w : World) (ht : t.size ≤ 16777216) (hu : u.size ≤ 16777216) (t0 : TabAt w 1 kwL) (t1 : TabAt w 2 signL) (t2 : TabAt w 0 biL) : Calls Tryz.prog 27 #[.agg #[.int .i64 23, .int .i64 o, .string t, .string u, .slice A n c]] w (RetForm w (o == 0) (t.toList.isEmpty) (u.toList.isEmpty) 0 1) := by
  have hF := three_made w (.int .i64 23) (.int .i64 o) (.string t) (.string u) (.slice A n c) 30 45
  obtain ⟨hb, _, _, _⟩ := hF (.bool false) (.bool false) (.bool false) (.int .i64 0) (.int .i64 0) (.bool (o == 0)) (.bool t.toList.isEmpty) (.bool u.toList.isEmpty) (.int .i64 0) (.int .i64 0)
  have x0 := Lib.hid (t0.later hb)
  have x2 := Lib.hid (t2.later hb)
  clear hb t0 t1 t2
  go_enter Tryz.func27, Tryz.ntmps27
  go_wp2_with fail
  obtain ⟨hb, ⟨c0, c1, c2, c3, c4⟩, _, _⟩ := hF (.bool (o == 0)) (.bool (t.toList.isEmpty)) (.bool (u.toList.isEmpty)) (.int .i64 0) (.int .i64 1) (.bool (o == 0)) (.bool (t.toList.isEmpty)) (.bool (u.toList.isEmpty)) (.int .i64 0) (.int .i64 1)
  refine bodyPost_ret (v := .agg #[.bool (o == 0), .bool (t.toList.isEmpty), .bool (u.toList.isEmpty), .int .i64 0, .int .i64 1]) (by simp [results, Tryz.results27, go_sem, c0, c1, c2, c3, c4]) rfl ⟨rfl, hb⟩
set_option maxRecDepth 100000 in
set_option maxHeartbeats 1000000 in
theorem i_stmtForm_24 (o : Int) (t u : ByteArray) (A : Option Addr) (n c : Nat) (w : World) (ht : t.size ≤ 16777216) (hu : u.size ≤ 16777216) (t0 : TabAt w 1 kwL) (t1 : TabAt w 2 signL) (t2 : TabAt w 0 biL) : Calls Tryz.prog 27 #[.agg #[.int .i64 24, .int .i64 o, .string t, .string u, .slice A n c]] w (RetForm w (o == 0) (t.toList.isEmpty) (u.toList.isEmpty) 0 1) := by
  have hF := three_made w (.int .i64 24) (.int .i64 o) (.string t) (.string u) (.slice A n c) 30 45
  obtain ⟨hb, _, _, _⟩ := hF (.bool false) (.bool false) (.bool false) (.int .i64 0) (.int .i64 0) (.bool (o == 0)) (.bool t.toList.isEmpty) (.bool u.toList.isEmpty) (.int .i64 0) (.int .i64 0)
  have x0 := Lib.hid (t0.later hb)
  have x2 := Lib.hid (t2.later hb)
  clear hb t0 t1 t2
  go_enter Tryz.func27, Tryz.ntmps27
  go_wp2_with fail
  obtain ⟨hb, ⟨c0, c1, c2, c3, c4⟩, _, _⟩ := hF (.bool (o == 0)) (.bool (t.toList.isEmpty)) (.bool (u.toList.isEmpty)) (.int .i64 0) (.int .i64 1) (.bool (o == 0)) (.bool (t.toList.isEmpty)) (.bool (u.toList.isEmpty)) (.int .i64 0) (.int .i64 1)
  refine bodyPost_ret (v := .agg #[.bool (o == 0), .bool (t.toList.isEmpty), .bool (u.toList.isEmpty), .int .i64 0, .int .i64 1]) (by simp [results, Tryz.results27, go_sem, c0, c1, c2, c3, c4]) rfl ⟨rfl, hb⟩
set_option maxRecDepth 100000 in
set_option maxHeartbeats 1000000 in
theorem i_stmtForm_25 (o : Int) (t u : ByteArray) (A : Option Addr) (n c : Nat) (w : World) (ht : t.size ≤ 16777216) (hu : u.size ≤ 16777216) (t0 : TabAt w 1 kwL) (t1 : TabAt w 2 signL) (t2 : TabAt w 0 biL) : Calls Tryz.prog 27 #[.agg #[.int .i64 25, .int .i64 o, .string t, .string u, .slice A n c]] w (RetForm w (o == 0) (t.toList.isEmpty) (u.toList.isEmpty) 0 0) := by
  have hF := three_made w (.int .i64 25) (.int .i64 o) (.string t) (.string u) (.slice A n c) 30 45
  obtain ⟨hb, _, _, _⟩ := hF (.bool false) (.bool false) (.bool false) (.int .i64 0) (.int .i64 0) (.bool (o == 0)) (.bool t.toList.isEmpty) (.bool u.toList.isEmpty) (.int .i64 0) (.int .i64 0)
  have x0 := Lib.hid (t0.later hb)
  have x2 := Lib.hid (t2.later hb)
  clear hb t0 t1 t2
  go_enter Tryz.func27, Tryz.ntmps27
  go_wp2_with fail
  obtain ⟨hb, ⟨c0, c1, c2, c3, c4⟩, _, _⟩ := hF (.bool (o == 0)) (.bool (t.toList.isEmpty)) (.bool (u.toList.isEmpty)) (.int .i64 0) (.int .i64 0) (.bool (o == 0)) (.bool (t.toList.isEmpty)) (.bool (u.toList.isEmpty)) (.int .i64 0) (.int .i64 0)
  refine bodyPost_ret (v := .agg #[.bool (o == 0), .bool (t.toList.isEmpty), .bool (u.toList.isEmpty), .int .i64 0, .int .i64 0]) (by simp [results, Tryz.results27, go_sem, c0, c1, c2, c3, c4]) rfl ⟨rfl, hb⟩
set_option maxRecDepth 100000 in
set_option maxHeartbeats 1000000 in
theorem i_stmtForm_26 (o : Int) (t u : ByteArray) (A : Option Addr) (n c : Nat) (w : World) (ht : t.size ≤ 16777216) (hu : u.size ≤ 16777216) (t0 : TabAt w 1 kwL) (t1 : TabAt w 2 signL) (t2 : TabAt w 0 biL) : Calls Tryz.prog 27 #[.agg #[.int .i64 26, .int .i64 o, .string t, .string u, .slice A n c]] w (RetForm w (o == 0) (t.toList.isEmpty) (u.toList.isEmpty) 0 0) := by
  have hF := three_made w (.int .i64 26) (.int .i64 o) (.string t) (.string u) (.slice A n c) 30 45
  obtain ⟨hb, _, _, _⟩ := hF (.bool false) (.bool false) (.bool false) (.int .i64 0) (.int .i64 0) (.bool (o == 0)) (.bool t.toList.isEmpty) (.bool u.toList.isEmpty) (.int .i64 0) (.int .i64 0)
  have x0 := Lib.hid (t0.later hb)
  have x2 := Lib.hid (t2.later hb)
  clear hb t0 t1 t2
  go_enter Tryz.func27, Tryz.ntmps27
  go_wp2_with fail
  obtain ⟨hb, ⟨c0, c1, c2, c3, c4⟩, _, _⟩ := hF (.bool (o == 0)) (.bool (t.toList.isEmpty)) (.bool (u.toList.isEmpty)) (.int .i64 0) (.int .i64 0) (.bool (o == 0)) (.bool (t.toList.isEmpty)) (.bool (u.toList.isEmpty)) (.int .i64 0) (.int .i64 0)
  refine bodyPost_ret (v := .agg #[.bool (o == 0), .bool (t.toList.isEmpty), .bool (u.toList.isEmpty), .int .i64 0, .int .i64 0]) (by simp [results, Tryz.results27, go_sem, c0, c1, c2, c3, c4]) rfl ⟨rfl, hb⟩
set_option maxRecDepth 100000 in
set_option maxHeartbeats 1000000 in
theorem i_stmtForm_28 (o : Int) (t u : ByteArray) (A : Option Addr) (n c : Nat) (w : World) (ht : t.size ≤ 16777216) (hu : u.size ≤ 16777216) (t0 : TabAt w 1 kwL) (t1 : TabAt w 2 signL) (t2 : TabAt w 0 biL) : Calls Tryz.prog 27 #[.agg #[.int .i64 28, .int .i64 o, .string t, .string u, .slice A n c]] w (RetForm w (o == 0) (t.toList.isEmpty) (u.toList.isEmpty) 2 3) := by
  have hF := three_made w (.int .i64 28) (.int .i64 o) (.string t) (.string u) (.slice A n c) 30 45
  obtain ⟨hb, _, _, _⟩ := hF (.bool false) (.bool false) (.bool false) (.int .i64 0) (.int .i64 0) (.bool (o == 0)) (.bool t.toList.isEmpty) (.bool u.toList.isEmpty) (.int .i64 0) (.int .i64 0)
  have x0 := Lib.hid (t0.later hb)
  have x2 := Lib.hid (t2.later hb)
  clear hb t0 t1 t2
  go_enter Tryz.func27, Tryz.ntmps27
  go_wp2_with fail
  obtain ⟨hb, ⟨c0, c1, c2, c3, c4⟩, _, _⟩ := hF (.bool (o == 0)) (.bool (t.toList.isEmpty)) (.bool (u.toList.isEmpty)) (.int .i64 2) (.int .i64 3) (.bool (o == 0)) (.bool (t.toList.isEmpty)) (.bool (u.toList.isEmpty)) (.int .i64 2) (.int .i64 3)
  refine bodyPost_ret (v := .agg #[.bool (o == 0), .bool (t.toList.isEmpty), .bool (u.toList.isEmpty), .int .i64 2, .int .i64 3]) (by simp [results, Tryz.results27, go_sem, c0, c1, c2, c3, c4]) rfl ⟨rfl, hb⟩
set_option maxRecDepth 100000 in
set_option maxHeartbeats 1000000 in
theorem i_stmtForm_29 (o : Int) (t u : ByteArray) (A : Option Addr) (n c : Nat) (w : World) (ht : t.size ≤ 16777216) (hu : u.size ≤ 16777216) (t0 : TabAt w 1 kwL) (t1 : TabAt w 2 signL) (t2 : TabAt w 0 biL) : Calls Tryz.prog 27 #[.agg #[.int .i64 29, .int .i64 o, .string t, .string u, .slice A n c]] w (RetForm w (o == 0) (t.toList.isEmpty) (u.toList.isEmpty) 2 2) := by
  have hF := three_made w (.int .i64 29) (.int .i64 o) (.string t) (.string u) (.slice A n c) 30 45
  obtain ⟨hb, _, _, _⟩ := hF (.bool false) (.bool false) (.bool false) (.int .i64 0) (.int .i64 0) (.bool (o == 0)) (.bool t.toList.isEmpty) (.bool u.toList.isEmpty) (.int .i64 0) (.int .i64 0)
  have x0 := Lib.hid (t0.later hb)
  have x2 := Lib.hid (t2.later hb)
  clear hb t0 t1 t2
  go_enter Tryz.func27, Tryz.ntmps27
  go_wp2_with fail
  obtain ⟨hb, ⟨c0, c1, c2, c3, c4⟩, _, _⟩ := hF (.bool (o == 0)) (.bool (t.toList.isEmpty)) (.bool (u.toList.isEmpty)) (.int .i64 2) (.int .i64 2) (.bool (o == 0)) (.bool (t.toList.isEmpty)) (.bool (u.toList.isEmpty)) (.int .i64 2) (.int .i64 2)
  refine bodyPost_ret (v := .agg #[.bool (o == 0), .bool (t.toList.isEmpty), .bool (u.toList.isEmpty), .int .i64 2, .int .i64 2]) (by simp [results, Tryz.results27, go_sem, c0, c1, c2, c3, c4]) rfl ⟨rfl, hb⟩
set_option maxRecDepth 100000 in
set_option maxHeartbeats 1000000 in
theorem i_stmtForm_30 (o : Int) (t u : ByteArray) (A : Option Addr) (n c : Nat) (w : World) (ht : t.size ≤ 16777216) (hu : u.size ≤ 16777216) (t0 : TabAt w 1 kwL) (t1 : TabAt w 2 signL) (t2 : TabAt w 0 biL) : Calls Tryz.prog 27 #[.agg #[.int .i64 30, .int .i64 o, .string t, .string u, .slice A n c]] w (RetForm w (o == 0) (t.toList.isEmpty) (u.toList.isEmpty) 2 2) := by
  have hF := three_made w (.int .i64 30) (.int .i64 o) (.string t) (.string u) (.slice A n c) 30 45
  obtain ⟨hb, _, _, _⟩ := hF (.bool false) (.bool false) (.bool false) (.int .i64 0) (.int .i64 0) (.bool (o == 0)) (.bool t.toList.isEmpty) (.bool u.toList.isEmpty) (.int .i64 0) (.int .i64 0)
  have x0 := Lib.hid (t0.later hb)
  have x2 := Lib.hid (t2.later hb)
  clear hb t0 t1 t2
  go_enter Tryz.func27, Tryz.ntmps27
  go_wp2_with fail
  obtain ⟨hb, ⟨c0, c1, c2, c3, c4⟩, _, _⟩ := hF (.bool (o == 0)) (.bool (t.toList.isEmpty)) (.bool (u.toList.isEmpty)) (.int .i64 2) (.int .i64 2) (.bool (o == 0)) (.bool (t.toList.isEmpty)) (.bool (u.toList.isEmpty)) (.int .i64 2) (.int .i64 2)
  refine bodyPost_ret (v := .agg #[.bool (o == 0), .bool (t.toList.isEmpty), .bool (u.toList.isEmpty), .int .i64 2, .int .i64 2]) (by simp [results, Tryz.results27, go_sem, c0, c1, c2, c3, c4]) rfl ⟨rfl, hb⟩
set_option maxRecDepth 100000 in
set_option maxHeartbeats 1000000 in
theorem i_stmtForm_31 (o : Int) (t u : ByteArray) (A : Option Addr) (n c : Nat) (w : World) (ht : t.size ≤ 16777216) (hu : u.size ≤ 16777216) (t0 : TabAt w 1 kwL) (t1 : TabAt w 2 signL) (t2 : TabAt w 0 biL) : Calls Tryz.prog 27 #[.agg #[.int .i64 31, .int .i64 o, .string t, .string u, .slice A n c]] w (RetForm w (o == 0) (t.toList.isEmpty) (u.toList.isEmpty) 4 4) := by
  have hF := three_made w (.int .i64 31) (.int .i64 o) (.string t) (.string u) (.slice A n c) 30 45
  obtain ⟨hb, _, _, _⟩ := hF (.bool false) (.bool false) (.bool false) (.int .i64 0) (.int .i64 0) (.bool (o == 0)) (.bool t.toList.isEmpty) (.bool u.toList.isEmpty) (.int .i64 0) (.int .i64 0)
  have x0 := Lib.hid (t0.later hb)
  have x2 := Lib.hid (t2.later hb)
  clear hb t0 t1 t2
  go_enter Tryz.func27, Tryz.ntmps27
  go_wp2_with fail
  obtain ⟨hb, ⟨c0, c1, c2, c3, c4⟩, _, _⟩ := hF (.bool (o == 0)) (.bool (t.toList.isEmpty)) (.bool (u.toList.isEmpty)) (.int .i64 4) (.int .i64 4) (.bool (o == 0)) (.bool (t.toList.isEmpty)) (.bool (u.toList.isEmpty)) (.int .i64 4) (.int .i64 4)
  refine bodyPost_ret (v := .agg #[.bool (o == 0), .bool (t.toList.isEmpty), .bool (u.toList.isEmpty), .int .i64 4, .int .i64 4]) (by simp [results, Tryz.results27, go_sem, c0, c1, c2, c3, c4]) rfl ⟨rfl, hb⟩
set_option maxRecDepth 100000 in
set_option maxHeartbeats 1000000 in
theorem i_stmtForm_33 (o : Int) (t u : ByteArray) (A : Option Addr) (n c : Nat) (w : World) (ht : t.size ≤ 16777216) (hu : u.size ≤ 16777216) (t0 : TabAt w 1 kwL) (t1 : TabAt w 2 signL) (t2 : TabAt w 0 biL) : Calls Tryz.prog 27 #[.agg #[.int .i64 33, .int .i64 o, .string t, .string u, .slice A n c]] w (RetForm w (o == 0) (t.toList.isEmpty) (u.toList.isEmpty) 0 400) := by
  have hF := three_made w (.int .i64 33) (.int .i64 o) (.string t) (.string u) (.slice A n c) 30 45
  obtain ⟨hb, _, _, _⟩ := hF (.bool false) (.bool false) (.bool false) (.int .i64 0) (.int .i64 0) (.bool (o == 0)) (.bool t.toList.isEmpty) (.bool u.toList.isEmpty) (.int .i64 0) (.int .i64 0)
  have x0 := Lib.hid (t0.later hb)
  have x2 := Lib.hid (t2.later hb)
  clear hb t0 t1 t2
  go_enter Tryz.func27, Tryz.ntmps27
  go_wp2_with fail
  obtain ⟨hb, ⟨c0, c1, c2, c3, c4⟩, _, _⟩ := hF (.bool (o == 0)) (.bool (t.toList.isEmpty)) (.bool (u.toList.isEmpty)) (.int .i64 0) (.int .i64 400) (.bool (o == 0)) (.bool (t.toList.isEmpty)) (.bool (u.toList.isEmpty)) (.int .i64 0) (.int .i64 400)
  refine bodyPost_ret (v := .agg #[.bool (o == 0), .bool (t.toList.isEmpty), .bool (u.toList.isEmpty), .int .i64 0, .int .i64 400]) (by simp [results, Tryz.results27, go_sem, c0, c1, c2, c3, c4]) rfl ⟨rfl, hb⟩
set_option maxRecDepth 100000 in
set_option maxHeartbeats 1000000 in
theorem i_stmtForm_27 (o : Int) (t u : ByteArray) (A : Option Addr) (n c : Nat) (w : World) (ht : t.size ≤ 16777216) (hu : u.size ≤ 16777216) (t0 : TabAt w 1 kwL) (t1 : TabAt w 2 signL) (t2 : TabAt w 0 biL) : Calls Tryz.prog 27 #[.agg #[.int .i64 27, .int .i64 o, .string t, .string u, .slice A n c]] w (RetForm w (o == 0) (nameOkB t) (u.toList.isEmpty) 0 6) := by
  have hF := three_made w (.int .i64 27) (.int .i64 o) (.string t) (.string u) (.slice A n c) 30 45
  obtain ⟨hb, _, _, _⟩ := hF (.bool false) (.bool false) (.bool false) (.int .i64 0) (.int .i64 0) (.bool (o == 0)) (.bool t.toList.isEmpty) (.bool u.toList.isEmpty) (.int .i64 0) (.int .i64 0)
  have x0 := Lib.hid (t0.later hb)
  have x2 := Lib.hid (t2.later hb)
  clear hb t0 t1 t2
  go_enter Tryz.func27, Tryz.ntmps27
  go_wp2_with (first | (go_at_call 48; refine (i_nameOk _ _ ht x0.out x2.out).mono ?_; rintro e w' ⟨rfl, rfl⟩))
  obtain ⟨hb, ⟨c0, c1, c2, c3, c4⟩, _, _⟩ := hF (.bool (o == 0)) (.bool (nameOkB t)) (.bool (u.toList.isEmpty)) (.int .i64 0) (.int .i64 6) (.bool (o == 0)) (.bool (nameOkB t)) (.bool (u.toList.isEmpty)) (.int .i64 0) (.int .i64 6)
  refine bodyPost_ret (v := .agg #[.bool (o == 0), .bool (nameOkB t), .bool (u.toList.isEmpty), .int .i64 0, .int .i64 6]) (by simp [results, Tryz.results27, go_sem, c0, c1, c2, c3, c4]) rfl ⟨rfl, hb⟩
set_option maxRecDepth 100000 in
set_option maxHeartbeats 1000000 in
theorem i_itemForm_40 (o : Int) (t u : ByteArray) (A : Option Addr) (n c : Nat) (w : World) (ht : t.size ≤ 16777216) (hu : u.size ≤ 16777216) (t0 : TabAt w 1 kwL) (t1 : TabAt w 2 signL) (t2 : TabAt w 0 biL) : Calls Tryz.prog 29 #[.agg #[.int .i64 40, .int .i64 o, .string t, .string u, .slice A n c]] w (RetForm w (o == 0) (t.toList.isEmpty) (u.toList.isEmpty) 1 1) := by
  have hF := three_made w (.int .i64 40) (.int .i64 o) (.string t) (.string u) (.slice A n c) 30 45
  obtain ⟨hb, _, _, _⟩ := hF (.bool false) (.bool false) (.bool false) (.int .i64 0) (.int .i64 0) (.bool (o == 0)) (.bool t.toList.isEmpty) (.bool u.toList.isEmpty) (.int .i64 0) (.int .i64 0)
  have x0 := Lib.hid (t0.later hb)
  have x2 := Lib.hid (t2.later hb)
  clear hb t0 t1 t2
  go_enter Tryz.func29, Tryz.ntmps29
  go_wp2_with fail
  obtain ⟨hb, ⟨c0, c1, c2, c3, c4⟩, _, _⟩ := hF (.bool (o == 0)) (.bool (t.toList.isEmpty)) (.bool (u.toList.isEmpty)) (.int .i64 1) (.int .i64 1) (.bool (o == 0)) (.bool (t.toList.isEmpty)) (.bool (u.toList.isEmpty)) (.int .i64 1) (.int .i64 1)
  refine bodyPost_ret (v := .agg #[.bool (o == 0), .bool (t.toList.isEmpty), .bool (u.toList.isEmpty), .int .i64 1, .int .i64 1]) (by simp [results, Tryz.results29, go_sem, c0, c1, c2, c3, c4]) rfl ⟨rfl, hb⟩
set_option maxRecDepth 100000 in
set_option maxHeartbeats 1000000 in
theorem i_itemForm_41 (o : Int) (t u : ByteArray) (A : Option Addr) (n c : Nat) (w : World) (ht : t.size ≤ 16777216) (hu : u.size ≤ 16777216) (t0 : TabAt w 1 kwL) (t1 : TabAt w 2 signL) (t2 : TabAt w 0 biL) : Calls Tryz.prog 29 #[.agg #[.int .i64 41, .int .i64 o, .string t, .string u, .slice A n c]] w (RetForm w (o == 0) (t.toList.isEmpty) (u.toList.isEmpty) 1 1) := by
  have hF := three_made w (.int .i64 41) (.int .i64 o) (.string t) (.string u) (.slice A n c) 30 45
  obtain ⟨hb, _, _, _⟩ := hF (.bool false) (.bool false) (.bool false) (.int .i64 0) (.int .i64 0) (.bool (o == 0)) (.bool t.toList.isEmpty) (.bool u.toList.isEmpty) (.int .i64 0) (.int .i64 0)
  have x0 := Lib.hid (t0.later hb)
  have x2 := Lib.hid (t2.later hb)
  clear hb t0 t1 t2
  go_enter Tryz.func29, Tryz.ntmps29
  go_wp2_with fail
  obtain ⟨hb, ⟨c0, c1, c2, c3, c4⟩, _, _⟩ := hF (.bool (o == 0)) (.bool (t.toList.isEmpty)) (.bool (u.toList.isEmpty)) (.int .i64 1) (.int .i64 1) (.bool (o == 0)) (.bool (t.toList.isEmpty)) (.bool (u.toList.isEmpty)) (.int .i64 1) (.int .i64 1)
  refine bodyPost_ret (v := .agg #[.bool (o == 0), .bool (t.toList.isEmpty), .bool (u.toList.isEmpty), .int .i64 1, .int .i64 1]) (by simp [results, Tryz.results29, go_sem, c0, c1, c2, c3, c4]) rfl ⟨rfl, hb⟩
set_option maxRecDepth 100000 in
set_option maxHeartbeats 1000000 in
theorem i_itemForm_45 (o : Int) (t u : ByteArray) (A : Option Addr) (n c : Nat) (w : World) (ht : t.size ≤ 16777216) (hu : u.size ≤ 16777216) (t0 : TabAt w 1 kwL) (t1 : TabAt w 2 signL) (t2 : TabAt w 0 biL) : Calls Tryz.prog 29 #[.agg #[.int .i64 45, .int .i64 o, .string t, .string u, .slice A n c]] w (RetForm w (o == 0) (t.toList.isEmpty) (u.toList.isEmpty) 0 400) := by
  have hF := three_made w (.int .i64 45) (.int .i64 o) (.string t) (.string u) (.slice A n c) 30 45
  obtain ⟨hb, _, _, _⟩ := hF (.bool false) (.bool false) (.bool false) (.int .i64 0) (.int .i64 0) (.bool (o == 0)) (.bool t.toList.isEmpty) (.bool u.toList.isEmpty) (.int .i64 0) (.int .i64 0)
  have x0 := Lib.hid (t0.later hb)
  have x2 := Lib.hid (t2.later hb)
  clear hb t0 t1 t2
  go_enter Tryz.func29, Tryz.ntmps29
  go_wp2_with fail
  obtain ⟨hb, ⟨c0, c1, c2, c3, c4⟩, _, _⟩ := hF (.bool (o == 0)) (.bool (t.toList.isEmpty)) (.bool (u.toList.isEmpty)) (.int .i64 0) (.int .i64 400) (.bool (o == 0)) (.bool (t.toList.isEmpty)) (.bool (u.toList.isEmpty)) (.int .i64 0) (.int .i64 400)
  refine bodyPost_ret (v := .agg #[.bool (o == 0), .bool (t.toList.isEmpty), .bool (u.toList.isEmpty), .int .i64 0, .int .i64 400]) (by simp [results, Tryz.results29, go_sem, c0, c1, c2, c3, c4]) rfl ⟨rfl, hb⟩
set_option maxRecDepth 100000 in
set_option maxHeartbeats 1000000 in
theorem i_itemForm_44 (o : Int) (t u : ByteArray) (A : Option Addr) (n c : Nat) (w : World) (ht : t.size ≤ 16777216) (hu : u.size ≤ 16777216) (t0 : TabAt w 1 kwL) (t1 : TabAt w 2 signL) (t2 : TabAt w 0 biL) : Calls Tryz.prog 29 #[.agg #[.int .i64 44, .int .i64 o, .string t, .string u, .slice A n c]] w (RetForm w (o == 0) (nameOkB t) (u.toList.isEmpty) 1 7) := by
  have hF := three_made w (.int .i64 44) (.int .i64 o) (.string t) (.string u) (.slice A n c) 30 45
  obtain ⟨hb, _, _, _⟩ := hF (.bool false) (.bool false) (.bool false) (.int .i64 0) (.int .i64 0) (.bool (o == 0)) (.bool t.toList.isEmpty) (.bool u.toList.isEmpty) (.int .i64 0) (.int .i64 0)
  have x0 := Lib.hid (t0.later hb)
  have x2 := Lib.hid (t2.later hb)
  clear hb t0 t1 t2
  go_enter Tryz.func29, Tryz.ntmps29
  go_wp2_with (first | (go_at_call 48; refine (i_nameOk _ _ ht x0.out x2.out).mono ?_; rintro e w' ⟨rfl, rfl⟩))
  obtain ⟨hb, ⟨c0, c1, c2, c3, c4⟩, _, _⟩ := hF (.bool (o == 0)) (.bool (nameOkB t)) (.bool (u.toList.isEmpty)) (.int .i64 1) (.int .i64 7) (.bool (o == 0)) (.bool (nameOkB t)) (.bool (u.toList.isEmpty)) (.int .i64 1) (.int .i64 7)
  refine bodyPost_ret (v := .agg #[.bool (o == 0), .bool (nameOkB t), .bool (u.toList.isEmpty), .int .i64 1, .int .i64 7]) (by simp [results, Tryz.results29, go_sem, c0, c1, c2, c3, c4]) rfl ⟨rfl, hb⟩
set_option maxRecDepth 100000 in
set_option maxHeartbeats 1000000 in
theorem i_itemForm_42y (o : Int) (t u : ByteArray) (A : Option Addr) (n c : Nat) (w : World) (ht : t.size ≤ 16777216) (hu : u.size ≤ 16777216) (t0 : TabAt w 1 kwL) (t1 : TabAt w 2 signL) (t2 : TabAt w 0 biL) (h3 : (o == 3) = true) : Calls Tryz.prog 29 #[.agg #[.int .i64 42, .int .i64 o, .string t, .string u, .slice A n c]] w (RetForm w (inB o 1 3) (t.toList.isEmpty) (u.toList.isEmpty) 2 2) := by
  have hF := three_made w (.int .i64 42) (.int .i64 o) (.string t) (.string u) (.slice A n c) 30 45
  obtain ⟨hb, _, _, _⟩ := hF (.bool false) (.bool false) (.bool false) (.int .i64 0) (.int .i64 0) (.bool (o == 0)) (.bool t.toList.isEmpty) (.bool u.toList.isEmpty) (.int .i64 0) (.int .i64 0)
  have x0 := Lib.hid (t0.later hb)
  have x2 := Lib.hid (t2.later hb)
  clear hb t0 t1 t2
  go_enter Tryz.func29, Tryz.ntmps29
  go_wp2_with (first | (go_at_call 28; refine (i_within _ _ _ _).mono ?_; rintro e w' ⟨rfl, rfl⟩))
  obtain ⟨hb, ⟨c0, c1, c2, c3, c4⟩, _, _⟩ := hF (.bool (inB o 1 3)) (.bool (t.toList.isEmpty)) (.bool (u.toList.isEmpty)) (.int .i64 2) (.int .i64 2) (.bool (inB o 1 3)) (.bool (t.toList.isEmpty)) (.bool (u.toList.isEmpty)) (.int .i64 2) (.int .i64 2)
  refine bodyPost_ret (v := .agg #[.bool (inB o 1 3), .bool (t.toList.isEmpty), .bool (u.toList.isEmpty), .int .i64 2, .int .i64 2]) (by simp [results, Tryz.results29, go_sem, c0, c1, c2, c3, c4]) rfl ⟨rfl, hb⟩
set_option maxRecDepth 100000 in
set_option maxHeartbeats 1000000 in
theorem i_itemForm_42n (o : Int) (t u : ByteArray) (A : Option Addr) (n c : Nat) (w : World) (ht : t.size ≤ 16777216) (hu : u.size ≤ 16777216) (t0 : TabAt w 1 kwL) (t1 : TabAt w 2 signL) (t2 : TabAt w 0 biL) (h3 : (o == 3) = false) : Calls Tryz.prog 29 #[.agg #[.int .i64 42, .int .i64 o, .string t, .string u, .slice A n c]] w (RetForm w (inB o 1 3) (t.toList.isEmpty) (u.toList.isEmpty) 1 1) := by
  have hF := three_made w (.int .i64 42) (.int .i64 o) (.string t) (.string u) (.slice A n c) 30 45
  obtain ⟨hb, _, _, _⟩ := hF (.bool false) (.bool false) (.bool false) (.int .i64 0) (.int .i64 0) (.bool (o == 0)) (.bool t.toList.isEmpty) (.bool u.toList.isEmpty) (.int .i64 0) (.int .i64 0)
  have x0 := Lib.hid (t0.later hb)
  have x2 := Lib.hid (t2.later hb)
  clear hb t0 t1 t2
  go_enter Tryz.func29, Tryz.ntmps29
  go_wp2_with (first | (go_at_call 28; refine (i_within _ _ _ _).mono ?_; rintro e w' ⟨rfl, rfl⟩))
  obtain ⟨hb, ⟨c0, c1, c2, c3, c4⟩, _, _⟩ := hF (.bool (inB o 1 3)) (.bool (t.toList.isEmpty)) (.bool (u.toList.isEmpty)) (.int .i64 1) (.int .i64 1) (.bool (inB o 1 3)) (.bool (t.toList.isEmpty)) (.bool (u.toList.isEmpty)) (.int .i64 1) (.int .i64 1)
  refine bodyPost_ret (v := .agg #[.bool (inB o 1 3), .bool (t.toList.isEmpty), .bool (u.toList.isEmpty), .int .i64 1, .int .i64 1]) (by simp [results, Tryz.results29, go_sem, c0, c1, c2, c3, c4]) rfl ⟨rfl, hb⟩
set_option maxRecDepth 100000 in
set_option maxHeartbeats 1000000 in
theorem i_itemForm_43y (o : Int) (t u : ByteArray) (A : Option Addr) (n c : Nat) (w : World) (ht : t.size ≤ 16777216) (hu : u.size ≤ 16777216) (t0 : TabAt w 1 kwL) (t1 : TabAt w 2 signL) (t2 : TabAt w 0 biL) (h1 : (o == 1) = false) (h3 : (o == 3) = true) : Calls Tryz.prog 29 #[.agg #[.int .i64 43, .int .i64 o, .string t, .string u, .slice A n c]] w (RetForm w (true) (t.toList.isEmpty) (u.toList.isEmpty) 3 3) := by
  have hF := three_made w (.int .i64 43) (.int .i64 o) (.string t) (.string u) (.slice A n c) 30 45
  obtain ⟨hb, _, _, _⟩ := hF (.bool false) (.bool false) (.bool false) (.int .i64 0) (.int .i64 0) (.bool (o == 0)) (.bool t.toList.isEmpty) (.bool u.toList.isEmpty) (.int .i64 0) (.int .i64 0)
  have x0 := Lib.hid (t0.later hb)
  have x2 := Lib.hid (t2.later hb)
  clear hb t0 t1 t2
  go_enter Tryz.func29, Tryz.ntmps29
  go_wp2_with fail
  obtain ⟨hb, ⟨c0, c1, c2, c3, c4⟩, _, _⟩ := hF (.bool (true)) (.bool (t.toList.isEmpty)) (.bool (u.toList.isEmpty)) (.int .i64 3) (.int .i64 3) (.bool (true)) (.bool (t.toList.isEmpty)) (.bool (u.toList.isEmpty)) (.int .i64 3) (.int .i64 3)
  refine bodyPost_ret (v := .agg #[.bool (true), .bool (t.toList.isEmpty), .bool (u.toList.isEmpty), .int .i64 3, .int .i64 3]) (by simp [results, Tryz.results29, go_sem, c0, c1, c2, c3, c4]) rfl ⟨rfl, hb⟩
set_option maxRecDepth 100000 in
set_option maxHeartbeats 1000000 in
theorem i_itemForm_43m (o : Int) (t u : ByteArray) (A : Option Addr) (n c : Nat) (w : World) (ht : t.size ≤ 16777216) (hu : u.size ≤ 16777216) (t0 : TabAt w 1 kwL) (t1 : TabAt w 2 signL) (t2 : TabAt w 0 biL) (h1 : (o == 1) = true) (h3 : (o == 3) = false) : Calls Tryz.prog 29 #[.agg #[.int .i64 43, .int .i64 o, .string t, .string u, .slice A n c]] w (RetForm w (true) (t.toList.isEmpty) (u.toList.isEmpty) 2 2) := by
  have hF := three_made w (.int .i64 43) (.int .i64 o) (.string t) (.string u) (.slice A n c) 30 45
  obtain ⟨hb, _, _, _⟩ := hF (.bool false) (.bool false) (.bool false) (.int .i64 0) (.int .i64 0) (.bool (o == 0)) (.bool t.toList.isEmpty) (.bool u.toList.isEmpty) (.int .i64 0) (.int .i64 0)
  have x0 := Lib.hid (t0.later hb)
  have x2 := Lib.hid (t2.later hb)
  clear hb t0 t1 t2
  go_enter Tryz.func29, Tryz.ntmps29
  go_wp2_with fail
  obtain ⟨hb, ⟨c0, c1, c2, c3, c4⟩, _, _⟩ := hF (.bool (true)) (.bool (t.toList.isEmpty)) (.bool (u.toList.isEmpty)) (.int .i64 2) (.int .i64 2) (.bool (true)) (.bool (t.toList.isEmpty)) (.bool (u.toList.isEmpty)) (.int .i64 2) (.int .i64 2)
  refine bodyPost_ret (v := .agg #[.bool (true), .bool (t.toList.isEmpty), .bool (u.toList.isEmpty), .int .i64 2, .int .i64 2]) (by simp [results, Tryz.results29, go_sem, c0, c1, c2, c3, c4]) rfl ⟨rfl, hb⟩
set_option maxRecDepth 100000 in
set_option maxHeartbeats 1000000 in
theorem i_itemForm_43n (o : Int) (t u : ByteArray) (A : Option Addr) (n c : Nat) (w : World) (ht : t.size ≤ 16777216) (hu : u.size ≤ 16777216) (t0 : TabAt w 1 kwL) (t1 : TabAt w 2 signL) (t2 : TabAt w 0 biL) (h1 : (o == 1) = false) (h3 : (o == 3) = false) : Calls Tryz.prog 29 #[.agg #[.int .i64 43, .int .i64 o, .string t, .string u, .slice A n c]] w (RetForm w (false) (t.toList.isEmpty) (u.toList.isEmpty) 2 2) := by
  have hF := three_made w (.int .i64 43) (.int .i64 o) (.string t) (.string u) (.slice A n c) 30 45
  obtain ⟨hb, _, _, _⟩ := hF (.bool false) (.bool false) (.bool false) (.int .i64 0) (.int .i64 0) (.bool (o == 0)) (.bool t.toList.isEmpty) (.bool u.toList.isEmpty) (.int .i64 0) (.int .i64 0)
  have x0 := Lib.hid (t0.later hb)
  have x2 := Lib.hid (t2.later hb)
  clear hb t0 t1 t2
  go_enter Tryz.func29, Tryz.ntmps29
  go_wp2_with fail
  obtain ⟨hb, ⟨c0, c1, c2, c3, c4⟩, _, _⟩ := hF (.bool (false)) (.bool (t.toList.isEmpty)) (.bool (u.toList.isEmpty)) (.int .i64 2) (.int .i64 2) (.bool (false)) (.bool (t.toList.isEmpty)) (.bool (u.toList.isEmpty)) (.int .i64 2) (.int .i64 2)
  refine bodyPost_ret (v := .agg #[.bool (false), .bool (t.toList.isEmpty), .bool (u.toList.isEmpty), .int .i64 2, .int .i64 2]) (by simp [results, Tryz.results29, go_sem, c0, c1, c2, c3, c4]) rfl ⟨rfl, hb⟩
end Go.Proofs.YtlabmboedjnpmaaGreatDoor
