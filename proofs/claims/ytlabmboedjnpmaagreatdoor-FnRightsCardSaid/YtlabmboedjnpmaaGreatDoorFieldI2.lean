/- The forms of nodes of the program that ask for tokens (walks). -/
import Derived.Test.YtlabmboedjnpmaaGreatDoorFieldI
import Derived.StillTailTactics
namespace Go.Proofs.YtlabmboedjnpmaaGreatDoor
open Go.RowKit
set_option linter.unusedVariables false
set_option linter.unusedSimpArgs false
theorem form_made0 (w : World) (a b c d e : Value) (t t2 : TypeId) : ∀ a' b' c' d' e' : Value, Below w.heap.size w ((w.alloc (.cells #[a, b, c, d, e] t)).alloc (.cells #[a', b', c', d', e'] t2)) := fun _ _ _ _ _ => ((Below.refl _ _).alloc (Nat.le_refl _) _).alloc (by simp) _
theorem TabAt.drew5 {w : World} {g : Nat} {l : List (List UInt8)} (h : TabAt w g l) : TabAt w.drew g l := h
set_option maxRecDepth 100000 in
set_option maxHeartbeats 1000000 in
theorem i_exprForm_11 (o : Int) (t u : ByteArray) (A : Option Addr) (n c : Nat) (w : World) : Calls Tryz.prog 25 #[.agg #[.int .i64 11, .int .i64 o, .string t, .string u, .slice A n c]] w (RetForm w (o == 55 || o == 56 || o == 61) (t.toList.isEmpty) false 1 1) := by
  have hF := form_made w (.int .i64 11) (.int .i64 o) (.string t) (.string u) (.slice A n c) 30 45
  have hB0 := form_made0 w (.int .i64 11) (.int .i64 o) (.string t) (.string u) (.slice A n c) 30 45
  cases h5 : o == 55
  · cases h6 : o == 56
    · go_enter Tryz.func25, Tryz.ntmps25
      go_wp2_with fail
      obtain ⟨_, hB, ⟨c0, c1, c2, c3, c4⟩⟩ := hF (.bool (o == 61)) (.bool t.toList.isEmpty) (.bool false) (.int .i64 1) (.int .i64 1)
      exact bodyPost_ret (v := .agg #[.bool (o == 61), .bool t.toList.isEmpty, .bool false, .int .i64 1, .int .i64 1]) (by simp [results, Tryz.results25, go_sem, c0, c1, c2, c3, c4]) rfl ⟨by simp [h5, h6], hB0 _ _ _ _ _⟩
      
    · go_enter Tryz.func25, Tryz.ntmps25
      go_wp2_with fail
      obtain ⟨_, hB, ⟨c0, c1, c2, c3, c4⟩⟩ := hF (.bool (true)) (.bool t.toList.isEmpty) (.bool false) (.int .i64 1) (.int .i64 1)
      exact bodyPost_ret (v := .agg #[.bool (true), .bool t.toList.isEmpty, .bool false, .int .i64 1, .int .i64 1]) (by simp [results, Tryz.results25, go_sem, c0, c1, c2, c3, c4]) rfl ⟨by simp [h5, h6], hB0 _ _ _ _ _⟩
      
  · have h6 : True := trivial
    go_enter Tryz.func25, Tryz.ntmps25
    go_wp2_with fail
    obtain ⟨_, hB, ⟨c0, c1, c2, c3, c4⟩⟩ := hF (.bool (true)) (.bool t.toList.isEmpty) (.bool false) (.int .i64 1) (.int .i64 1)
    exact bodyPost_ret (v := .agg #[.bool (true), .bool t.toList.isEmpty, .bool false, .int .i64 1, .int .i64 1]) (by simp [results, Tryz.results25, go_sem, c0, c1, c2, c3, c4]) rfl ⟨by simp [h5, h6], hB0 _ _ _ _ _⟩
    
set_option maxRecDepth 100000 in
set_option maxHeartbeats 16000000 in
theorem i_stmtForm_32 (o : Int) (t u : ByteArray) (A : Option Addr) (n c : Nat) (w : World) (ht : t.size ≤ 16777216) (hu : u.size ≤ 16777216) (t0 : TabAt w 1 kwL) (t1 : TabAt w 2 signL) (t2 : TabAt w 0 biL) : Calls Tryz.prog 27 #[.agg #[.int .i64 32, .int .i64 o, .string t, .string u, .slice A n c]] w (RetForm w (o == 0) (nameOkB t) (nameOkB u) 1 1) := by
  have hF := three_made w (.int .i64 32) (.int .i64 o) (.string t) (.string u) (.slice A n c) 30 45
  obtain ⟨hb, _, ⟨d0, d1, d2, d3, d4⟩, _⟩ := hF (.bool false) (.bool false) (.bool false) (.int .i64 0) (.int .i64 0) (.bool (o == 0)) (.bool t.toList.isEmpty) (.bool u.toList.isEmpty) (.int .i64 0) (.int .i64 0)
  have x0 := Lib.hid (t0.later hb)
  have x2 := Lib.hid (t2.later hb)
  have hbH := Lib.hid hb
  have dH := Lib.hid (And.intro d2 d3)
  clear hb t0 t1 t2 hF d0 d1 d2 d3 d4
  obtain ⟨N, hN⟩ : ∃ N, nameOkB t = N := ⟨_, rfl⟩
  obtain ⟨M, hM⟩ : ∃ M, nameOkB u = M := ⟨_, rfl⟩
  rw [hN, hM]
  have hN := Lib.hid hN
  have hM := Lib.hid hM
  go_enter Tryz.func27, Tryz.ntmps27
  go_wp2_with fail
  obtain ⟨W, hW, hb1⟩ : ∃ W, (((w.alloc (.cells #[.int .i64 32, .int .i64 o, .string t, .string u, .slice A n c] 30)).alloc (.cells #[.bool false, .bool false, .bool false, .int .i64 0, .int .i64 0] 45)).alloc (.cells #[.bool (o == 0), .bool t.toList.isEmpty, .bool u.toList.isEmpty, .int .i64 0, .int .i64 0] 45)) = W ∧ Below (((w.alloc (.cells #[.int .i64 32, .int .i64 o, .string t, .string u, .slice A n c] 30)).alloc (.cells #[.bool false, .bool false, .bool false, .int .i64 0, .int .i64 0] 45)).alloc (.cells #[.bool (o == 0), .bool t.toList.isEmpty, .bool u.toList.isEmpty, .int .i64 0, .int .i64 0] 45)).heap.size (((w.alloc (.cells #[.int .i64 32, .int .i64 o, .string t, .string u, .slice A n c] 30)).alloc (.cells #[.bool false, .bool false, .bool false, .int .i64 0, .int .i64 0] 45)).alloc (.cells #[.bool (o == 0), .bool t.toList.isEmpty, .bool u.toList.isEmpty, .int .i64 0, .int .i64 0] 45)) W := ⟨_, rfl, Below.refl _ _⟩
  rw [hW] at dH x0 x2 ⊢
  have y2 : W.cell? ⟨w.heap.size, 2, none⟩ = _ := dH.out.1
  have y3 : W.cell? ⟨w.heap.size, 3, none⟩ = _ := dH.out.2
  have hWH := Lib.hid hW
  have hb1H := Lib.hid hb1
  clear hW hb1
  refine wp_region_still_tail 7 (by kernel_rfl) (by kernel_rfl) ?_
  simp only [List.take_succ_cons, List.take_zero, List.drop_succ_cons, List.drop_zero]
  repeat still_step
  still_call ((i_nameOk _ W.drew ht x0.out.drew5 x2.out.drew5).mono fun e w' h => ⟨h.1.trans (ret_bool hN.out), h.2.symm⟩)
  repeat still_step
  still_call ((i_nameOk _ W.drew hu x0.out.drew5 x2.out.drew5).mono fun e w' h => ⟨h.1.trans (ret_bool hM.out), h.2.symm⟩)
  repeat still_step
  try refine wpStill_nil ?_
  change wpList _ _ _ _ _ W.drew
  have hb2 : Below (((w.alloc (.cells #[.int .i64 32, .int .i64 o, .string t, .string u, .slice A n c] 30)).alloc (.cells #[.bool false, .bool false, .bool false, .int .i64 0, .int .i64 0] 45)).alloc (.cells #[.bool (o == 0), .bool t.toList.isEmpty, .bool u.toList.isEmpty, .int .i64 0, .int .i64 0] 45)).heap.size (((w.alloc (.cells #[.int .i64 32, .int .i64 o, .string t, .string u, .slice A n c] 30)).alloc (.cells #[.bool false, .bool false, .bool false, .int .i64 0, .int .i64 0] 45)).alloc (.cells #[.bool (o == 0), .bool t.toList.isEmpty, .bool u.toList.isEmpty, .int .i64 0, .int .i64 0] 45)) W.drew := below_drewN hb1H.out 1
  clear y2 y3
  generalize W.drew = w1 at hb2 ⊢
  have hc1 : ∀ o, w1.cell? ⟨w.heap.size + 1, o, none⟩ = _ := fun o => hb2.cell (p := ⟨w.heap.size + 1, o, none⟩) (by simp)
  have hf1 : ∀ o, w1.frozen? ⟨w.heap.size + 1, o, none⟩ = _ := fun o => hb2.frozen (p := ⟨w.heap.size + 1, o, none⟩) (by simp)
  have hc2 : ∀ o, w1.cell? ⟨w.heap.size + 1 + 1, o, none⟩ = _ := fun o => hb2.cell (p := ⟨w.heap.size + 1 + 1, o, none⟩) (by simp)
  have hf2 : ∀ o, w1.frozen? ⟨w.heap.size + 1 + 1, o, none⟩ = _ := fun o => hb2.frozen (p := ⟨w.heap.size + 1 + 1, o, none⟩) (by simp)
  have hbw : Hid (Below w.heap.size w w1) := hbH.out.trans (hb2.mono hbH.out.size)
  clear hb2
  go_wp2_with fail
  have q1 : w.heap.size ≤ w.heap.size + 1 := by omega
  have q2 : w.heap.size ≤ w.heap.size + 1 + 1 := by omega
  exact bodyPost_ret (v := .agg #[.bool (o == 0), .bool N, .bool M, .int .i64 1, .int .i64 1]) (by simp [results, Tryz.results27, go_sem, hc1]) rfl ⟨rfl, ((((((((hbw.out.setCell (p := ⟨w.heap.size + 1 + 1, 1, none⟩) q2 _).setCell (p := ⟨w.heap.size + 1 + 1, 2, none⟩) q2 _).setCell (p := ⟨w.heap.size + 1 + 1, 3, none⟩) q2 _).setCell (p := ⟨w.heap.size + 1 + 1, 4, none⟩) q2 _).setCell (p := ⟨w.heap.size + 1, 0, none⟩) q1 _).setCell (p := ⟨w.heap.size + 1, 1, none⟩) q1 _).setCell (p := ⟨w.heap.size + 1, 2, none⟩) q1 _).setCell (p := ⟨w.heap.size + 1, 3, none⟩) q1 _).setCell (p := ⟨w.heap.size + 1, 4, none⟩) q1 _⟩
end Go.Proofs.YtlabmboedjnpmaaGreatDoor
