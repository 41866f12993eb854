/- The forms of nodes of the program that ask for tokens (walks). -/
import Derived.Test.YtlabmboedjnpmaaGreatDoorFieldI
import Derived.Deep.RegionLaw
namespace Go.Proofs.YtlabmboedjnpmaaGreatDoor
open Go.RowKit
set_option linter.unusedVariables false
set_option linter.unusedSimpArgs false
set_option maxRecDepth 100000 in
set_option maxHeartbeats 1000000 in
theorem i_stmtForm_34 (o : Int) (t u : ByteArray) (A : Option Addr) (n c : Nat) (w : World) (ht : t.size ≤ 16777216) (hu : u.size ≤ 16777216) (t0 : TabAt w 1 kwL) (t1 : TabAt w 2 signL) (t2 : TabAt w 0 biL) : Calls Tryz.prog 27 #[.agg #[.int .i64 34, .int .i64 o, .string t, .string u, .slice A n c]] w (RetForm w (o == 0) (tokenOkB ⟨2, t, 0⟩) (u.toList.isEmpty) 0 0) := by
  have hF := three_made w (.int .i64 34) (.int .i64 o) (.string t) (.string u) (.slice A n c) 30 45
  obtain ⟨hb, R, _, F⟩ := hF (.bool false) (.bool false) (.bool false) (.int .i64 0) (.int .i64 0) (.bool (o == 0)) (.bool t.toList.isEmpty) (.bool u.toList.isEmpty) (.int .i64 0) (.int .i64 0)
  have x0 := Lib.hid (t0.later hb)
  have x1 := Lib.hid (t1.later hb)
  have x2 := Lib.hid (t2.later hb)
  have hbH := Lib.hid hb
  have RH := Lib.hid R
  have FH := Lib.hid F
  clear hb t0 t1 t2 R F
  obtain ⟨N, hN⟩ : ∃ N, tokenOkB ⟨2, t, 0⟩ = N := ⟨_, rfl⟩
  rw [hN]
  have hN := Lib.hid hN
  go_enter Tryz.func27, Tryz.ntmps27
  go_wp2_with fail
  refine (i_tokenOk _ _ _ _ (by unfold okI64; omega) ht x0.out x1.out x2.out).mono ?_
  rintro e w1 ⟨rfl, hb1⟩
  rw [hN.out]
  have hc1 : ∀ o, w1.cell? ⟨w.heap.size + 1, o, none⟩ = _ := fun o => hb1.cell (p := ⟨w.heap.size + 1, o, none⟩) (by simp)
  have hf1 : ∀ o, w1.frozen? ⟨w.heap.size + 1, o, none⟩ = _ := fun o => hb1.frozen (p := ⟨w.heap.size + 1, o, none⟩) (by simp)
  have hc2 : ∀ o, w1.cell? ⟨w.heap.size + 1 + 1, o, none⟩ = _ := fun o => hb1.cell (p := ⟨w.heap.size + 1 + 1, o, none⟩) (by simp)
  have hf2 : ∀ o, w1.frozen? ⟨w.heap.size + 1 + 1, o, none⟩ = _ := fun o => hb1.frozen (p := ⟨w.heap.size + 1 + 1, o, none⟩) (by simp)
  go_wp2_with fail
  have q1 : w.heap.size ≤ w.heap.size + 1 := by omega
  have q2 : w.heap.size ≤ w.heap.size + 1 + 1 := by omega
  exact bodyPost_ret (v := .agg #[.bool (o == 0), .bool N, .bool u.toList.isEmpty, .int .i64 0, .int .i64 0]) (by simp [results, Tryz.results27, go_sem, hc1]) rfl ⟨rfl, ((((((hbH.out.trans (hb1.mono hbH.out.size)).setCell (p := ⟨w.heap.size + 1 + 1, 1, none⟩) q2 _).setCell (p := ⟨w.heap.size + 1, 0, none⟩) q1 _).setCell (p := ⟨w.heap.size + 1, 1, none⟩) q1 _).setCell (p := ⟨w.heap.size + 1, 2, none⟩) q1 _).setCell (p := ⟨w.heap.size + 1, 3, none⟩) q1 _).setCell (p := ⟨w.heap.size + 1, 4, none⟩) q1 _⟩
theorem tgt_at (W : World) (g : Nat) (T : TypeId) (h : g = W.heap.size) : TabAt (W.alloc (.cells #[.string ⟨#[]⟩, .string ⟨#[62]⟩, .string ⟨#[62, 62]⟩, .string ⟨#[124]⟩] T)) g tgtL := by
  subst h
  have H := Has.made W T #[.string ⟨#[]⟩, .string ⟨#[62]⟩, .string ⟨#[62, 62]⟩, .string ⟨#[124]⟩]
  refine ⟨by simp, fun i x hx => ?_⟩
  rw [H.cell]
  match i, hx with
  | 0, hx => simp [tgtL] at hx; subst hx; rfl
  | 1, hx => simp [tgtL] at hx; subst hx; rfl
  | 2, hx => simp [tgtL] at hx; subst hx; rfl
  | 3, hx => simp [tgtL] at hx; subst hx; rfl
  | i + 4, hx => simp [tgtL] at hx
theorem four_made (w : World) (a b c d e : Value) (t t2 : TypeId) (o : Obj) : ∀ a' b' c' d' e' a2 b2 c2 d2 e2 : Value, Below w.heap.size w ((((w.alloc (.cells #[a, b, c, d, e] t)).alloc (.cells #[a', b', c', d', e'] t2)).alloc (.cells #[a2, b2, c2, d2, e2] t2)).alloc o) ∧
    Five ((((w.alloc (.cells #[a, b, c, d, e] t)).alloc (.cells #[a', b', c', d', e'] t2)).alloc (.cells #[a2, b2, c2, d2, e2] t2)).alloc o) (w.heap.size + 1) a' b' c' d' e' := fun a' b' c' d' e' a2 b2 c2 d2 e2 => by
  obtain ⟨h1, h2, _, _⟩ := three_made w a b c d e t t2 a' b' c' d' e' a2 b2 c2 d2 e2
  exact ⟨h1.alloc h1.size _, h2.keep ((Below.refl _ _).alloc (Nat.le_refl _) _) (by simp)⟩
set_option maxRecDepth 100000 in
set_option maxHeartbeats 4000000 in
theorem i_stmtForm_21 (o : Int) (t u : ByteArray) (A : Option Addr) (n c : Nat) (w : World) : Calls Tryz.prog 27 #[.agg #[.int .i64 21, .int .i64 o, .string t, .string u, .slice A n c]] w fun e w' => ∃ a lo hi, RetForm w a (t.toList.isEmpty) (tgtB u) lo hi e w' ∧ a = inB o 0 1 ∧ (a = true → lo = manyLo 21 o u ∧ hi = manyHi 21 o u 0) := by
  have hF := four_made w (.int .i64 21) (.int .i64 o) (.string t) (.string u) (.slice A n c) 30 45 (.cells #[.string ⟨#[]⟩, .string ⟨#[62]⟩, .string ⟨#[62, 62]⟩, .string ⟨#[124]⟩] 9)
  obtain ⟨N, hN⟩ : ∃ N, tgtB u = N := ⟨_, rfl⟩
  have hN := Lib.hid hN
  by_cases h0 : o = 0
  · subst h0
    cases hE : u.toList.isEmpty
    · go_enter Tryz.func27, Tryz.ntmps27
      go_wp2_with (go_at_call 53; refine (i_containsStr _ tgtL _ _ (by decide) (tgt_at _ _ _ (by simp))).mono ?_; rintro e w' ⟨rfl, rfl⟩; rw [tgt_find, hN.out])
      obtain ⟨hB, c0, c1, c2, c3, c4⟩ := hF (.bool true) (.bool t.toList.isEmpty) (.bool N) (.int .i64 (1)) (.int .i64 7) (.bool true) (.bool t.toList.isEmpty) (.bool N) (.int .i64 (1)) (.int .i64 7)
      exact bodyPost_ret (v := .agg #[.bool true, .bool t.toList.isEmpty, .bool N, .int .i64 (1), .int .i64 7]) (by simp [results, Tryz.results27, go_sem, c0, c1, c2, c3, c4]) rfl ⟨true, 1, 7, ⟨by rw [hN.out], hB⟩, by decide, fun _ => by simp [manyLo, manyHi, emptyB, hE]⟩
    · go_enter Tryz.func27, Tryz.ntmps27
      go_wp2_with (go_at_call 53; refine (i_containsStr _ tgtL _ _ (by decide) (tgt_at _ _ _ (by simp))).mono ?_; rintro e w' ⟨rfl, rfl⟩; rw [tgt_find, hN.out])
      obtain ⟨hB, c0, c1, c2, c3, c4⟩ := hF (.bool true) (.bool t.toList.isEmpty) (.bool N) (.int .i64 (0)) (.int .i64 6) (.bool true) (.bool t.toList.isEmpty) (.bool N) (.int .i64 (0)) (.int .i64 6)
      exact bodyPost_ret (v := .agg #[.bool true, .bool t.toList.isEmpty, .bool N, .int .i64 (0), .int .i64 6]) (by simp [results, Tryz.results27, go_sem, c0, c1, c2, c3, c4]) rfl ⟨true, 0, 6, ⟨by rw [hN.out], hB⟩, by decide, fun _ => by simp [manyLo, manyHi, emptyB, hE]⟩
  by_cases h1 : o = 1
  · subst h1
    cases hE : u.toList.isEmpty
    · go_enter Tryz.func27, Tryz.ntmps27
      go_wp2_with (go_at_call 53; refine (i_containsStr _ tgtL _ _ (by decide) (tgt_at _ _ _ (by simp))).mono ?_; rintro e w' ⟨rfl, rfl⟩; rw [tgt_find, hN.out])
      obtain ⟨hB, c0, c1, c2, c3, c4⟩ := hF (.bool true) (.bool t.toList.isEmpty) (.bool N) (.int .i64 (2)) (.int .i64 7) (.bool true) (.bool t.toList.isEmpty) (.bool N) (.int .i64 (2)) (.int .i64 7)
      exact bodyPost_ret (v := .agg #[.bool true, .bool t.toList.isEmpty, .bool N, .int .i64 (2), .int .i64 7]) (by simp [results, Tryz.results27, go_sem, c0, c1, c2, c3, c4]) rfl ⟨true, 2, 7, ⟨by rw [hN.out], hB⟩, by decide, fun _ => by simp [manyLo, manyHi, emptyB, hE]⟩
    · go_enter Tryz.func27, Tryz.ntmps27
      go_wp2_with (go_at_call 53; refine (i_containsStr _ tgtL _ _ (by decide) (tgt_at _ _ _ (by simp))).mono ?_; rintro e w' ⟨rfl, rfl⟩; rw [tgt_find, hN.out])
      obtain ⟨hB, c0, c1, c2, c3, c4⟩ := hF (.bool true) (.bool t.toList.isEmpty) (.bool N) (.int .i64 (1)) (.int .i64 6) (.bool true) (.bool t.toList.isEmpty) (.bool N) (.int .i64 (1)) (.int .i64 6)
      exact bodyPost_ret (v := .agg #[.bool true, .bool t.toList.isEmpty, .bool N, .int .i64 (1), .int .i64 6]) (by simp [results, Tryz.results27, go_sem, c0, c1, c2, c3, c4]) rfl ⟨true, 1, 6, ⟨by rw [hN.out], hB⟩, by decide, fun _ => by simp [manyLo, manyHi, emptyB, hE]⟩
  have d0 : (o == 0) = false := by simpa using h0
  have d1 : (o == 1) = false := by simpa using h1
  have hI : false = inB o 0 1 := by symm; rw [inB_false]; omega
  have hIH := Lib.hid hI
  clear h0 h1 hI
  cases hE : u.toList.isEmpty
  · go_enter Tryz.func27, Tryz.ntmps27
    go_wp2_with (go_at_call 53; refine (i_containsStr _ tgtL _ _ (by decide) (tgt_at _ _ _ (by simp))).mono ?_; rintro e w' ⟨rfl, rfl⟩; rw [tgt_find, hN.out])
    obtain ⟨hB, c0, c1, c2, c3, c4⟩ := hF (.bool false) (.bool t.toList.isEmpty) (.bool N) (.int .i64 (wrap64 (o + 1))) (.int .i64 7) (.bool false) (.bool t.toList.isEmpty) (.bool N) (.int .i64 (wrap64 (o + 1))) (.int .i64 7)
    exact bodyPost_ret (v := .agg #[.bool false, .bool t.toList.isEmpty, .bool N, .int .i64 (wrap64 (o + 1)), .int .i64 7]) (by simp [results, Tryz.results27, go_sem, c0, c1, c2, c3, c4]) rfl ⟨false, wrap64 (o + 1), 7, ⟨by rw [hN.out], hB⟩, hIH.out, fun h => by cases h⟩
  · go_enter Tryz.func27, Tryz.ntmps27
    go_wp2_with (go_at_call 53; refine (i_containsStr _ tgtL _ _ (by decide) (tgt_at _ _ _ (by simp))).mono ?_; rintro e w' ⟨rfl, rfl⟩; rw [tgt_find, hN.out])
    obtain ⟨hB, c0, c1, c2, c3, c4⟩ := hF (.bool false) (.bool t.toList.isEmpty) (.bool N) (.int .i64 (o)) (.int .i64 6) (.bool false) (.bool t.toList.isEmpty) (.bool N) (.int .i64 (o)) (.int .i64 6)
    exact bodyPost_ret (v := .agg #[.bool false, .bool t.toList.isEmpty, .bool N, .int .i64 (o), .int .i64 6]) (by simp [results, Tryz.results27, go_sem, c0, c1, c2, c3, c4]) rfl ⟨false, o, 6, ⟨by rw [hN.out], hB⟩, hIH.out, fun h => by cases h⟩
end Go.Proofs.YtlabmboedjnpmaaGreatDoor
