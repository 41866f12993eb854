/- The forms of expressions of the program that ask for tokens (walks). -/
import Derived.Test.YtlabmboedjnpmaaGreatDoorFieldI
import Derived.Deep.RegionLaw
namespace Go.Proofs.YtlabmboedjnpmaaGreatDoor
open Go.RowKit
set_option linter.unusedVariables false
set_option linter.unusedSimpArgs false
theorem form_later (w : World) (a b c d e a' b' c' d' e' : Value) (t t2 : TypeId) : ∀ W, Below ((w.alloc (.cells #[a, b, c, d, e] t)).alloc (.cells #[a', b', c', d', e'] t2)).drew.heap.size ((w.alloc (.cells #[a, b, c, d, e] t)).alloc (.cells #[a', b', c', d', e'] t2)).drew W →
    (W.cell? ⟨w.heap.size, 0, none⟩ = some a ∧ W.cell? ⟨w.heap.size, 1, none⟩ = some b ∧ W.cell? ⟨w.heap.size, 2, none⟩ = some c ∧ W.cell? ⟨w.heap.size, 3, none⟩ = some d ∧ W.cell? ⟨w.heap.size, 4, none⟩ = some e) ∧
    (W.cell? ⟨w.heap.size + 1, 0, none⟩ = some a' ∧ W.cell? ⟨w.heap.size + 1, 1, none⟩ = some b' ∧ W.cell? ⟨w.heap.size + 1, 2, none⟩ = some c' ∧ W.cell? ⟨w.heap.size + 1, 3, none⟩ = some d' ∧ W.cell? ⟨w.heap.size + 1, 4, none⟩ = some e') ∧
    (∀ o, W.frozen? ⟨w.heap.size + 1, o, none⟩ = false) ∧
    ∀ v0 v1 v2 v3 v4 : Value, ((((((W.setCell ⟨w.heap.size + 1, 0, none⟩ v0).setCell ⟨w.heap.size + 1, 1, none⟩ v1).setCell ⟨w.heap.size + 1, 2, none⟩ v2).setCell ⟨w.heap.size + 1, 3, none⟩ v3).setCell ⟨w.heap.size + 1, 4, none⟩ v4).cell? ⟨w.heap.size, 0, none⟩ = some a ∧ (((((W.setCell ⟨w.heap.size + 1, 0, none⟩ v0).setCell ⟨w.heap.size + 1, 1, none⟩ v1).setCell ⟨w.heap.size + 1, 2, none⟩ v2).setCell ⟨w.heap.size + 1, 3, none⟩ v3).setCell ⟨w.heap.size + 1, 4, none⟩ v4).cell? ⟨w.heap.size, 1, none⟩ = some b ∧ (((((W.setCell ⟨w.heap.size + 1, 0, none⟩ v0).setCell ⟨w.heap.size + 1, 1, none⟩ v1).setCell ⟨w.heap.size + 1, 2, none⟩ v2).setCell ⟨w.heap.size + 1, 3, none⟩ v3).setCell ⟨w.heap.size + 1, 4, none⟩ v4).cell? ⟨w.heap.size, 2, none⟩ = some c ∧
      (((((W.setCell ⟨w.heap.size + 1, 0, none⟩ v0).setCell ⟨w.heap.size + 1, 1, none⟩ v1).setCell ⟨w.heap.size + 1, 2, none⟩ v2).setCell ⟨w.heap.size + 1, 3, none⟩ v3).setCell ⟨w.heap.size + 1, 4, none⟩ v4).cell? ⟨w.heap.size, 3, none⟩ = some d ∧ (((((W.setCell ⟨w.heap.size + 1, 0, none⟩ v0).setCell ⟨w.heap.size + 1, 1, none⟩ v1).setCell ⟨w.heap.size + 1, 2, none⟩ v2).setCell ⟨w.heap.size + 1, 3, none⟩ v3).setCell ⟨w.heap.size + 1, 4, none⟩ v4).cell? ⟨w.heap.size, 4, none⟩ = some e) ∧
      Five (((((W.setCell ⟨w.heap.size + 1, 0, none⟩ v0).setCell ⟨w.heap.size + 1, 1, none⟩ v1).setCell ⟨w.heap.size + 1, 2, none⟩ v2).setCell ⟨w.heap.size + 1, 3, none⟩ v3).setCell ⟨w.heap.size + 1, 4, none⟩ v4) (w.heap.size + 1) v0 v1 v2 v3 v4 ∧
      Below w.heap.size w (((((W.setCell ⟨w.heap.size + 1, 0, none⟩ v0).setCell ⟨w.heap.size + 1, 1, none⟩ v1).setCell ⟨w.heap.size + 1, 2, none⟩ v2).setCell ⟨w.heap.size + 1, 3, none⟩ v3).setCell ⟨w.heap.size + 1, 4, none⟩ v4) := by
  intro W hb
  have es : ((w.alloc (.cells #[a, b, c, d, e] t)).alloc (.cells #[a', b', c', d', e'] t2)).drew.heap.size = w.heap.size + 1 + 1 := by simp
  have F := form_made w a b c d e t t2 a' b' c' d' e'
  have G0 : Has (w.alloc (.cells #[a, b, c, d, e] t)) w.heap.size t #[a, b, c, d, e] := Has.made _ _ _
  have eh : (w.alloc (.cells #[a, b, c, d, e] t)).heap.size = w.heap.size + 1 := by simp
  have G1 : Has ((w.alloc (.cells #[a, b, c, d, e] t)).alloc (.cells #[a', b', c', d', e'] t2)) (w.heap.size + 1) t2 #[a', b', c', d', e'] := by
    rw [← eh]; exact Has.made _ _ _
  have H0 : Has W w.heap.size t #[a, b, c, d, e] := ((G0.alloc _).drew).below hb (by rw [es]; omega)
  have H1 : Has W (w.heap.size + 1) t2 #[a', b', c', d', e'] := (G1.drew).below hb (by rw [es]; omega)
  refine ⟨⟨H0.get rfl, H0.get rfl, H0.get rfl, H0.get rfl, H0.get rfl⟩, ⟨H1.get rfl, H1.get rfl, H1.get rfl, H1.get rfl, H1.get rfl⟩, fun o => H1.free o, fun v0 v1 v2 v3 v4 => ?_⟩
  have ne : w.heap.size ≠ w.heap.size + 1 := by omega
  have K0 := ((((H0.other (p := ⟨w.heap.size + 1, 0, none⟩) ne v0).other (p := ⟨w.heap.size + 1, 1, none⟩) ne v1).other (p := ⟨w.heap.size + 1, 2, none⟩) ne v2).other (p := ⟨w.heap.size + 1, 3, none⟩) ne v3).other (p := ⟨w.heap.size + 1, 4, none⟩) ne v4
  have K1 := ((((H1.set 0 v0).set 1 v1).set 2 v2).set 3 v3).set 4 v4
  have hB : Below w.heap.size w W := F.2.1.trans (hb.mono (by rw [es]; omega))
  have q : w.heap.size ≤ w.heap.size + 1 := by omega
  exact ⟨⟨K0.get rfl, K0.get rfl, K0.get rfl, K0.get rfl, K0.get rfl⟩, ⟨K1.get rfl, K1.get rfl, K1.get rfl, K1.get rfl, K1.get rfl⟩, ((((hB.setCell (p := ⟨w.heap.size + 1, 0, none⟩) q _).setCell (p := ⟨w.heap.size + 1, 1, none⟩) q _).setCell (p := ⟨w.heap.size + 1, 2, none⟩) q _).setCell (p := ⟨w.heap.size + 1, 3, none⟩) q _).setCell (p := ⟨w.heap.size + 1, 4, none⟩) q _⟩
set_option maxRecDepth 100000 in
set_option maxHeartbeats 4000000 in
theorem i_exprForm_2 (o : Int) (t u : ByteArray) (A : Option Addr) (n c : Nat) (w : World) (ht : t.size ≤ 16777216) (t0 : TabAt w 1 kwL) (t1 : TabAt w 2 signL) (t2 : TabAt w 0 biL) : Calls Tryz.prog 25 #[.agg #[.int .i64 2, .int .i64 o, .string t, .string u, .slice A n c]] w (RetForm w (o == 0) (tokenOkB ⟨3, t, 0⟩) false 0 0) := by
  have hZ := form_later w (.int .i64 2) (.int .i64 o) (.string t) (.string u) (.slice A n c) (.bool false) (.bool false) (.bool false) (.int .i64 0) (.int .i64 0) 30 45
  have hb : Below w.heap.size w ((w.alloc (.cells #[.int .i64 2, .int .i64 o, .string t, .string u, .slice A n c] 30)).alloc (.cells #[.bool false, .bool false, .bool false, .int .i64 0, .int .i64 0] 45)).drew := below_drewN (((Below.refl _ _).alloc (Nat.le_refl _) _).alloc (by simp) _) 1
  have x0 := t0.later hb
  have x1 := t1.later hb
  have x2 := t2.later hb
  clear t0 t1 t2 hb
  have i0 : ∀ w, Sem.run Tryz.prog (Instr.index 62 (.agg #[.int .i64 3, .int .i64 4, .int .i64 5]) (.int .i64 0)) w = .ok (.int .i64 3) w := fun _ => by kernel_rfl
  have iw : IntKind.i64.wrap 0 = 0 := by decide
  obtain ⟨N, hN⟩ : ∃ N, tokenOkB ⟨3, t, 0⟩ = N := ⟨_, rfl⟩
  rw [hN]
  have hN := Lib.hid hN
  go_enter Tryz.func25, Tryz.ntmps25
  go_wp2_with fail
  generalize (w.alloc (.cells #[.int .i64 2, .int .i64 o, .string t, .string u, .slice A n c] 30)).alloc (.cells #[.bool false, .bool false, .bool false, .int .i64 0, .int .i64 0] 45) = W0 at *
  obtain ⟨⟨d0, d1, d2, d3, d4⟩, _⟩ := hZ _ (Below.refl _ _)
  have x0 := Lib.hid x0
  have x1 := Lib.hid x1
  have x2 := Lib.hid x2
  have hZ := Lib.hid hZ
  go_region_law (first | (go_simp; go_at_call 49; refine (i_tokenOk _ _ _ _ (by unfold okI64; omega) ht x0.out x1.out x2.out).mono ?_; rintro e xa ⟨rfl, hba⟩; rw [hN.out]; obtain ⟨⟨y0, y1, y2, y3, y4⟩, ⟨z0, z1, z2, z3, z4⟩, zf, _⟩ := hZ.out _ hba))
  all_goals
    go_wp2_with fail
    obtain ⟨_, ⟨c0, c1, c2, c3, c4⟩, hB⟩ := (hZ.out _ hba).2.2.2 (.bool (o == 0)) (.bool N) (.bool false) (.int .i64 0) (.int .i64 0)
    exact bodyPost_ret (v := .agg #[.bool (o == 0), .bool N, .bool false, .int .i64 0, .int .i64 0]) (by simp [results, Tryz.results25, go_sem, c0, c1, c2, c3, c4]) rfl ⟨rfl, hB⟩
set_option maxRecDepth 100000 in
set_option maxHeartbeats 4000000 in
theorem i_exprForm_3 (o : Int) (t u : ByteArray) (A : Option Addr) (n c : Nat) (w : World) (ht : t.size ≤ 16777216) (t0 : TabAt w 1 kwL) (t1 : TabAt w 2 signL) (t2 : TabAt w 0 biL) : Calls Tryz.prog 25 #[.agg #[.int .i64 3, .int .i64 o, .string t, .string u, .slice A n c]] w (RetForm w (o == 0) (tokenOkB ⟨4, t, 0⟩) false 0 0) := by
  have hZ := form_later w (.int .i64 3) (.int .i64 o) (.string t) (.string u) (.slice A n c) (.bool false) (.bool false) (.bool false) (.int .i64 0) (.int .i64 0) 30 45
  have hb : Below w.heap.size w ((w.alloc (.cells #[.int .i64 3, .int .i64 o, .string t, .string u, .slice A n c] 30)).alloc (.cells #[.bool false, .bool false, .bool false, .int .i64 0, .int .i64 0] 45)).drew := below_drewN (((Below.refl _ _).alloc (Nat.le_refl _) _).alloc (by simp) _) 1
  have x0 := t0.later hb
  have x1 := t1.later hb
  have x2 := t2.later hb
  clear t0 t1 t2 hb
  have i0 : ∀ w, Sem.run Tryz.prog (Instr.index 62 (.agg #[.int .i64 3, .int .i64 4, .int .i64 5]) (.int .i64 1)) w = .ok (.int .i64 4) w := fun _ => by kernel_rfl
  have iw : IntKind.i64.wrap 1 = 1 := by decide
  obtain ⟨N, hN⟩ : ∃ N, tokenOkB ⟨4, t, 0⟩ = N := ⟨_, rfl⟩
  rw [hN]
  have hN := Lib.hid hN
  go_enter Tryz.func25, Tryz.ntmps25
  go_wp2_with fail
  generalize (w.alloc (.cells #[.int .i64 3, .int .i64 o, .string t, .string u, .slice A n c] 30)).alloc (.cells #[.bool false, .bool false, .bool false, .int .i64 0, .int .i64 0] 45) = W0 at *
  obtain ⟨⟨d0, d1, d2, d3, d4⟩, _⟩ := hZ _ (Below.refl _ _)
  have x0 := Lib.hid x0
  have x1 := Lib.hid x1
  have x2 := Lib.hid x2
  have hZ := Lib.hid hZ
  go_region_law (first | (go_simp; go_at_call 49; refine (i_tokenOk _ _ _ _ (by unfold okI64; omega) ht x0.out x1.out x2.out).mono ?_; rintro e xa ⟨rfl, hba⟩; rw [hN.out]; obtain ⟨⟨y0, y1, y2, y3, y4⟩, ⟨z0, z1, z2, z3, z4⟩, zf, _⟩ := hZ.out _ hba))
  all_goals
    go_wp2_with fail
    obtain ⟨_, ⟨c0, c1, c2, c3, c4⟩, hB⟩ := (hZ.out _ hba).2.2.2 (.bool (o == 0)) (.bool N) (.bool false) (.int .i64 0) (.int .i64 0)
    exact bodyPost_ret (v := .agg #[.bool (o == 0), .bool N, .bool false, .int .i64 0, .int .i64 0]) (by simp [results, Tryz.results25, go_sem, c0, c1, c2, c3, c4]) rfl ⟨rfl, hB⟩
set_option maxRecDepth 100000 in
set_option maxHeartbeats 4000000 in
theorem i_exprForm_4 (o : Int) (t u : ByteArray) (A : Option Addr) (n c : Nat) (w : World) (ht : t.size ≤ 16777216) (t0 : TabAt w 1 kwL) (t1 : TabAt w 2 signL) (t2 : TabAt w 0 biL) : Calls Tryz.prog 25 #[.agg #[.int .i64 4, .int .i64 o, .string t, .string u, .slice A n c]] w (RetForm w (o == 0) (tokenOkB ⟨5, t, 0⟩) false 0 0) := by
  have hZ := form_later w (.int .i64 4) (.int .i64 o) (.string t) (.string u) (.slice A n c) (.bool false) (.bool false) (.bool false) (.int .i64 0) (.int .i64 0) 30 45
  have hb : Below w.heap.size w ((w.alloc (.cells #[.int .i64 4, .int .i64 o, .string t, .string u, .slice A n c] 30)).alloc (.cells #[.bool false, .bool false, .bool false, .int .i64 0, .int .i64 0] 45)).drew := below_drewN (((Below.refl _ _).alloc (Nat.le_refl _) _).alloc (by simp) _) 1
  have x0 := t0.later hb
  have x1 := t1.later hb
  have x2 := t2.later hb
  clear t0 t1 t2 hb
  have i0 : ∀ w, Sem.run Tryz.prog (Instr.index 62 (.agg #[.int .i64 3, .int .i64 4, .int .i64 5]) (.int .i64 2)) w = .ok (.int .i64 5) w := fun _ => by kernel_rfl
  have iw : IntKind.i64.wrap 2 = 2 := by decide
  obtain ⟨N, hN⟩ : ∃ N, tokenOkB ⟨5, t, 0⟩ = N := ⟨_, rfl⟩
  rw [hN]
  have hN := Lib.hid hN
  go_enter Tryz.func25, Tryz.ntmps25
  go_wp2_with fail
  generalize (w.alloc (.cells #[.int .i64 4, .int .i64 o, .string t, .string u, .slice A n c] 30)).alloc (.cells #[.bool false, .bool false, .bool false, .int .i64 0, .int .i64 0] 45) = W0 at *
  obtain ⟨⟨d0, d1, d2, d3, d4⟩, _⟩ := hZ _ (Below.refl _ _)
  have x0 := Lib.hid x0
  have x1 := Lib.hid x1
  have x2 := Lib.hid x2
  have hZ := Lib.hid hZ
  go_region_law (first | (go_simp; go_at_call 49; refine (i_tokenOk _ _ _ _ (by unfold okI64; omega) ht x0.out x1.out x2.out).mono ?_; rintro e xa ⟨rfl, hba⟩; rw [hN.out]; obtain ⟨⟨y0, y1, y2, y3, y4⟩, ⟨z0, z1, z2, z3, z4⟩, zf, _⟩ := hZ.out _ hba))
  all_goals
    go_wp2_with fail
    obtain ⟨_, ⟨c0, c1, c2, c3, c4⟩, hB⟩ := (hZ.out _ hba).2.2.2 (.bool (o == 0)) (.bool N) (.bool false) (.int .i64 0) (.int .i64 0)
    exact bodyPost_ret (v := .agg #[.bool (o == 0), .bool N, .bool false, .int .i64 0, .int .i64 0]) (by simp [results, Tryz.results25, go_sem, c0, c1, c2, c3, c4]) rfl ⟨rfl, hB⟩
end Go.Proofs.YtlabmboedjnpmaaGreatDoor
