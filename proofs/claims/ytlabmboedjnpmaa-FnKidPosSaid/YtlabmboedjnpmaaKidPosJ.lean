/- KidPos of the program: the other kinds, and all together (walks; printed by gen_kidpos2.py). -/
import Derived.Test.YtlabmboedjnpmaaKidPosI
import Derived.Deep.RegionHeld3
namespace Go.Proofs.Ytlabmboedjnpmaa
open Go.RowKit
set_option linter.unusedVariables false
set_option linter.unusedSimpArgs false
set_option maxRecDepth 100000 in
set_option maxHeartbeats 4000000 in
theorem i_kidPos_12_0t (o : Int) (t u : ByteArray) (A : Option Addr) (n c k : Nat) (l : Int) (d i g : Bool) (w : World) (hn : n ≤ 8) (hkn : k < n) (hpo : posOk l d = true) (hl0 : levelOf 12 o ≠ 0) (hl15 : levelOf 12 o ≠ 15) (hk : k = 0) : Calls Try.prog 14 #[.agg #[.int .i64 12, .int .i64 o, .string t, .string u, .slice A n c], .int .i64 (k : Int), .agg #[.int .i64 l, .bool d, .bool i, .bool g, .bool true]] w (RetPosV w (kidQ 12 o n k ⟨l, d, i, g, true⟩)) := by
  obtain ⟨L, hLL⟩ : ∃ L, levelOf 12 o = L := ⟨_, rfl⟩
  rw [hLL] at hl0 hl15
  have hL := Lib.hid hLL
  have hl0b : (L == 0) = false := by simpa using hl0
  have hl15b : (L == 15) = false := by simpa using hl15
  clear hLL
  have K := Lib.hid (KP.made w 12 o t u (.slice A n c) l d i g true)
  have B := Lib.hid (kpW_below w 12 o t u (.slice A n c) l d i g true)
  have z := Lib.hid (show w.heap.size + 3 ≤ (kpW w 12 o t u (.slice A n c) l d i g true).heap.size by rw [kpW_size]; exact Nat.le_refl _)
  unfold kpW at K B z
  have n0 := K.out.1.get (i := 0) rfl
  have n1 := K.out.1.get (i := 1) rfl
  have n2 := K.out.1.get (i := 2) rfl
  have n3 := K.out.1.get (i := 3) rfl
  have n4 := K.out.1.get (i := 4) rfl
  have p0 := K.out.2.1.get (i := 0) rfl
  have p1 := K.out.2.1.get (i := 1) rfl
  have p2 := K.out.2.1.get (i := 2) rfl
  have p3 := K.out.2.1.get (i := 3) rfl
  have p4 := K.out.2.1.get (i := 4) rfl
  have r0 := K.out.2.2.get (i := 0) rfl
  have r1 := K.out.2.2.get (i := 1) rfl
  have r2 := K.out.2.2.get (i := 2) rfl
  have r3 := K.out.2.2.get (i := 3) rfl
  have r4 := K.out.2.2.get (i := 4) rfl
  have f0 := K.out.2.2.free 0
  have f1 := K.out.2.2.free 1
  have f2 := K.out.2.2.free 2
  have f3 := K.out.2.2.free 3
  have f4 := K.out.2.2.free 4
  have hin := Lib.hid (show inB (k : Int) 0 ((n : Int) - 1) = true by unfold inB; simp; omega)
  have hpo := Lib.hid hpo
  have hkz : ((k : Int) == 0) = true := by simp; omega
  have hk1 : ((k : Int) == 1) = false := by simp; omega
  obtain ⟨LV, hLV⟩ : ∃ LV, kidLevelP 12 o k = LV := ⟨_, rfl⟩
  have hkl := Lib.hid hLV
  have HEQ : kidQ 12 o n k ⟨l, d, i, g, true⟩ = ⟨LV, false, i, g, true⟩ := by
    unfold kidQ
    rw [hLV, if_neg (by rw [hL.out]; simp [hl15])]
    rw [if_neg (by decide)]
    rw [if_pos hk]
    rfl
  have HEQ := Lib.hid HEQ
  clear hLV
  have hkH := Lib.hid hk
  clear hk
  go_enter Try.func14, Try.ntmps14
  go_wp2_with (first
      | (go_at_call 12; refine (i_posOk l d i g true _).mono ?_; rintro e xw ⟨rfl, hb⟩; rw [hpo.out]; clear n0 n1 n2 n3 n4 p0 p1 p2 p3 p4 r0 r1 r2 r3 r4 f0 f1 f2 f3 f4; have K := Lib.hid (K.out.keep hb (by have := z.out; omega)); have B := Lib.hid (B.out.trans (hb.mono B.out.size)); have z := Lib.hid (Nat.le_trans z.out hb.size); clear hb; have n0 := K.out.1.get (i := 0) rfl; have n1 := K.out.1.get (i := 1) rfl; have n2 := K.out.1.get (i := 2) rfl; have n3 := K.out.1.get (i := 3) rfl; have n4 := K.out.1.get (i := 4) rfl; have p0 := K.out.2.1.get (i := 0) rfl; have p1 := K.out.2.1.get (i := 1) rfl; have p2 := K.out.2.1.get (i := 2) rfl; have p3 := K.out.2.1.get (i := 3) rfl; have p4 := K.out.2.1.get (i := 4) rfl; have r0 := K.out.2.2.get (i := 0) rfl; have r1 := K.out.2.2.get (i := 1) rfl; have r2 := K.out.2.2.get (i := 2) rfl; have r3 := K.out.2.2.get (i := 3) rfl; have r4 := K.out.2.2.get (i := 4) rfl; have f0 := K.out.2.2.free 0; have f1 := K.out.2.2.free 1; have f2 := K.out.2.2.free 2; have f3 := K.out.2.2.free 3; have f4 := K.out.2.2.free 4; have hz := z.out)
      | (go_at_call 21; refine (i_within _ _ _ _).mono ?_; rintro e w' ⟨rfl, rfl⟩; rw [hin.out])
      | (go_at_call 11; refine (i_levelOf 12 o t u A n c _).mono ?_; rintro e xw ⟨rfl, hb⟩; rw [hL.out]; clear n0 n1 n2 n3 n4 p0 p1 p2 p3 p4 r0 r1 r2 r3 r4 f0 f1 f2 f3 f4; have K := Lib.hid (K.out.keep hb (by have := z.out; omega)); have B := Lib.hid (B.out.trans (hb.mono B.out.size)); have z := Lib.hid (Nat.le_trans z.out hb.size); clear hb; have n0 := K.out.1.get (i := 0) rfl; have n1 := K.out.1.get (i := 1) rfl; have n2 := K.out.1.get (i := 2) rfl; have n3 := K.out.1.get (i := 3) rfl; have n4 := K.out.1.get (i := 4) rfl; have p0 := K.out.2.1.get (i := 0) rfl; have p1 := K.out.2.1.get (i := 1) rfl; have p2 := K.out.2.1.get (i := 2) rfl; have p3 := K.out.2.1.get (i := 3) rfl; have p4 := K.out.2.1.get (i := 4) rfl; have r0 := K.out.2.2.get (i := 0) rfl; have r1 := K.out.2.2.get (i := 1) rfl; have r2 := K.out.2.2.get (i := 2) rfl; have r3 := K.out.2.2.get (i := 3) rfl; have r4 := K.out.2.2.get (i := 4) rfl; have f0 := K.out.2.2.free 0; have f1 := K.out.2.2.free 1; have f2 := K.out.2.2.free 2; have f3 := K.out.2.2.free 3; have f4 := K.out.2.2.free 4; have hz := z.out))
  have hzs := z.out
  have bacc : Below xw.drew.heap.size xw.drew xw.drew := Below.refl _ _
  have bal0 := (Below.refl xw.heap.size xw).alloc (Nat.le_refl _) (.cells #[.int .i64 0, .bool false, .bool false, .bool false, .bool false] 28)
  have bal : Below xw.drew.heap.size xw.drew (xw.alloc (.cells #[.int .i64 0, .bool false, .bool false, .bool false, .bool false] 28)).drew := ⟨bal0.os, bal0.tape, bal0.output, bal0.size, bal0.block⟩
  clear bal0
  have hkH := Lib.hid (show ∀ W', Below xw.drew.heap.size xw.drew W' → W'.cell? ⟨w.heap.size, 0, none⟩ = some (.int .i64 12) ∧ W'.cell? ⟨w.heap.size, 1, none⟩ = some (.int .i64 o) ∧ W'.cell? ⟨w.heap.size, 2, none⟩ = some (.string t) ∧ W'.cell? ⟨w.heap.size, 3, none⟩ = some (.string u) ∧ W'.cell? ⟨w.heap.size, 4, none⟩ = some (.slice A n c) ∧ W'.cell? ⟨w.heap.size + 1, 0, none⟩ = some (.int .i64 l) ∧ W'.cell? ⟨w.heap.size + 1, 1, none⟩ = some (.bool d) ∧ W'.cell? ⟨w.heap.size + 1, 2, none⟩ = some (.bool i) ∧ W'.cell? ⟨w.heap.size + 1, 3, none⟩ = some (.bool g) ∧ W'.cell? ⟨w.heap.size + 1, 4, none⟩ = some (.bool true) from fun W' hb => by
    have h := (show KP xw.drew _ _ _ _ _ _ _ _ _ _ _ from K.out).keep hb (show _ < xw.heap.size by omega)
    exact ⟨h.1.get (i := 0) rfl, h.1.get (i := 1) rfl, h.1.get (i := 2) rfl, h.1.get (i := 3) rfl, h.1.get (i := 4) rfl, h.2.1.get (i := 0) rfl, h.2.1.get (i := 1) rfl, h.2.1.get (i := 2) rfl, h.2.1.get (i := 3) rfl, h.2.1.get (i := 4) rfl⟩)
  have hP1 := Lib.hid (show ∀ W' (x0 x1 x2 x3 x4 : Value), Below xw.drew.heap.size xw.drew W' → (((((W'.setCell ⟨xw.heap.size, 0, none⟩ x0).setCell ⟨xw.heap.size, 1, none⟩ x1).setCell ⟨xw.heap.size, 2, none⟩ x2).setCell ⟨xw.heap.size, 3, none⟩ x3).setCell ⟨xw.heap.size, 4, none⟩ x4).cell? ⟨w.heap.size, 0, none⟩ = some (.int .i64 12) ∧ (((((W'.setCell ⟨xw.heap.size, 0, none⟩ x0).setCell ⟨xw.heap.size, 1, none⟩ x1).setCell ⟨xw.heap.size, 2, none⟩ x2).setCell ⟨xw.heap.size, 3, none⟩ x3).setCell ⟨xw.heap.size, 4, none⟩ x4).cell? ⟨w.heap.size, 1, none⟩ = some (.int .i64 o) ∧ (((((W'.setCell ⟨xw.heap.size, 0, none⟩ x0).setCell ⟨xw.heap.size, 1, none⟩ x1).setCell ⟨xw.heap.size, 2, none⟩ x2).setCell ⟨xw.heap.size, 3, none⟩ x3).setCell ⟨xw.heap.size, 4, none⟩ x4).cell? ⟨w.heap.size, 2, none⟩ = some (.string t) ∧ (((((W'.setCell ⟨xw.heap.size, 0, none⟩ x0).setCell ⟨xw.heap.size, 1, none⟩ x1).setCell ⟨xw.heap.size, 2, none⟩ x2).setCell ⟨xw.heap.size, 3, none⟩ x3).setCell ⟨xw.heap.size, 4, none⟩ x4).cell? ⟨w.heap.size, 3, none⟩ = some (.string u) ∧ (((((W'.setCell ⟨xw.heap.size, 0, none⟩ x0).setCell ⟨xw.heap.size, 1, none⟩ x1).setCell ⟨xw.heap.size, 2, none⟩ x2).setCell ⟨xw.heap.size, 3, none⟩ x3).setCell ⟨xw.heap.size, 4, none⟩ x4).cell? ⟨w.heap.size, 4, none⟩ = some (.slice A n c) ∧ (((((W'.setCell ⟨xw.heap.size, 0, none⟩ x0).setCell ⟨xw.heap.size, 1, none⟩ x1).setCell ⟨xw.heap.size, 2, none⟩ x2).setCell ⟨xw.heap.size, 3, none⟩ x3).setCell ⟨xw.heap.size, 4, none⟩ x4).cell? ⟨w.heap.size + 1, 0, none⟩ = some (.int .i64 l) ∧ (((((W'.setCell ⟨xw.heap.size, 0, none⟩ x0).setCell ⟨xw.heap.size, 1, none⟩ x1).setCell ⟨xw.heap.size, 2, none⟩ x2).setCell ⟨xw.heap.size, 3, none⟩ x3).setCell ⟨xw.heap.size, 4, none⟩ x4).cell? ⟨w.heap.size + 1, 1, none⟩ = some (.bool d) ∧ (((((W'.setCell ⟨xw.heap.size, 0, none⟩ x0).setCell ⟨xw.heap.size, 1, none⟩ x1).setCell ⟨xw.heap.size, 2, none⟩ x2).setCell ⟨xw.heap.size, 3, none⟩ x3).setCell ⟨xw.heap.size, 4, none⟩ x4).cell? ⟨w.heap.size + 1, 2, none⟩ = some (.bool i) ∧ (((((W'.setCell ⟨xw.heap.size, 0, none⟩ x0).setCell ⟨xw.heap.size, 1, none⟩ x1).setCell ⟨xw.heap.size, 2, none⟩ x2).setCell ⟨xw.heap.size, 3, none⟩ x3).setCell ⟨xw.heap.size, 4, none⟩ x4).cell? ⟨w.heap.size + 1, 3, none⟩ = some (.bool g) ∧ (((((W'.setCell ⟨xw.heap.size, 0, none⟩ x0).setCell ⟨xw.heap.size, 1, none⟩ x1).setCell ⟨xw.heap.size, 2, none⟩ x2).setCell ⟨xw.heap.size, 3, none⟩ x3).setCell ⟨xw.heap.size, 4, none⟩ x4).cell? ⟨w.heap.size + 1, 4, none⟩ = some (.bool true) from fun W' x0 x1 x2 x3 x4 hb => by
    have h := ((show KP xw.drew _ _ _ _ _ _ _ _ _ _ _ from K.out).keep hb (show _ < xw.heap.size by omega)).putF (x := xw.heap.size) (by omega) x0 x1 x2 x3 x4
    exact ⟨h.1.get (i := 0) rfl, h.1.get (i := 1) rfl, h.1.get (i := 2) rfl, h.1.get (i := 3) rfl, h.1.get (i := 4) rfl, h.2.1.get (i := 0) rfl, h.2.1.get (i := 1) rfl, h.2.1.get (i := 2) rfl, h.2.1.get (i := 3) rfl, h.2.1.get (i := 4) rfl⟩)
  have TX := Lib.hid (Has.made xw 28 #[.int .i64 0, .bool false, .bool false, .bool false, .bool false])
  have hXs : (xw.alloc (.cells #[.int .i64 0, .bool false, .bool false, .bool false, .bool false] 28)).heap.size = xw.heap.size + 1 := by simp
  clear n0 n1 n2 n3 n4 p0 p1 p2 p3 p4 r0 r1 r2 r3 r4 f0 f1 f2 f3 f4 hz
  go_region_held3 (fun W => W.cell? ⟨w.heap.size, 0, none⟩ = some (.int .i64 12) ∧ W.cell? ⟨w.heap.size, 1, none⟩ = some (.int .i64 o) ∧ W.cell? ⟨w.heap.size, 2, none⟩ = some (.string t) ∧ W.cell? ⟨w.heap.size, 3, none⟩ = some (.string u) ∧ W.cell? ⟨w.heap.size, 4, none⟩ = some (.slice A n c) ∧ W.cell? ⟨w.heap.size + 1, 0, none⟩ = some (.int .i64 l) ∧ W.cell? ⟨w.heap.size + 1, 1, none⟩ = some (.bool d) ∧ W.cell? ⟨w.heap.size + 1, 2, none⟩ = some (.bool i) ∧ W.cell? ⟨w.heap.size + 1, 3, none⟩ = some (.bool g) ∧ W.cell? ⟨w.heap.size + 1, 4, none⟩ = some (.bool true)) (first | (with_reducible (exact hkH.out _ bacc)) | (with_reducible (exact hkH.out _ bal)) | (with_reducible (exact hP1.out _ _ _ _ _ _ bacc)) | (with_reducible (exact hkH.out _ (bacc.alloc bacc.size _))) | exact hkH.out _ bacc) (first
    | ((go_at_call 24; refine (i_kidLevel 12 o t u A n c k _ (by omega)).mono ?_; rintro e x4 ⟨rfl, hb⟩; rw [hkl.out]; first
      | (have bacc := Below.trans bacc (hb.mono bacc.size); clear hb)
      | (have T4 := Lib.hid ((show Has (xw.alloc (.cells #[.int .i64 0, .bool false, .bool false, .bool false, .bool false] 28)).drew xw.heap.size _ _ from TX.out).below hb (show _ < (xw.alloc (.cells #[.int .i64 0, .bool false, .bool false, .bool false, .bool false] 28)).heap.size by omega)); have bacc := Below.trans bal (hb.mono bal.size); clear hb; have y0 := T4.out.get (i := 0) rfl; have y1 := T4.out.get (i := 1) rfl; have y2 := T4.out.get (i := 2) rfl; have y3 := T4.out.get (i := 3) rfl; have y4 := T4.out.get (i := 4) rfl; have q0 := T4.out.free 0; have q1 := T4.out.free 1; have q2 := T4.out.free 2; have q3 := T4.out.free 3; have q4 := T4.out.free 4; have ht4 := T4.out.lt))))
  · have hb4 : Below xw.heap.size xw x4 := ⟨bacc.os, bacc.tape, bacc.output, bacc.size, bacc.block⟩
    have hx4 : w.heap.size + 3 ≤ x4.heap.size := Nat.le_trans z.out hb4.size
    have T := Lib.hid (Has.made x4 28 #[.int .i64 LV, .bool false, .bool i, .bool g, .bool false])
    have K := Lib.hid ((K.out.keep hb4 (by omega)).keep ((Below.refl x4.heap.size x4).alloc (Nat.le_refl _) (.cells #[.int .i64 LV, .bool false, .bool i, .bool g, .bool false] 28)) (by omega))
    have B := Lib.hid ((B.out.trans (hb4.mono B.out.size)).alloc (Nat.le_trans B.out.size hb4.size) (.cells #[.int .i64 LV, .bool false, .bool i, .bool g, .bool false] 28))
    obtain ⟨W5, hW5⟩ : ∃ W, x4.alloc (.cells #[.int .i64 LV, .bool false, .bool i, .bool g, .bool false] 28) = W := ⟨_, rfl⟩
    rw [hW5] at T K B ⊢
    clear hW5 bacc bal hkH hP1 hb4
    have n0 := K.out.1.get (i := 0) rfl
    have n1 := K.out.1.get (i := 1) rfl
    have n2 := K.out.1.get (i := 2) rfl
    have n3 := K.out.1.get (i := 3) rfl
    have n4 := K.out.1.get (i := 4) rfl
    have p0 := K.out.2.1.get (i := 0) rfl
    have p1 := K.out.2.1.get (i := 1) rfl
    have p2 := K.out.2.1.get (i := 2) rfl
    have p3 := K.out.2.1.get (i := 3) rfl
    have p4 := K.out.2.1.get (i := 4) rfl
    have r0 := K.out.2.2.get (i := 0) rfl
    have r1 := K.out.2.2.get (i := 1) rfl
    have r2 := K.out.2.2.get (i := 2) rfl
    have r3 := K.out.2.2.get (i := 3) rfl
    have r4 := K.out.2.2.get (i := 4) rfl
    have f0 := K.out.2.2.free 0
    have f1 := K.out.2.2.free 1
    have f2 := K.out.2.2.free 2
    have f3 := K.out.2.2.free 3
    have f4 := K.out.2.2.free 4
    have t0 := T.out.get (i := 0) rfl
    have t1 := T.out.get (i := 1) rfl
    have t2 := T.out.get (i := 2) rfl
    have t3 := T.out.get (i := 3) rfl
    have t4 := T.out.get (i := 4) rfl
    have g4 := T.out.free 4
    have hlt5 := T.out.lt
    go_wp2_with fail
    exact bodyPost_ret (v := posV ⟨LV, false, i, g, true⟩) (by simp [results, Try.results14, go_sem, posV, r0, r1, r2, r3, r4, t0, t1, t2, t3, t4]) rfl (posV_eq HEQ.out (below_putF (B.out.setCell (p := ⟨x4.heap.size, 4, none⟩) (show w.heap.size ≤ x4.heap.size by omega) _) (by omega) _ _ _ _ _))
  · have hb4 : Below xw.heap.size xw x4 := ⟨bacc.os, bacc.tape, bacc.output, bacc.size, bacc.block⟩
    have hx4 : w.heap.size + 3 ≤ x4.heap.size := Nat.le_trans z.out hb4.size
    have T := Lib.hid (show Has (((((x4.setCell ⟨xw.heap.size, 0, none⟩ (.int .i64 LV)).setCell ⟨xw.heap.size, 1, none⟩ (.bool false)).setCell ⟨xw.heap.size, 2, none⟩ (.bool i)).setCell ⟨xw.heap.size, 3, none⟩ (.bool g)).setCell ⟨xw.heap.size, 4, none⟩ (.bool false)) xw.heap.size _ _ from T4.out.putF (.int .i64 LV) (.bool false) (.bool i) (.bool g) (.bool false))
    have K := Lib.hid (show KP (((((x4.setCell ⟨xw.heap.size, 0, none⟩ (.int .i64 LV)).setCell ⟨xw.heap.size, 1, none⟩ (.bool false)).setCell ⟨xw.heap.size, 2, none⟩ (.bool i)).setCell ⟨xw.heap.size, 3, none⟩ (.bool g)).setCell ⟨xw.heap.size, 4, none⟩ (.bool false)) _ _ _ _ _ _ _ _ _ _ _ from (K.out.keep hb4 (by omega)).putF (x := xw.heap.size) (by omega) (.int .i64 LV) (.bool false) (.bool i) (.bool g) (.bool false))
    have B := Lib.hid (show Below w.heap.size w (((((x4.setCell ⟨xw.heap.size, 0, none⟩ (.int .i64 LV)).setCell ⟨xw.heap.size, 1, none⟩ (.bool false)).setCell ⟨xw.heap.size, 2, none⟩ (.bool i)).setCell ⟨xw.heap.size, 3, none⟩ (.bool g)).setCell ⟨xw.heap.size, 4, none⟩ (.bool false)) from below_putF (B.out.trans (hb4.mono B.out.size)) (show w.heap.size ≤ xw.heap.size from B.out.size) _ _ _ _ _)
    obtain ⟨W5, hW5⟩ : ∃ W, (((((x4.setCell ⟨xw.heap.size, 0, none⟩ (.int .i64 LV)).setCell ⟨xw.heap.size, 1, none⟩ (.bool false)).setCell ⟨xw.heap.size, 2, none⟩ (.bool i)).setCell ⟨xw.heap.size, 3, none⟩ (.bool g)).setCell ⟨xw.heap.size, 4, none⟩ (.bool false)) = W := ⟨_, rfl⟩
    rw [hW5] at T K B ⊢
    clear hW5 bacc bal hkH hP1 hb4 y0 y1 y2 y3 y4 q0 q1 q2 q3 q4 T4
    have n0 := K.out.1.get (i := 0) rfl
    have n1 := K.out.1.get (i := 1) rfl
    have n2 := K.out.1.get (i := 2) rfl
    have n3 := K.out.1.get (i := 3) rfl
    have n4 := K.out.1.get (i := 4) rfl
    have p0 := K.out.2.1.get (i := 0) rfl
    have p1 := K.out.2.1.get (i := 1) rfl
    have p2 := K.out.2.1.get (i := 2) rfl
    have p3 := K.out.2.1.get (i := 3) rfl
    have p4 := K.out.2.1.get (i := 4) rfl
    have r0 := K.out.2.2.get (i := 0) rfl
    have r1 := K.out.2.2.get (i := 1) rfl
    have r2 := K.out.2.2.get (i := 2) rfl
    have r3 := K.out.2.2.get (i := 3) rfl
    have r4 := K.out.2.2.get (i := 4) rfl
    have f0 := K.out.2.2.free 0
    have f1 := K.out.2.2.free 1
    have f2 := K.out.2.2.free 2
    have f3 := K.out.2.2.free 3
    have f4 := K.out.2.2.free 4
    have t0 := T.out.get (i := 0) rfl
    have t1 := T.out.get (i := 1) rfl
    have t2 := T.out.get (i := 2) rfl
    have t3 := T.out.get (i := 3) rfl
    have t4 := T.out.get (i := 4) rfl
    have g4 := T.out.free 4
    have hlt5 := T.out.lt
    go_wp2_with fail
    exact bodyPost_ret (v := posV ⟨LV, false, i, g, true⟩) (by simp [results, Try.results14, go_sem, posV, r0, r1, r2, r3, r4, t0, t1, t2, t3, t4]) rfl (posV_eq HEQ.out (below_putF (B.out.setCell (p := ⟨xw.heap.size, 4, none⟩) (show w.heap.size ≤ xw.heap.size by omega) _) (by omega) _ _ _ _ _))
set_option maxRecDepth 100000 in
set_option maxHeartbeats 4000000 in
theorem i_kidPos_12_0f (o : Int) (t u : ByteArray) (A : Option Addr) (n c k : Nat) (l : Int) (d i g : Bool) (w : World) (hn : n ≤ 8) (hkn : k < n) (hpo : posOk l d = true) (hl0 : levelOf 12 o ≠ 0) (hl15 : levelOf 12 o ≠ 15) (hk : k = 0) : Calls Try.prog 14 #[.agg #[.int .i64 12, .int .i64 o, .string t, .string u, .slice A n c], .int .i64 (k : Int), .agg #[.int .i64 l, .bool d, .bool i, .bool g, .bool false]] w (RetPosV w (kidQ 12 o n k ⟨l, d, i, g, false⟩)) := by
  obtain ⟨L, hLL⟩ : ∃ L, levelOf 12 o = L := ⟨_, rfl⟩
  rw [hLL] at hl0 hl15
  have hL := Lib.hid hLL
  have hl0b : (L == 0) = false := by simpa using hl0
  have hl15b : (L == 15) = false := by simpa using hl15
  clear hLL
  have K := Lib.hid (KP.made w 12 o t u (.slice A n c) l d i g false)
  have B := Lib.hid (kpW_below w 12 o t u (.slice A n c) l d i g false)
  have z := Lib.hid (show w.heap.size + 3 ≤ (kpW w 12 o t u (.slice A n c) l d i g false).heap.size by rw [kpW_size]; exact Nat.le_refl _)
  unfold kpW at K B z
  have n0 := K.out.1.get (i := 0) rfl
  have n1 := K.out.1.get (i := 1) rfl
  have n2 := K.out.1.get (i := 2) rfl
  have n3 := K.out.1.get (i := 3) rfl
  have n4 := K.out.1.get (i := 4) rfl
  have p0 := K.out.2.1.get (i := 0) rfl
  have p1 := K.out.2.1.get (i := 1) rfl
  have p2 := K.out.2.1.get (i := 2) rfl
  have p3 := K.out.2.1.get (i := 3) rfl
  have p4 := K.out.2.1.get (i := 4) rfl
  have r0 := K.out.2.2.get (i := 0) rfl
  have r1 := K.out.2.2.get (i := 1) rfl
  have r2 := K.out.2.2.get (i := 2) rfl
  have r3 := K.out.2.2.get (i := 3) rfl
  have r4 := K.out.2.2.get (i := 4) rfl
  have f0 := K.out.2.2.free 0
  have f1 := K.out.2.2.free 1
  have f2 := K.out.2.2.free 2
  have f3 := K.out.2.2.free 3
  have f4 := K.out.2.2.free 4
  have hin := Lib.hid (show inB (k : Int) 0 ((n : Int) - 1) = true by unfold inB; simp; omega)
  have hpo := Lib.hid hpo
  have hkz : ((k : Int) == 0) = true := by simp; omega
  have hk1 : ((k : Int) == 1) = false := by simp; omega
  obtain ⟨LV, hLV⟩ : ∃ LV, kidLevelP 12 o k = LV := ⟨_, rfl⟩
  have hkl := Lib.hid hLV
  have HEQ : kidQ 12 o n k ⟨l, d, i, g, false⟩ = ⟨LV, false, i, g, false⟩ := by
    unfold kidQ
    rw [hLV, if_neg (by rw [hL.out]; simp [hl15])]
    rw [if_neg (by decide)]
    rw [if_pos hk]
    rfl
  have HEQ := Lib.hid HEQ
  clear hLV
  have hkH := Lib.hid hk
  clear hk
  go_enter Try.func14, Try.ntmps14
  go_wp2_with (first
      | (go_at_call 12; refine (i_posOk l d i g false _).mono ?_; rintro e xw ⟨rfl, hb⟩; rw [hpo.out]; clear n0 n1 n2 n3 n4 p0 p1 p2 p3 p4 r0 r1 r2 r3 r4 f0 f1 f2 f3 f4; have K := Lib.hid (K.out.keep hb (by have := z.out; omega)); have B := Lib.hid (B.out.trans (hb.mono B.out.size)); have z := Lib.hid (Nat.le_trans z.out hb.size); clear hb; have n0 := K.out.1.get (i := 0) rfl; have n1 := K.out.1.get (i := 1) rfl; have n2 := K.out.1.get (i := 2) rfl; have n3 := K.out.1.get (i := 3) rfl; have n4 := K.out.1.get (i := 4) rfl; have p0 := K.out.2.1.get (i := 0) rfl; have p1 := K.out.2.1.get (i := 1) rfl; have p2 := K.out.2.1.get (i := 2) rfl; have p3 := K.out.2.1.get (i := 3) rfl; have p4 := K.out.2.1.get (i := 4) rfl; have r0 := K.out.2.2.get (i := 0) rfl; have r1 := K.out.2.2.get (i := 1) rfl; have r2 := K.out.2.2.get (i := 2) rfl; have r3 := K.out.2.2.get (i := 3) rfl; have r4 := K.out.2.2.get (i := 4) rfl; have f0 := K.out.2.2.free 0; have f1 := K.out.2.2.free 1; have f2 := K.out.2.2.free 2; have f3 := K.out.2.2.free 3; have f4 := K.out.2.2.free 4; have hz := z.out)
      | (go_at_call 21; refine (i_within _ _ _ _).mono ?_; rintro e w' ⟨rfl, rfl⟩; rw [hin.out])
      | (go_at_call 11; refine (i_levelOf 12 o t u A n c _).mono ?_; rintro e xw ⟨rfl, hb⟩; rw [hL.out]; clear n0 n1 n2 n3 n4 p0 p1 p2 p3 p4 r0 r1 r2 r3 r4 f0 f1 f2 f3 f4; have K := Lib.hid (K.out.keep hb (by have := z.out; omega)); have B := Lib.hid (B.out.trans (hb.mono B.out.size)); have z := Lib.hid (Nat.le_trans z.out hb.size); clear hb; have n0 := K.out.1.get (i := 0) rfl; have n1 := K.out.1.get (i := 1) rfl; have n2 := K.out.1.get (i := 2) rfl; have n3 := K.out.1.get (i := 3) rfl; have n4 := K.out.1.get (i := 4) rfl; have p0 := K.out.2.1.get (i := 0) rfl; have p1 := K.out.2.1.get (i := 1) rfl; have p2 := K.out.2.1.get (i := 2) rfl; have p3 := K.out.2.1.get (i := 3) rfl; have p4 := K.out.2.1.get (i := 4) rfl; have r0 := K.out.2.2.get (i := 0) rfl; have r1 := K.out.2.2.get (i := 1) rfl; have r2 := K.out.2.2.get (i := 2) rfl; have r3 := K.out.2.2.get (i := 3) rfl; have r4 := K.out.2.2.get (i := 4) rfl; have f0 := K.out.2.2.free 0; have f1 := K.out.2.2.free 1; have f2 := K.out.2.2.free 2; have f3 := K.out.2.2.free 3; have f4 := K.out.2.2.free 4; have hz := z.out))
  have hzs := z.out
  have bacc : Below xw.drew.heap.size xw.drew xw.drew := Below.refl _ _
  have bal0 := (Below.refl xw.heap.size xw).alloc (Nat.le_refl _) (.cells #[.int .i64 0, .bool false, .bool false, .bool false, .bool false] 28)
  have bal : Below xw.drew.heap.size xw.drew (xw.alloc (.cells #[.int .i64 0, .bool false, .bool false, .bool false, .bool false] 28)).drew := ⟨bal0.os, bal0.tape, bal0.output, bal0.size, bal0.block⟩
  clear bal0
  have hkH := Lib.hid (show ∀ W', Below xw.drew.heap.size xw.drew W' → W'.cell? ⟨w.heap.size, 0, none⟩ = some (.int .i64 12) ∧ W'.cell? ⟨w.heap.size, 1, none⟩ = some (.int .i64 o) ∧ W'.cell? ⟨w.heap.size, 2, none⟩ = some (.string t) ∧ W'.cell? ⟨w.heap.size, 3, none⟩ = some (.string u) ∧ W'.cell? ⟨w.heap.size, 4, none⟩ = some (.slice A n c) ∧ W'.cell? ⟨w.heap.size + 1, 0, none⟩ = some (.int .i64 l) ∧ W'.cell? ⟨w.heap.size + 1, 1, none⟩ = some (.bool d) ∧ W'.cell? ⟨w.heap.size + 1, 2, none⟩ = some (.bool i) ∧ W'.cell? ⟨w.heap.size + 1, 3, none⟩ = some (.bool g) ∧ W'.cell? ⟨w.heap.size + 1, 4, none⟩ = some (.bool false) from fun W' hb => by
    have h := (show KP xw.drew _ _ _ _ _ _ _ _ _ _ _ from K.out).keep hb (show _ < xw.heap.size by omega)
    exact ⟨h.1.get (i := 0) rfl, h.1.get (i := 1) rfl, h.1.get (i := 2) rfl, h.1.get (i := 3) rfl, h.1.get (i := 4) rfl, h.2.1.get (i := 0) rfl, h.2.1.get (i := 1) rfl, h.2.1.get (i := 2) rfl, h.2.1.get (i := 3) rfl, h.2.1.get (i := 4) rfl⟩)
  have hP1 := Lib.hid (show ∀ W' (x0 x1 x2 x3 x4 : Value), Below xw.drew.heap.size xw.drew W' → (((((W'.setCell ⟨xw.heap.size, 0, none⟩ x0).setCell ⟨xw.heap.size, 1, none⟩ x1).setCell ⟨xw.heap.size, 2, none⟩ x2).setCell ⟨xw.heap.size, 3, none⟩ x3).setCell ⟨xw.heap.size, 4, none⟩ x4).cell? ⟨w.heap.size, 0, none⟩ = some (.int .i64 12) ∧ (((((W'.setCell ⟨xw.heap.size, 0, none⟩ x0).setCell ⟨xw.heap.size, 1, none⟩ x1).setCell ⟨xw.heap.size, 2, none⟩ x2).setCell ⟨xw.heap.size, 3, none⟩ x3).setCell ⟨xw.heap.size, 4, none⟩ x4).cell? ⟨w.heap.size, 1, none⟩ = some (.int .i64 o) ∧ (((((W'.setCell ⟨xw.heap.size, 0, none⟩ x0).setCell ⟨xw.heap.size, 1, none⟩ x1).setCell ⟨xw.heap.size, 2, none⟩ x2).setCell ⟨xw.heap.size, 3, none⟩ x3).setCell ⟨xw.heap.size, 4, none⟩ x4).cell? ⟨w.heap.size, 2, none⟩ = some (.string t) ∧ (((((W'.setCell ⟨xw.heap.size, 0, none⟩ x0).setCell ⟨xw.heap.size, 1, none⟩ x1).setCell ⟨xw.heap.size, 2, none⟩ x2).setCell ⟨xw.heap.size, 3, none⟩ x3).setCell ⟨xw.heap.size, 4, none⟩ x4).cell? ⟨w.heap.size, 3, none⟩ = some (.string u) ∧ (((((W'.setCell ⟨xw.heap.size, 0, none⟩ x0).setCell ⟨xw.heap.size, 1, none⟩ x1).setCell ⟨xw.heap.size, 2, none⟩ x2).setCell ⟨xw.heap.size, 3, none⟩ x3).setCell ⟨xw.heap.size, 4, none⟩ x4).cell? ⟨w.heap.size, 4, none⟩ = some (.slice A n c) ∧ (((((W'.setCell ⟨xw.heap.size, 0, none⟩ x0).setCell ⟨xw.heap.size, 1, none⟩ x1).setCell ⟨xw.heap.size, 2, none⟩ x2).setCell ⟨xw.heap.size, 3, none⟩ x3).setCell ⟨xw.heap.size, 4, none⟩ x4).cell? ⟨w.heap.size + 1, 0, none⟩ = some (.int .i64 l) ∧ (((((W'.setCell ⟨xw.heap.size, 0, none⟩ x0).setCell ⟨xw.heap.size, 1, none⟩ x1).setCell ⟨xw.heap.size, 2, none⟩ x2).setCell ⟨xw.heap.size, 3, none⟩ x3).setCell ⟨xw.heap.size, 4, none⟩ x4).cell? ⟨w.heap.size + 1, 1, none⟩ = some (.bool d) ∧ (((((W'.setCell ⟨xw.heap.size, 0, none⟩ x0).setCell ⟨xw.heap.size, 1, none⟩ x1).setCell ⟨xw.heap.size, 2, none⟩ x2).setCell ⟨xw.heap.size, 3, none⟩ x3).setCell ⟨xw.heap.size, 4, none⟩ x4).cell? ⟨w.heap.size + 1, 2, none⟩ = some (.bool i) ∧ (((((W'.setCell ⟨xw.heap.size, 0, none⟩ x0).setCell ⟨xw.heap.size, 1, none⟩ x1).setCell ⟨xw.heap.size, 2, none⟩ x2).setCell ⟨xw.heap.size, 3, none⟩ x3).setCell ⟨xw.heap.size, 4, none⟩ x4).cell? ⟨w.heap.size + 1, 3, none⟩ = some (.bool g) ∧ (((((W'.setCell ⟨xw.heap.size, 0, none⟩ x0).setCell ⟨xw.heap.size, 1, none⟩ x1).setCell ⟨xw.heap.size, 2, none⟩ x2).setCell ⟨xw.heap.size, 3, none⟩ x3).setCell ⟨xw.heap.size, 4, none⟩ x4).cell? ⟨w.heap.size + 1, 4, none⟩ = some (.bool false) from fun W' x0 x1 x2 x3 x4 hb => by
    have h := ((show KP xw.drew _ _ _ _ _ _ _ _ _ _ _ from K.out).keep hb (show _ < xw.heap.size by omega)).putF (x := xw.heap.size) (by omega) x0 x1 x2 x3 x4
    exact ⟨h.1.get (i := 0) rfl, h.1.get (i := 1) rfl, h.1.get (i := 2) rfl, h.1.get (i := 3) rfl, h.1.get (i := 4) rfl, h.2.1.get (i := 0) rfl, h.2.1.get (i := 1) rfl, h.2.1.get (i := 2) rfl, h.2.1.get (i := 3) rfl, h.2.1.get (i := 4) rfl⟩)
  have TX := Lib.hid (Has.made xw 28 #[.int .i64 0, .bool false, .bool false, .bool false, .bool false])
  have hXs : (xw.alloc (.cells #[.int .i64 0, .bool false, .bool false, .bool false, .bool false] 28)).heap.size = xw.heap.size + 1 := by simp
  clear n0 n1 n2 n3 n4 p0 p1 p2 p3 p4 r0 r1 r2 r3 r4 f0 f1 f2 f3 f4 hz
  go_region_held3 (fun W => W.cell? ⟨w.heap.size, 0, none⟩ = some (.int .i64 12) ∧ W.cell? ⟨w.heap.size, 1, none⟩ = some (.int .i64 o) ∧ W.cell? ⟨w.heap.size, 2, none⟩ = some (.string t) ∧ W.cell? ⟨w.heap.size, 3, none⟩ = some (.string u) ∧ W.cell? ⟨w.heap.size, 4, none⟩ = some (.slice A n c) ∧ W.cell? ⟨w.heap.size + 1, 0, none⟩ = some (.int .i64 l) ∧ W.cell? ⟨w.heap.size + 1, 1, none⟩ = some (.bool d) ∧ W.cell? ⟨w.heap.size + 1, 2, none⟩ = some (.bool i) ∧ W.cell? ⟨w.heap.size + 1, 3, none⟩ = some (.bool g) ∧ W.cell? ⟨w.heap.size + 1, 4, none⟩ = some (.bool false)) (first | (with_reducible (exact hkH.out _ bacc)) | (with_reducible (exact hkH.out _ bal)) | (with_reducible (exact hP1.out _ _ _ _ _ _ bacc)) | (with_reducible (exact hkH.out _ (bacc.alloc bacc.size _))) | exact hkH.out _ bacc) (first
    | ((go_at_call 24; refine (i_kidLevel 12 o t u A n c k _ (by omega)).mono ?_; rintro e x4 ⟨rfl, hb⟩; rw [hkl.out]; first
      | (have bacc := Below.trans bacc (hb.mono bacc.size); clear hb)
      | (have T4 := Lib.hid ((show Has (xw.alloc (.cells #[.int .i64 0, .bool false, .bool false, .bool false, .bool false] 28)).drew xw.heap.size _ _ from TX.out).below hb (show _ < (xw.alloc (.cells #[.int .i64 0, .bool false, .bool false, .bool false, .bool false] 28)).heap.size by omega)); have bacc := Below.trans bal (hb.mono bal.size); clear hb; have y0 := T4.out.get (i := 0) rfl; have y1 := T4.out.get (i := 1) rfl; have y2 := T4.out.get (i := 2) rfl; have y3 := T4.out.get (i := 3) rfl; have y4 := T4.out.get (i := 4) rfl; have q0 := T4.out.free 0; have q1 := T4.out.free 1; have q2 := T4.out.free 2; have q3 := T4.out.free 3; have q4 := T4.out.free 4; have ht4 := T4.out.lt))))
  · have hb4 : Below xw.heap.size xw x4 := ⟨bacc.os, bacc.tape, bacc.output, bacc.size, bacc.block⟩
    have hx4 : w.heap.size + 3 ≤ x4.heap.size := Nat.le_trans z.out hb4.size
    have T := Lib.hid (Has.made x4 28 #[.int .i64 LV, .bool false, .bool i, .bool g, .bool false])
    have K := Lib.hid ((K.out.keep hb4 (by omega)).keep ((Below.refl x4.heap.size x4).alloc (Nat.le_refl _) (.cells #[.int .i64 LV, .bool false, .bool i, .bool g, .bool false] 28)) (by omega))
    have B := Lib.hid ((B.out.trans (hb4.mono B.out.size)).alloc (Nat.le_trans B.out.size hb4.size) (.cells #[.int .i64 LV, .bool false, .bool i, .bool g, .bool false] 28))
    obtain ⟨W5, hW5⟩ : ∃ W, x4.alloc (.cells #[.int .i64 LV, .bool false, .bool i, .bool g, .bool false] 28) = W := ⟨_, rfl⟩
    rw [hW5] at T K B ⊢
    clear hW5 bacc bal hkH hP1 hb4
    have n0 := K.out.1.get (i := 0) rfl
    have n1 := K.out.1.get (i := 1) rfl
    have n2 := K.out.1.get (i := 2) rfl
    have n3 := K.out.1.get (i := 3) rfl
    have n4 := K.out.1.get (i := 4) rfl
    have p0 := K.out.2.1.get (i := 0) rfl
    have p1 := K.out.2.1.get (i := 1) rfl
    have p2 := K.out.2.1.get (i := 2) rfl
    have p3 := K.out.2.1.get (i := 3) rfl
    have p4 := K.out.2.1.get (i := 4) rfl
    have r0 := K.out.2.2.get (i := 0) rfl
    have r1 := K.out.2.2.get (i := 1) rfl
    have r2 := K.out.2.2.get (i := 2) rfl
    have r3 := K.out.2.2.get (i := 3) rfl
    have r4 := K.out.2.2.get (i := 4) rfl
    have f0 := K.out.2.2.free 0
    have f1 := K.out.2.2.free 1
    have f2 := K.out.2.2.free 2
    have f3 := K.out.2.2.free 3
    have f4 := K.out.2.2.free 4
    have t0 := T.out.get (i := 0) rfl
    have t1 := T.out.get (i := 1) rfl
    have t2 := T.out.get (i := 2) rfl
    have t3 := T.out.get (i := 3) rfl
    have t4 := T.out.get (i := 4) rfl
    have g4 := T.out.free 4
    have hlt5 := T.out.lt
    go_wp2_with fail
    exact bodyPost_ret (v := posV ⟨LV, false, i, g, false⟩) (by simp [results, Try.results14, go_sem, posV, r0, r1, r2, r3, r4, t0, t1, t2, t3, t4]) rfl (posV_eq HEQ.out (below_putF (B.out.setCell (p := ⟨x4.heap.size, 4, none⟩) (show w.heap.size ≤ x4.heap.size by omega) _) (by omega) _ _ _ _ _))
  · have hb4 : Below xw.heap.size xw x4 := ⟨bacc.os, bacc.tape, bacc.output, bacc.size, bacc.block⟩
    have hx4 : w.heap.size + 3 ≤ x4.heap.size := Nat.le_trans z.out hb4.size
    have T := Lib.hid (show Has (((((x4.setCell ⟨xw.heap.size, 0, none⟩ (.int .i64 LV)).setCell ⟨xw.heap.size, 1, none⟩ (.bool false)).setCell ⟨xw.heap.size, 2, none⟩ (.bool i)).setCell ⟨xw.heap.size, 3, none⟩ (.bool g)).setCell ⟨xw.heap.size, 4, none⟩ (.bool false)) xw.heap.size _ _ from T4.out.putF (.int .i64 LV) (.bool false) (.bool i) (.bool g) (.bool false))
    have K := Lib.hid (show KP (((((x4.setCell ⟨xw.heap.size, 0, none⟩ (.int .i64 LV)).setCell ⟨xw.heap.size, 1, none⟩ (.bool false)).setCell ⟨xw.heap.size, 2, none⟩ (.bool i)).setCell ⟨xw.heap.size, 3, none⟩ (.bool g)).setCell ⟨xw.heap.size, 4, none⟩ (.bool false)) _ _ _ _ _ _ _ _ _ _ _ from (K.out.keep hb4 (by omega)).putF (x := xw.heap.size) (by omega) (.int .i64 LV) (.bool false) (.bool i) (.bool g) (.bool false))
    have B := Lib.hid (show Below w.heap.size w (((((x4.setCell ⟨xw.heap.size, 0, none⟩ (.int .i64 LV)).setCell ⟨xw.heap.size, 1, none⟩ (.bool false)).setCell ⟨xw.heap.size, 2, none⟩ (.bool i)).setCell ⟨xw.heap.size, 3, none⟩ (.bool g)).setCell ⟨xw.heap.size, 4, none⟩ (.bool false)) from below_putF (B.out.trans (hb4.mono B.out.size)) (show w.heap.size ≤ xw.heap.size from B.out.size) _ _ _ _ _)
    obtain ⟨W5, hW5⟩ : ∃ W, (((((x4.setCell ⟨xw.heap.size, 0, none⟩ (.int .i64 LV)).setCell ⟨xw.heap.size, 1, none⟩ (.bool false)).setCell ⟨xw.heap.size, 2, none⟩ (.bool i)).setCell ⟨xw.heap.size, 3, none⟩ (.bool g)).setCell ⟨xw.heap.size, 4, none⟩ (.bool false)) = W := ⟨_, rfl⟩
    rw [hW5] at T K B ⊢
    clear hW5 bacc bal hkH hP1 hb4 y0 y1 y2 y3 y4 q0 q1 q2 q3 q4 T4
    have n0 := K.out.1.get (i := 0) rfl
    have n1 := K.out.1.get (i := 1) rfl
    have n2 := K.out.1.get (i := 2) rfl
    have n3 := K.out.1.get (i := 3) rfl
    have n4 := K.out.1.get (i := 4) rfl
    have p0 := K.out.2.1.get (i := 0) rfl
    have p1 := K.out.2.1.get (i := 1) rfl
    have p2 := K.out.2.1.get (i := 2) rfl
    have p3 := K.out.2.1.get (i := 3) rfl
    have p4 := K.out.2.1.get (i := 4) rfl
    have r0 := K.out.2.2.get (i := 0) rfl
    have r1 := K.out.2.2.get (i := 1) rfl
    have r2 := K.out.2.2.get (i := 2) rfl
    have r3 := K.out.2.2.get (i := 3) rfl
    have r4 := K.out.2.2.get (i := 4) rfl
    have f0 := K.out.2.2.free 0
    have f1 := K.out.2.2.free 1
    have f2 := K.out.2.2.free 2
    have f3 := K.out.2.2.free 3
    have f4 := K.out.2.2.free 4
    have t0 := T.out.get (i := 0) rfl
    have t1 := T.out.get (i := 1) rfl
    have t2 := T.out.get (i := 2) rfl
    have t3 := T.out.get (i := 3) rfl
    have t4 := T.out.get (i := 4) rfl
    have g4 := T.out.free 4
    have hlt5 := T.out.lt
    go_wp2_with fail
    exact bodyPost_ret (v := posV ⟨LV, false, i, g, false⟩) (by simp [results, Try.results14, go_sem, posV, r0, r1, r2, r3, r4, t0, t1, t2, t3, t4]) rfl (posV_eq HEQ.out (below_putF (B.out.setCell (p := ⟨xw.heap.size, 4, none⟩) (show w.heap.size ≤ xw.heap.size by omega) _) (by omega) _ _ _ _ _))
set_option maxRecDepth 100000 in
set_option maxHeartbeats 4000000 in
theorem i_kidPos_12_1 (o : Int) (t u : ByteArray) (A : Option Addr) (n c k : Nat) (l : Int) (d i g s : Bool) (w : World) (hn : n ≤ 8) (hkn : k < n) (hpo : posOk l d = true) (hl0 : levelOf 12 o ≠ 0) (hl15 : levelOf 12 o ≠ 15) (hk : k = 1) : Calls Try.prog 14 #[.agg #[.int .i64 12, .int .i64 o, .string t, .string u, .slice A n c], .int .i64 (k : Int), .agg #[.int .i64 l, .bool d, .bool i, .bool g, .bool s]] w (RetPosV w (kidQ 12 o n k ⟨l, d, i, g, s⟩)) := by
  obtain ⟨L, hLL⟩ : ∃ L, levelOf 12 o = L := ⟨_, rfl⟩
  rw [hLL] at hl0 hl15
  have hL := Lib.hid hLL
  have hl0b : (L == 0) = false := by simpa using hl0
  have hl15b : (L == 15) = false := by simpa using hl15
  clear hLL
  have K := Lib.hid (KP.made w 12 o t u (.slice A n c) l d i g s)
  have B := Lib.hid (kpW_below w 12 o t u (.slice A n c) l d i g s)
  have z := Lib.hid (show w.heap.size + 3 ≤ (kpW w 12 o t u (.slice A n c) l d i g s).heap.size by rw [kpW_size]; exact Nat.le_refl _)
  unfold kpW at K B z
  have n0 := K.out.1.get (i := 0) rfl
  have n1 := K.out.1.get (i := 1) rfl
  have n2 := K.out.1.get (i := 2) rfl
  have n3 := K.out.1.get (i := 3) rfl
  have n4 := K.out.1.get (i := 4) rfl
  have p0 := K.out.2.1.get (i := 0) rfl
  have p1 := K.out.2.1.get (i := 1) rfl
  have p2 := K.out.2.1.get (i := 2) rfl
  have p3 := K.out.2.1.get (i := 3) rfl
  have p4 := K.out.2.1.get (i := 4) rfl
  have r0 := K.out.2.2.get (i := 0) rfl
  have r1 := K.out.2.2.get (i := 1) rfl
  have r2 := K.out.2.2.get (i := 2) rfl
  have r3 := K.out.2.2.get (i := 3) rfl
  have r4 := K.out.2.2.get (i := 4) rfl
  have f0 := K.out.2.2.free 0
  have f1 := K.out.2.2.free 1
  have f2 := K.out.2.2.free 2
  have f3 := K.out.2.2.free 3
  have f4 := K.out.2.2.free 4
  have hin := Lib.hid (show inB (k : Int) 0 ((n : Int) - 1) = true by unfold inB; simp; omega)
  have hpo := Lib.hid hpo
  have hkz : ((k : Int) == 0) = false := by simp; omega
  have hk1 : ((k : Int) == 1) = true := by simp; omega
  obtain ⟨LV, hLV⟩ : ∃ LV, kidLevelP 12 o k = LV := ⟨_, rfl⟩
  have hkl := Lib.hid hLV
  have HEQ : kidQ 12 o n k ⟨l, d, i, g, s⟩ = ⟨LV, false, i, g, (o == 99)⟩ := by
    unfold kidQ
    rw [hLV, if_neg (by rw [hL.out]; simp [hl15])]
    rw [if_neg (by decide)]
    rw [if_neg (by omega)]
    by_cases ho : o = 99 <;> simp [ho]
  have HEQ := Lib.hid HEQ
  clear hLV
  have hkH := Lib.hid hk
  clear hk
  go_enter Try.func14, Try.ntmps14
  go_wp2_with (first
      | (go_at_call 12; refine (i_posOk l d i g s _).mono ?_; rintro e xw ⟨rfl, hb⟩; rw [hpo.out]; clear n0 n1 n2 n3 n4 p0 p1 p2 p3 p4 r0 r1 r2 r3 r4 f0 f1 f2 f3 f4; have K := Lib.hid (K.out.keep hb (by have := z.out; omega)); have B := Lib.hid (B.out.trans (hb.mono B.out.size)); have z := Lib.hid (Nat.le_trans z.out hb.size); clear hb; have n0 := K.out.1.get (i := 0) rfl; have n1 := K.out.1.get (i := 1) rfl; have n2 := K.out.1.get (i := 2) rfl; have n3 := K.out.1.get (i := 3) rfl; have n4 := K.out.1.get (i := 4) rfl; have p0 := K.out.2.1.get (i := 0) rfl; have p1 := K.out.2.1.get (i := 1) rfl; have p2 := K.out.2.1.get (i := 2) rfl; have p3 := K.out.2.1.get (i := 3) rfl; have p4 := K.out.2.1.get (i := 4) rfl; have r0 := K.out.2.2.get (i := 0) rfl; have r1 := K.out.2.2.get (i := 1) rfl; have r2 := K.out.2.2.get (i := 2) rfl; have r3 := K.out.2.2.get (i := 3) rfl; have r4 := K.out.2.2.get (i := 4) rfl; have f0 := K.out.2.2.free 0; have f1 := K.out.2.2.free 1; have f2 := K.out.2.2.free 2; have f3 := K.out.2.2.free 3; have f4 := K.out.2.2.free 4; have hz := z.out)
      | (go_at_call 21; refine (i_within _ _ _ _).mono ?_; rintro e w' ⟨rfl, rfl⟩; rw [hin.out])
      | (go_at_call 11; refine (i_levelOf 12 o t u A n c _).mono ?_; rintro e xw ⟨rfl, hb⟩; rw [hL.out]; clear n0 n1 n2 n3 n4 p0 p1 p2 p3 p4 r0 r1 r2 r3 r4 f0 f1 f2 f3 f4; have K := Lib.hid (K.out.keep hb (by have := z.out; omega)); have B := Lib.hid (B.out.trans (hb.mono B.out.size)); have z := Lib.hid (Nat.le_trans z.out hb.size); clear hb; have n0 := K.out.1.get (i := 0) rfl; have n1 := K.out.1.get (i := 1) rfl; have n2 := K.out.1.get (i := 2) rfl; have n3 := K.out.1.get (i := 3) rfl; have n4 := K.out.1.get (i := 4) rfl; have p0 := K.out.2.1.get (i := 0) rfl; have p1 := K.out.2.1.get (i := 1) rfl; have p2 := K.out.2.1.get (i := 2) rfl; have p3 := K.out.2.1.get (i := 3) rfl; have p4 := K.out.2.1.get (i := 4) rfl; have r0 := K.out.2.2.get (i := 0) rfl; have r1 := K.out.2.2.get (i := 1) rfl; have r2 := K.out.2.2.get (i := 2) rfl; have r3 := K.out.2.2.get (i := 3) rfl; have r4 := K.out.2.2.get (i := 4) rfl; have f0 := K.out.2.2.free 0; have f1 := K.out.2.2.free 1; have f2 := K.out.2.2.free 2; have f3 := K.out.2.2.free 3; have f4 := K.out.2.2.free 4; have hz := z.out))
  have hzs := z.out
  have bacc : Below xw.drew.heap.size xw.drew xw.drew := Below.refl _ _
  have bal0 := (Below.refl xw.heap.size xw).alloc (Nat.le_refl _) (.cells #[.int .i64 0, .bool false, .bool false, .bool false, .bool false] 28)
  have bal : Below xw.drew.heap.size xw.drew (xw.alloc (.cells #[.int .i64 0, .bool false, .bool false, .bool false, .bool false] 28)).drew := ⟨bal0.os, bal0.tape, bal0.output, bal0.size, bal0.block⟩
  clear bal0
  have hkH := Lib.hid (show ∀ W', Below xw.drew.heap.size xw.drew W' → W'.cell? ⟨w.heap.size, 0, none⟩ = some (.int .i64 12) ∧ W'.cell? ⟨w.heap.size, 1, none⟩ = some (.int .i64 o) ∧ W'.cell? ⟨w.heap.size, 2, none⟩ = some (.string t) ∧ W'.cell? ⟨w.heap.size, 3, none⟩ = some (.string u) ∧ W'.cell? ⟨w.heap.size, 4, none⟩ = some (.slice A n c) ∧ W'.cell? ⟨w.heap.size + 1, 0, none⟩ = some (.int .i64 l) ∧ W'.cell? ⟨w.heap.size + 1, 1, none⟩ = some (.bool d) ∧ W'.cell? ⟨w.heap.size + 1, 2, none⟩ = some (.bool i) ∧ W'.cell? ⟨w.heap.size + 1, 3, none⟩ = some (.bool g) ∧ W'.cell? ⟨w.heap.size + 1, 4, none⟩ = some (.bool s) from fun W' hb => by
    have h := (show KP xw.drew _ _ _ _ _ _ _ _ _ _ _ from K.out).keep hb (show _ < xw.heap.size by omega)
    exact ⟨h.1.get (i := 0) rfl, h.1.get (i := 1) rfl, h.1.get (i := 2) rfl, h.1.get (i := 3) rfl, h.1.get (i := 4) rfl, h.2.1.get (i := 0) rfl, h.2.1.get (i := 1) rfl, h.2.1.get (i := 2) rfl, h.2.1.get (i := 3) rfl, h.2.1.get (i := 4) rfl⟩)
  have hP1 := Lib.hid (show ∀ W' (x0 x1 x2 x3 x4 : Value), Below xw.drew.heap.size xw.drew W' → (((((W'.setCell ⟨xw.heap.size, 0, none⟩ x0).setCell ⟨xw.heap.size, 1, none⟩ x1).setCell ⟨xw.heap.size, 2, none⟩ x2).setCell ⟨xw.heap.size, 3, none⟩ x3).setCell ⟨xw.heap.size, 4, none⟩ x4).cell? ⟨w.heap.size, 0, none⟩ = some (.int .i64 12) ∧ (((((W'.setCell ⟨xw.heap.size, 0, none⟩ x0).setCell ⟨xw.heap.size, 1, none⟩ x1).setCell ⟨xw.heap.size, 2, none⟩ x2).setCell ⟨xw.heap.size, 3, none⟩ x3).setCell ⟨xw.heap.size, 4, none⟩ x4).cell? ⟨w.heap.size, 1, none⟩ = some (.int .i64 o) ∧ (((((W'.setCell ⟨xw.heap.size, 0, none⟩ x0).setCell ⟨xw.heap.size, 1, none⟩ x1).setCell ⟨xw.heap.size, 2, none⟩ x2).setCell ⟨xw.heap.size, 3, none⟩ x3).setCell ⟨xw.heap.size, 4, none⟩ x4).cell? ⟨w.heap.size, 2, none⟩ = some (.string t) ∧ (((((W'.setCell ⟨xw.heap.size, 0, none⟩ x0).setCell ⟨xw.heap.size, 1, none⟩ x1).setCell ⟨xw.heap.size, 2, none⟩ x2).setCell ⟨xw.heap.size, 3, none⟩ x3).setCell ⟨xw.heap.size, 4, none⟩ x4).cell? ⟨w.heap.size, 3, none⟩ = some (.string u) ∧ (((((W'.setCell ⟨xw.heap.size, 0, none⟩ x0).setCell ⟨xw.heap.size, 1, none⟩ x1).setCell ⟨xw.heap.size, 2, none⟩ x2).setCell ⟨xw.heap.size, 3, none⟩ x3).setCell ⟨xw.heap.size, 4, none⟩ x4).cell? ⟨w.heap.size, 4, none⟩ = some (.slice A n c) ∧ (((((W'.setCell ⟨xw.heap.size, 0, none⟩ x0).setCell ⟨xw.heap.size, 1, none⟩ x1).setCell ⟨xw.heap.size, 2, none⟩ x2).setCell ⟨xw.heap.size, 3, none⟩ x3).setCell ⟨xw.heap.size, 4, none⟩ x4).cell? ⟨w.heap.size + 1, 0, none⟩ = some (.int .i64 l) ∧ (((((W'.setCell ⟨xw.heap.size, 0, none⟩ x0).setCell ⟨xw.heap.size, 1, none⟩ x1).setCell ⟨xw.heap.size, 2, none⟩ x2).setCell ⟨xw.heap.size, 3, none⟩ x3).setCell ⟨xw.heap.size, 4, none⟩ x4).cell? ⟨w.heap.size + 1, 1, none⟩ = some (.bool d) ∧ (((((W'.setCell ⟨xw.heap.size, 0, none⟩ x0).setCell ⟨xw.heap.size, 1, none⟩ x1).setCell ⟨xw.heap.size, 2, none⟩ x2).setCell ⟨xw.heap.size, 3, none⟩ x3).setCell ⟨xw.heap.size, 4, none⟩ x4).cell? ⟨w.heap.size + 1, 2, none⟩ = some (.bool i) ∧ (((((W'.setCell ⟨xw.heap.size, 0, none⟩ x0).setCell ⟨xw.heap.size, 1, none⟩ x1).setCell ⟨xw.heap.size, 2, none⟩ x2).setCell ⟨xw.heap.size, 3, none⟩ x3).setCell ⟨xw.heap.size, 4, none⟩ x4).cell? ⟨w.heap.size + 1, 3, none⟩ = some (.bool g) ∧ (((((W'.setCell ⟨xw.heap.size, 0, none⟩ x0).setCell ⟨xw.heap.size, 1, none⟩ x1).setCell ⟨xw.heap.size, 2, none⟩ x2).setCell ⟨xw.heap.size, 3, none⟩ x3).setCell ⟨xw.heap.size, 4, none⟩ x4).cell? ⟨w.heap.size + 1, 4, none⟩ = some (.bool s) from fun W' x0 x1 x2 x3 x4 hb => by
    have h := ((show KP xw.drew _ _ _ _ _ _ _ _ _ _ _ from K.out).keep hb (show _ < xw.heap.size by omega)).putF (x := xw.heap.size) (by omega) x0 x1 x2 x3 x4
    exact ⟨h.1.get (i := 0) rfl, h.1.get (i := 1) rfl, h.1.get (i := 2) rfl, h.1.get (i := 3) rfl, h.1.get (i := 4) rfl, h.2.1.get (i := 0) rfl, h.2.1.get (i := 1) rfl, h.2.1.get (i := 2) rfl, h.2.1.get (i := 3) rfl, h.2.1.get (i := 4) rfl⟩)
  have TX := Lib.hid (Has.made xw 28 #[.int .i64 0, .bool false, .bool false, .bool false, .bool false])
  have hXs : (xw.alloc (.cells #[.int .i64 0, .bool false, .bool false, .bool false, .bool false] 28)).heap.size = xw.heap.size + 1 := by simp
  clear n0 n1 n2 n3 n4 p0 p1 p2 p3 p4 r0 r1 r2 r3 r4 f0 f1 f2 f3 f4 hz
  go_region_held3 (fun W => W.cell? ⟨w.heap.size, 0, none⟩ = some (.int .i64 12) ∧ W.cell? ⟨w.heap.size, 1, none⟩ = some (.int .i64 o) ∧ W.cell? ⟨w.heap.size, 2, none⟩ = some (.string t) ∧ W.cell? ⟨w.heap.size, 3, none⟩ = some (.string u) ∧ W.cell? ⟨w.heap.size, 4, none⟩ = some (.slice A n c) ∧ W.cell? ⟨w.heap.size + 1, 0, none⟩ = some (.int .i64 l) ∧ W.cell? ⟨w.heap.size + 1, 1, none⟩ = some (.bool d) ∧ W.cell? ⟨w.heap.size + 1, 2, none⟩ = some (.bool i) ∧ W.cell? ⟨w.heap.size + 1, 3, none⟩ = some (.bool g) ∧ W.cell? ⟨w.heap.size + 1, 4, none⟩ = some (.bool s)) (first | (with_reducible (exact hkH.out _ bacc)) | (with_reducible (exact hkH.out _ bal)) | (with_reducible (exact hP1.out _ _ _ _ _ _ bacc)) | (with_reducible (exact hkH.out _ (bacc.alloc bacc.size _))) | exact hkH.out _ bacc) (first
    | ((go_at_call 24; refine (i_kidLevel 12 o t u A n c k _ (by omega)).mono ?_; rintro e x4 ⟨rfl, hb⟩; rw [hkl.out]; first
      | (have bacc := Below.trans bacc (hb.mono bacc.size); clear hb)
      | (have T4 := Lib.hid ((show Has (xw.alloc (.cells #[.int .i64 0, .bool false, .bool false, .bool false, .bool false] 28)).drew xw.heap.size _ _ from TX.out).below hb (show _ < (xw.alloc (.cells #[.int .i64 0, .bool false, .bool false, .bool false, .bool false] 28)).heap.size by omega)); have bacc := Below.trans bal (hb.mono bal.size); clear hb; have y0 := T4.out.get (i := 0) rfl; have y1 := T4.out.get (i := 1) rfl; have y2 := T4.out.get (i := 2) rfl; have y3 := T4.out.get (i := 3) rfl; have y4 := T4.out.get (i := 4) rfl; have q0 := T4.out.free 0; have q1 := T4.out.free 1; have q2 := T4.out.free 2; have q3 := T4.out.free 3; have q4 := T4.out.free 4; have ht4 := T4.out.lt))))
  · have hb4 : Below xw.heap.size xw x4 := ⟨bacc.os, bacc.tape, bacc.output, bacc.size, bacc.block⟩
    have hx4 : w.heap.size + 3 ≤ x4.heap.size := Nat.le_trans z.out hb4.size
    have T := Lib.hid (Has.made x4 28 #[.int .i64 LV, .bool false, .bool i, .bool g, .bool false])
    have K := Lib.hid ((K.out.keep hb4 (by omega)).keep ((Below.refl x4.heap.size x4).alloc (Nat.le_refl _) (.cells #[.int .i64 LV, .bool false, .bool i, .bool g, .bool false] 28)) (by omega))
    have B := Lib.hid ((B.out.trans (hb4.mono B.out.size)).alloc (Nat.le_trans B.out.size hb4.size) (.cells #[.int .i64 LV, .bool false, .bool i, .bool g, .bool false] 28))
    obtain ⟨W5, hW5⟩ : ∃ W, x4.alloc (.cells #[.int .i64 LV, .bool false, .bool i, .bool g, .bool false] 28) = W := ⟨_, rfl⟩
    rw [hW5] at T K B ⊢
    clear hW5 bacc bal hkH hP1 hb4
    have n0 := K.out.1.get (i := 0) rfl
    have n1 := K.out.1.get (i := 1) rfl
    have n2 := K.out.1.get (i := 2) rfl
    have n3 := K.out.1.get (i := 3) rfl
    have n4 := K.out.1.get (i := 4) rfl
    have p0 := K.out.2.1.get (i := 0) rfl
    have p1 := K.out.2.1.get (i := 1) rfl
    have p2 := K.out.2.1.get (i := 2) rfl
    have p3 := K.out.2.1.get (i := 3) rfl
    have p4 := K.out.2.1.get (i := 4) rfl
    have r0 := K.out.2.2.get (i := 0) rfl
    have r1 := K.out.2.2.get (i := 1) rfl
    have r2 := K.out.2.2.get (i := 2) rfl
    have r3 := K.out.2.2.get (i := 3) rfl
    have r4 := K.out.2.2.get (i := 4) rfl
    have f0 := K.out.2.2.free 0
    have f1 := K.out.2.2.free 1
    have f2 := K.out.2.2.free 2
    have f3 := K.out.2.2.free 3
    have f4 := K.out.2.2.free 4
    have t0 := T.out.get (i := 0) rfl
    have t1 := T.out.get (i := 1) rfl
    have t2 := T.out.get (i := 2) rfl
    have t3 := T.out.get (i := 3) rfl
    have t4 := T.out.get (i := 4) rfl
    have g4 := T.out.free 4
    have hlt5 := T.out.lt
    go_wp2_with fail
    exact bodyPost_ret (v := posV ⟨LV, false, i, g, (o == 99)⟩) (by simp [results, Try.results14, go_sem, posV, r0, r1, r2, r3, r4, t0, t1, t2, t3, t4]) rfl (posV_eq HEQ.out (below_putF (B.out.setCell (p := ⟨x4.heap.size, 4, none⟩) (show w.heap.size ≤ x4.heap.size by omega) _) (by omega) _ _ _ _ _))
  · have hb4 : Below xw.heap.size xw x4 := ⟨bacc.os, bacc.tape, bacc.output, bacc.size, bacc.block⟩
    have hx4 : w.heap.size + 3 ≤ x4.heap.size := Nat.le_trans z.out hb4.size
    have T := Lib.hid (show Has (((((x4.setCell ⟨xw.heap.size, 0, none⟩ (.int .i64 LV)).setCell ⟨xw.heap.size, 1, none⟩ (.bool false)).setCell ⟨xw.heap.size, 2, none⟩ (.bool i)).setCell ⟨xw.heap.size, 3, none⟩ (.bool g)).setCell ⟨xw.heap.size, 4, none⟩ (.bool false)) xw.heap.size _ _ from T4.out.putF (.int .i64 LV) (.bool false) (.bool i) (.bool g) (.bool false))
    have K := Lib.hid (show KP (((((x4.setCell ⟨xw.heap.size, 0, none⟩ (.int .i64 LV)).setCell ⟨xw.heap.size, 1, none⟩ (.bool false)).setCell ⟨xw.heap.size, 2, none⟩ (.bool i)).setCell ⟨xw.heap.size, 3, none⟩ (.bool g)).setCell ⟨xw.heap.size, 4, none⟩ (.bool false)) _ _ _ _ _ _ _ _ _ _ _ from (K.out.keep hb4 (by omega)).putF (x := xw.heap.size) (by omega) (.int .i64 LV) (.bool false) (.bool i) (.bool g) (.bool false))
    have B := Lib.hid (show Below w.heap.size w (((((x4.setCell ⟨xw.heap.size, 0, none⟩ (.int .i64 LV)).setCell ⟨xw.heap.size, 1, none⟩ (.bool false)).setCell ⟨xw.heap.size, 2, none⟩ (.bool i)).setCell ⟨xw.heap.size, 3, none⟩ (.bool g)).setCell ⟨xw.heap.size, 4, none⟩ (.bool false)) from below_putF (B.out.trans (hb4.mono B.out.size)) (show w.heap.size ≤ xw.heap.size from B.out.size) _ _ _ _ _)
    obtain ⟨W5, hW5⟩ : ∃ W, (((((x4.setCell ⟨xw.heap.size, 0, none⟩ (.int .i64 LV)).setCell ⟨xw.heap.size, 1, none⟩ (.bool false)).setCell ⟨xw.heap.size, 2, none⟩ (.bool i)).setCell ⟨xw.heap.size, 3, none⟩ (.bool g)).setCell ⟨xw.heap.size, 4, none⟩ (.bool false)) = W := ⟨_, rfl⟩
    rw [hW5] at T K B ⊢
    clear hW5 bacc bal hkH hP1 hb4 y0 y1 y2 y3 y4 q0 q1 q2 q3 q4 T4
    have n0 := K.out.1.get (i := 0) rfl
    have n1 := K.out.1.get (i := 1) rfl
    have n2 := K.out.1.get (i := 2) rfl
    have n3 := K.out.1.get (i := 3) rfl
    have n4 := K.out.1.get (i := 4) rfl
    have p0 := K.out.2.1.get (i := 0) rfl
    have p1 := K.out.2.1.get (i := 1) rfl
    have p2 := K.out.2.1.get (i := 2) rfl
    have p3 := K.out.2.1.get (i := 3) rfl
    have p4 := K.out.2.1.get (i := 4) rfl
    have r0 := K.out.2.2.get (i := 0) rfl
    have r1 := K.out.2.2.get (i := 1) rfl
    have r2 := K.out.2.2.get (i := 2) rfl
    have r3 := K.out.2.2.get (i := 3) rfl
    have r4 := K.out.2.2.get (i := 4) rfl
    have f0 := K.out.2.2.free 0
    have f1 := K.out.2.2.free 1
    have f2 := K.out.2.2.free 2
    have f3 := K.out.2.2.free 3
    have f4 := K.out.2.2.free 4
    have t0 := T.out.get (i := 0) rfl
    have t1 := T.out.get (i := 1) rfl
    have t2 := T.out.get (i := 2) rfl
    have t3 := T.out.get (i := 3) rfl
    have t4 := T.out.get (i := 4) rfl
    have g4 := T.out.free 4
    have hlt5 := T.out.lt
    go_wp2_with fail
    exact bodyPost_ret (v := posV ⟨LV, false, i, g, (o == 99)⟩) (by simp [results, Try.results14, go_sem, posV, r0, r1, r2, r3, r4, t0, t1, t2, t3, t4]) rfl (posV_eq HEQ.out (below_putF (B.out.setCell (p := ⟨xw.heap.size, 4, none⟩) (show w.heap.size ≤ xw.heap.size by omega) _) (by omega) _ _ _ _ _))
set_option maxRecDepth 100000 in
set_option maxHeartbeats 4000000 in
theorem i_kidPos_11 (o : Int) (t u : ByteArray) (A : Option Addr) (n c k : Nat) (l : Int) (d i g s : Bool) (w : World) (hn : n ≤ 8) (hkn : k < n) (hpo : posOk l d = true)  : Calls Try.prog 14 #[.agg #[.int .i64 11, .int .i64 o, .string t, .string u, .slice A n c], .int .i64 (k : Int), .agg #[.int .i64 l, .bool d, .bool i, .bool g, .bool s]] w (RetPosV w (kidQ 11 o n k ⟨l, d, i, g, s⟩)) := by
  have hL := Lib.hid (show levelOf 11 o = 11 from rfl)
  have K := Lib.hid (KP.made w 11 o t u (.slice A n c) l d i g s)
  have B := Lib.hid (kpW_below w 11 o t u (.slice A n c) l d i g s)
  have z := Lib.hid (show w.heap.size + 3 ≤ (kpW w 11 o t u (.slice A n c) l d i g s).heap.size by rw [kpW_size]; exact Nat.le_refl _)
  unfold kpW at K B z
  have n0 := K.out.1.get (i := 0) rfl
  have n1 := K.out.1.get (i := 1) rfl
  have n2 := K.out.1.get (i := 2) rfl
  have n3 := K.out.1.get (i := 3) rfl
  have n4 := K.out.1.get (i := 4) rfl
  have p0 := K.out.2.1.get (i := 0) rfl
  have p1 := K.out.2.1.get (i := 1) rfl
  have p2 := K.out.2.1.get (i := 2) rfl
  have p3 := K.out.2.1.get (i := 3) rfl
  have p4 := K.out.2.1.get (i := 4) rfl
  have r0 := K.out.2.2.get (i := 0) rfl
  have r1 := K.out.2.2.get (i := 1) rfl
  have r2 := K.out.2.2.get (i := 2) rfl
  have r3 := K.out.2.2.get (i := 3) rfl
  have r4 := K.out.2.2.get (i := 4) rfl
  have f0 := K.out.2.2.free 0
  have f1 := K.out.2.2.free 1
  have f2 := K.out.2.2.free 2
  have f3 := K.out.2.2.free 3
  have f4 := K.out.2.2.free 4
  have hin := Lib.hid (show inB (k : Int) 0 ((n : Int) - 1) = true by unfold inB; simp; omega)
  have hpo := Lib.hid hpo
  obtain ⟨LV, hLV⟩ : ∃ LV, kidLevelP 11 o k = LV := ⟨_, rfl⟩
  have hkl := Lib.hid hLV
  have HEQ : kidQ 11 o n k ⟨l, d, i, g, s⟩ = ⟨LV, false, i, g, false⟩ := by
    unfold kidQ
    rw [hLV, if_neg (by rw [hL.out]; omega)]
    rw [if_pos (by decide)]
    skip
    rfl
  have HEQ := Lib.hid HEQ
  clear hLV
  go_enter Try.func14, Try.ntmps14
  go_wp2_with (first
      | (go_at_call 12; refine (i_posOk l d i g s _).mono ?_; rintro e xw ⟨rfl, hb⟩; rw [hpo.out]; clear n0 n1 n2 n3 n4 p0 p1 p2 p3 p4 r0 r1 r2 r3 r4 f0 f1 f2 f3 f4; have K := Lib.hid (K.out.keep hb (by have := z.out; omega)); have B := Lib.hid (B.out.trans (hb.mono B.out.size)); have z := Lib.hid (Nat.le_trans z.out hb.size); clear hb; have n0 := K.out.1.get (i := 0) rfl; have n1 := K.out.1.get (i := 1) rfl; have n2 := K.out.1.get (i := 2) rfl; have n3 := K.out.1.get (i := 3) rfl; have n4 := K.out.1.get (i := 4) rfl; have p0 := K.out.2.1.get (i := 0) rfl; have p1 := K.out.2.1.get (i := 1) rfl; have p2 := K.out.2.1.get (i := 2) rfl; have p3 := K.out.2.1.get (i := 3) rfl; have p4 := K.out.2.1.get (i := 4) rfl; have r0 := K.out.2.2.get (i := 0) rfl; have r1 := K.out.2.2.get (i := 1) rfl; have r2 := K.out.2.2.get (i := 2) rfl; have r3 := K.out.2.2.get (i := 3) rfl; have r4 := K.out.2.2.get (i := 4) rfl; have f0 := K.out.2.2.free 0; have f1 := K.out.2.2.free 1; have f2 := K.out.2.2.free 2; have f3 := K.out.2.2.free 3; have f4 := K.out.2.2.free 4; have hz := z.out)
      | (go_at_call 21; refine (i_within _ _ _ _).mono ?_; rintro e w' ⟨rfl, rfl⟩; rw [hin.out])
      | (go_at_call 11; refine (i_levelOf 11 o t u A n c _).mono ?_; rintro e xw ⟨rfl, hb⟩; rw [hL.out]; clear n0 n1 n2 n3 n4 p0 p1 p2 p3 p4 r0 r1 r2 r3 r4 f0 f1 f2 f3 f4; have K := Lib.hid (K.out.keep hb (by have := z.out; omega)); have B := Lib.hid (B.out.trans (hb.mono B.out.size)); have z := Lib.hid (Nat.le_trans z.out hb.size); clear hb; have n0 := K.out.1.get (i := 0) rfl; have n1 := K.out.1.get (i := 1) rfl; have n2 := K.out.1.get (i := 2) rfl; have n3 := K.out.1.get (i := 3) rfl; have n4 := K.out.1.get (i := 4) rfl; have p0 := K.out.2.1.get (i := 0) rfl; have p1 := K.out.2.1.get (i := 1) rfl; have p2 := K.out.2.1.get (i := 2) rfl; have p3 := K.out.2.1.get (i := 3) rfl; have p4 := K.out.2.1.get (i := 4) rfl; have r0 := K.out.2.2.get (i := 0) rfl; have r1 := K.out.2.2.get (i := 1) rfl; have r2 := K.out.2.2.get (i := 2) rfl; have r3 := K.out.2.2.get (i := 3) rfl; have r4 := K.out.2.2.get (i := 4) rfl; have f0 := K.out.2.2.free 0; have f1 := K.out.2.2.free 1; have f2 := K.out.2.2.free 2; have f3 := K.out.2.2.free 3; have f4 := K.out.2.2.free 4; have hz := z.out))
  have hzs := z.out
  have bacc : Below xw.drew.heap.size xw.drew xw.drew := Below.refl _ _
  have bal0 := (Below.refl xw.heap.size xw).alloc (Nat.le_refl _) (.cells #[.int .i64 0, .bool false, .bool false, .bool false, .bool false] 28)
  have bal : Below xw.drew.heap.size xw.drew (xw.alloc (.cells #[.int .i64 0, .bool false, .bool false, .bool false, .bool false] 28)).drew := ⟨bal0.os, bal0.tape, bal0.output, bal0.size, bal0.block⟩
  clear bal0
  have hkH := Lib.hid (show ∀ W', Below xw.drew.heap.size xw.drew W' → W'.cell? ⟨w.heap.size, 0, none⟩ = some (.int .i64 11) ∧ W'.cell? ⟨w.heap.size, 1, none⟩ = some (.int .i64 o) ∧ W'.cell? ⟨w.heap.size, 2, none⟩ = some (.string t) ∧ W'.cell? ⟨w.heap.size, 3, none⟩ = some (.string u) ∧ W'.cell? ⟨w.heap.size, 4, none⟩ = some (.slice A n c) ∧ W'.cell? ⟨w.heap.size + 1, 0, none⟩ = some (.int .i64 l) ∧ W'.cell? ⟨w.heap.size + 1, 1, none⟩ = some (.bool d) ∧ W'.cell? ⟨w.heap.size + 1, 2, none⟩ = some (.bool i) ∧ W'.cell? ⟨w.heap.size + 1, 3, none⟩ = some (.bool g) ∧ W'.cell? ⟨w.heap.size + 1, 4, none⟩ = some (.bool s) from fun W' hb => by
    have h := (show KP xw.drew _ _ _ _ _ _ _ _ _ _ _ from K.out).keep hb (show _ < xw.heap.size by omega)
    exact ⟨h.1.get (i := 0) rfl, h.1.get (i := 1) rfl, h.1.get (i := 2) rfl, h.1.get (i := 3) rfl, h.1.get (i := 4) rfl, h.2.1.get (i := 0) rfl, h.2.1.get (i := 1) rfl, h.2.1.get (i := 2) rfl, h.2.1.get (i := 3) rfl, h.2.1.get (i := 4) rfl⟩)
  have hP1 := Lib.hid (show ∀ W' (x0 x1 x2 x3 x4 : Value), Below xw.drew.heap.size xw.drew W' → (((((W'.setCell ⟨xw.heap.size, 0, none⟩ x0).setCell ⟨xw.heap.size, 1, none⟩ x1).setCell ⟨xw.heap.size, 2, none⟩ x2).setCell ⟨xw.heap.size, 3, none⟩ x3).setCell ⟨xw.heap.size, 4, none⟩ x4).cell? ⟨w.heap.size, 0, none⟩ = some (.int .i64 11) ∧ (((((W'.setCell ⟨xw.heap.size, 0, none⟩ x0).setCell ⟨xw.heap.size, 1, none⟩ x1).setCell ⟨xw.heap.size, 2, none⟩ x2).setCell ⟨xw.heap.size, 3, none⟩ x3).setCell ⟨xw.heap.size, 4, none⟩ x4).cell? ⟨w.heap.size, 1, none⟩ = some (.int .i64 o) ∧ (((((W'.setCell ⟨xw.heap.size, 0, none⟩ x0).setCell ⟨xw.heap.size, 1, none⟩ x1).setCell ⟨xw.heap.size, 2, none⟩ x2).setCell ⟨xw.heap.size, 3, none⟩ x3).setCell ⟨xw.heap.size, 4, none⟩ x4).cell? ⟨w.heap.size, 2, none⟩ = some (.string t) ∧ (((((W'.setCell ⟨xw.heap.size, 0, none⟩ x0).setCell ⟨xw.heap.size, 1, none⟩ x1).setCell ⟨xw.heap.size, 2, none⟩ x2).setCell ⟨xw.heap.size, 3, none⟩ x3).setCell ⟨xw.heap.size, 4, none⟩ x4).cell? ⟨w.heap.size, 3, none⟩ = some (.string u) ∧ (((((W'.setCell ⟨xw.heap.size, 0, none⟩ x0).setCell ⟨xw.heap.size, 1, none⟩ x1).setCell ⟨xw.heap.size, 2, none⟩ x2).setCell ⟨xw.heap.size, 3, none⟩ x3).setCell ⟨xw.heap.size, 4, none⟩ x4).cell? ⟨w.heap.size, 4, none⟩ = some (.slice A n c) ∧ (((((W'.setCell ⟨xw.heap.size, 0, none⟩ x0).setCell ⟨xw.heap.size, 1, none⟩ x1).setCell ⟨xw.heap.size, 2, none⟩ x2).setCell ⟨xw.heap.size, 3, none⟩ x3).setCell ⟨xw.heap.size, 4, none⟩ x4).cell? ⟨w.heap.size + 1, 0, none⟩ = some (.int .i64 l) ∧ (((((W'.setCell ⟨xw.heap.size, 0, none⟩ x0).setCell ⟨xw.heap.size, 1, none⟩ x1).setCell ⟨xw.heap.size, 2, none⟩ x2).setCell ⟨xw.heap.size, 3, none⟩ x3).setCell ⟨xw.heap.size, 4, none⟩ x4).cell? ⟨w.heap.size + 1, 1, none⟩ = some (.bool d) ∧ (((((W'.setCell ⟨xw.heap.size, 0, none⟩ x0).setCell ⟨xw.heap.size, 1, none⟩ x1).setCell ⟨xw.heap.size, 2, none⟩ x2).setCell ⟨xw.heap.size, 3, none⟩ x3).setCell ⟨xw.heap.size, 4, none⟩ x4).cell? ⟨w.heap.size + 1, 2, none⟩ = some (.bool i) ∧ (((((W'.setCell ⟨xw.heap.size, 0, none⟩ x0).setCell ⟨xw.heap.size, 1, none⟩ x1).setCell ⟨xw.heap.size, 2, none⟩ x2).setCell ⟨xw.heap.size, 3, none⟩ x3).setCell ⟨xw.heap.size, 4, none⟩ x4).cell? ⟨w.heap.size + 1, 3, none⟩ = some (.bool g) ∧ (((((W'.setCell ⟨xw.heap.size, 0, none⟩ x0).setCell ⟨xw.heap.size, 1, none⟩ x1).setCell ⟨xw.heap.size, 2, none⟩ x2).setCell ⟨xw.heap.size, 3, none⟩ x3).setCell ⟨xw.heap.size, 4, none⟩ x4).cell? ⟨w.heap.size + 1, 4, none⟩ = some (.bool s) from fun W' x0 x1 x2 x3 x4 hb => by
    have h := ((show KP xw.drew _ _ _ _ _ _ _ _ _ _ _ from K.out).keep hb (show _ < xw.heap.size by omega)).putF (x := xw.heap.size) (by omega) x0 x1 x2 x3 x4
    exact ⟨h.1.get (i := 0) rfl, h.1.get (i := 1) rfl, h.1.get (i := 2) rfl, h.1.get (i := 3) rfl, h.1.get (i := 4) rfl, h.2.1.get (i := 0) rfl, h.2.1.get (i := 1) rfl, h.2.1.get (i := 2) rfl, h.2.1.get (i := 3) rfl, h.2.1.get (i := 4) rfl⟩)
  have TX := Lib.hid (Has.made xw 28 #[.int .i64 0, .bool false, .bool false, .bool false, .bool false])
  have hXs : (xw.alloc (.cells #[.int .i64 0, .bool false, .bool false, .bool false, .bool false] 28)).heap.size = xw.heap.size + 1 := by simp
  clear n0 n1 n2 n3 n4 p0 p1 p2 p3 p4 r0 r1 r2 r3 r4 f0 f1 f2 f3 f4 hz
  go_region_held3 (fun W => W.cell? ⟨w.heap.size, 0, none⟩ = some (.int .i64 11) ∧ W.cell? ⟨w.heap.size, 1, none⟩ = some (.int .i64 o) ∧ W.cell? ⟨w.heap.size, 2, none⟩ = some (.string t) ∧ W.cell? ⟨w.heap.size, 3, none⟩ = some (.string u) ∧ W.cell? ⟨w.heap.size, 4, none⟩ = some (.slice A n c) ∧ W.cell? ⟨w.heap.size + 1, 0, none⟩ = some (.int .i64 l) ∧ W.cell? ⟨w.heap.size + 1, 1, none⟩ = some (.bool d) ∧ W.cell? ⟨w.heap.size + 1, 2, none⟩ = some (.bool i) ∧ W.cell? ⟨w.heap.size + 1, 3, none⟩ = some (.bool g) ∧ W.cell? ⟨w.heap.size + 1, 4, none⟩ = some (.bool s)) (first | (with_reducible (exact hkH.out _ bacc)) | (with_reducible (exact hkH.out _ bal)) | (with_reducible (exact hP1.out _ _ _ _ _ _ bacc)) | (with_reducible (exact hkH.out _ (bacc.alloc bacc.size _))) | exact hkH.out _ bacc) (first
    | ((go_at_call 24; refine (i_kidLevel 11 o t u A n c k _ (by omega)).mono ?_; rintro e x4 ⟨rfl, hb⟩; rw [hkl.out]; first
      | (have bacc := Below.trans bacc (hb.mono bacc.size); clear hb)
      | (have T4 := Lib.hid ((show Has (xw.alloc (.cells #[.int .i64 0, .bool false, .bool false, .bool false, .bool false] 28)).drew xw.heap.size _ _ from TX.out).below hb (show _ < (xw.alloc (.cells #[.int .i64 0, .bool false, .bool false, .bool false, .bool false] 28)).heap.size by omega)); have bacc := Below.trans bal (hb.mono bal.size); clear hb; have y0 := T4.out.get (i := 0) rfl; have y1 := T4.out.get (i := 1) rfl; have y2 := T4.out.get (i := 2) rfl; have y3 := T4.out.get (i := 3) rfl; have y4 := T4.out.get (i := 4) rfl; have q0 := T4.out.free 0; have q1 := T4.out.free 1; have q2 := T4.out.free 2; have q3 := T4.out.free 3; have q4 := T4.out.free 4; have ht4 := T4.out.lt))))
  · have hb4 : Below xw.heap.size xw x4 := ⟨bacc.os, bacc.tape, bacc.output, bacc.size, bacc.block⟩
    have hx4 : w.heap.size + 3 ≤ x4.heap.size := Nat.le_trans z.out hb4.size
    have T := Lib.hid (Has.made x4 28 #[.int .i64 LV, .bool false, .bool i, .bool g, .bool false])
    have K := Lib.hid ((K.out.keep hb4 (by omega)).keep ((Below.refl x4.heap.size x4).alloc (Nat.le_refl _) (.cells #[.int .i64 LV, .bool false, .bool i, .bool g, .bool false] 28)) (by omega))
    have B := Lib.hid ((B.out.trans (hb4.mono B.out.size)).alloc (Nat.le_trans B.out.size hb4.size) (.cells #[.int .i64 LV, .bool false, .bool i, .bool g, .bool false] 28))
    obtain ⟨W5, hW5⟩ : ∃ W, x4.alloc (.cells #[.int .i64 LV, .bool false, .bool i, .bool g, .bool false] 28) = W := ⟨_, rfl⟩
    rw [hW5] at T K B ⊢
    clear hW5 bacc bal hkH hP1 hb4
    have n0 := K.out.1.get (i := 0) rfl
    have n1 := K.out.1.get (i := 1) rfl
    have n2 := K.out.1.get (i := 2) rfl
    have n3 := K.out.1.get (i := 3) rfl
    have n4 := K.out.1.get (i := 4) rfl
    have p0 := K.out.2.1.get (i := 0) rfl
    have p1 := K.out.2.1.get (i := 1) rfl
    have p2 := K.out.2.1.get (i := 2) rfl
    have p3 := K.out.2.1.get (i := 3) rfl
    have p4 := K.out.2.1.get (i := 4) rfl
    have r0 := K.out.2.2.get (i := 0) rfl
    have r1 := K.out.2.2.get (i := 1) rfl
    have r2 := K.out.2.2.get (i := 2) rfl
    have r3 := K.out.2.2.get (i := 3) rfl
    have r4 := K.out.2.2.get (i := 4) rfl
    have f0 := K.out.2.2.free 0
    have f1 := K.out.2.2.free 1
    have f2 := K.out.2.2.free 2
    have f3 := K.out.2.2.free 3
    have f4 := K.out.2.2.free 4
    have t0 := T.out.get (i := 0) rfl
    have t1 := T.out.get (i := 1) rfl
    have t2 := T.out.get (i := 2) rfl
    have t3 := T.out.get (i := 3) rfl
    have t4 := T.out.get (i := 4) rfl
    have g4 := T.out.free 4
    have hlt5 := T.out.lt
    go_wp2_with fail
    exact bodyPost_ret (v := posV ⟨LV, false, i, g, false⟩) (by simp [results, Try.results14, go_sem, posV, r0, r1, r2, r3, r4, t0, t1, t2, t3, t4]) rfl (posV_eq HEQ.out (below_putF B.out (by omega) _ _ _ _ _))
  · have hb4 : Below xw.heap.size xw x4 := ⟨bacc.os, bacc.tape, bacc.output, bacc.size, bacc.block⟩
    have hx4 : w.heap.size + 3 ≤ x4.heap.size := Nat.le_trans z.out hb4.size
    have T := Lib.hid (show Has (((((x4.setCell ⟨xw.heap.size, 0, none⟩ (.int .i64 LV)).setCell ⟨xw.heap.size, 1, none⟩ (.bool false)).setCell ⟨xw.heap.size, 2, none⟩ (.bool i)).setCell ⟨xw.heap.size, 3, none⟩ (.bool g)).setCell ⟨xw.heap.size, 4, none⟩ (.bool false)) xw.heap.size _ _ from T4.out.putF (.int .i64 LV) (.bool false) (.bool i) (.bool g) (.bool false))
    have K := Lib.hid (show KP (((((x4.setCell ⟨xw.heap.size, 0, none⟩ (.int .i64 LV)).setCell ⟨xw.heap.size, 1, none⟩ (.bool false)).setCell ⟨xw.heap.size, 2, none⟩ (.bool i)).setCell ⟨xw.heap.size, 3, none⟩ (.bool g)).setCell ⟨xw.heap.size, 4, none⟩ (.bool false)) _ _ _ _ _ _ _ _ _ _ _ from (K.out.keep hb4 (by omega)).putF (x := xw.heap.size) (by omega) (.int .i64 LV) (.bool false) (.bool i) (.bool g) (.bool false))
    have B := Lib.hid (show Below w.heap.size w (((((x4.setCell ⟨xw.heap.size, 0, none⟩ (.int .i64 LV)).setCell ⟨xw.heap.size, 1, none⟩ (.bool false)).setCell ⟨xw.heap.size, 2, none⟩ (.bool i)).setCell ⟨xw.heap.size, 3, none⟩ (.bool g)).setCell ⟨xw.heap.size, 4, none⟩ (.bool false)) from below_putF (B.out.trans (hb4.mono B.out.size)) (show w.heap.size ≤ xw.heap.size from B.out.size) _ _ _ _ _)
    obtain ⟨W5, hW5⟩ : ∃ W, (((((x4.setCell ⟨xw.heap.size, 0, none⟩ (.int .i64 LV)).setCell ⟨xw.heap.size, 1, none⟩ (.bool false)).setCell ⟨xw.heap.size, 2, none⟩ (.bool i)).setCell ⟨xw.heap.size, 3, none⟩ (.bool g)).setCell ⟨xw.heap.size, 4, none⟩ (.bool false)) = W := ⟨_, rfl⟩
    rw [hW5] at T K B ⊢
    clear hW5 bacc bal hkH hP1 hb4 y0 y1 y2 y3 y4 q0 q1 q2 q3 q4 T4
    have n0 := K.out.1.get (i := 0) rfl
    have n1 := K.out.1.get (i := 1) rfl
    have n2 := K.out.1.get (i := 2) rfl
    have n3 := K.out.1.get (i := 3) rfl
    have n4 := K.out.1.get (i := 4) rfl
    have p0 := K.out.2.1.get (i := 0) rfl
    have p1 := K.out.2.1.get (i := 1) rfl
    have p2 := K.out.2.1.get (i := 2) rfl
    have p3 := K.out.2.1.get (i := 3) rfl
    have p4 := K.out.2.1.get (i := 4) rfl
    have r0 := K.out.2.2.get (i := 0) rfl
    have r1 := K.out.2.2.get (i := 1) rfl
    have r2 := K.out.2.2.get (i := 2) rfl
    have r3 := K.out.2.2.get (i := 3) rfl
    have r4 := K.out.2.2.get (i := 4) rfl
    have f0 := K.out.2.2.free 0
    have f1 := K.out.2.2.free 1
    have f2 := K.out.2.2.free 2
    have f3 := K.out.2.2.free 3
    have f4 := K.out.2.2.free 4
    have t0 := T.out.get (i := 0) rfl
    have t1 := T.out.get (i := 1) rfl
    have t2 := T.out.get (i := 2) rfl
    have t3 := T.out.get (i := 3) rfl
    have t4 := T.out.get (i := 4) rfl
    have g4 := T.out.free 4
    have hlt5 := T.out.lt
    go_wp2_with fail
    exact bodyPost_ret (v := posV ⟨LV, false, i, g, false⟩) (by simp [results, Try.results14, go_sem, posV, r0, r1, r2, r3, r4, t0, t1, t2, t3, t4]) rfl (posV_eq HEQ.out (below_putF B.out (by omega) _ _ _ _ _))
set_option maxRecDepth 100000 in
set_option maxHeartbeats 4000000 in
theorem i_kidPos_9 (o : Int) (t u : ByteArray) (A : Option Addr) (n c k : Nat) (l : Int) (d i g s : Bool) (w : World) (hn : n ≤ 8) (hkn : k < n) (hpo : posOk l d = true)  : Calls Try.prog 14 #[.agg #[.int .i64 9, .int .i64 o, .string t, .string u, .slice A n c], .int .i64 (k : Int), .agg #[.int .i64 l, .bool d, .bool i, .bool g, .bool s]] w (RetPosV w (kidQ 9 o n k ⟨l, d, i, g, s⟩)) := by
  have hL := Lib.hid (show levelOf 9 o = 13 from rfl)
  have K := Lib.hid (KP.made w 9 o t u (.slice A n c) l d i g s)
  have B := Lib.hid (kpW_below w 9 o t u (.slice A n c) l d i g s)
  have z := Lib.hid (show w.heap.size + 3 ≤ (kpW w 9 o t u (.slice A n c) l d i g s).heap.size by rw [kpW_size]; exact Nat.le_refl _)
  unfold kpW at K B z
  have n0 := K.out.1.get (i := 0) rfl
  have n1 := K.out.1.get (i := 1) rfl
  have n2 := K.out.1.get (i := 2) rfl
  have n3 := K.out.1.get (i := 3) rfl
  have n4 := K.out.1.get (i := 4) rfl
  have p0 := K.out.2.1.get (i := 0) rfl
  have p1 := K.out.2.1.get (i := 1) rfl
  have p2 := K.out.2.1.get (i := 2) rfl
  have p3 := K.out.2.1.get (i := 3) rfl
  have p4 := K.out.2.1.get (i := 4) rfl
  have r0 := K.out.2.2.get (i := 0) rfl
  have r1 := K.out.2.2.get (i := 1) rfl
  have r2 := K.out.2.2.get (i := 2) rfl
  have r3 := K.out.2.2.get (i := 3) rfl
  have r4 := K.out.2.2.get (i := 4) rfl
  have f0 := K.out.2.2.free 0
  have f1 := K.out.2.2.free 1
  have f2 := K.out.2.2.free 2
  have f3 := K.out.2.2.free 3
  have f4 := K.out.2.2.free 4
  have hin := Lib.hid (show inB (k : Int) 0 ((n : Int) - 1) = true by unfold inB; simp; omega)
  have hpo := Lib.hid hpo
  obtain ⟨LV, hLV⟩ : ∃ LV, kidLevelP 9 o k = LV := ⟨_, rfl⟩
  have hkl := Lib.hid hLV
  have HEQ : kidQ 9 o n k ⟨l, d, i, g, s⟩ = ⟨LV, false, i, g, false⟩ := by
    unfold kidQ
    rw [hLV, if_neg (by rw [hL.out]; omega)]
    rw [if_pos (by decide)]
    skip
    rfl
  have HEQ := Lib.hid HEQ
  clear hLV
  go_enter Try.func14, Try.ntmps14
  go_wp2_with (first
      | (go_at_call 12; refine (i_posOk l d i g s _).mono ?_; rintro e xw ⟨rfl, hb⟩; rw [hpo.out]; clear n0 n1 n2 n3 n4 p0 p1 p2 p3 p4 r0 r1 r2 r3 r4 f0 f1 f2 f3 f4; have K := Lib.hid (K.out.keep hb (by have := z.out; omega)); have B := Lib.hid (B.out.trans (hb.mono B.out.size)); have z := Lib.hid (Nat.le_trans z.out hb.size); clear hb; have n0 := K.out.1.get (i := 0) rfl; have n1 := K.out.1.get (i := 1) rfl; have n2 := K.out.1.get (i := 2) rfl; have n3 := K.out.1.get (i := 3) rfl; have n4 := K.out.1.get (i := 4) rfl; have p0 := K.out.2.1.get (i := 0) rfl; have p1 := K.out.2.1.get (i := 1) rfl; have p2 := K.out.2.1.get (i := 2) rfl; have p3 := K.out.2.1.get (i := 3) rfl; have p4 := K.out.2.1.get (i := 4) rfl; have r0 := K.out.2.2.get (i := 0) rfl; have r1 := K.out.2.2.get (i := 1) rfl; have r2 := K.out.2.2.get (i := 2) rfl; have r3 := K.out.2.2.get (i := 3) rfl; have r4 := K.out.2.2.get (i := 4) rfl; have f0 := K.out.2.2.free 0; have f1 := K.out.2.2.free 1; have f2 := K.out.2.2.free 2; have f3 := K.out.2.2.free 3; have f4 := K.out.2.2.free 4; have hz := z.out)
      | (go_at_call 21; refine (i_within _ _ _ _).mono ?_; rintro e w' ⟨rfl, rfl⟩; rw [hin.out])
      | (go_at_call 11; refine (i_levelOf 9 o t u A n c _).mono ?_; rintro e xw ⟨rfl, hb⟩; rw [hL.out]; clear n0 n1 n2 n3 n4 p0 p1 p2 p3 p4 r0 r1 r2 r3 r4 f0 f1 f2 f3 f4; have K := Lib.hid (K.out.keep hb (by have := z.out; omega)); have B := Lib.hid (B.out.trans (hb.mono B.out.size)); have z := Lib.hid (Nat.le_trans z.out hb.size); clear hb; have n0 := K.out.1.get (i := 0) rfl; have n1 := K.out.1.get (i := 1) rfl; have n2 := K.out.1.get (i := 2) rfl; have n3 := K.out.1.get (i := 3) rfl; have n4 := K.out.1.get (i := 4) rfl; have p0 := K.out.2.1.get (i := 0) rfl; have p1 := K.out.2.1.get (i := 1) rfl; have p2 := K.out.2.1.get (i := 2) rfl; have p3 := K.out.2.1.get (i := 3) rfl; have p4 := K.out.2.1.get (i := 4) rfl; have r0 := K.out.2.2.get (i := 0) rfl; have r1 := K.out.2.2.get (i := 1) rfl; have r2 := K.out.2.2.get (i := 2) rfl; have r3 := K.out.2.2.get (i := 3) rfl; have r4 := K.out.2.2.get (i := 4) rfl; have f0 := K.out.2.2.free 0; have f1 := K.out.2.2.free 1; have f2 := K.out.2.2.free 2; have f3 := K.out.2.2.free 3; have f4 := K.out.2.2.free 4; have hz := z.out))
  have hzs := z.out
  have bacc : Below xw.drew.heap.size xw.drew xw.drew := Below.refl _ _
  have bal0 := (Below.refl xw.heap.size xw).alloc (Nat.le_refl _) (.cells #[.int .i64 0, .bool false, .bool false, .bool false, .bool false] 28)
  have bal : Below xw.drew.heap.size xw.drew (xw.alloc (.cells #[.int .i64 0, .bool false, .bool false, .bool false, .bool false] 28)).drew := ⟨bal0.os, bal0.tape, bal0.output, bal0.size, bal0.block⟩
  clear bal0
  have hkH := Lib.hid (show ∀ W', Below xw.drew.heap.size xw.drew W' → W'.cell? ⟨w.heap.size, 0, none⟩ = some (.int .i64 9) ∧ W'.cell? ⟨w.heap.size, 1, none⟩ = some (.int .i64 o) ∧ W'.cell? ⟨w.heap.size, 2, none⟩ = some (.string t) ∧ W'.cell? ⟨w.heap.size, 3, none⟩ = some (.string u) ∧ W'.cell? ⟨w.heap.size, 4, none⟩ = some (.slice A n c) ∧ W'.cell? ⟨w.heap.size + 1, 0, none⟩ = some (.int .i64 l) ∧ W'.cell? ⟨w.heap.size + 1, 1, none⟩ = some (.bool d) ∧ W'.cell? ⟨w.heap.size + 1, 2, none⟩ = some (.bool i) ∧ W'.cell? ⟨w.heap.size + 1, 3, none⟩ = some (.bool g) ∧ W'.cell? ⟨w.heap.size + 1, 4, none⟩ = some (.bool s) from fun W' hb => by
    have h := (show KP xw.drew _ _ _ _ _ _ _ _ _ _ _ from K.out).keep hb (show _ < xw.heap.size by omega)
    exact ⟨h.1.get (i := 0) rfl, h.1.get (i := 1) rfl, h.1.get (i := 2) rfl, h.1.get (i := 3) rfl, h.1.get (i := 4) rfl, h.2.1.get (i := 0) rfl, h.2.1.get (i := 1) rfl, h.2.1.get (i := 2) rfl, h.2.1.get (i := 3) rfl, h.2.1.get (i := 4) rfl⟩)
  have hP1 := Lib.hid (show ∀ W' (x0 x1 x2 x3 x4 : Value), Below xw.drew.heap.size xw.drew W' → (((((W'.setCell ⟨xw.heap.size, 0, none⟩ x0).setCell ⟨xw.heap.size, 1, none⟩ x1).setCell ⟨xw.heap.size, 2, none⟩ x2).setCell ⟨xw.heap.size, 3, none⟩ x3).setCell ⟨xw.heap.size, 4, none⟩ x4).cell? ⟨w.heap.size, 0, none⟩ = some (.int .i64 9) ∧ (((((W'.setCell ⟨xw.heap.size, 0, none⟩ x0).setCell ⟨xw.heap.size, 1, none⟩ x1).setCell ⟨xw.heap.size, 2, none⟩ x2).setCell ⟨xw.heap.size, 3, none⟩ x3).setCell ⟨xw.heap.size, 4, none⟩ x4).cell? ⟨w.heap.size, 1, none⟩ = some (.int .i64 o) ∧ (((((W'.setCell ⟨xw.heap.size, 0, none⟩ x0).setCell ⟨xw.heap.size, 1, none⟩ x1).setCell ⟨xw.heap.size, 2, none⟩ x2).setCell ⟨xw.heap.size, 3, none⟩ x3).setCell ⟨xw.heap.size, 4, none⟩ x4).cell? ⟨w.heap.size, 2, none⟩ = some (.string t) ∧ (((((W'.setCell ⟨xw.heap.size, 0, none⟩ x0).setCell ⟨xw.heap.size, 1, none⟩ x1).setCell ⟨xw.heap.size, 2, none⟩ x2).setCell ⟨xw.heap.size, 3, none⟩ x3).setCell ⟨xw.heap.size, 4, none⟩ x4).cell? ⟨w.heap.size, 3, none⟩ = some (.string u) ∧ (((((W'.setCell ⟨xw.heap.size, 0, none⟩ x0).setCell ⟨xw.heap.size, 1, none⟩ x1).setCell ⟨xw.heap.size, 2, none⟩ x2).setCell ⟨xw.heap.size, 3, none⟩ x3).setCell ⟨xw.heap.size, 4, none⟩ x4).cell? ⟨w.heap.size, 4, none⟩ = some (.slice A n c) ∧ (((((W'.setCell ⟨xw.heap.size, 0, none⟩ x0).setCell ⟨xw.heap.size, 1, none⟩ x1).setCell ⟨xw.heap.size, 2, none⟩ x2).setCell ⟨xw.heap.size, 3, none⟩ x3).setCell ⟨xw.heap.size, 4, none⟩ x4).cell? ⟨w.heap.size + 1, 0, none⟩ = some (.int .i64 l) ∧ (((((W'.setCell ⟨xw.heap.size, 0, none⟩ x0).setCell ⟨xw.heap.size, 1, none⟩ x1).setCell ⟨xw.heap.size, 2, none⟩ x2).setCell ⟨xw.heap.size, 3, none⟩ x3).setCell ⟨xw.heap.size, 4, none⟩ x4).cell? ⟨w.heap.size + 1, 1, none⟩ = some (.bool d) ∧ (((((W'.setCell ⟨xw.heap.size, 0, none⟩ x0).setCell ⟨xw.heap.size, 1, none⟩ x1).setCell ⟨xw.heap.size, 2, none⟩ x2).setCell ⟨xw.heap.size, 3, none⟩ x3).setCell ⟨xw.heap.size, 4, none⟩ x4).cell? ⟨w.heap.size + 1, 2, none⟩ = some (.bool i) ∧ (((((W'.setCell ⟨xw.heap.size, 0, none⟩ x0).setCell ⟨xw.heap.size, 1, none⟩ x1).setCell ⟨xw.heap.size, 2, none⟩ x2).setCell ⟨xw.heap.size, 3, none⟩ x3).setCell ⟨xw.heap.size, 4, none⟩ x4).cell? ⟨w.heap.size + 1, 3, none⟩ = some (.bool g) ∧ (((((W'.setCell ⟨xw.heap.size, 0, none⟩ x0).setCell ⟨xw.heap.size, 1, none⟩ x1).setCell ⟨xw.heap.size, 2, none⟩ x2).setCell ⟨xw.heap.size, 3, none⟩ x3).setCell ⟨xw.heap.size, 4, none⟩ x4).cell? ⟨w.heap.size + 1, 4, none⟩ = some (.bool s) from fun W' x0 x1 x2 x3 x4 hb => by
    have h := ((show KP xw.drew _ _ _ _ _ _ _ _ _ _ _ from K.out).keep hb (show _ < xw.heap.size by omega)).putF (x := xw.heap.size) (by omega) x0 x1 x2 x3 x4
    exact ⟨h.1.get (i := 0) rfl, h.1.get (i := 1) rfl, h.1.get (i := 2) rfl, h.1.get (i := 3) rfl, h.1.get (i := 4) rfl, h.2.1.get (i := 0) rfl, h.2.1.get (i := 1) rfl, h.2.1.get (i := 2) rfl, h.2.1.get (i := 3) rfl, h.2.1.get (i := 4) rfl⟩)
  have TX := Lib.hid (Has.made xw 28 #[.int .i64 0, .bool false, .bool false, .bool false, .bool false])
  have hXs : (xw.alloc (.cells #[.int .i64 0, .bool false, .bool false, .bool false, .bool false] 28)).heap.size = xw.heap.size + 1 := by simp
  clear n0 n1 n2 n3 n4 p0 p1 p2 p3 p4 r0 r1 r2 r3 r4 f0 f1 f2 f3 f4 hz
  go_region_held3 (fun W => W.cell? ⟨w.heap.size, 0, none⟩ = some (.int .i64 9) ∧ W.cell? ⟨w.heap.size, 1, none⟩ = some (.int .i64 o) ∧ W.cell? ⟨w.heap.size, 2, none⟩ = some (.string t) ∧ W.cell? ⟨w.heap.size, 3, none⟩ = some (.string u) ∧ W.cell? ⟨w.heap.size, 4, none⟩ = some (.slice A n c) ∧ W.cell? ⟨w.heap.size + 1, 0, none⟩ = some (.int .i64 l) ∧ W.cell? ⟨w.heap.size + 1, 1, none⟩ = some (.bool d) ∧ W.cell? ⟨w.heap.size + 1, 2, none⟩ = some (.bool i) ∧ W.cell? ⟨w.heap.size + 1, 3, none⟩ = some (.bool g) ∧ W.cell? ⟨w.heap.size + 1, 4, none⟩ = some (.bool s)) (first | (with_reducible (exact hkH.out _ bacc)) | (with_reducible (exact hkH.out _ bal)) | (with_reducible (exact hP1.out _ _ _ _ _ _ bacc)) | (with_reducible (exact hkH.out _ (bacc.alloc bacc.size _))) | exact hkH.out _ bacc) (first
    | ((go_at_call 24; refine (i_kidLevel 9 o t u A n c k _ (by omega)).mono ?_; rintro e x4 ⟨rfl, hb⟩; rw [hkl.out]; first
      | (have bacc := Below.trans bacc (hb.mono bacc.size); clear hb)
      | (have T4 := Lib.hid ((show Has (xw.alloc (.cells #[.int .i64 0, .bool false, .bool false, .bool false, .bool false] 28)).drew xw.heap.size _ _ from TX.out).below hb (show _ < (xw.alloc (.cells #[.int .i64 0, .bool false, .bool false, .bool false, .bool false] 28)).heap.size by omega)); have bacc := Below.trans bal (hb.mono bal.size); clear hb; have y0 := T4.out.get (i := 0) rfl; have y1 := T4.out.get (i := 1) rfl; have y2 := T4.out.get (i := 2) rfl; have y3 := T4.out.get (i := 3) rfl; have y4 := T4.out.get (i := 4) rfl; have q0 := T4.out.free 0; have q1 := T4.out.free 1; have q2 := T4.out.free 2; have q3 := T4.out.free 3; have q4 := T4.out.free 4; have ht4 := T4.out.lt))))
  · have hb4 : Below xw.heap.size xw x4 := ⟨bacc.os, bacc.tape, bacc.output, bacc.size, bacc.block⟩
    have hx4 : w.heap.size + 3 ≤ x4.heap.size := Nat.le_trans z.out hb4.size
    have T := Lib.hid (Has.made x4 28 #[.int .i64 LV, .bool false, .bool i, .bool g, .bool false])
    have K := Lib.hid ((K.out.keep hb4 (by omega)).keep ((Below.refl x4.heap.size x4).alloc (Nat.le_refl _) (.cells #[.int .i64 LV, .bool false, .bool i, .bool g, .bool false] 28)) (by omega))
    have B := Lib.hid ((B.out.trans (hb4.mono B.out.size)).alloc (Nat.le_trans B.out.size hb4.size) (.cells #[.int .i64 LV, .bool false, .bool i, .bool g, .bool false] 28))
    obtain ⟨W5, hW5⟩ : ∃ W, x4.alloc (.cells #[.int .i64 LV, .bool false, .bool i, .bool g, .bool false] 28) = W := ⟨_, rfl⟩
    rw [hW5] at T K B ⊢
    clear hW5 bacc bal hkH hP1 hb4
    have n0 := K.out.1.get (i := 0) rfl
    have n1 := K.out.1.get (i := 1) rfl
    have n2 := K.out.1.get (i := 2) rfl
    have n3 := K.out.1.get (i := 3) rfl
    have n4 := K.out.1.get (i := 4) rfl
    have p0 := K.out.2.1.get (i := 0) rfl
    have p1 := K.out.2.1.get (i := 1) rfl
    have p2 := K.out.2.1.get (i := 2) rfl
    have p3 := K.out.2.1.get (i := 3) rfl
    have p4 := K.out.2.1.get (i := 4) rfl
    have r0 := K.out.2.2.get (i := 0) rfl
    have r1 := K.out.2.2.get (i := 1) rfl
    have r2 := K.out.2.2.get (i := 2) rfl
    have r3 := K.out.2.2.get (i := 3) rfl
    have r4 := K.out.2.2.get (i := 4) rfl
    have f0 := K.out.2.2.free 0
    have f1 := K.out.2.2.free 1
    have f2 := K.out.2.2.free 2
    have f3 := K.out.2.2.free 3
    have f4 := K.out.2.2.free 4
    have t0 := T.out.get (i := 0) rfl
    have t1 := T.out.get (i := 1) rfl
    have t2 := T.out.get (i := 2) rfl
    have t3 := T.out.get (i := 3) rfl
    have t4 := T.out.get (i := 4) rfl
    have g4 := T.out.free 4
    have hlt5 := T.out.lt
    go_wp2_with fail
    exact bodyPost_ret (v := posV ⟨LV, false, i, g, false⟩) (by simp [results, Try.results14, go_sem, posV, r0, r1, r2, r3, r4, t0, t1, t2, t3, t4]) rfl (posV_eq HEQ.out (below_putF B.out (by omega) _ _ _ _ _))
  · have hb4 : Below xw.heap.size xw x4 := ⟨bacc.os, bacc.tape, bacc.output, bacc.size, bacc.block⟩
    have hx4 : w.heap.size + 3 ≤ x4.heap.size := Nat.le_trans z.out hb4.size
    have T := Lib.hid (show Has (((((x4.setCell ⟨xw.heap.size, 0, none⟩ (.int .i64 LV)).setCell ⟨xw.heap.size, 1, none⟩ (.bool false)).setCell ⟨xw.heap.size, 2, none⟩ (.bool i)).setCell ⟨xw.heap.size, 3, none⟩ (.bool g)).setCell ⟨xw.heap.size, 4, none⟩ (.bool false)) xw.heap.size _ _ from T4.out.putF (.int .i64 LV) (.bool false) (.bool i) (.bool g) (.bool false))
    have K := Lib.hid (show KP (((((x4.setCell ⟨xw.heap.size, 0, none⟩ (.int .i64 LV)).setCell ⟨xw.heap.size, 1, none⟩ (.bool false)).setCell ⟨xw.heap.size, 2, none⟩ (.bool i)).setCell ⟨xw.heap.size, 3, none⟩ (.bool g)).setCell ⟨xw.heap.size, 4, none⟩ (.bool false)) _ _ _ _ _ _ _ _ _ _ _ from (K.out.keep hb4 (by omega)).putF (x := xw.heap.size) (by omega) (.int .i64 LV) (.bool false) (.bool i) (.bool g) (.bool false))
    have B := Lib.hid (show Below w.heap.size w (((((x4.setCell ⟨xw.heap.size, 0, none⟩ (.int .i64 LV)).setCell ⟨xw.heap.size, 1, none⟩ (.bool false)).setCell ⟨xw.heap.size, 2, none⟩ (.bool i)).setCell ⟨xw.heap.size, 3, none⟩ (.bool g)).setCell ⟨xw.heap.size, 4, none⟩ (.bool false)) from below_putF (B.out.trans (hb4.mono B.out.size)) (show w.heap.size ≤ xw.heap.size from B.out.size) _ _ _ _ _)
    obtain ⟨W5, hW5⟩ : ∃ W, (((((x4.setCell ⟨xw.heap.size, 0, none⟩ (.int .i64 LV)).setCell ⟨xw.heap.size, 1, none⟩ (.bool false)).setCell ⟨xw.heap.size, 2, none⟩ (.bool i)).setCell ⟨xw.heap.size, 3, none⟩ (.bool g)).setCell ⟨xw.heap.size, 4, none⟩ (.bool false)) = W := ⟨_, rfl⟩
    rw [hW5] at T K B ⊢
    clear hW5 bacc bal hkH hP1 hb4 y0 y1 y2 y3 y4 q0 q1 q2 q3 q4 T4
    have n0 := K.out.1.get (i := 0) rfl
    have n1 := K.out.1.get (i := 1) rfl
    have n2 := K.out.1.get (i := 2) rfl
    have n3 := K.out.1.get (i := 3) rfl
    have n4 := K.out.1.get (i := 4) rfl
    have p0 := K.out.2.1.get (i := 0) rfl
    have p1 := K.out.2.1.get (i := 1) rfl
    have p2 := K.out.2.1.get (i := 2) rfl
    have p3 := K.out.2.1.get (i := 3) rfl
    have p4 := K.out.2.1.get (i := 4) rfl
    have r0 := K.out.2.2.get (i := 0) rfl
    have r1 := K.out.2.2.get (i := 1) rfl
    have r2 := K.out.2.2.get (i := 2) rfl
    have r3 := K.out.2.2.get (i := 3) rfl
    have r4 := K.out.2.2.get (i := 4) rfl
    have f0 := K.out.2.2.free 0
    have f1 := K.out.2.2.free 1
    have f2 := K.out.2.2.free 2
    have f3 := K.out.2.2.free 3
    have f4 := K.out.2.2.free 4
    have t0 := T.out.get (i := 0) rfl
    have t1 := T.out.get (i := 1) rfl
    have t2 := T.out.get (i := 2) rfl
    have t3 := T.out.get (i := 3) rfl
    have t4 := T.out.get (i := 4) rfl
    have g4 := T.out.free 4
    have hlt5 := T.out.lt
    go_wp2_with fail
    exact bodyPost_ret (v := posV ⟨LV, false, i, g, false⟩) (by simp [results, Try.results14, go_sem, posV, r0, r1, r2, r3, r4, t0, t1, t2, t3, t4]) rfl (posV_eq HEQ.out (below_putF B.out (by omega) _ _ _ _ _))
set_option maxRecDepth 100000 in
set_option maxHeartbeats 4000000 in
theorem i_kidPos_10 (o : Int) (t u : ByteArray) (A : Option Addr) (n c k : Nat) (l : Int) (d i g s : Bool) (w : World) (hn : n ≤ 8) (hkn : k < n) (hpo : posOk l d = true)  : Calls Try.prog 14 #[.agg #[.int .i64 10, .int .i64 o, .string t, .string u, .slice A n c], .int .i64 (k : Int), .agg #[.int .i64 l, .bool d, .bool i, .bool g, .bool s]] w (RetPosV w (kidQ 10 o n k ⟨l, d, i, g, s⟩)) := by
  have hL := Lib.hid (show levelOf 10 o = 13 from rfl)
  have K := Lib.hid (KP.made w 10 o t u (.slice A n c) l d i g s)
  have B := Lib.hid (kpW_below w 10 o t u (.slice A n c) l d i g s)
  have z := Lib.hid (show w.heap.size + 3 ≤ (kpW w 10 o t u (.slice A n c) l d i g s).heap.size by rw [kpW_size]; exact Nat.le_refl _)
  unfold kpW at K B z
  have n0 := K.out.1.get (i := 0) rfl
  have n1 := K.out.1.get (i := 1) rfl
  have n2 := K.out.1.get (i := 2) rfl
  have n3 := K.out.1.get (i := 3) rfl
  have n4 := K.out.1.get (i := 4) rfl
  have p0 := K.out.2.1.get (i := 0) rfl
  have p1 := K.out.2.1.get (i := 1) rfl
  have p2 := K.out.2.1.get (i := 2) rfl
  have p3 := K.out.2.1.get (i := 3) rfl
  have p4 := K.out.2.1.get (i := 4) rfl
  have r0 := K.out.2.2.get (i := 0) rfl
  have r1 := K.out.2.2.get (i := 1) rfl
  have r2 := K.out.2.2.get (i := 2) rfl
  have r3 := K.out.2.2.get (i := 3) rfl
  have r4 := K.out.2.2.get (i := 4) rfl
  have f0 := K.out.2.2.free 0
  have f1 := K.out.2.2.free 1
  have f2 := K.out.2.2.free 2
  have f3 := K.out.2.2.free 3
  have f4 := K.out.2.2.free 4
  have hin := Lib.hid (show inB (k : Int) 0 ((n : Int) - 1) = true by unfold inB; simp; omega)
  have hpo := Lib.hid hpo
  obtain ⟨LV, hLV⟩ : ∃ LV, kidLevelP 10 o k = LV := ⟨_, rfl⟩
  have hkl := Lib.hid hLV
  have HEQ : kidQ 10 o n k ⟨l, d, i, g, s⟩ = ⟨LV, false, i, g, false⟩ := by
    unfold kidQ
    rw [hLV, if_neg (by rw [hL.out]; omega)]
    rw [if_pos (by decide)]
    skip
    rfl
  have HEQ := Lib.hid HEQ
  clear hLV
  go_enter Try.func14, Try.ntmps14
  go_wp2_with (first
      | (go_at_call 12; refine (i_posOk l d i g s _).mono ?_; rintro e xw ⟨rfl, hb⟩; rw [hpo.out]; clear n0 n1 n2 n3 n4 p0 p1 p2 p3 p4 r0 r1 r2 r3 r4 f0 f1 f2 f3 f4; have K := Lib.hid (K.out.keep hb (by have := z.out; omega)); have B := Lib.hid (B.out.trans (hb.mono B.out.size)); have z := Lib.hid (Nat.le_trans z.out hb.size); clear hb; have n0 := K.out.1.get (i := 0) rfl; have n1 := K.out.1.get (i := 1) rfl; have n2 := K.out.1.get (i := 2) rfl; have n3 := K.out.1.get (i := 3) rfl; have n4 := K.out.1.get (i := 4) rfl; have p0 := K.out.2.1.get (i := 0) rfl; have p1 := K.out.2.1.get (i := 1) rfl; have p2 := K.out.2.1.get (i := 2) rfl; have p3 := K.out.2.1.get (i := 3) rfl; have p4 := K.out.2.1.get (i := 4) rfl; have r0 := K.out.2.2.get (i := 0) rfl; have r1 := K.out.2.2.get (i := 1) rfl; have r2 := K.out.2.2.get (i := 2) rfl; have r3 := K.out.2.2.get (i := 3) rfl; have r4 := K.out.2.2.get (i := 4) rfl; have f0 := K.out.2.2.free 0; have f1 := K.out.2.2.free 1; have f2 := K.out.2.2.free 2; have f3 := K.out.2.2.free 3; have f4 := K.out.2.2.free 4; have hz := z.out)
      | (go_at_call 21; refine (i_within _ _ _ _).mono ?_; rintro e w' ⟨rfl, rfl⟩; rw [hin.out])
      | (go_at_call 11; refine (i_levelOf 10 o t u A n c _).mono ?_; rintro e xw ⟨rfl, hb⟩; rw [hL.out]; clear n0 n1 n2 n3 n4 p0 p1 p2 p3 p4 r0 r1 r2 r3 r4 f0 f1 f2 f3 f4; have K := Lib.hid (K.out.keep hb (by have := z.out; omega)); have B := Lib.hid (B.out.trans (hb.mono B.out.size)); have z := Lib.hid (Nat.le_trans z.out hb.size); clear hb; have n0 := K.out.1.get (i := 0) rfl; have n1 := K.out.1.get (i := 1) rfl; have n2 := K.out.1.get (i := 2) rfl; have n3 := K.out.1.get (i := 3) rfl; have n4 := K.out.1.get (i := 4) rfl; have p0 := K.out.2.1.get (i := 0) rfl; have p1 := K.out.2.1.get (i := 1) rfl; have p2 := K.out.2.1.get (i := 2) rfl; have p3 := K.out.2.1.get (i := 3) rfl; have p4 := K.out.2.1.get (i := 4) rfl; have r0 := K.out.2.2.get (i := 0) rfl; have r1 := K.out.2.2.get (i := 1) rfl; have r2 := K.out.2.2.get (i := 2) rfl; have r3 := K.out.2.2.get (i := 3) rfl; have r4 := K.out.2.2.get (i := 4) rfl; have f0 := K.out.2.2.free 0; have f1 := K.out.2.2.free 1; have f2 := K.out.2.2.free 2; have f3 := K.out.2.2.free 3; have f4 := K.out.2.2.free 4; have hz := z.out))
  have hzs := z.out
  have bacc : Below xw.drew.heap.size xw.drew xw.drew := Below.refl _ _
  have bal0 := (Below.refl xw.heap.size xw).alloc (Nat.le_refl _) (.cells #[.int .i64 0, .bool false, .bool false, .bool false, .bool false] 28)
  have bal : Below xw.drew.heap.size xw.drew (xw.alloc (.cells #[.int .i64 0, .bool false, .bool false, .bool false, .bool false] 28)).drew := ⟨bal0.os, bal0.tape, bal0.output, bal0.size, bal0.block⟩
  clear bal0
  have hkH := Lib.hid (show ∀ W', Below xw.drew.heap.size xw.drew W' → W'.cell? ⟨w.heap.size, 0, none⟩ = some (.int .i64 10) ∧ W'.cell? ⟨w.heap.size, 1, none⟩ = some (.int .i64 o) ∧ W'.cell? ⟨w.heap.size, 2, none⟩ = some (.string t) ∧ W'.cell? ⟨w.heap.size, 3, none⟩ = some (.string u) ∧ W'.cell? ⟨w.heap.size, 4, none⟩ = some (.slice A n c) ∧ W'.cell? ⟨w.heap.size + 1, 0, none⟩ = some (.int .i64 l) ∧ W'.cell? ⟨w.heap.size + 1, 1, none⟩ = some (.bool d) ∧ W'.cell? ⟨w.heap.size + 1, 2, none⟩ = some (.bool i) ∧ W'.cell? ⟨w.heap.size + 1, 3, none⟩ = some (.bool g) ∧ W'.cell? ⟨w.heap.size + 1, 4, none⟩ = some (.bool s) from fun W' hb => by
    have h := (show KP xw.drew _ _ _ _ _ _ _ _ _ _ _ from K.out).keep hb (show _ < xw.heap.size by omega)
    exact ⟨h.1.get (i := 0) rfl, h.1.get (i := 1) rfl, h.1.get (i := 2) rfl, h.1.get (i := 3) rfl, h.1.get (i := 4) rfl, h.2.1.get (i := 0) rfl, h.2.1.get (i := 1) rfl, h.2.1.get (i := 2) rfl, h.2.1.get (i := 3) rfl, h.2.1.get (i := 4) rfl⟩)
  have hP1 := Lib.hid (show ∀ W' (x0 x1 x2 x3 x4 : Value), Below xw.drew.heap.size xw.drew W' → (((((W'.setCell ⟨xw.heap.size, 0, none⟩ x0).setCell ⟨xw.heap.size, 1, none⟩ x1).setCell ⟨xw.heap.size, 2, none⟩ x2).setCell ⟨xw.heap.size, 3, none⟩ x3).setCell ⟨xw.heap.size, 4, none⟩ x4).cell? ⟨w.heap.size, 0, none⟩ = some (.int .i64 10) ∧ (((((W'.setCell ⟨xw.heap.size, 0, none⟩ x0).setCell ⟨xw.heap.size, 1, none⟩ x1).setCell ⟨xw.heap.size, 2, none⟩ x2).setCell ⟨xw.heap.size, 3, none⟩ x3).setCell ⟨xw.heap.size, 4, none⟩ x4).cell? ⟨w.heap.size, 1, none⟩ = some (.int .i64 o) ∧ (((((W'.setCell ⟨xw.heap.size, 0, none⟩ x0).setCell ⟨xw.heap.size, 1, none⟩ x1).setCell ⟨xw.heap.size, 2, none⟩ x2).setCell ⟨xw.heap.size, 3, none⟩ x3).setCell ⟨xw.heap.size, 4, none⟩ x4).cell? ⟨w.heap.size, 2, none⟩ = some (.string t) ∧ (((((W'.setCell ⟨xw.heap.size, 0, none⟩ x0).setCell ⟨xw.heap.size, 1, none⟩ x1).setCell ⟨xw.heap.size, 2, none⟩ x2).setCell ⟨xw.heap.size, 3, none⟩ x3).setCell ⟨xw.heap.size, 4, none⟩ x4).cell? ⟨w.heap.size, 3, none⟩ = some (.string u) ∧ (((((W'.setCell ⟨xw.heap.size, 0, none⟩ x0).setCell ⟨xw.heap.size, 1, none⟩ x1).setCell ⟨xw.heap.size, 2, none⟩ x2).setCell ⟨xw.heap.size, 3, none⟩ x3).setCell ⟨xw.heap.size, 4, none⟩ x4).cell? ⟨w.heap.size, 4, none⟩ = some (.slice A n c) ∧ (((((W'.setCell ⟨xw.heap.size, 0, none⟩ x0).setCell ⟨xw.heap.size, 1, none⟩ x1).setCell ⟨xw.heap.size, 2, none⟩ x2).setCell ⟨xw.heap.size, 3, none⟩ x3).setCell ⟨xw.heap.size, 4, none⟩ x4).cell? ⟨w.heap.size + 1, 0, none⟩ = some (.int .i64 l) ∧ (((((W'.setCell ⟨xw.heap.size, 0, none⟩ x0).setCell ⟨xw.heap.size, 1, none⟩ x1).setCell ⟨xw.heap.size, 2, none⟩ x2).setCell ⟨xw.heap.size, 3, none⟩ x3).setCell ⟨xw.heap.size, 4, none⟩ x4).cell? ⟨w.heap.size + 1, 1, none⟩ = some (.bool d) ∧ (((((W'.setCell ⟨xw.heap.size, 0, none⟩ x0).setCell ⟨xw.heap.size, 1, none⟩ x1).setCell ⟨xw.heap.size, 2, none⟩ x2).setCell ⟨xw.heap.size, 3, none⟩ x3).setCell ⟨xw.heap.size, 4, none⟩ x4).cell? ⟨w.heap.size + 1, 2, none⟩ = some (.bool i) ∧ (((((W'.setCell ⟨xw.heap.size, 0, none⟩ x0).setCell ⟨xw.heap.size, 1, none⟩ x1).setCell ⟨xw.heap.size, 2, none⟩ x2).setCell ⟨xw.heap.size, 3, none⟩ x3).setCell ⟨xw.heap.size, 4, none⟩ x4).cell? ⟨w.heap.size + 1, 3, none⟩ = some (.bool g) ∧ (((((W'.setCell ⟨xw.heap.size, 0, none⟩ x0).setCell ⟨xw.heap.size, 1, none⟩ x1).setCell ⟨xw.heap.size, 2, none⟩ x2).setCell ⟨xw.heap.size, 3, none⟩ x3).setCell ⟨xw.heap.size, 4, none⟩ x4).cell? ⟨w.heap.size + 1, 4, none⟩ = some (.bool s) from fun W' x0 x1 x2 x3 x4 hb => by
    have h := ((show KP xw.drew _ _ _ _ _ _ _ _ _ _ _ from K.out).keep hb (show _ < xw.heap.size by omega)).putF (x := xw.heap.size) (by omega) x0 x1 x2 x3 x4
    exact ⟨h.1.get (i := 0) rfl, h.1.get (i := 1) rfl, h.1.get (i := 2) rfl, h.1.get (i := 3) rfl, h.1.get (i := 4) rfl, h.2.1.get (i := 0) rfl, h.2.1.get (i := 1) rfl, h.2.1.get (i := 2) rfl, h.2.1.get (i := 3) rfl, h.2.1.get (i := 4) rfl⟩)
  have TX := Lib.hid (Has.made xw 28 #[.int .i64 0, .bool false, .bool false, .bool false, .bool false])
  have hXs : (xw.alloc (.cells #[.int .i64 0, .bool false, .bool false, .bool false, .bool false] 28)).heap.size = xw.heap.size + 1 := by simp
  clear n0 n1 n2 n3 n4 p0 p1 p2 p3 p4 r0 r1 r2 r3 r4 f0 f1 f2 f3 f4 hz
  go_region_held3 (fun W => W.cell? ⟨w.heap.size, 0, none⟩ = some (.int .i64 10) ∧ W.cell? ⟨w.heap.size, 1, none⟩ = some (.int .i64 o) ∧ W.cell? ⟨w.heap.size, 2, none⟩ = some (.string t) ∧ W.cell? ⟨w.heap.size, 3, none⟩ = some (.string u) ∧ W.cell? ⟨w.heap.size, 4, none⟩ = some (.slice A n c) ∧ W.cell? ⟨w.heap.size + 1, 0, none⟩ = some (.int .i64 l) ∧ W.cell? ⟨w.heap.size + 1, 1, none⟩ = some (.bool d) ∧ W.cell? ⟨w.heap.size + 1, 2, none⟩ = some (.bool i) ∧ W.cell? ⟨w.heap.size + 1, 3, none⟩ = some (.bool g) ∧ W.cell? ⟨w.heap.size + 1, 4, none⟩ = some (.bool s)) (first | (with_reducible (exact hkH.out _ bacc)) | (with_reducible (exact hkH.out _ bal)) | (with_reducible (exact hP1.out _ _ _ _ _ _ bacc)) | (with_reducible (exact hkH.out _ (bacc.alloc bacc.size _))) | exact hkH.out _ bacc) (first
    | ((go_at_call 24; refine (i_kidLevel 10 o t u A n c k _ (by omega)).mono ?_; rintro e x4 ⟨rfl, hb⟩; rw [hkl.out]; first
      | (have bacc := Below.trans bacc (hb.mono bacc.size); clear hb)
      | (have T4 := Lib.hid ((show Has (xw.alloc (.cells #[.int .i64 0, .bool false, .bool false, .bool false, .bool false] 28)).drew xw.heap.size _ _ from TX.out).below hb (show _ < (xw.alloc (.cells #[.int .i64 0, .bool false, .bool false, .bool false, .bool false] 28)).heap.size by omega)); have bacc := Below.trans bal (hb.mono bal.size); clear hb; have y0 := T4.out.get (i := 0) rfl; have y1 := T4.out.get (i := 1) rfl; have y2 := T4.out.get (i := 2) rfl; have y3 := T4.out.get (i := 3) rfl; have y4 := T4.out.get (i := 4) rfl; have q0 := T4.out.free 0; have q1 := T4.out.free 1; have q2 := T4.out.free 2; have q3 := T4.out.free 3; have q4 := T4.out.free 4; have ht4 := T4.out.lt))))
  · have hb4 : Below xw.heap.size xw x4 := ⟨bacc.os, bacc.tape, bacc.output, bacc.size, bacc.block⟩
    have hx4 : w.heap.size + 3 ≤ x4.heap.size := Nat.le_trans z.out hb4.size
    have T := Lib.hid (Has.made x4 28 #[.int .i64 LV, .bool false, .bool i, .bool g, .bool false])
    have K := Lib.hid ((K.out.keep hb4 (by omega)).keep ((Below.refl x4.heap.size x4).alloc (Nat.le_refl _) (.cells #[.int .i64 LV, .bool false, .bool i, .bool g, .bool false] 28)) (by omega))
    have B := Lib.hid ((B.out.trans (hb4.mono B.out.size)).alloc (Nat.le_trans B.out.size hb4.size) (.cells #[.int .i64 LV, .bool false, .bool i, .bool g, .bool false] 28))
    obtain ⟨W5, hW5⟩ : ∃ W, x4.alloc (.cells #[.int .i64 LV, .bool false, .bool i, .bool g, .bool false] 28) = W := ⟨_, rfl⟩
    rw [hW5] at T K B ⊢
    clear hW5 bacc bal hkH hP1 hb4
    have n0 := K.out.1.get (i := 0) rfl
    have n1 := K.out.1.get (i := 1) rfl
    have n2 := K.out.1.get (i := 2) rfl
    have n3 := K.out.1.get (i := 3) rfl
    have n4 := K.out.1.get (i := 4) rfl
    have p0 := K.out.2.1.get (i := 0) rfl
    have p1 := K.out.2.1.get (i := 1) rfl
    have p2 := K.out.2.1.get (i := 2) rfl
    have p3 := K.out.2.1.get (i := 3) rfl
    have p4 := K.out.2.1.get (i := 4) rfl
    have r0 := K.out.2.2.get (i := 0) rfl
    have r1 := K.out.2.2.get (i := 1) rfl
    have r2 := K.out.2.2.get (i := 2) rfl
    have r3 := K.out.2.2.get (i := 3) rfl
    have r4 := K.out.2.2.get (i := 4) rfl
    have f0 := K.out.2.2.free 0
    have f1 := K.out.2.2.free 1
    have f2 := K.out.2.2.free 2
    have f3 := K.out.2.2.free 3
    have f4 := K.out.2.2.free 4
    have t0 := T.out.get (i := 0) rfl
    have t1 := T.out.get (i := 1) rfl
    have t2 := T.out.get (i := 2) rfl
    have t3 := T.out.get (i := 3) rfl
    have t4 := T.out.get (i := 4) rfl
    have g4 := T.out.free 4
    have hlt5 := T.out.lt
    go_wp2_with fail
    exact bodyPost_ret (v := posV ⟨LV, false, i, g, false⟩) (by simp [results, Try.results14, go_sem, posV, r0, r1, r2, r3, r4, t0, t1, t2, t3, t4]) rfl (posV_eq HEQ.out (below_putF B.out (by omega) _ _ _ _ _))
  · have hb4 : Below xw.heap.size xw x4 := ⟨bacc.os, bacc.tape, bacc.output, bacc.size, bacc.block⟩
    have hx4 : w.heap.size + 3 ≤ x4.heap.size := Nat.le_trans z.out hb4.size
    have T := Lib.hid (show Has (((((x4.setCell ⟨xw.heap.size, 0, none⟩ (.int .i64 LV)).setCell ⟨xw.heap.size, 1, none⟩ (.bool false)).setCell ⟨xw.heap.size, 2, none⟩ (.bool i)).setCell ⟨xw.heap.size, 3, none⟩ (.bool g)).setCell ⟨xw.heap.size, 4, none⟩ (.bool false)) xw.heap.size _ _ from T4.out.putF (.int .i64 LV) (.bool false) (.bool i) (.bool g) (.bool false))
    have K := Lib.hid (show KP (((((x4.setCell ⟨xw.heap.size, 0, none⟩ (.int .i64 LV)).setCell ⟨xw.heap.size, 1, none⟩ (.bool false)).setCell ⟨xw.heap.size, 2, none⟩ (.bool i)).setCell ⟨xw.heap.size, 3, none⟩ (.bool g)).setCell ⟨xw.heap.size, 4, none⟩ (.bool false)) _ _ _ _ _ _ _ _ _ _ _ from (K.out.keep hb4 (by omega)).putF (x := xw.heap.size) (by omega) (.int .i64 LV) (.bool false) (.bool i) (.bool g) (.bool false))
    have B := Lib.hid (show Below w.heap.size w (((((x4.setCell ⟨xw.heap.size, 0, none⟩ (.int .i64 LV)).setCell ⟨xw.heap.size, 1, none⟩ (.bool false)).setCell ⟨xw.heap.size, 2, none⟩ (.bool i)).setCell ⟨xw.heap.size, 3, none⟩ (.bool g)).setCell ⟨xw.heap.size, 4, none⟩ (.bool false)) from below_putF (B.out.trans (hb4.mono B.out.size)) (show w.heap.size ≤ xw.heap.size from B.out.size) _ _ _ _ _)
    obtain ⟨W5, hW5⟩ : ∃ W, (((((x4.setCell ⟨xw.heap.size, 0, none⟩ (.int .i64 LV)).setCell ⟨xw.heap.size, 1, none⟩ (.bool false)).setCell ⟨xw.heap.size, 2, none⟩ (.bool i)).setCell ⟨xw.heap.size, 3, none⟩ (.bool g)).setCell ⟨xw.heap.size, 4, none⟩ (.bool false)) = W := ⟨_, rfl⟩
    rw [hW5] at T K B ⊢
    clear hW5 bacc bal hkH hP1 hb4 y0 y1 y2 y3 y4 q0 q1 q2 q3 q4 T4
    have n0 := K.out.1.get (i := 0) rfl
    have n1 := K.out.1.get (i := 1) rfl
    have n2 := K.out.1.get (i := 2) rfl
    have n3 := K.out.1.get (i := 3) rfl
    have n4 := K.out.1.get (i := 4) rfl
    have p0 := K.out.2.1.get (i := 0) rfl
    have p1 := K.out.2.1.get (i := 1) rfl
    have p2 := K.out.2.1.get (i := 2) rfl
    have p3 := K.out.2.1.get (i := 3) rfl
    have p4 := K.out.2.1.get (i := 4) rfl
    have r0 := K.out.2.2.get (i := 0) rfl
    have r1 := K.out.2.2.get (i := 1) rfl
    have r2 := K.out.2.2.get (i := 2) rfl
    have r3 := K.out.2.2.get (i := 3) rfl
    have r4 := K.out.2.2.get (i := 4) rfl
    have f0 := K.out.2.2.free 0
    have f1 := K.out.2.2.free 1
    have f2 := K.out.2.2.free 2
    have f3 := K.out.2.2.free 3
    have f4 := K.out.2.2.free 4
    have t0 := T.out.get (i := 0) rfl
    have t1 := T.out.get (i := 1) rfl
    have t2 := T.out.get (i := 2) rfl
    have t3 := T.out.get (i := 3) rfl
    have t4 := T.out.get (i := 4) rfl
    have g4 := T.out.free 4
    have hlt5 := T.out.lt
    go_wp2_with fail
    exact bodyPost_ret (v := posV ⟨LV, false, i, g, false⟩) (by simp [results, Try.results14, go_sem, posV, r0, r1, r2, r3, r4, t0, t1, t2, t3, t4]) rfl (posV_eq HEQ.out (below_putF B.out (by omega) _ _ _ _ _))
set_option maxRecDepth 100000 in
set_option maxHeartbeats 4000000 in
theorem i_kidPos_6 (o : Int) (t u : ByteArray) (A : Option Addr) (n c k : Nat) (l : Int) (d i g s : Bool) (w : World) (hn : n ≤ 8) (hkn : k < n) (hpo : posOk l d = true)  : Calls Try.prog 14 #[.agg #[.int .i64 6, .int .i64 o, .string t, .string u, .slice A n c], .int .i64 (k : Int), .agg #[.int .i64 l, .bool d, .bool i, .bool g, .bool s]] w (RetPosV w (kidQ 6 o n k ⟨l, d, i, g, s⟩)) := by
  have hL := Lib.hid (show levelOf 6 o = 14 from rfl)
  have K := Lib.hid (KP.made w 6 o t u (.slice A n c) l d i g s)
  have B := Lib.hid (kpW_below w 6 o t u (.slice A n c) l d i g s)
  have z := Lib.hid (show w.heap.size + 3 ≤ (kpW w 6 o t u (.slice A n c) l d i g s).heap.size by rw [kpW_size]; exact Nat.le_refl _)
  unfold kpW at K B z
  have n0 := K.out.1.get (i := 0) rfl
  have n1 := K.out.1.get (i := 1) rfl
  have n2 := K.out.1.get (i := 2) rfl
  have n3 := K.out.1.get (i := 3) rfl
  have n4 := K.out.1.get (i := 4) rfl
  have p0 := K.out.2.1.get (i := 0) rfl
  have p1 := K.out.2.1.get (i := 1) rfl
  have p2 := K.out.2.1.get (i := 2) rfl
  have p3 := K.out.2.1.get (i := 3) rfl
  have p4 := K.out.2.1.get (i := 4) rfl
  have r0 := K.out.2.2.get (i := 0) rfl
  have r1 := K.out.2.2.get (i := 1) rfl
  have r2 := K.out.2.2.get (i := 2) rfl
  have r3 := K.out.2.2.get (i := 3) rfl
  have r4 := K.out.2.2.get (i := 4) rfl
  have f0 := K.out.2.2.free 0
  have f1 := K.out.2.2.free 1
  have f2 := K.out.2.2.free 2
  have f3 := K.out.2.2.free 3
  have f4 := K.out.2.2.free 4
  have hin := Lib.hid (show inB (k : Int) 0 ((n : Int) - 1) = true by unfold inB; simp; omega)
  have hpo := Lib.hid hpo
  obtain ⟨LV, hLV⟩ : ∃ LV, kidLevelP 6 o k = LV := ⟨_, rfl⟩
  have hkl := Lib.hid hLV
  have HEQ : kidQ 6 o n k ⟨l, d, i, g, s⟩ = ⟨LV, true, i, g, false⟩ := by
    unfold kidQ
    rw [hLV, if_neg (by rw [hL.out]; omega)]
    rw [if_pos (by decide)]
    skip
    rfl
  have HEQ := Lib.hid HEQ
  clear hLV
  go_enter Try.func14, Try.ntmps14
  go_wp2_with (first
      | (go_at_call 12; refine (i_posOk l d i g s _).mono ?_; rintro e xw ⟨rfl, hb⟩; rw [hpo.out]; clear n0 n1 n2 n3 n4 p0 p1 p2 p3 p4 r0 r1 r2 r3 r4 f0 f1 f2 f3 f4; have K := Lib.hid (K.out.keep hb (by have := z.out; omega)); have B := Lib.hid (B.out.trans (hb.mono B.out.size)); have z := Lib.hid (Nat.le_trans z.out hb.size); clear hb; have n0 := K.out.1.get (i := 0) rfl; have n1 := K.out.1.get (i := 1) rfl; have n2 := K.out.1.get (i := 2) rfl; have n3 := K.out.1.get (i := 3) rfl; have n4 := K.out.1.get (i := 4) rfl; have p0 := K.out.2.1.get (i := 0) rfl; have p1 := K.out.2.1.get (i := 1) rfl; have p2 := K.out.2.1.get (i := 2) rfl; have p3 := K.out.2.1.get (i := 3) rfl; have p4 := K.out.2.1.get (i := 4) rfl; have r0 := K.out.2.2.get (i := 0) rfl; have r1 := K.out.2.2.get (i := 1) rfl; have r2 := K.out.2.2.get (i := 2) rfl; have r3 := K.out.2.2.get (i := 3) rfl; have r4 := K.out.2.2.get (i := 4) rfl; have f0 := K.out.2.2.free 0; have f1 := K.out.2.2.free 1; have f2 := K.out.2.2.free 2; have f3 := K.out.2.2.free 3; have f4 := K.out.2.2.free 4; have hz := z.out)
      | (go_at_call 21; refine (i_within _ _ _ _).mono ?_; rintro e w' ⟨rfl, rfl⟩; rw [hin.out])
      | (go_at_call 11; refine (i_levelOf 6 o t u A n c _).mono ?_; rintro e xw ⟨rfl, hb⟩; rw [hL.out]; clear n0 n1 n2 n3 n4 p0 p1 p2 p3 p4 r0 r1 r2 r3 r4 f0 f1 f2 f3 f4; have K := Lib.hid (K.out.keep hb (by have := z.out; omega)); have B := Lib.hid (B.out.trans (hb.mono B.out.size)); have z := Lib.hid (Nat.le_trans z.out hb.size); clear hb; have n0 := K.out.1.get (i := 0) rfl; have n1 := K.out.1.get (i := 1) rfl; have n2 := K.out.1.get (i := 2) rfl; have n3 := K.out.1.get (i := 3) rfl; have n4 := K.out.1.get (i := 4) rfl; have p0 := K.out.2.1.get (i := 0) rfl; have p1 := K.out.2.1.get (i := 1) rfl; have p2 := K.out.2.1.get (i := 2) rfl; have p3 := K.out.2.1.get (i := 3) rfl; have p4 := K.out.2.1.get (i := 4) rfl; have r0 := K.out.2.2.get (i := 0) rfl; have r1 := K.out.2.2.get (i := 1) rfl; have r2 := K.out.2.2.get (i := 2) rfl; have r3 := K.out.2.2.get (i := 3) rfl; have r4 := K.out.2.2.get (i := 4) rfl; have f0 := K.out.2.2.free 0; have f1 := K.out.2.2.free 1; have f2 := K.out.2.2.free 2; have f3 := K.out.2.2.free 3; have f4 := K.out.2.2.free 4; have hz := z.out))
  have hzs := z.out
  have bacc : Below xw.drew.heap.size xw.drew xw.drew := Below.refl _ _
  have bal0 := (Below.refl xw.heap.size xw).alloc (Nat.le_refl _) (.cells #[.int .i64 0, .bool false, .bool false, .bool false, .bool false] 28)
  have bal : Below xw.drew.heap.size xw.drew (xw.alloc (.cells #[.int .i64 0, .bool false, .bool false, .bool false, .bool false] 28)).drew := ⟨bal0.os, bal0.tape, bal0.output, bal0.size, bal0.block⟩
  clear bal0
  have hkH := Lib.hid (show ∀ W', Below xw.drew.heap.size xw.drew W' → W'.cell? ⟨w.heap.size, 0, none⟩ = some (.int .i64 6) ∧ W'.cell? ⟨w.heap.size, 1, none⟩ = some (.int .i64 o) ∧ W'.cell? ⟨w.heap.size, 2, none⟩ = some (.string t) ∧ W'.cell? ⟨w.heap.size, 3, none⟩ = some (.string u) ∧ W'.cell? ⟨w.heap.size, 4, none⟩ = some (.slice A n c) ∧ W'.cell? ⟨w.heap.size + 1, 0, none⟩ = some (.int .i64 l) ∧ W'.cell? ⟨w.heap.size + 1, 1, none⟩ = some (.bool d) ∧ W'.cell? ⟨w.heap.size + 1, 2, none⟩ = some (.bool i) ∧ W'.cell? ⟨w.heap.size + 1, 3, none⟩ = some (.bool g) ∧ W'.cell? ⟨w.heap.size + 1, 4, none⟩ = some (.bool s) from fun W' hb => by
    have h := (show KP xw.drew _ _ _ _ _ _ _ _ _ _ _ from K.out).keep hb (show _ < xw.heap.size by omega)
    exact ⟨h.1.get (i := 0) rfl, h.1.get (i := 1) rfl, h.1.get (i := 2) rfl, h.1.get (i := 3) rfl, h.1.get (i := 4) rfl, h.2.1.get (i := 0) rfl, h.2.1.get (i := 1) rfl, h.2.1.get (i := 2) rfl, h.2.1.get (i := 3) rfl, h.2.1.get (i := 4) rfl⟩)
  have hP1 := Lib.hid (show ∀ W' (x0 x1 x2 x3 x4 : Value), Below xw.drew.heap.size xw.drew W' → (((((W'.setCell ⟨xw.heap.size, 0, none⟩ x0).setCell ⟨xw.heap.size, 1, none⟩ x1).setCell ⟨xw.heap.size, 2, none⟩ x2).setCell ⟨xw.heap.size, 3, none⟩ x3).setCell ⟨xw.heap.size, 4, none⟩ x4).cell? ⟨w.heap.size, 0, none⟩ = some (.int .i64 6) ∧ (((((W'.setCell ⟨xw.heap.size, 0, none⟩ x0).setCell ⟨xw.heap.size, 1, none⟩ x1).setCell ⟨xw.heap.size, 2, none⟩ x2).setCell ⟨xw.heap.size, 3, none⟩ x3).setCell ⟨xw.heap.size, 4, none⟩ x4).cell? ⟨w.heap.size, 1, none⟩ = some (.int .i64 o) ∧ (((((W'.setCell ⟨xw.heap.size, 0, none⟩ x0).setCell ⟨xw.heap.size, 1, none⟩ x1).setCell ⟨xw.heap.size, 2, none⟩ x2).setCell ⟨xw.heap.size, 3, none⟩ x3).setCell ⟨xw.heap.size, 4, none⟩ x4).cell? ⟨w.heap.size, 2, none⟩ = some (.string t) ∧ (((((W'.setCell ⟨xw.heap.size, 0, none⟩ x0).setCell ⟨xw.heap.size, 1, none⟩ x1).setCell ⟨xw.heap.size, 2, none⟩ x2).setCell ⟨xw.heap.size, 3, none⟩ x3).setCell ⟨xw.heap.size, 4, none⟩ x4).cell? ⟨w.heap.size, 3, none⟩ = some (.string u) ∧ (((((W'.setCell ⟨xw.heap.size, 0, none⟩ x0).setCell ⟨xw.heap.size, 1, none⟩ x1).setCell ⟨xw.heap.size, 2, none⟩ x2).setCell ⟨xw.heap.size, 3, none⟩ x3).setCell ⟨xw.heap.size, 4, none⟩ x4).cell? ⟨w.heap.size, 4, none⟩ = some (.slice A n c) ∧ (((((W'.setCell ⟨xw.heap.size, 0, none⟩ x0).setCell ⟨xw.heap.size, 1, none⟩ x1).setCell ⟨xw.heap.size, 2, none⟩ x2).setCell ⟨xw.heap.size, 3, none⟩ x3).setCell ⟨xw.heap.size, 4, none⟩ x4).cell? ⟨w.heap.size + 1, 0, none⟩ = some (.int .i64 l) ∧ (((((W'.setCell ⟨xw.heap.size, 0, none⟩ x0).setCell ⟨xw.heap.size, 1, none⟩ x1).setCell ⟨xw.heap.size, 2, none⟩ x2).setCell ⟨xw.heap.size, 3, none⟩ x3).setCell ⟨xw.heap.size, 4, none⟩ x4).cell? ⟨w.heap.size + 1, 1, none⟩ = some (.bool d) ∧ (((((W'.setCell ⟨xw.heap.size, 0, none⟩ x0).setCell ⟨xw.heap.size, 1, none⟩ x1).setCell ⟨xw.heap.size, 2, none⟩ x2).setCell ⟨xw.heap.size, 3, none⟩ x3).setCell ⟨xw.heap.size, 4, none⟩ x4).cell? ⟨w.heap.size + 1, 2, none⟩ = some (.bool i) ∧ (((((W'.setCell ⟨xw.heap.size, 0, none⟩ x0).setCell ⟨xw.heap.size, 1, none⟩ x1).setCell ⟨xw.heap.size, 2, none⟩ x2).setCell ⟨xw.heap.size, 3, none⟩ x3).setCell ⟨xw.heap.size, 4, none⟩ x4).cell? ⟨w.heap.size + 1, 3, none⟩ = some (.bool g) ∧ (((((W'.setCell ⟨xw.heap.size, 0, none⟩ x0).setCell ⟨xw.heap.size, 1, none⟩ x1).setCell ⟨xw.heap.size, 2, none⟩ x2).setCell ⟨xw.heap.size, 3, none⟩ x3).setCell ⟨xw.heap.size, 4, none⟩ x4).cell? ⟨w.heap.size + 1, 4, none⟩ = some (.bool s) from fun W' x0 x1 x2 x3 x4 hb => by
    have h := ((show KP xw.drew _ _ _ _ _ _ _ _ _ _ _ from K.out).keep hb (show _ < xw.heap.size by omega)).putF (x := xw.heap.size) (by omega) x0 x1 x2 x3 x4
    exact ⟨h.1.get (i := 0) rfl, h.1.get (i := 1) rfl, h.1.get (i := 2) rfl, h.1.get (i := 3) rfl, h.1.get (i := 4) rfl, h.2.1.get (i := 0) rfl, h.2.1.get (i := 1) rfl, h.2.1.get (i := 2) rfl, h.2.1.get (i := 3) rfl, h.2.1.get (i := 4) rfl⟩)
  have TX := Lib.hid (Has.made xw 28 #[.int .i64 0, .bool false, .bool false, .bool false, .bool false])
  have hXs : (xw.alloc (.cells #[.int .i64 0, .bool false, .bool false, .bool false, .bool false] 28)).heap.size = xw.heap.size + 1 := by simp
  clear n0 n1 n2 n3 n4 p0 p1 p2 p3 p4 r0 r1 r2 r3 r4 f0 f1 f2 f3 f4 hz
  go_region_held3 (fun W => W.cell? ⟨w.heap.size, 0, none⟩ = some (.int .i64 6) ∧ W.cell? ⟨w.heap.size, 1, none⟩ = some (.int .i64 o) ∧ W.cell? ⟨w.heap.size, 2, none⟩ = some (.string t) ∧ W.cell? ⟨w.heap.size, 3, none⟩ = some (.string u) ∧ W.cell? ⟨w.heap.size, 4, none⟩ = some (.slice A n c) ∧ W.cell? ⟨w.heap.size + 1, 0, none⟩ = some (.int .i64 l) ∧ W.cell? ⟨w.heap.size + 1, 1, none⟩ = some (.bool d) ∧ W.cell? ⟨w.heap.size + 1, 2, none⟩ = some (.bool i) ∧ W.cell? ⟨w.heap.size + 1, 3, none⟩ = some (.bool g) ∧ W.cell? ⟨w.heap.size + 1, 4, none⟩ = some (.bool s)) (first | (with_reducible (exact hkH.out _ bacc)) | (with_reducible (exact hkH.out _ bal)) | (with_reducible (exact hP1.out _ _ _ _ _ _ bacc)) | (with_reducible (exact hkH.out _ (bacc.alloc bacc.size _))) | exact hkH.out _ bacc) (first
    | ((go_at_call 24; refine (i_kidLevel 6 o t u A n c k _ (by omega)).mono ?_; rintro e x4 ⟨rfl, hb⟩; rw [hkl.out]; first
      | (have bacc := Below.trans bacc (hb.mono bacc.size); clear hb)
      | (have T4 := Lib.hid ((show Has (xw.alloc (.cells #[.int .i64 0, .bool false, .bool false, .bool false, .bool false] 28)).drew xw.heap.size _ _ from TX.out).below hb (show _ < (xw.alloc (.cells #[.int .i64 0, .bool false, .bool false, .bool false, .bool false] 28)).heap.size by omega)); have bacc := Below.trans bal (hb.mono bal.size); clear hb; have y0 := T4.out.get (i := 0) rfl; have y1 := T4.out.get (i := 1) rfl; have y2 := T4.out.get (i := 2) rfl; have y3 := T4.out.get (i := 3) rfl; have y4 := T4.out.get (i := 4) rfl; have q0 := T4.out.free 0; have q1 := T4.out.free 1; have q2 := T4.out.free 2; have q3 := T4.out.free 3; have q4 := T4.out.free 4; have ht4 := T4.out.lt))))
  · have hb4 : Below xw.heap.size xw x4 := ⟨bacc.os, bacc.tape, bacc.output, bacc.size, bacc.block⟩
    have hx4 : w.heap.size + 3 ≤ x4.heap.size := Nat.le_trans z.out hb4.size
    have T := Lib.hid (Has.made x4 28 #[.int .i64 LV, .bool true, .bool i, .bool g, .bool false])
    have K := Lib.hid ((K.out.keep hb4 (by omega)).keep ((Below.refl x4.heap.size x4).alloc (Nat.le_refl _) (.cells #[.int .i64 LV, .bool true, .bool i, .bool g, .bool false] 28)) (by omega))
    have B := Lib.hid ((B.out.trans (hb4.mono B.out.size)).alloc (Nat.le_trans B.out.size hb4.size) (.cells #[.int .i64 LV, .bool true, .bool i, .bool g, .bool false] 28))
    obtain ⟨W5, hW5⟩ : ∃ W, x4.alloc (.cells #[.int .i64 LV, .bool true, .bool i, .bool g, .bool false] 28) = W := ⟨_, rfl⟩
    rw [hW5] at T K B ⊢
    clear hW5 bacc bal hkH hP1 hb4
    have n0 := K.out.1.get (i := 0) rfl
    have n1 := K.out.1.get (i := 1) rfl
    have n2 := K.out.1.get (i := 2) rfl
    have n3 := K.out.1.get (i := 3) rfl
    have n4 := K.out.1.get (i := 4) rfl
    have p0 := K.out.2.1.get (i := 0) rfl
    have p1 := K.out.2.1.get (i := 1) rfl
    have p2 := K.out.2.1.get (i := 2) rfl
    have p3 := K.out.2.1.get (i := 3) rfl
    have p4 := K.out.2.1.get (i := 4) rfl
    have r0 := K.out.2.2.get (i := 0) rfl
    have r1 := K.out.2.2.get (i := 1) rfl
    have r2 := K.out.2.2.get (i := 2) rfl
    have r3 := K.out.2.2.get (i := 3) rfl
    have r4 := K.out.2.2.get (i := 4) rfl
    have f0 := K.out.2.2.free 0
    have f1 := K.out.2.2.free 1
    have f2 := K.out.2.2.free 2
    have f3 := K.out.2.2.free 3
    have f4 := K.out.2.2.free 4
    have t0 := T.out.get (i := 0) rfl
    have t1 := T.out.get (i := 1) rfl
    have t2 := T.out.get (i := 2) rfl
    have t3 := T.out.get (i := 3) rfl
    have t4 := T.out.get (i := 4) rfl
    have g4 := T.out.free 4
    have hlt5 := T.out.lt
    go_wp2_with fail
    exact bodyPost_ret (v := posV ⟨LV, true, i, g, false⟩) (by simp [results, Try.results14, go_sem, posV, r0, r1, r2, r3, r4, t0, t1, t2, t3, t4]) rfl (posV_eq HEQ.out (below_putF B.out (by omega) _ _ _ _ _))
  · have hb4 : Below xw.heap.size xw x4 := ⟨bacc.os, bacc.tape, bacc.output, bacc.size, bacc.block⟩
    have hx4 : w.heap.size + 3 ≤ x4.heap.size := Nat.le_trans z.out hb4.size
    have T := Lib.hid (show Has (((((x4.setCell ⟨xw.heap.size, 0, none⟩ (.int .i64 LV)).setCell ⟨xw.heap.size, 1, none⟩ (.bool true)).setCell ⟨xw.heap.size, 2, none⟩ (.bool i)).setCell ⟨xw.heap.size, 3, none⟩ (.bool g)).setCell ⟨xw.heap.size, 4, none⟩ (.bool false)) xw.heap.size _ _ from T4.out.putF (.int .i64 LV) (.bool true) (.bool i) (.bool g) (.bool false))
    have K := Lib.hid (show KP (((((x4.setCell ⟨xw.heap.size, 0, none⟩ (.int .i64 LV)).setCell ⟨xw.heap.size, 1, none⟩ (.bool true)).setCell ⟨xw.heap.size, 2, none⟩ (.bool i)).setCell ⟨xw.heap.size, 3, none⟩ (.bool g)).setCell ⟨xw.heap.size, 4, none⟩ (.bool false)) _ _ _ _ _ _ _ _ _ _ _ from (K.out.keep hb4 (by omega)).putF (x := xw.heap.size) (by omega) (.int .i64 LV) (.bool true) (.bool i) (.bool g) (.bool false))
    have B := Lib.hid (show Below w.heap.size w (((((x4.setCell ⟨xw.heap.size, 0, none⟩ (.int .i64 LV)).setCell ⟨xw.heap.size, 1, none⟩ (.bool true)).setCell ⟨xw.heap.size, 2, none⟩ (.bool i)).setCell ⟨xw.heap.size, 3, none⟩ (.bool g)).setCell ⟨xw.heap.size, 4, none⟩ (.bool false)) from below_putF (B.out.trans (hb4.mono B.out.size)) (show w.heap.size ≤ xw.heap.size from B.out.size) _ _ _ _ _)
    obtain ⟨W5, hW5⟩ : ∃ W, (((((x4.setCell ⟨xw.heap.size, 0, none⟩ (.int .i64 LV)).setCell ⟨xw.heap.size, 1, none⟩ (.bool true)).setCell ⟨xw.heap.size, 2, none⟩ (.bool i)).setCell ⟨xw.heap.size, 3, none⟩ (.bool g)).setCell ⟨xw.heap.size, 4, none⟩ (.bool false)) = W := ⟨_, rfl⟩
    rw [hW5] at T K B ⊢
    clear hW5 bacc bal hkH hP1 hb4 y0 y1 y2 y3 y4 q0 q1 q2 q3 q4 T4
    have n0 := K.out.1.get (i := 0) rfl
    have n1 := K.out.1.get (i := 1) rfl
    have n2 := K.out.1.get (i := 2) rfl
    have n3 := K.out.1.get (i := 3) rfl
    have n4 := K.out.1.get (i := 4) rfl
    have p0 := K.out.2.1.get (i := 0) rfl
    have p1 := K.out.2.1.get (i := 1) rfl
    have p2 := K.out.2.1.get (i := 2) rfl
    have p3 := K.out.2.1.get (i := 3) rfl
    have p4 := K.out.2.1.get (i := 4) rfl
    have r0 := K.out.2.2.get (i := 0) rfl
    have r1 := K.out.2.2.get (i := 1) rfl
    have r2 := K.out.2.2.get (i := 2) rfl
    have r3 := K.out.2.2.get (i := 3) rfl
    have r4 := K.out.2.2.get (i := 4) rfl
    have f0 := K.out.2.2.free 0
    have f1 := K.out.2.2.free 1
    have f2 := K.out.2.2.free 2
    have f3 := K.out.2.2.free 3
    have f4 := K.out.2.2.free 4
    have t0 := T.out.get (i := 0) rfl
    have t1 := T.out.get (i := 1) rfl
    have t2 := T.out.get (i := 2) rfl
    have t3 := T.out.get (i := 3) rfl
    have t4 := T.out.get (i := 4) rfl
    have g4 := T.out.free 4
    have hlt5 := T.out.lt
    go_wp2_with fail
    exact bodyPost_ret (v := posV ⟨LV, true, i, g, false⟩) (by simp [results, Try.results14, go_sem, posV, r0, r1, r2, r3, r4, t0, t1, t2, t3, t4]) rfl (posV_eq HEQ.out (below_putF B.out (by omega) _ _ _ _ _))
theorem i_kidPos (kd : Int) (o : Int) (t u : ByteArray) (A : Option Addr) (n c k : Nat) (l : Int) (d i g s : Bool) (w : World) (hn : n ≤ 8) (h2 : kd = 12 → n ≤ 2) : Calls Try.prog 14 #[.agg #[.int .i64 kd, .int .i64 o, .string t, .string u, .slice A n c], .int .i64 (k : Int), .agg #[.int .i64 l, .bool d, .bool i, .bool g, .bool s]] w (RetPosV w (kidP kd o n k ⟨l, d, i, g, s⟩)) := by
  unfold kidP
  cases hb : kidPosB kd o n k ⟨l, d, i, g, s⟩
  · rw [if_neg (by decide)]
    exact i_kidPos_no kd o t u A n c k l d i g s w hn hb
  rw [if_pos rfl]
  unfold kidPosB at hb
  simp only [Bool.and_eq_true, decide_eq_true_eq, Bool.not_eq_true', beq_eq_false_iff_ne] at hb
  obtain ⟨⟨hpo, hkn⟩, hlv⟩ := hb
  by_cases h15 : levelOf kd o = 15
  · have e : kidQ kd o n k ⟨l, d, i, g, s⟩ = topP := by unfold kidQ; rw [if_pos (.inr h15)]
    rw [e]
    exact i_kidPos_top kd o t u A n c k l d i g s w hn hkn hpo h15
  have hkd : kd = 15 ∨ kd = 14 ∨ kd = 13 ∨ kd = 12 ∨ kd = 11 ∨ kd = 9 ∨ kd = 10 ∨ kd = 6 := by
    unfold levelOf at hlv h15
    omega
  rcases hkd with rfl | rfl | rfl | rfl | rfl | rfl | rfl | rfl
  · rcases (show k = 0 ∨ k = 1 ∨ 2 ≤ k by omega) with hk0 | hk0 | hk0
    · cases s
      · exact i_kidPos_15_0f o t u A n c k l d i g w hn hkn hpo hk0
      · exact i_kidPos_15_0t o t u A n c k l d i g w hn hkn hpo hk0
    · exact i_kidPos_15_1 o t u A n c k l d i g s w hn hkn hpo hk0
    · exact i_kidPos_15_2 o t u A n c k l d i g s w hn hkn hpo hk0
  · rcases (show k = 0 ∨ k = 1 ∨ 2 ≤ k by omega) with hk0 | hk0 | hk0
    · cases s
      · exact i_kidPos_14_0f o t u A n c k l d i g w hn hkn hpo hk0
      · exact i_kidPos_14_0t o t u A n c k l d i g w hn hkn hpo hk0
    · exact i_kidPos_14_1 o t u A n c k l d i g s w hn hkn hpo hk0
    · exact i_kidPos_14_2 o t u A n c k l d i g s w hn hkn hpo hk0
  · by_cases hn1 : 1 < n
    · have e : kidQ 13 o n k ⟨l, d, i, g, s⟩ = topP := by unfold kidQ; rw [if_pos (.inl ⟨rfl, hn1⟩)]
      rw [e]
      exact i_kidPos_in o t u A n c k l d i g s w hn hkn hpo hn1
    · cases s
      · exact i_kidPos_13_0f o t u A n c k l d i g w hn hkn hpo (by omega) (by omega)
      · exact i_kidPos_13_0t o t u A n c k l d i g w hn hkn hpo (by omega) (by omega)
  · have h2 := h2 rfl
    rcases (show k = 0 ∨ k = 1 by omega) with hk0 | hk0
    · cases s
      · exact i_kidPos_12_0f o t u A n c k l d i g w hn hkn hpo hlv h15 hk0
      · exact i_kidPos_12_0t o t u A n c k l d i g w hn hkn hpo hlv h15 hk0
    · exact i_kidPos_12_1 o t u A n c k l d i g s w hn hkn hpo hlv h15 hk0
  · exact i_kidPos_11 o t u A n c k l d i g s w hn hkn hpo
  · exact i_kidPos_9 o t u A n c k l d i g s w hn hkn hpo
  · exact i_kidPos_10 o t u A n c k l d i g s w hn hkn hpo
  · exact i_kidPos_6 o t u A n c k l d i g s w hn hkn hpo
end Go.Proofs.Ytlabmboedjnpmaa
