/- KidPos of the reference (walks; printed by gen_kidpos2.py). -/
import Derived.Test.YtlabmboedjnpmaaKidPosI
import Derived.Deep.RegionHeld3
namespace Go.Proofs.Ytlabmboedjnpmaa
open Go.RowKit
set_option linter.unusedVariables false
set_option linter.unusedSimpArgs false
set_option maxRecDepth 100000 in
set_option maxHeartbeats 4000000 in
theorem s_kidPos_no (kd : Int) (o : Int) (t u : ByteArray) (A : Option Addr) (n c k : Nat) (l : Int) (d i g s : Bool) (w : World) (hn : n ≤ 8) (hb : kidPosB kd o n k ⟨l, d, i, g, s⟩ = false) : Calls Try.prog 15 #[.agg #[.int .i64 kd, .int .i64 o, .string t, .string u, .slice A n c], .int .i64 (k : Int), .agg #[.int .i64 l, .bool d, .bool i, .bool g, .bool s]] w (RetPosV w ⟨0, false, false, false, false⟩) := by
  have K0 := Lib.hid (KP.made w kd o t u (.slice A n c) l d i g s)
  have B0 := Lib.hid (kpW_below w kd o t u (.slice A n c) l d i g s)
  have z0 := Lib.hid (show w.heap.size + 3 ≤ (kpW w kd o t u (.slice A n c) l d i g s).heap.size by rw [kpW_size]; exact Nat.le_refl _)
  unfold kpW at K0 B0 z0
  unfold kidPosB at hb
  dsimp only at hb
  cases hpo1 : posOk l d
  · have hpo := Lib.hid hpo1
    clear hpo1 hb
    go_enter Try.func15, Try.ntmps15
    go_wp2_with (go_at_call 16; refine (s_posOk l d i g s _).mono ?_; rintro e x1 ⟨rfl, hb1⟩; rw [hpo.out]; have K1 := Lib.hid (K0.out.keep hb1 (by have := z0.out; omega)); have B1 := Lib.hid (B0.out.trans (hb1.mono B0.out.size)); have z1 := Lib.hid (Nat.le_trans z0.out hb1.size); clear hb1; have n0 := K1.out.1.get (i := 0) rfl; have n1 := K1.out.1.get (i := 1) rfl; have n2 := K1.out.1.get (i := 2) rfl; have n3 := K1.out.1.get (i := 3) rfl; have n4 := K1.out.1.get (i := 4) rfl; have p0 := K1.out.2.1.get (i := 0) rfl; have p1 := K1.out.2.1.get (i := 1) rfl; have p2 := K1.out.2.1.get (i := 2) rfl; have p3 := K1.out.2.1.get (i := 3) rfl; have p4 := K1.out.2.1.get (i := 4) rfl; have r0 := K1.out.2.2.get (i := 0) rfl; have r1 := K1.out.2.2.get (i := 1) rfl; have r2 := K1.out.2.2.get (i := 2) rfl; have r3 := K1.out.2.2.get (i := 3) rfl; have r4 := K1.out.2.2.get (i := 4) rfl; have f0 := K1.out.2.2.free 0; have f1 := K1.out.2.2.free 1; have f2 := K1.out.2.2.free 2; have f3 := K1.out.2.2.free 3; have f4 := K1.out.2.2.free 4; have hz1 := z1.out)
    exact bodyPost_ret (v := posV ⟨0, false, false, false, false⟩) (by simp [results, Try.results15, go_sem, posV, r0, r1, r2, r3, r4]) rfl (posV_eq rfl (below_putF B1.out (by omega) _ _ _ _ _))
  · have hpo := Lib.hid hpo1
    rw [hpo1, Bool.true_and] at hb
    clear hpo1
    by_cases hkn : k < n
    · have hin := Lib.hid (show inB (k : Int) 0 ((n : Int) - 1) = true by unfold inB; simp; omega)
      have hL := Lib.hid (show levelOf kd o = 0 by simpa [hkn] using hb)
      clear hb
      go_enter Try.func15, Try.ntmps15
      go_wp2_with (first
      | (go_at_call 16; refine (s_posOk l d i g s _).mono ?_; rintro e x1 ⟨rfl, hb1⟩; rw [hpo.out]; have K1 := Lib.hid (K0.out.keep hb1 (by have := z0.out; omega)); have B1 := Lib.hid (B0.out.trans (hb1.mono B0.out.size)); have z1 := Lib.hid (Nat.le_trans z0.out hb1.size); clear hb1; have n0 := K1.out.1.get (i := 0) rfl; have n1 := K1.out.1.get (i := 1) rfl; have n2 := K1.out.1.get (i := 2) rfl; have n3 := K1.out.1.get (i := 3) rfl; have n4 := K1.out.1.get (i := 4) rfl; have p0 := K1.out.2.1.get (i := 0) rfl; have p1 := K1.out.2.1.get (i := 1) rfl; have p2 := K1.out.2.1.get (i := 2) rfl; have p3 := K1.out.2.1.get (i := 3) rfl; have p4 := K1.out.2.1.get (i := 4) rfl; have r0 := K1.out.2.2.get (i := 0) rfl; have r1 := K1.out.2.2.get (i := 1) rfl; have r2 := K1.out.2.2.get (i := 2) rfl; have r3 := K1.out.2.2.get (i := 3) rfl; have r4 := K1.out.2.2.get (i := 4) rfl; have f0 := K1.out.2.2.free 0; have f1 := K1.out.2.2.free 1; have f2 := K1.out.2.2.free 2; have f3 := K1.out.2.2.free 3; have f4 := K1.out.2.2.free 4; have hz1 := z1.out)
      | (go_at_call 25; refine (s_l1In _ _ _ _).mono ?_; rintro e w' ⟨rfl, rfl⟩; rw [hin.out])
      | (go_at_call 17; refine (s_levelOf kd o t u A n c _).mono ?_; rintro e x2 ⟨rfl, hb2⟩; rw [hL.out]; clear n0 n1 n2 n3 n4 p0 p1 p2 p3 p4 r0 r1 r2 r3 r4 f0 f1 f2 f3 f4; have K2 := Lib.hid (K1.out.keep hb2 (by have := z1.out; omega)); have B2 := Lib.hid (B1.out.trans (hb2.mono B1.out.size)); have z2 := Lib.hid (Nat.le_trans z1.out hb2.size); clear hb2; have n0 := K2.out.1.get (i := 0) rfl; have n1 := K2.out.1.get (i := 1) rfl; have n2 := K2.out.1.get (i := 2) rfl; have n3 := K2.out.1.get (i := 3) rfl; have n4 := K2.out.1.get (i := 4) rfl; have p0 := K2.out.2.1.get (i := 0) rfl; have p1 := K2.out.2.1.get (i := 1) rfl; have p2 := K2.out.2.1.get (i := 2) rfl; have p3 := K2.out.2.1.get (i := 3) rfl; have p4 := K2.out.2.1.get (i := 4) rfl; have r0 := K2.out.2.2.get (i := 0) rfl; have r1 := K2.out.2.2.get (i := 1) rfl; have r2 := K2.out.2.2.get (i := 2) rfl; have r3 := K2.out.2.2.get (i := 3) rfl; have r4 := K2.out.2.2.get (i := 4) rfl; have f0 := K2.out.2.2.free 0; have f1 := K2.out.2.2.free 1; have f2 := K2.out.2.2.free 2; have f3 := K2.out.2.2.free 3; have f4 := K2.out.2.2.free 4; have hz2 := z2.out))
      exact bodyPost_ret (v := posV ⟨0, false, false, false, false⟩) (by simp [results, Try.results15, go_sem, posV, r0, r1, r2, r3, r4]) rfl (posV_eq rfl (below_putF B2.out (by omega) _ _ _ _ _))
    · have hin := Lib.hid (show inB (k : Int) 0 ((n : Int) - 1) = false by unfold inB; simp; omega)
      clear hb
      go_enter Try.func15, Try.ntmps15
      go_wp2_with (first
        | (go_at_call 16; refine (s_posOk l d i g s _).mono ?_; rintro e x1 ⟨rfl, hb1⟩; rw [hpo.out]; have K1 := Lib.hid (K0.out.keep hb1 (by have := z0.out; omega)); have B1 := Lib.hid (B0.out.trans (hb1.mono B0.out.size)); have z1 := Lib.hid (Nat.le_trans z0.out hb1.size); clear hb1; have n0 := K1.out.1.get (i := 0) rfl; have n1 := K1.out.1.get (i := 1) rfl; have n2 := K1.out.1.get (i := 2) rfl; have n3 := K1.out.1.get (i := 3) rfl; have n4 := K1.out.1.get (i := 4) rfl; have p0 := K1.out.2.1.get (i := 0) rfl; have p1 := K1.out.2.1.get (i := 1) rfl; have p2 := K1.out.2.1.get (i := 2) rfl; have p3 := K1.out.2.1.get (i := 3) rfl; have p4 := K1.out.2.1.get (i := 4) rfl; have r0 := K1.out.2.2.get (i := 0) rfl; have r1 := K1.out.2.2.get (i := 1) rfl; have r2 := K1.out.2.2.get (i := 2) rfl; have r3 := K1.out.2.2.get (i := 3) rfl; have r4 := K1.out.2.2.get (i := 4) rfl; have f0 := K1.out.2.2.free 0; have f1 := K1.out.2.2.free 1; have f2 := K1.out.2.2.free 2; have f3 := K1.out.2.2.free 3; have f4 := K1.out.2.2.free 4; have hz1 := z1.out)
        | (go_at_call 25; refine (s_l1In _ _ _ _).mono ?_; rintro e w' ⟨rfl, rfl⟩; rw [hin.out]))
      exact bodyPost_ret (v := posV ⟨0, false, false, false, false⟩) (by simp [results, Try.results15, go_sem, posV, r0, r1, r2, r3, r4]) rfl (posV_eq rfl (below_putF B1.out (by omega) _ _ _ _ _))
theorem kid_op {o : Int} : opLevel o ≤ 12 := by
  unfold opLevel
  repeat' split
  all_goals omega
set_option maxRecDepth 100000 in
set_option maxHeartbeats 4000000 in
theorem s_kidPos_top (kd : Int) (o : Int) (t u : ByteArray) (A : Option Addr) (n c k : Nat) (l : Int) (d i g s : Bool) (w : World) (hn : n ≤ 8) (hkn : k < n) (hpo : posOk l d = true) (hL : levelOf kd o = 15) : Calls Try.prog 15 #[.agg #[.int .i64 kd, .int .i64 o, .string t, .string u, .slice A n c], .int .i64 (k : Int), .agg #[.int .i64 l, .bool d, .bool i, .bool g, .bool s]] w (RetPosV w topP) := by
  have K := Lib.hid (KP.made w kd o t u (.slice A n c) l d i g s)
  have B := Lib.hid (kpW_below w kd o t u (.slice A n c) l d i g s)
  have z := Lib.hid (show w.heap.size + 3 ≤ (kpW w kd o t u (.slice A n c) l d i g s).heap.size by rw [kpW_size]; exact Nat.le_refl _)
  unfold kpW at K B z
  have n0 := K.out.1.get (i := 0) rfl
  have n1 := K.out.1.get (i := 1) rfl
  have n2 := K.out.1.get (i := 2) rfl
  have n3 := K.out.1.get (i := 3) rfl
  have n4 := K.out.1.get (i := 4) rfl
  have p0 := K.out.2.1.get (i := 0) rfl
  have p1 := K.out.2.1.get (i := 1) rfl
  have p2 := K.out.2.1.get (i := 2) rfl
  have p3 := K.out.2.1.get (i := 3) rfl
  have p4 := K.out.2.1.get (i := 4) rfl
  have r0 := K.out.2.2.get (i := 0) rfl
  have r1 := K.out.2.2.get (i := 1) rfl
  have r2 := K.out.2.2.get (i := 2) rfl
  have r3 := K.out.2.2.get (i := 3) rfl
  have r4 := K.out.2.2.get (i := 4) rfl
  have f0 := K.out.2.2.free 0
  have f1 := K.out.2.2.free 1
  have f2 := K.out.2.2.free 2
  have f3 := K.out.2.2.free 3
  have f4 := K.out.2.2.free 4
  have hin := Lib.hid (show inB (k : Int) 0 ((n : Int) - 1) = true by unfold inB; simp; omega)
  have hpo := Lib.hid hpo
  have hkd : kd ≠ 15 ∧ kd ≠ 14 ∧ kd ≠ 13 ∧ kd ≠ 12 ∧ kd ≠ 11 ∧ kd ≠ 9 ∧ kd ≠ 10 ∧ kd ≠ 6 := by
    have hop := kid_op (o := o)
    unfold levelOf at hL
    refine ⟨?_, ?_, ?_, ?_, ?_, ?_, ?_, ?_⟩ <;> rintro rfl <;> simp at hL <;> omega
  have c15 : (kd == 15) = false := by simpa using hkd.1
  have c14 : (kd == 14) = false := by simpa using hkd.2.1
  have c13 : (kd == 13) = false := by simpa using hkd.2.2.1
  have c12 : (kd == 12) = false := by simpa using hkd.2.2.2.1
  have c11 : (kd == 11) = false := by simpa using hkd.2.2.2.2.1
  have c9 : (kd == 9) = false := by simpa using hkd.2.2.2.2.2.1
  have c10 : (kd == 10) = false := by simpa using hkd.2.2.2.2.2.2.1
  have c6 : (kd == 6) = false := by simpa using hkd.2.2.2.2.2.2.2
  have hL := Lib.hid hL
  clear hkd
  cases s
  all_goals
    go_enter Try.func15, Try.ntmps15
    go_wp2_with (first
      | (go_at_call 16; refine (s_posOk l d i g _ _).mono ?_; rintro e xw ⟨rfl, hb⟩; rw [hpo.out]; clear n0 n1 n2 n3 n4 p0 p1 p2 p3 p4 r0 r1 r2 r3 r4 f0 f1 f2 f3 f4; have K := Lib.hid (K.out.keep hb (by have := z.out; omega)); have B := Lib.hid (B.out.trans (hb.mono B.out.size)); have z := Lib.hid (Nat.le_trans z.out hb.size); clear hb; have n0 := K.out.1.get (i := 0) rfl; have n1 := K.out.1.get (i := 1) rfl; have n2 := K.out.1.get (i := 2) rfl; have n3 := K.out.1.get (i := 3) rfl; have n4 := K.out.1.get (i := 4) rfl; have p0 := K.out.2.1.get (i := 0) rfl; have p1 := K.out.2.1.get (i := 1) rfl; have p2 := K.out.2.1.get (i := 2) rfl; have p3 := K.out.2.1.get (i := 3) rfl; have p4 := K.out.2.1.get (i := 4) rfl; have r0 := K.out.2.2.get (i := 0) rfl; have r1 := K.out.2.2.get (i := 1) rfl; have r2 := K.out.2.2.get (i := 2) rfl; have r3 := K.out.2.2.get (i := 3) rfl; have r4 := K.out.2.2.get (i := 4) rfl; have f0 := K.out.2.2.free 0; have f1 := K.out.2.2.free 1; have f2 := K.out.2.2.free 2; have f3 := K.out.2.2.free 3; have f4 := K.out.2.2.free 4; have hz := z.out; have hz1 : w.heap.size < xw.heap.size := (by omega); have hz2 : w.heap.size + 1 < xw.heap.size := (by omega); have hz3 : w.heap.size + 1 + 1 < xw.heap.size := (by omega))
      | (go_at_call 25; refine (s_l1In _ _ _ _).mono ?_; rintro e w' ⟨rfl, rfl⟩; rw [hin.out])
      | (go_at_call 17; refine (s_levelOf kd o t u A n c _).mono ?_; rintro e xw ⟨rfl, hb⟩; rw [hL.out]; clear n0 n1 n2 n3 n4 p0 p1 p2 p3 p4 r0 r1 r2 r3 r4 f0 f1 f2 f3 f4; have K := Lib.hid (K.out.keep hb (by have := z.out; omega)); have B := Lib.hid (B.out.trans (hb.mono B.out.size)); have z := Lib.hid (Nat.le_trans z.out hb.size); clear hb; have n0 := K.out.1.get (i := 0) rfl; have n1 := K.out.1.get (i := 1) rfl; have n2 := K.out.1.get (i := 2) rfl; have n3 := K.out.1.get (i := 3) rfl; have n4 := K.out.1.get (i := 4) rfl; have p0 := K.out.2.1.get (i := 0) rfl; have p1 := K.out.2.1.get (i := 1) rfl; have p2 := K.out.2.1.get (i := 2) rfl; have p3 := K.out.2.1.get (i := 3) rfl; have p4 := K.out.2.1.get (i := 4) rfl; have r0 := K.out.2.2.get (i := 0) rfl; have r1 := K.out.2.2.get (i := 1) rfl; have r2 := K.out.2.2.get (i := 2) rfl; have r3 := K.out.2.2.get (i := 3) rfl; have r4 := K.out.2.2.get (i := 4) rfl; have f0 := K.out.2.2.free 0; have f1 := K.out.2.2.free 1; have f2 := K.out.2.2.free 2; have f3 := K.out.2.2.free 3; have f4 := K.out.2.2.free 4; have hz := z.out; have hz1 : w.heap.size < xw.heap.size := (by omega); have hz2 : w.heap.size + 1 < xw.heap.size := (by omega); have hz3 : w.heap.size + 1 + 1 < xw.heap.size := (by omega))
      | (go_at_call 26; refine (s_top _).mono ?_; rintro e xt ⟨rfl, hb⟩; have hb2 := Below.trans (Below.alloc (Below.refl xw.heap.size xw) (Nat.le_refl _) _) (hb.mono (by simp)); clear hb; clear n0 n1 n2 n3 n4 p0 p1 p2 p3 p4 r0 r1 r2 r3 r4 f0 f1 f2 f3 f4; have K := Lib.hid (K.out.keep hb2 (by have := z.out; omega)); have B := Lib.hid (B.out.trans (hb2.mono B.out.size)); have z := Lib.hid (Nat.le_trans z.out hb2.size); clear hb2; have n0 := K.out.1.get (i := 0) rfl; have n1 := K.out.1.get (i := 1) rfl; have n2 := K.out.1.get (i := 2) rfl; have n3 := K.out.1.get (i := 3) rfl; have n4 := K.out.1.get (i := 4) rfl; have p0 := K.out.2.1.get (i := 0) rfl; have p1 := K.out.2.1.get (i := 1) rfl; have p2 := K.out.2.1.get (i := 2) rfl; have p3 := K.out.2.1.get (i := 3) rfl; have p4 := K.out.2.1.get (i := 4) rfl; have r0 := K.out.2.2.get (i := 0) rfl; have r1 := K.out.2.2.get (i := 1) rfl; have r2 := K.out.2.2.get (i := 2) rfl; have r3 := K.out.2.2.get (i := 3) rfl; have r4 := K.out.2.2.get (i := 4) rfl; have f0 := K.out.2.2.free 0; have f1 := K.out.2.2.free 1; have f2 := K.out.2.2.free 2; have f3 := K.out.2.2.free 3; have f4 := K.out.2.2.free 4; have hz := z.out; have hz1 : w.heap.size < xt.heap.size := (by omega); have hz2 : w.heap.size + 1 < xt.heap.size := (by omega); have hz3 : w.heap.size + 1 + 1 < xt.heap.size := (by omega)))
    exact bodyPost_ret (v := posV topP) (by simp [results, Try.results15, go_sem, posV, topP, r0, r1, r2, r3, r4]) rfl (posV_eq rfl (below_putF B.out (by omega) _ _ _ _ _))
set_option maxRecDepth 100000 in
set_option maxHeartbeats 4000000 in
theorem s_kidPos_in (o : Int) (t u : ByteArray) (A : Option Addr) (n c k : Nat) (l : Int) (d i g s : Bool) (w : World) (hn : n ≤ 8) (hkn : k < n) (hpo : posOk l d = true) (hn1 : 1 < n) : Calls Try.prog 15 #[.agg #[.int .i64 13, .int .i64 o, .string t, .string u, .slice A n c], .int .i64 (k : Int), .agg #[.int .i64 l, .bool d, .bool i, .bool g, .bool s]] w (RetPosV w topP) := by
  have K := Lib.hid (KP.made w 13 o t u (.slice A n c) l d i g s)
  have B := Lib.hid (kpW_below w 13 o t u (.slice A n c) l d i g s)
  have z := Lib.hid (show w.heap.size + 3 ≤ (kpW w 13 o t u (.slice A n c) l d i g s).heap.size by rw [kpW_size]; exact Nat.le_refl _)
  unfold kpW at K B z
  have n0 := K.out.1.get (i := 0) rfl
  have n1 := K.out.1.get (i := 1) rfl
  have n2 := K.out.1.get (i := 2) rfl
  have n3 := K.out.1.get (i := 3) rfl
  have n4 := K.out.1.get (i := 4) rfl
  have p0 := K.out.2.1.get (i := 0) rfl
  have p1 := K.out.2.1.get (i := 1) rfl
  have p2 := K.out.2.1.get (i := 2) rfl
  have p3 := K.out.2.1.get (i := 3) rfl
  have p4 := K.out.2.1.get (i := 4) rfl
  have r0 := K.out.2.2.get (i := 0) rfl
  have r1 := K.out.2.2.get (i := 1) rfl
  have r2 := K.out.2.2.get (i := 2) rfl
  have r3 := K.out.2.2.get (i := 3) rfl
  have r4 := K.out.2.2.get (i := 4) rfl
  have f0 := K.out.2.2.free 0
  have f1 := K.out.2.2.free 1
  have f2 := K.out.2.2.free 2
  have f3 := K.out.2.2.free 3
  have f4 := K.out.2.2.free 4
  have hin := Lib.hid (show inB (k : Int) 0 ((n : Int) - 1) = true by unfold inB; simp; omega)
  have hpo := Lib.hid hpo
  have hL := Lib.hid (show levelOf 13 o = 5 from rfl)
  have hgt : decide (1 < (n : Int)) = true := by simp; omega
  cases s
  all_goals
    go_enter Try.func15, Try.ntmps15
    go_wp2_with (first
      | (go_at_call 16; refine (s_posOk l d i g _ _).mono ?_; rintro e xw ⟨rfl, hb⟩; rw [hpo.out]; clear n0 n1 n2 n3 n4 p0 p1 p2 p3 p4 r0 r1 r2 r3 r4 f0 f1 f2 f3 f4; have K := Lib.hid (K.out.keep hb (by have := z.out; omega)); have B := Lib.hid (B.out.trans (hb.mono B.out.size)); have z := Lib.hid (Nat.le_trans z.out hb.size); clear hb; have n0 := K.out.1.get (i := 0) rfl; have n1 := K.out.1.get (i := 1) rfl; have n2 := K.out.1.get (i := 2) rfl; have n3 := K.out.1.get (i := 3) rfl; have n4 := K.out.1.get (i := 4) rfl; have p0 := K.out.2.1.get (i := 0) rfl; have p1 := K.out.2.1.get (i := 1) rfl; have p2 := K.out.2.1.get (i := 2) rfl; have p3 := K.out.2.1.get (i := 3) rfl; have p4 := K.out.2.1.get (i := 4) rfl; have r0 := K.out.2.2.get (i := 0) rfl; have r1 := K.out.2.2.get (i := 1) rfl; have r2 := K.out.2.2.get (i := 2) rfl; have r3 := K.out.2.2.get (i := 3) rfl; have r4 := K.out.2.2.get (i := 4) rfl; have f0 := K.out.2.2.free 0; have f1 := K.out.2.2.free 1; have f2 := K.out.2.2.free 2; have f3 := K.out.2.2.free 3; have f4 := K.out.2.2.free 4; have hz := z.out; have hz1 : w.heap.size < xw.heap.size := (by omega); have hz2 : w.heap.size + 1 < xw.heap.size := (by omega); have hz3 : w.heap.size + 1 + 1 < xw.heap.size := (by omega))
      | (go_at_call 25; refine (s_l1In _ _ _ _).mono ?_; rintro e w' ⟨rfl, rfl⟩; rw [hin.out])
      | (go_at_call 17; refine (s_levelOf 13 o t u A n c _).mono ?_; rintro e xw ⟨rfl, hb⟩; rw [hL.out]; clear n0 n1 n2 n3 n4 p0 p1 p2 p3 p4 r0 r1 r2 r3 r4 f0 f1 f2 f3 f4; have K := Lib.hid (K.out.keep hb (by have := z.out; omega)); have B := Lib.hid (B.out.trans (hb.mono B.out.size)); have z := Lib.hid (Nat.le_trans z.out hb.size); clear hb; have n0 := K.out.1.get (i := 0) rfl; have n1 := K.out.1.get (i := 1) rfl; have n2 := K.out.1.get (i := 2) rfl; have n3 := K.out.1.get (i := 3) rfl; have n4 := K.out.1.get (i := 4) rfl; have p0 := K.out.2.1.get (i := 0) rfl; have p1 := K.out.2.1.get (i := 1) rfl; have p2 := K.out.2.1.get (i := 2) rfl; have p3 := K.out.2.1.get (i := 3) rfl; have p4 := K.out.2.1.get (i := 4) rfl; have r0 := K.out.2.2.get (i := 0) rfl; have r1 := K.out.2.2.get (i := 1) rfl; have r2 := K.out.2.2.get (i := 2) rfl; have r3 := K.out.2.2.get (i := 3) rfl; have r4 := K.out.2.2.get (i := 4) rfl; have f0 := K.out.2.2.free 0; have f1 := K.out.2.2.free 1; have f2 := K.out.2.2.free 2; have f3 := K.out.2.2.free 3; have f4 := K.out.2.2.free 4; have hz := z.out; have hz1 : w.heap.size < xw.heap.size := (by omega); have hz2 : w.heap.size + 1 < xw.heap.size := (by omega); have hz3 : w.heap.size + 1 + 1 < xw.heap.size := (by omega))
      | (go_at_call 26; refine (s_top _).mono ?_; rintro e xt ⟨rfl, hb⟩; have hb2 := Below.trans (Below.alloc (Below.refl xw.heap.size xw) (Nat.le_refl _) _) (hb.mono (by simp)); clear hb; clear n0 n1 n2 n3 n4 p0 p1 p2 p3 p4 r0 r1 r2 r3 r4 f0 f1 f2 f3 f4; have K := Lib.hid (K.out.keep hb2 (by have := z.out; omega)); have B := Lib.hid (B.out.trans (hb2.mono B.out.size)); have z := Lib.hid (Nat.le_trans z.out hb2.size); clear hb2; have n0 := K.out.1.get (i := 0) rfl; have n1 := K.out.1.get (i := 1) rfl; have n2 := K.out.1.get (i := 2) rfl; have n3 := K.out.1.get (i := 3) rfl; have n4 := K.out.1.get (i := 4) rfl; have p0 := K.out.2.1.get (i := 0) rfl; have p1 := K.out.2.1.get (i := 1) rfl; have p2 := K.out.2.1.get (i := 2) rfl; have p3 := K.out.2.1.get (i := 3) rfl; have p4 := K.out.2.1.get (i := 4) rfl; have r0 := K.out.2.2.get (i := 0) rfl; have r1 := K.out.2.2.get (i := 1) rfl; have r2 := K.out.2.2.get (i := 2) rfl; have r3 := K.out.2.2.get (i := 3) rfl; have r4 := K.out.2.2.get (i := 4) rfl; have f0 := K.out.2.2.free 0; have f1 := K.out.2.2.free 1; have f2 := K.out.2.2.free 2; have f3 := K.out.2.2.free 3; have f4 := K.out.2.2.free 4; have hz := z.out; have hz1 : w.heap.size < xt.heap.size := (by omega); have hz2 : w.heap.size + 1 < xt.heap.size := (by omega); have hz3 : w.heap.size + 1 + 1 < xt.heap.size := (by omega)))
    exact bodyPost_ret (v := posV topP) (by simp [results, Try.results15, go_sem, posV, topP, r0, r1, r2, r3, r4]) rfl (posV_eq rfl (below_putF B.out (by omega) _ _ _ _ _))
set_option maxRecDepth 100000 in
set_option maxHeartbeats 4000000 in
theorem s_kidPos_15_0 (o : Int) (t u : ByteArray) (A : Option Addr) (n c k : Nat) (l : Int) (d i g s : Bool) (w : World) (hn : n ≤ 8) (hkn : k < n) (hpo : posOk l d = true) (hk : k = 0) : Calls Try.prog 15 #[.agg #[.int .i64 15, .int .i64 o, .string t, .string u, .slice A n c], .int .i64 (k : Int), .agg #[.int .i64 l, .bool d, .bool i, .bool g, .bool s]] w (RetPosV w (kidQ 15 o n k ⟨l, d, i, g, s⟩)) := by
  have hL := Lib.hid (show levelOf 15 o = 1 from rfl)
  have K := Lib.hid (KP.made w 15 o t u (.slice A n c) l d i g s)
  have B := Lib.hid (kpW_below w 15 o t u (.slice A n c) l d i g s)
  have z := Lib.hid (show w.heap.size + 3 ≤ (kpW w 15 o t u (.slice A n c) l d i g s).heap.size by rw [kpW_size]; exact Nat.le_refl _)
  unfold kpW at K B z
  have n0 := K.out.1.get (i := 0) rfl
  have n1 := K.out.1.get (i := 1) rfl
  have n2 := K.out.1.get (i := 2) rfl
  have n3 := K.out.1.get (i := 3) rfl
  have n4 := K.out.1.get (i := 4) rfl
  have p0 := K.out.2.1.get (i := 0) rfl
  have p1 := K.out.2.1.get (i := 1) rfl
  have p2 := K.out.2.1.get (i := 2) rfl
  have p3 := K.out.2.1.get (i := 3) rfl
  have p4 := K.out.2.1.get (i := 4) rfl
  have r0 := K.out.2.2.get (i := 0) rfl
  have r1 := K.out.2.2.get (i := 1) rfl
  have r2 := K.out.2.2.get (i := 2) rfl
  have r3 := K.out.2.2.get (i := 3) rfl
  have r4 := K.out.2.2.get (i := 4) rfl
  have f0 := K.out.2.2.free 0
  have f1 := K.out.2.2.free 1
  have f2 := K.out.2.2.free 2
  have f3 := K.out.2.2.free 3
  have f4 := K.out.2.2.free 4
  have hin := Lib.hid (show inB (k : Int) 0 ((n : Int) - 1) = true by unfold inB; simp; omega)
  have hpo := Lib.hid hpo
  have hkz : ((k : Int) == 0) = true := by simp; omega
  have hkg : decide ((k : Int) > 0) = false := by simp; omega
  have hkg2 : decide (0 < (k : Int)) = false := by simp; omega
  have hkg3 : decide (0 < k) = false := by simp; omega
  have hkg4 : ¬ 0 < k := by omega
  have HEQ : kidQ 15 o n k ⟨l, d, i, g, s⟩ = ⟨14, false, i, g, s⟩ := by
    unfold kidQ kidLevelP
    rw [if_neg (by rw [hL.out]; omega)]
    rw [if_neg (show ¬ ((15 : Int) = 11 ∨ (15 : Int) = 9 ∨ (15 : Int) = 10 ∨ (15 : Int) = 6) by decide)]
    subst hk
    simp
  have HEQ := Lib.hid HEQ
  have hkH := Lib.hid hk
  clear hk
  cases s
  all_goals
    go_enter Try.func15, Try.ntmps15
    go_wp2_with (first
      | (go_at_call 16; refine (s_posOk l d i g _ _).mono ?_; rintro e xw ⟨rfl, hb⟩; rw [hpo.out]; clear n0 n1 n2 n3 n4 p0 p1 p2 p3 p4 r0 r1 r2 r3 r4 f0 f1 f2 f3 f4; have K := Lib.hid (K.out.keep hb (by have := z.out; omega)); have B := Lib.hid (B.out.trans (hb.mono B.out.size)); have z := Lib.hid (Nat.le_trans z.out hb.size); clear hb; have n0 := K.out.1.get (i := 0) rfl; have n1 := K.out.1.get (i := 1) rfl; have n2 := K.out.1.get (i := 2) rfl; have n3 := K.out.1.get (i := 3) rfl; have n4 := K.out.1.get (i := 4) rfl; have p0 := K.out.2.1.get (i := 0) rfl; have p1 := K.out.2.1.get (i := 1) rfl; have p2 := K.out.2.1.get (i := 2) rfl; have p3 := K.out.2.1.get (i := 3) rfl; have p4 := K.out.2.1.get (i := 4) rfl; have r0 := K.out.2.2.get (i := 0) rfl; have r1 := K.out.2.2.get (i := 1) rfl; have r2 := K.out.2.2.get (i := 2) rfl; have r3 := K.out.2.2.get (i := 3) rfl; have r4 := K.out.2.2.get (i := 4) rfl; have f0 := K.out.2.2.free 0; have f1 := K.out.2.2.free 1; have f2 := K.out.2.2.free 2; have f3 := K.out.2.2.free 3; have f4 := K.out.2.2.free 4; have hz := z.out; have hz1 : w.heap.size < xw.heap.size := (by omega); have hz2 : w.heap.size + 1 < xw.heap.size := (by omega); have hz3 : w.heap.size + 1 + 1 < xw.heap.size := (by omega); have hz4 : w.heap.size + 2 < xw.heap.size := (by omega))
      | (go_at_call 25; refine (s_l1In _ _ _ _).mono ?_; rintro e w' ⟨rfl, rfl⟩; rw [hin.out])
      | (go_at_call 17; refine (s_levelOf 15 o t u A n c _).mono ?_; rintro e xw ⟨rfl, hb⟩; rw [hL.out]; clear n0 n1 n2 n3 n4 p0 p1 p2 p3 p4 r0 r1 r2 r3 r4 f0 f1 f2 f3 f4; have K := Lib.hid (K.out.keep hb (by have := z.out; omega)); have B := Lib.hid (B.out.trans (hb.mono B.out.size)); have z := Lib.hid (Nat.le_trans z.out hb.size); clear hb; have n0 := K.out.1.get (i := 0) rfl; have n1 := K.out.1.get (i := 1) rfl; have n2 := K.out.1.get (i := 2) rfl; have n3 := K.out.1.get (i := 3) rfl; have n4 := K.out.1.get (i := 4) rfl; have p0 := K.out.2.1.get (i := 0) rfl; have p1 := K.out.2.1.get (i := 1) rfl; have p2 := K.out.2.1.get (i := 2) rfl; have p3 := K.out.2.1.get (i := 3) rfl; have p4 := K.out.2.1.get (i := 4) rfl; have r0 := K.out.2.2.get (i := 0) rfl; have r1 := K.out.2.2.get (i := 1) rfl; have r2 := K.out.2.2.get (i := 2) rfl; have r3 := K.out.2.2.get (i := 3) rfl; have r4 := K.out.2.2.get (i := 4) rfl; have f0 := K.out.2.2.free 0; have f1 := K.out.2.2.free 1; have f2 := K.out.2.2.free 2; have f3 := K.out.2.2.free 3; have f4 := K.out.2.2.free 4; have hz := z.out; have hz1 : w.heap.size < xw.heap.size := (by omega); have hz2 : w.heap.size + 1 < xw.heap.size := (by omega); have hz3 : w.heap.size + 1 + 1 < xw.heap.size := (by omega); have hz4 : w.heap.size + 2 < xw.heap.size := (by omega)))
    exact bodyPost_ret (v := posV ⟨14, false, i, g, _⟩) (by simp [results, Try.results15, go_sem, posV, r0, r1, r2, r3, r4, hz1, hz2, hz3]) rfl (posV_eq HEQ.out ((below_putF B.out (by omega) _ _ _ _ _).alloc (below_putF B.out (by omega) _ _ _ _ _).size _))
set_option maxRecDepth 100000 in
set_option maxHeartbeats 4000000 in
theorem s_kidPos_15_1 (o : Int) (t u : ByteArray) (A : Option Addr) (n c k : Nat) (l : Int) (d i g s : Bool) (w : World) (hn : n ≤ 8) (hkn : k < n) (hpo : posOk l d = true) (hk : 0 < k) : Calls Try.prog 15 #[.agg #[.int .i64 15, .int .i64 o, .string t, .string u, .slice A n c], .int .i64 (k : Int), .agg #[.int .i64 l, .bool d, .bool i, .bool g, .bool s]] w (RetPosV w (kidQ 15 o n k ⟨l, d, i, g, s⟩)) := by
  have hL := Lib.hid (show levelOf 15 o = 1 from rfl)
  have K := Lib.hid (KP.made w 15 o t u (.slice A n c) l d i g s)
  have B := Lib.hid (kpW_below w 15 o t u (.slice A n c) l d i g s)
  have z := Lib.hid (show w.heap.size + 3 ≤ (kpW w 15 o t u (.slice A n c) l d i g s).heap.size by rw [kpW_size]; exact Nat.le_refl _)
  unfold kpW at K B z
  have n0 := K.out.1.get (i := 0) rfl
  have n1 := K.out.1.get (i := 1) rfl
  have n2 := K.out.1.get (i := 2) rfl
  have n3 := K.out.1.get (i := 3) rfl
  have n4 := K.out.1.get (i := 4) rfl
  have p0 := K.out.2.1.get (i := 0) rfl
  have p1 := K.out.2.1.get (i := 1) rfl
  have p2 := K.out.2.1.get (i := 2) rfl
  have p3 := K.out.2.1.get (i := 3) rfl
  have p4 := K.out.2.1.get (i := 4) rfl
  have r0 := K.out.2.2.get (i := 0) rfl
  have r1 := K.out.2.2.get (i := 1) rfl
  have r2 := K.out.2.2.get (i := 2) rfl
  have r3 := K.out.2.2.get (i := 3) rfl
  have r4 := K.out.2.2.get (i := 4) rfl
  have f0 := K.out.2.2.free 0
  have f1 := K.out.2.2.free 1
  have f2 := K.out.2.2.free 2
  have f3 := K.out.2.2.free 3
  have f4 := K.out.2.2.free 4
  have hin := Lib.hid (show inB (k : Int) 0 ((n : Int) - 1) = true by unfold inB; simp; omega)
  have hpo := Lib.hid hpo
  have hkz : ((k : Int) == 0) = false := by simp; omega
  have hkg : decide ((k : Int) > 0) = true := by simp; omega
  have hkg2 : decide (0 < (k : Int)) = true := by simp; omega
  have hkg3 : decide (0 < k) = true := by simp; omega
  have hkg4 : 0 < k := by omega
  have HEQ : kidQ 15 o n k ⟨l, d, i, g, s⟩ = ⟨1, false, i, g, false⟩ := by
    unfold kidQ kidLevelP
    rw [if_neg (by rw [hL.out]; omega)]
    rw [if_neg (show ¬ ((15 : Int) = 11 ∨ (15 : Int) = 9 ∨ (15 : Int) = 10 ∨ (15 : Int) = 6) by decide)]
    have hk0 : ¬ k = 0 := by omega
    simp [hk0]
  have HEQ := Lib.hid HEQ
  have hkH := Lib.hid hk
  clear hk
  cases s
  all_goals
    go_enter Try.func15, Try.ntmps15
    go_wp2_with (first
      | (go_at_call 16; refine (s_posOk l d i g _ _).mono ?_; rintro e xw ⟨rfl, hb⟩; rw [hpo.out]; clear n0 n1 n2 n3 n4 p0 p1 p2 p3 p4 r0 r1 r2 r3 r4 f0 f1 f2 f3 f4; have K := Lib.hid (K.out.keep hb (by have := z.out; omega)); have B := Lib.hid (B.out.trans (hb.mono B.out.size)); have z := Lib.hid (Nat.le_trans z.out hb.size); clear hb; have n0 := K.out.1.get (i := 0) rfl; have n1 := K.out.1.get (i := 1) rfl; have n2 := K.out.1.get (i := 2) rfl; have n3 := K.out.1.get (i := 3) rfl; have n4 := K.out.1.get (i := 4) rfl; have p0 := K.out.2.1.get (i := 0) rfl; have p1 := K.out.2.1.get (i := 1) rfl; have p2 := K.out.2.1.get (i := 2) rfl; have p3 := K.out.2.1.get (i := 3) rfl; have p4 := K.out.2.1.get (i := 4) rfl; have r0 := K.out.2.2.get (i := 0) rfl; have r1 := K.out.2.2.get (i := 1) rfl; have r2 := K.out.2.2.get (i := 2) rfl; have r3 := K.out.2.2.get (i := 3) rfl; have r4 := K.out.2.2.get (i := 4) rfl; have f0 := K.out.2.2.free 0; have f1 := K.out.2.2.free 1; have f2 := K.out.2.2.free 2; have f3 := K.out.2.2.free 3; have f4 := K.out.2.2.free 4; have hz := z.out; have hz1 : w.heap.size < xw.heap.size := (by omega); have hz2 : w.heap.size + 1 < xw.heap.size := (by omega); have hz3 : w.heap.size + 1 + 1 < xw.heap.size := (by omega); have hz4 : w.heap.size + 2 < xw.heap.size := (by omega))
      | (go_at_call 25; refine (s_l1In _ _ _ _).mono ?_; rintro e w' ⟨rfl, rfl⟩; rw [hin.out])
      | (go_at_call 17; refine (s_levelOf 15 o t u A n c _).mono ?_; rintro e xw ⟨rfl, hb⟩; rw [hL.out]; clear n0 n1 n2 n3 n4 p0 p1 p2 p3 p4 r0 r1 r2 r3 r4 f0 f1 f2 f3 f4; have K := Lib.hid (K.out.keep hb (by have := z.out; omega)); have B := Lib.hid (B.out.trans (hb.mono B.out.size)); have z := Lib.hid (Nat.le_trans z.out hb.size); clear hb; have n0 := K.out.1.get (i := 0) rfl; have n1 := K.out.1.get (i := 1) rfl; have n2 := K.out.1.get (i := 2) rfl; have n3 := K.out.1.get (i := 3) rfl; have n4 := K.out.1.get (i := 4) rfl; have p0 := K.out.2.1.get (i := 0) rfl; have p1 := K.out.2.1.get (i := 1) rfl; have p2 := K.out.2.1.get (i := 2) rfl; have p3 := K.out.2.1.get (i := 3) rfl; have p4 := K.out.2.1.get (i := 4) rfl; have r0 := K.out.2.2.get (i := 0) rfl; have r1 := K.out.2.2.get (i := 1) rfl; have r2 := K.out.2.2.get (i := 2) rfl; have r3 := K.out.2.2.get (i := 3) rfl; have r4 := K.out.2.2.get (i := 4) rfl; have f0 := K.out.2.2.free 0; have f1 := K.out.2.2.free 1; have f2 := K.out.2.2.free 2; have f3 := K.out.2.2.free 3; have f4 := K.out.2.2.free 4; have hz := z.out; have hz1 : w.heap.size < xw.heap.size := (by omega); have hz2 : w.heap.size + 1 < xw.heap.size := (by omega); have hz3 : w.heap.size + 1 + 1 < xw.heap.size := (by omega); have hz4 : w.heap.size + 2 < xw.heap.size := (by omega)))
    exact bodyPost_ret (v := posV ⟨1, false, i, g, false⟩) (by simp [results, Try.results15, go_sem, posV, r0, r1, r2, r3, r4, hz1, hz2, hz3]) rfl (posV_eq HEQ.out ((below_putF B.out (by omega) _ _ _ _ _).alloc (below_putF B.out (by omega) _ _ _ _ _).size _))
set_option maxRecDepth 100000 in
set_option maxHeartbeats 4000000 in
theorem s_kidPos_14_0 (o : Int) (t u : ByteArray) (A : Option Addr) (n c k : Nat) (l : Int) (d i g s : Bool) (w : World) (hn : n ≤ 8) (hkn : k < n) (hpo : posOk l d = true) (hk : k = 0) : Calls Try.prog 15 #[.agg #[.int .i64 14, .int .i64 o, .string t, .string u, .slice A n c], .int .i64 (k : Int), .agg #[.int .i64 l, .bool d, .bool i, .bool g, .bool s]] w (RetPosV w (kidQ 14 o n k ⟨l, d, i, g, s⟩)) := by
  have hL := Lib.hid (show levelOf 14 o = 2 from rfl)
  have K := Lib.hid (KP.made w 14 o t u (.slice A n c) l d i g s)
  have B := Lib.hid (kpW_below w 14 o t u (.slice A n c) l d i g s)
  have z := Lib.hid (show w.heap.size + 3 ≤ (kpW w 14 o t u (.slice A n c) l d i g s).heap.size by rw [kpW_size]; exact Nat.le_refl _)
  unfold kpW at K B z
  have n0 := K.out.1.get (i := 0) rfl
  have n1 := K.out.1.get (i := 1) rfl
  have n2 := K.out.1.get (i := 2) rfl
  have n3 := K.out.1.get (i := 3) rfl
  have n4 := K.out.1.get (i := 4) rfl
  have p0 := K.out.2.1.get (i := 0) rfl
  have p1 := K.out.2.1.get (i := 1) rfl
  have p2 := K.out.2.1.get (i := 2) rfl
  have p3 := K.out.2.1.get (i := 3) rfl
  have p4 := K.out.2.1.get (i := 4) rfl
  have r0 := K.out.2.2.get (i := 0) rfl
  have r1 := K.out.2.2.get (i := 1) rfl
  have r2 := K.out.2.2.get (i := 2) rfl
  have r3 := K.out.2.2.get (i := 3) rfl
  have r4 := K.out.2.2.get (i := 4) rfl
  have f0 := K.out.2.2.free 0
  have f1 := K.out.2.2.free 1
  have f2 := K.out.2.2.free 2
  have f3 := K.out.2.2.free 3
  have f4 := K.out.2.2.free 4
  have hin := Lib.hid (show inB (k : Int) 0 ((n : Int) - 1) = true by unfold inB; simp; omega)
  have hpo := Lib.hid hpo
  have hkz : ((k : Int) == 0) = true := by simp; omega
  have hkg : decide ((k : Int) > 0) = false := by simp; omega
  have hkg2 : decide (0 < (k : Int)) = false := by simp; omega
  have hkg3 : decide (0 < k) = false := by simp; omega
  have hkg4 : ¬ 0 < k := by omega
  have HEQ : kidQ 14 o n k ⟨l, d, i, g, s⟩ = ⟨3, false, i, g, s⟩ := by
    unfold kidQ kidLevelP
    rw [if_neg (by rw [hL.out]; omega)]
    rw [if_neg (show ¬ ((14 : Int) = 11 ∨ (14 : Int) = 9 ∨ (14 : Int) = 10 ∨ (14 : Int) = 6) by decide)]
    subst hk
    simp
  have HEQ := Lib.hid HEQ
  have hkH := Lib.hid hk
  clear hk
  cases s
  all_goals
    go_enter Try.func15, Try.ntmps15
    go_wp2_with (first
      | (go_at_call 16; refine (s_posOk l d i g _ _).mono ?_; rintro e xw ⟨rfl, hb⟩; rw [hpo.out]; clear n0 n1 n2 n3 n4 p0 p1 p2 p3 p4 r0 r1 r2 r3 r4 f0 f1 f2 f3 f4; have K := Lib.hid (K.out.keep hb (by have := z.out; omega)); have B := Lib.hid (B.out.trans (hb.mono B.out.size)); have z := Lib.hid (Nat.le_trans z.out hb.size); clear hb; have n0 := K.out.1.get (i := 0) rfl; have n1 := K.out.1.get (i := 1) rfl; have n2 := K.out.1.get (i := 2) rfl; have n3 := K.out.1.get (i := 3) rfl; have n4 := K.out.1.get (i := 4) rfl; have p0 := K.out.2.1.get (i := 0) rfl; have p1 := K.out.2.1.get (i := 1) rfl; have p2 := K.out.2.1.get (i := 2) rfl; have p3 := K.out.2.1.get (i := 3) rfl; have p4 := K.out.2.1.get (i := 4) rfl; have r0 := K.out.2.2.get (i := 0) rfl; have r1 := K.out.2.2.get (i := 1) rfl; have r2 := K.out.2.2.get (i := 2) rfl; have r3 := K.out.2.2.get (i := 3) rfl; have r4 := K.out.2.2.get (i := 4) rfl; have f0 := K.out.2.2.free 0; have f1 := K.out.2.2.free 1; have f2 := K.out.2.2.free 2; have f3 := K.out.2.2.free 3; have f4 := K.out.2.2.free 4; have hz := z.out; have hz1 : w.heap.size < xw.heap.size := (by omega); have hz2 : w.heap.size + 1 < xw.heap.size := (by omega); have hz3 : w.heap.size + 1 + 1 < xw.heap.size := (by omega); have hz4 : w.heap.size + 2 < xw.heap.size := (by omega))
      | (go_at_call 25; refine (s_l1In _ _ _ _).mono ?_; rintro e w' ⟨rfl, rfl⟩; rw [hin.out])
      | (go_at_call 17; refine (s_levelOf 14 o t u A n c _).mono ?_; rintro e xw ⟨rfl, hb⟩; rw [hL.out]; clear n0 n1 n2 n3 n4 p0 p1 p2 p3 p4 r0 r1 r2 r3 r4 f0 f1 f2 f3 f4; have K := Lib.hid (K.out.keep hb (by have := z.out; omega)); have B := Lib.hid (B.out.trans (hb.mono B.out.size)); have z := Lib.hid (Nat.le_trans z.out hb.size); clear hb; have n0 := K.out.1.get (i := 0) rfl; have n1 := K.out.1.get (i := 1) rfl; have n2 := K.out.1.get (i := 2) rfl; have n3 := K.out.1.get (i := 3) rfl; have n4 := K.out.1.get (i := 4) rfl; have p0 := K.out.2.1.get (i := 0) rfl; have p1 := K.out.2.1.get (i := 1) rfl; have p2 := K.out.2.1.get (i := 2) rfl; have p3 := K.out.2.1.get (i := 3) rfl; have p4 := K.out.2.1.get (i := 4) rfl; have r0 := K.out.2.2.get (i := 0) rfl; have r1 := K.out.2.2.get (i := 1) rfl; have r2 := K.out.2.2.get (i := 2) rfl; have r3 := K.out.2.2.get (i := 3) rfl; have r4 := K.out.2.2.get (i := 4) rfl; have f0 := K.out.2.2.free 0; have f1 := K.out.2.2.free 1; have f2 := K.out.2.2.free 2; have f3 := K.out.2.2.free 3; have f4 := K.out.2.2.free 4; have hz := z.out; have hz1 : w.heap.size < xw.heap.size := (by omega); have hz2 : w.heap.size + 1 < xw.heap.size := (by omega); have hz3 : w.heap.size + 1 + 1 < xw.heap.size := (by omega); have hz4 : w.heap.size + 2 < xw.heap.size := (by omega)))
    exact bodyPost_ret (v := posV ⟨3, false, i, g, _⟩) (by simp [results, Try.results15, go_sem, posV, r0, r1, r2, r3, r4, hz1, hz2, hz3]) rfl (posV_eq HEQ.out ((below_putF B.out (by omega) _ _ _ _ _).alloc (below_putF B.out (by omega) _ _ _ _ _).size _))
set_option maxRecDepth 100000 in
set_option maxHeartbeats 4000000 in
theorem s_kidPos_14_1 (o : Int) (t u : ByteArray) (A : Option Addr) (n c k : Nat) (l : Int) (d i g s : Bool) (w : World) (hn : n ≤ 8) (hkn : k < n) (hpo : posOk l d = true) (hk : 0 < k) : Calls Try.prog 15 #[.agg #[.int .i64 14, .int .i64 o, .string t, .string u, .slice A n c], .int .i64 (k : Int), .agg #[.int .i64 l, .bool d, .bool i, .bool g, .bool s]] w (RetPosV w (kidQ 14 o n k ⟨l, d, i, g, s⟩)) := by
  have hL := Lib.hid (show levelOf 14 o = 2 from rfl)
  have K := Lib.hid (KP.made w 14 o t u (.slice A n c) l d i g s)
  have B := Lib.hid (kpW_below w 14 o t u (.slice A n c) l d i g s)
  have z := Lib.hid (show w.heap.size + 3 ≤ (kpW w 14 o t u (.slice A n c) l d i g s).heap.size by rw [kpW_size]; exact Nat.le_refl _)
  unfold kpW at K B z
  have n0 := K.out.1.get (i := 0) rfl
  have n1 := K.out.1.get (i := 1) rfl
  have n2 := K.out.1.get (i := 2) rfl
  have n3 := K.out.1.get (i := 3) rfl
  have n4 := K.out.1.get (i := 4) rfl
  have p0 := K.out.2.1.get (i := 0) rfl
  have p1 := K.out.2.1.get (i := 1) rfl
  have p2 := K.out.2.1.get (i := 2) rfl
  have p3 := K.out.2.1.get (i := 3) rfl
  have p4 := K.out.2.1.get (i := 4) rfl
  have r0 := K.out.2.2.get (i := 0) rfl
  have r1 := K.out.2.2.get (i := 1) rfl
  have r2 := K.out.2.2.get (i := 2) rfl
  have r3 := K.out.2.2.get (i := 3) rfl
  have r4 := K.out.2.2.get (i := 4) rfl
  have f0 := K.out.2.2.free 0
  have f1 := K.out.2.2.free 1
  have f2 := K.out.2.2.free 2
  have f3 := K.out.2.2.free 3
  have f4 := K.out.2.2.free 4
  have hin := Lib.hid (show inB (k : Int) 0 ((n : Int) - 1) = true by unfold inB; simp; omega)
  have hpo := Lib.hid hpo
  have hkz : ((k : Int) == 0) = false := by simp; omega
  have hkg : decide ((k : Int) > 0) = true := by simp; omega
  have hkg2 : decide (0 < (k : Int)) = true := by simp; omega
  have hkg3 : decide (0 < k) = true := by simp; omega
  have hkg4 : 0 < k := by omega
  have HEQ : kidQ 14 o n k ⟨l, d, i, g, s⟩ = ⟨2, false, i, g, false⟩ := by
    unfold kidQ kidLevelP
    rw [if_neg (by rw [hL.out]; omega)]
    rw [if_neg (show ¬ ((14 : Int) = 11 ∨ (14 : Int) = 9 ∨ (14 : Int) = 10 ∨ (14 : Int) = 6) by decide)]
    have hk0 : ¬ k = 0 := by omega
    simp [hk0]
  have HEQ := Lib.hid HEQ
  have hkH := Lib.hid hk
  clear hk
  cases s
  all_goals
    go_enter Try.func15, Try.ntmps15
    go_wp2_with (first
      | (go_at_call 16; refine (s_posOk l d i g _ _).mono ?_; rintro e xw ⟨rfl, hb⟩; rw [hpo.out]; clear n0 n1 n2 n3 n4 p0 p1 p2 p3 p4 r0 r1 r2 r3 r4 f0 f1 f2 f3 f4; have K := Lib.hid (K.out.keep hb (by have := z.out; omega)); have B := Lib.hid (B.out.trans (hb.mono B.out.size)); have z := Lib.hid (Nat.le_trans z.out hb.size); clear hb; have n0 := K.out.1.get (i := 0) rfl; have n1 := K.out.1.get (i := 1) rfl; have n2 := K.out.1.get (i := 2) rfl; have n3 := K.out.1.get (i := 3) rfl; have n4 := K.out.1.get (i := 4) rfl; have p0 := K.out.2.1.get (i := 0) rfl; have p1 := K.out.2.1.get (i := 1) rfl; have p2 := K.out.2.1.get (i := 2) rfl; have p3 := K.out.2.1.get (i := 3) rfl; have p4 := K.out.2.1.get (i := 4) rfl; have r0 := K.out.2.2.get (i := 0) rfl; have r1 := K.out.2.2.get (i := 1) rfl; have r2 := K.out.2.2.get (i := 2) rfl; have r3 := K.out.2.2.get (i := 3) rfl; have r4 := K.out.2.2.get (i := 4) rfl; have f0 := K.out.2.2.free 0; have f1 := K.out.2.2.free 1; have f2 := K.out.2.2.free 2; have f3 := K.out.2.2.free 3; have f4 := K.out.2.2.free 4; have hz := z.out; have hz1 : w.heap.size < xw.heap.size := (by omega); have hz2 : w.heap.size + 1 < xw.heap.size := (by omega); have hz3 : w.heap.size + 1 + 1 < xw.heap.size := (by omega); have hz4 : w.heap.size + 2 < xw.heap.size := (by omega))
      | (go_at_call 25; refine (s_l1In _ _ _ _).mono ?_; rintro e w' ⟨rfl, rfl⟩; rw [hin.out])
      | (go_at_call 17; refine (s_levelOf 14 o t u A n c _).mono ?_; rintro e xw ⟨rfl, hb⟩; rw [hL.out]; clear n0 n1 n2 n3 n4 p0 p1 p2 p3 p4 r0 r1 r2 r3 r4 f0 f1 f2 f3 f4; have K := Lib.hid (K.out.keep hb (by have := z.out; omega)); have B := Lib.hid (B.out.trans (hb.mono B.out.size)); have z := Lib.hid (Nat.le_trans z.out hb.size); clear hb; have n0 := K.out.1.get (i := 0) rfl; have n1 := K.out.1.get (i := 1) rfl; have n2 := K.out.1.get (i := 2) rfl; have n3 := K.out.1.get (i := 3) rfl; have n4 := K.out.1.get (i := 4) rfl; have p0 := K.out.2.1.get (i := 0) rfl; have p1 := K.out.2.1.get (i := 1) rfl; have p2 := K.out.2.1.get (i := 2) rfl; have p3 := K.out.2.1.get (i := 3) rfl; have p4 := K.out.2.1.get (i := 4) rfl; have r0 := K.out.2.2.get (i := 0) rfl; have r1 := K.out.2.2.get (i := 1) rfl; have r2 := K.out.2.2.get (i := 2) rfl; have r3 := K.out.2.2.get (i := 3) rfl; have r4 := K.out.2.2.get (i := 4) rfl; have f0 := K.out.2.2.free 0; have f1 := K.out.2.2.free 1; have f2 := K.out.2.2.free 2; have f3 := K.out.2.2.free 3; have f4 := K.out.2.2.free 4; have hz := z.out; have hz1 : w.heap.size < xw.heap.size := (by omega); have hz2 : w.heap.size + 1 < xw.heap.size := (by omega); have hz3 : w.heap.size + 1 + 1 < xw.heap.size := (by omega); have hz4 : w.heap.size + 2 < xw.heap.size := (by omega)))
    exact bodyPost_ret (v := posV ⟨2, false, i, g, false⟩) (by simp [results, Try.results15, go_sem, posV, r0, r1, r2, r3, r4, hz1, hz2, hz3]) rfl (posV_eq HEQ.out ((below_putF B.out (by omega) _ _ _ _ _).alloc (below_putF B.out (by omega) _ _ _ _ _).size _))
set_option maxRecDepth 100000 in
set_option maxHeartbeats 4000000 in
theorem s_kidPos_13_0 (o : Int) (t u : ByteArray) (A : Option Addr) (n c k : Nat) (l : Int) (d i g s : Bool) (w : World) (hn : n ≤ 8) (hkn : k < n) (hpo : posOk l d = true) (hk : k = 0) (hn1 : n = 1) : Calls Try.prog 15 #[.agg #[.int .i64 13, .int .i64 o, .string t, .string u, .slice A n c], .int .i64 (k : Int), .agg #[.int .i64 l, .bool d, .bool i, .bool g, .bool s]] w (RetPosV w (kidQ 13 o n k ⟨l, d, i, g, s⟩)) := by
  have hL := Lib.hid (show levelOf 13 o = 5 from rfl)
  have K := Lib.hid (KP.made w 13 o t u (.slice A n c) l d i g s)
  have B := Lib.hid (kpW_below w 13 o t u (.slice A n c) l d i g s)
  have z := Lib.hid (show w.heap.size + 3 ≤ (kpW w 13 o t u (.slice A n c) l d i g s).heap.size by rw [kpW_size]; exact Nat.le_refl _)
  unfold kpW at K B z
  have n0 := K.out.1.get (i := 0) rfl
  have n1 := K.out.1.get (i := 1) rfl
  have n2 := K.out.1.get (i := 2) rfl
  have n3 := K.out.1.get (i := 3) rfl
  have n4 := K.out.1.get (i := 4) rfl
  have p0 := K.out.2.1.get (i := 0) rfl
  have p1 := K.out.2.1.get (i := 1) rfl
  have p2 := K.out.2.1.get (i := 2) rfl
  have p3 := K.out.2.1.get (i := 3) rfl
  have p4 := K.out.2.1.get (i := 4) rfl
  have r0 := K.out.2.2.get (i := 0) rfl
  have r1 := K.out.2.2.get (i := 1) rfl
  have r2 := K.out.2.2.get (i := 2) rfl
  have r3 := K.out.2.2.get (i := 3) rfl
  have r4 := K.out.2.2.get (i := 4) rfl
  have f0 := K.out.2.2.free 0
  have f1 := K.out.2.2.free 1
  have f2 := K.out.2.2.free 2
  have f3 := K.out.2.2.free 3
  have f4 := K.out.2.2.free 4
  have hin := Lib.hid (show inB (k : Int) 0 ((n : Int) - 1) = true by unfold inB; simp; omega)
  have hpo := Lib.hid hpo
  have hkz : ((k : Int) == 0) = true := by simp; omega
  have hkg : decide ((k : Int) > 0) = false := by simp; omega
  have hkg2 : decide (0 < (k : Int)) = false := by simp; omega
  have hkg3 : decide (0 < k) = false := by simp; omega
  have hkg4 : ¬ 0 < k := by omega
  have hgt : decide (1 < (n : Int)) = false := by simp; omega
  have HEQ : kidQ 13 o n k ⟨l, d, i, g, s⟩ = ⟨5, false, i, g, s⟩ := by
    unfold kidQ kidLevelP
    rw [if_neg (by rw [hL.out]; omega)]
    rw [if_neg (show ¬ ((13 : Int) = 11 ∨ (13 : Int) = 9 ∨ (13 : Int) = 10 ∨ (13 : Int) = 6) by decide)]
    subst hk
    simp
  have HEQ := Lib.hid HEQ
  have hkH := Lib.hid hk
  clear hk
  have hn1H := Lib.hid hn1
  clear hn1
  cases s
  all_goals
    go_enter Try.func15, Try.ntmps15
    go_wp2_with (first
      | (go_at_call 16; refine (s_posOk l d i g _ _).mono ?_; rintro e xw ⟨rfl, hb⟩; rw [hpo.out]; clear n0 n1 n2 n3 n4 p0 p1 p2 p3 p4 r0 r1 r2 r3 r4 f0 f1 f2 f3 f4; have K := Lib.hid (K.out.keep hb (by have := z.out; omega)); have B := Lib.hid (B.out.trans (hb.mono B.out.size)); have z := Lib.hid (Nat.le_trans z.out hb.size); clear hb; have n0 := K.out.1.get (i := 0) rfl; have n1 := K.out.1.get (i := 1) rfl; have n2 := K.out.1.get (i := 2) rfl; have n3 := K.out.1.get (i := 3) rfl; have n4 := K.out.1.get (i := 4) rfl; have p0 := K.out.2.1.get (i := 0) rfl; have p1 := K.out.2.1.get (i := 1) rfl; have p2 := K.out.2.1.get (i := 2) rfl; have p3 := K.out.2.1.get (i := 3) rfl; have p4 := K.out.2.1.get (i := 4) rfl; have r0 := K.out.2.2.get (i := 0) rfl; have r1 := K.out.2.2.get (i := 1) rfl; have r2 := K.out.2.2.get (i := 2) rfl; have r3 := K.out.2.2.get (i := 3) rfl; have r4 := K.out.2.2.get (i := 4) rfl; have f0 := K.out.2.2.free 0; have f1 := K.out.2.2.free 1; have f2 := K.out.2.2.free 2; have f3 := K.out.2.2.free 3; have f4 := K.out.2.2.free 4; have hz := z.out; have hz1 : w.heap.size < xw.heap.size := (by omega); have hz2 : w.heap.size + 1 < xw.heap.size := (by omega); have hz3 : w.heap.size + 1 + 1 < xw.heap.size := (by omega); have hz4 : w.heap.size + 2 < xw.heap.size := (by omega))
      | (go_at_call 25; refine (s_l1In _ _ _ _).mono ?_; rintro e w' ⟨rfl, rfl⟩; rw [hin.out])
      | (go_at_call 17; refine (s_levelOf 13 o t u A n c _).mono ?_; rintro e xw ⟨rfl, hb⟩; rw [hL.out]; clear n0 n1 n2 n3 n4 p0 p1 p2 p3 p4 r0 r1 r2 r3 r4 f0 f1 f2 f3 f4; have K := Lib.hid (K.out.keep hb (by have := z.out; omega)); have B := Lib.hid (B.out.trans (hb.mono B.out.size)); have z := Lib.hid (Nat.le_trans z.out hb.size); clear hb; have n0 := K.out.1.get (i := 0) rfl; have n1 := K.out.1.get (i := 1) rfl; have n2 := K.out.1.get (i := 2) rfl; have n3 := K.out.1.get (i := 3) rfl; have n4 := K.out.1.get (i := 4) rfl; have p0 := K.out.2.1.get (i := 0) rfl; have p1 := K.out.2.1.get (i := 1) rfl; have p2 := K.out.2.1.get (i := 2) rfl; have p3 := K.out.2.1.get (i := 3) rfl; have p4 := K.out.2.1.get (i := 4) rfl; have r0 := K.out.2.2.get (i := 0) rfl; have r1 := K.out.2.2.get (i := 1) rfl; have r2 := K.out.2.2.get (i := 2) rfl; have r3 := K.out.2.2.get (i := 3) rfl; have r4 := K.out.2.2.get (i := 4) rfl; have f0 := K.out.2.2.free 0; have f1 := K.out.2.2.free 1; have f2 := K.out.2.2.free 2; have f3 := K.out.2.2.free 3; have f4 := K.out.2.2.free 4; have hz := z.out; have hz1 : w.heap.size < xw.heap.size := (by omega); have hz2 : w.heap.size + 1 < xw.heap.size := (by omega); have hz3 : w.heap.size + 1 + 1 < xw.heap.size := (by omega); have hz4 : w.heap.size + 2 < xw.heap.size := (by omega)))
    exact bodyPost_ret (v := posV ⟨5, false, i, g, _⟩) (by simp [results, Try.results15, go_sem, posV, r0, r1, r2, r3, r4, hz1, hz2, hz3]) rfl (posV_eq HEQ.out ((below_putF B.out (by omega) _ _ _ _ _).alloc (below_putF B.out (by omega) _ _ _ _ _).size _))
set_option maxRecDepth 100000 in
set_option maxHeartbeats 4000000 in
theorem s_kidPos_12_0 (o : Int) (t u : ByteArray) (A : Option Addr) (n c k : Nat) (l : Int) (d i g s : Bool) (w : World) (hn : n ≤ 8) (hkn : k < n) (hpo : posOk l d = true) (hl0 : levelOf 12 o ≠ 0) (hl15 : levelOf 12 o ≠ 15) (hk : k = 0) (h2 : n ≤ 2) : Calls Try.prog 15 #[.agg #[.int .i64 12, .int .i64 o, .string t, .string u, .slice A n c], .int .i64 (k : Int), .agg #[.int .i64 l, .bool d, .bool i, .bool g, .bool s]] w (RetPosV w (kidQ 12 o n k ⟨l, d, i, g, s⟩)) := by
  obtain ⟨L, hLL⟩ : ∃ L, levelOf 12 o = L := ⟨_, rfl⟩
  have hl15b : ¬ L = 15 := by rw [← hLL]; exact hl15
  rw [hLL] at hl0
  have hL := Lib.hid hLL
  have hl0b : (L == 0) = false := by simpa using hl0
  clear hLL hl15
  have K := Lib.hid (KP.made w 12 o t u (.slice A n c) l d i g s)
  have B := Lib.hid (kpW_below w 12 o t u (.slice A n c) l d i g s)
  have z := Lib.hid (show w.heap.size + 3 ≤ (kpW w 12 o t u (.slice A n c) l d i g s).heap.size by rw [kpW_size]; exact Nat.le_refl _)
  unfold kpW at K B z
  have n0 := K.out.1.get (i := 0) rfl
  have n1 := K.out.1.get (i := 1) rfl
  have n2 := K.out.1.get (i := 2) rfl
  have n3 := K.out.1.get (i := 3) rfl
  have n4 := K.out.1.get (i := 4) rfl
  have p0 := K.out.2.1.get (i := 0) rfl
  have p1 := K.out.2.1.get (i := 1) rfl
  have p2 := K.out.2.1.get (i := 2) rfl
  have p3 := K.out.2.1.get (i := 3) rfl
  have p4 := K.out.2.1.get (i := 4) rfl
  have r0 := K.out.2.2.get (i := 0) rfl
  have r1 := K.out.2.2.get (i := 1) rfl
  have r2 := K.out.2.2.get (i := 2) rfl
  have r3 := K.out.2.2.get (i := 3) rfl
  have r4 := K.out.2.2.get (i := 4) rfl
  have f0 := K.out.2.2.free 0
  have f1 := K.out.2.2.free 1
  have f2 := K.out.2.2.free 2
  have f3 := K.out.2.2.free 3
  have f4 := K.out.2.2.free 4
  have hin := Lib.hid (show inB (k : Int) 0 ((n : Int) - 1) = true by unfold inB; simp; omega)
  have hpo := Lib.hid hpo
  have hkz : ((k : Int) == 0) = true := by simp; omega
  have hkg : decide ((k : Int) > 0) = false := by simp; omega
  have hkg2 : decide (0 < (k : Int)) = false := by simp; omega
  have hkg3 : decide (0 < k) = false := by simp; omega
  have hkg4 : ¬ 0 < k := by omega
  obtain ⟨SA, hSA⟩ : ∃ SA, sideA (opLevel o) = SA := ⟨_, rfl⟩
  obtain ⟨SB, hSB⟩ : ∃ SB, sideB (opLevel o) = SB := ⟨_, rfl⟩
  have hsd := Lib.hid (show ∀ W, Calls Try.prog 27 #[.int .i64 o] W (fun e w' => e = .returned (.tuple #[.int .i64 SA, .int .i64 SB]) ∧ W = w') by rw [← hSA, ← hSB]; exact fun W => s_sides o W)
  have HEQ : kidQ 12 o n k ⟨l, d, i, g, s⟩ = ⟨SA, false, i, g, s⟩ := by
    unfold kidQ kidLevelP
    rw [if_neg (by rw [hL.out]; simp [hl15b])]
    rw [if_neg (show ¬ ((12 : Int) = 11 ∨ (12 : Int) = 9 ∨ (12 : Int) = 10 ∨ (12 : Int) = 6) by decide)]
    rw [← hSA]
    subst hk
    simp
  have HEQ := Lib.hid HEQ
  have hkH := Lib.hid hk
  clear hk
  clear hSA hSB
  cases s
  all_goals
    go_enter Try.func15, Try.ntmps15
    go_wp2_with (first
      | (go_at_call 16; refine (s_posOk l d i g _ _).mono ?_; rintro e xw ⟨rfl, hb⟩; rw [hpo.out]; clear n0 n1 n2 n3 n4 p0 p1 p2 p3 p4 r0 r1 r2 r3 r4 f0 f1 f2 f3 f4; have K := Lib.hid (K.out.keep hb (by have := z.out; omega)); have B := Lib.hid (B.out.trans (hb.mono B.out.size)); have z := Lib.hid (Nat.le_trans z.out hb.size); clear hb; have n0 := K.out.1.get (i := 0) rfl; have n1 := K.out.1.get (i := 1) rfl; have n2 := K.out.1.get (i := 2) rfl; have n3 := K.out.1.get (i := 3) rfl; have n4 := K.out.1.get (i := 4) rfl; have p0 := K.out.2.1.get (i := 0) rfl; have p1 := K.out.2.1.get (i := 1) rfl; have p2 := K.out.2.1.get (i := 2) rfl; have p3 := K.out.2.1.get (i := 3) rfl; have p4 := K.out.2.1.get (i := 4) rfl; have r0 := K.out.2.2.get (i := 0) rfl; have r1 := K.out.2.2.get (i := 1) rfl; have r2 := K.out.2.2.get (i := 2) rfl; have r3 := K.out.2.2.get (i := 3) rfl; have r4 := K.out.2.2.get (i := 4) rfl; have f0 := K.out.2.2.free 0; have f1 := K.out.2.2.free 1; have f2 := K.out.2.2.free 2; have f3 := K.out.2.2.free 3; have f4 := K.out.2.2.free 4; have hz := z.out; have hz1 : w.heap.size < xw.heap.size := (by omega); have hz2 : w.heap.size + 1 < xw.heap.size := (by omega); have hz3 : w.heap.size + 1 + 1 < xw.heap.size := (by omega); have hz4 : w.heap.size + 2 < xw.heap.size := (by omega))
      | (go_at_call 25; refine (s_l1In _ _ _ _).mono ?_; rintro e w' ⟨rfl, rfl⟩; rw [hin.out])
      | (go_at_call 17; refine (s_levelOf 12 o t u A n c _).mono ?_; rintro e xw ⟨rfl, hb⟩; rw [hL.out]; clear n0 n1 n2 n3 n4 p0 p1 p2 p3 p4 r0 r1 r2 r3 r4 f0 f1 f2 f3 f4; have K := Lib.hid (K.out.keep hb (by have := z.out; omega)); have B := Lib.hid (B.out.trans (hb.mono B.out.size)); have z := Lib.hid (Nat.le_trans z.out hb.size); clear hb; have n0 := K.out.1.get (i := 0) rfl; have n1 := K.out.1.get (i := 1) rfl; have n2 := K.out.1.get (i := 2) rfl; have n3 := K.out.1.get (i := 3) rfl; have n4 := K.out.1.get (i := 4) rfl; have p0 := K.out.2.1.get (i := 0) rfl; have p1 := K.out.2.1.get (i := 1) rfl; have p2 := K.out.2.1.get (i := 2) rfl; have p3 := K.out.2.1.get (i := 3) rfl; have p4 := K.out.2.1.get (i := 4) rfl; have r0 := K.out.2.2.get (i := 0) rfl; have r1 := K.out.2.2.get (i := 1) rfl; have r2 := K.out.2.2.get (i := 2) rfl; have r3 := K.out.2.2.get (i := 3) rfl; have r4 := K.out.2.2.get (i := 4) rfl; have f0 := K.out.2.2.free 0; have f1 := K.out.2.2.free 1; have f2 := K.out.2.2.free 2; have f3 := K.out.2.2.free 3; have f4 := K.out.2.2.free 4; have hz := z.out; have hz1 : w.heap.size < xw.heap.size := (by omega); have hz2 : w.heap.size + 1 < xw.heap.size := (by omega); have hz3 : w.heap.size + 1 + 1 < xw.heap.size := (by omega); have hz4 : w.heap.size + 2 < xw.heap.size := (by omega))
      | (go_at_call 27; refine (hsd.out _).mono ?_; rintro e w' ⟨rfl, rfl⟩))
    exact bodyPost_ret (v := posV ⟨SA, false, i, g, _⟩) (by simp [results, Try.results15, go_sem, posV, r0, r1, r2, r3, r4, hz1, hz2, hz3]) rfl (posV_eq HEQ.out ((below_putF B.out (by omega) _ _ _ _ _).alloc (below_putF B.out (by omega) _ _ _ _ _).size _))
set_option maxRecDepth 100000 in
set_option maxHeartbeats 4000000 in
theorem s_kidPos_12_1 (o : Int) (t u : ByteArray) (A : Option Addr) (n c k : Nat) (l : Int) (d i g s : Bool) (w : World) (hn : n ≤ 8) (hkn : k < n) (hpo : posOk l d = true) (hl0 : levelOf 12 o ≠ 0) (hl15 : levelOf 12 o ≠ 15) (hk : 0 < k) (h2 : n ≤ 2) : Calls Try.prog 15 #[.agg #[.int .i64 12, .int .i64 o, .string t, .string u, .slice A n c], .int .i64 (k : Int), .agg #[.int .i64 l, .bool d, .bool i, .bool g, .bool s]] w (RetPosV w (kidQ 12 o n k ⟨l, d, i, g, s⟩)) := by
  obtain ⟨L, hLL⟩ : ∃ L, levelOf 12 o = L := ⟨_, rfl⟩
  have hl15b : ¬ L = 15 := by rw [← hLL]; exact hl15
  rw [hLL] at hl0
  have hL := Lib.hid hLL
  have hl0b : (L == 0) = false := by simpa using hl0
  clear hLL hl15
  have K := Lib.hid (KP.made w 12 o t u (.slice A n c) l d i g s)
  have B := Lib.hid (kpW_below w 12 o t u (.slice A n c) l d i g s)
  have z := Lib.hid (show w.heap.size + 3 ≤ (kpW w 12 o t u (.slice A n c) l d i g s).heap.size by rw [kpW_size]; exact Nat.le_refl _)
  unfold kpW at K B z
  have n0 := K.out.1.get (i := 0) rfl
  have n1 := K.out.1.get (i := 1) rfl
  have n2 := K.out.1.get (i := 2) rfl
  have n3 := K.out.1.get (i := 3) rfl
  have n4 := K.out.1.get (i := 4) rfl
  have p0 := K.out.2.1.get (i := 0) rfl
  have p1 := K.out.2.1.get (i := 1) rfl
  have p2 := K.out.2.1.get (i := 2) rfl
  have p3 := K.out.2.1.get (i := 3) rfl
  have p4 := K.out.2.1.get (i := 4) rfl
  have r0 := K.out.2.2.get (i := 0) rfl
  have r1 := K.out.2.2.get (i := 1) rfl
  have r2 := K.out.2.2.get (i := 2) rfl
  have r3 := K.out.2.2.get (i := 3) rfl
  have r4 := K.out.2.2.get (i := 4) rfl
  have f0 := K.out.2.2.free 0
  have f1 := K.out.2.2.free 1
  have f2 := K.out.2.2.free 2
  have f3 := K.out.2.2.free 3
  have f4 := K.out.2.2.free 4
  have hin := Lib.hid (show inB (k : Int) 0 ((n : Int) - 1) = true by unfold inB; simp; omega)
  have hpo := Lib.hid hpo
  have hkz : ((k : Int) == 0) = false := by simp; omega
  have hkg : decide ((k : Int) > 0) = true := by simp; omega
  have hkg2 : decide (0 < (k : Int)) = true := by simp; omega
  have hkg3 : decide (0 < k) = true := by simp; omega
  have hkg4 : 0 < k := by omega
  obtain ⟨SA, hSA⟩ : ∃ SA, sideA (opLevel o) = SA := ⟨_, rfl⟩
  obtain ⟨SB, hSB⟩ : ∃ SB, sideB (opLevel o) = SB := ⟨_, rfl⟩
  have hsd := Lib.hid (show ∀ W, Calls Try.prog 27 #[.int .i64 o] W (fun e w' => e = .returned (.tuple #[.int .i64 SA, .int .i64 SB]) ∧ W = w') by rw [← hSA, ← hSB]; exact fun W => s_sides o W)
  have HEQ : kidQ 12 o n k ⟨l, d, i, g, s⟩ = ⟨SB, false, i, g, (o == 99)⟩ := by
    unfold kidQ kidLevelP
    rw [if_neg (by rw [hL.out]; simp [hl15b])]
    rw [if_neg (show ¬ ((12 : Int) = 11 ∨ (12 : Int) = 9 ∨ (12 : Int) = 10 ∨ (12 : Int) = 6) by decide)]
    rw [← hSB]
    have hk0 : ¬ k = 0 := by omega
    by_cases ho : o = 99 <;> simp [ho, hk0]
  have HEQ := Lib.hid HEQ
  have hkH := Lib.hid hk
  clear hk
  clear hSA hSB
  cases s
  all_goals
    go_enter Try.func15, Try.ntmps15
    go_wp2_with (first
      | (go_at_call 16; refine (s_posOk l d i g _ _).mono ?_; rintro e xw ⟨rfl, hb⟩; rw [hpo.out]; clear n0 n1 n2 n3 n4 p0 p1 p2 p3 p4 r0 r1 r2 r3 r4 f0 f1 f2 f3 f4; have K := Lib.hid (K.out.keep hb (by have := z.out; omega)); have B := Lib.hid (B.out.trans (hb.mono B.out.size)); have z := Lib.hid (Nat.le_trans z.out hb.size); clear hb; have n0 := K.out.1.get (i := 0) rfl; have n1 := K.out.1.get (i := 1) rfl; have n2 := K.out.1.get (i := 2) rfl; have n3 := K.out.1.get (i := 3) rfl; have n4 := K.out.1.get (i := 4) rfl; have p0 := K.out.2.1.get (i := 0) rfl; have p1 := K.out.2.1.get (i := 1) rfl; have p2 := K.out.2.1.get (i := 2) rfl; have p3 := K.out.2.1.get (i := 3) rfl; have p4 := K.out.2.1.get (i := 4) rfl; have r0 := K.out.2.2.get (i := 0) rfl; have r1 := K.out.2.2.get (i := 1) rfl; have r2 := K.out.2.2.get (i := 2) rfl; have r3 := K.out.2.2.get (i := 3) rfl; have r4 := K.out.2.2.get (i := 4) rfl; have f0 := K.out.2.2.free 0; have f1 := K.out.2.2.free 1; have f2 := K.out.2.2.free 2; have f3 := K.out.2.2.free 3; have f4 := K.out.2.2.free 4; have hz := z.out; have hz1 : w.heap.size < xw.heap.size := (by omega); have hz2 : w.heap.size + 1 < xw.heap.size := (by omega); have hz3 : w.heap.size + 1 + 1 < xw.heap.size := (by omega); have hz4 : w.heap.size + 2 < xw.heap.size := (by omega))
      | (go_at_call 25; refine (s_l1In _ _ _ _).mono ?_; rintro e w' ⟨rfl, rfl⟩; rw [hin.out])
      | (go_at_call 17; refine (s_levelOf 12 o t u A n c _).mono ?_; rintro e xw ⟨rfl, hb⟩; rw [hL.out]; clear n0 n1 n2 n3 n4 p0 p1 p2 p3 p4 r0 r1 r2 r3 r4 f0 f1 f2 f3 f4; have K := Lib.hid (K.out.keep hb (by have := z.out; omega)); have B := Lib.hid (B.out.trans (hb.mono B.out.size)); have z := Lib.hid (Nat.le_trans z.out hb.size); clear hb; have n0 := K.out.1.get (i := 0) rfl; have n1 := K.out.1.get (i := 1) rfl; have n2 := K.out.1.get (i := 2) rfl; have n3 := K.out.1.get (i := 3) rfl; have n4 := K.out.1.get (i := 4) rfl; have p0 := K.out.2.1.get (i := 0) rfl; have p1 := K.out.2.1.get (i := 1) rfl; have p2 := K.out.2.1.get (i := 2) rfl; have p3 := K.out.2.1.get (i := 3) rfl; have p4 := K.out.2.1.get (i := 4) rfl; have r0 := K.out.2.2.get (i := 0) rfl; have r1 := K.out.2.2.get (i := 1) rfl; have r2 := K.out.2.2.get (i := 2) rfl; have r3 := K.out.2.2.get (i := 3) rfl; have r4 := K.out.2.2.get (i := 4) rfl; have f0 := K.out.2.2.free 0; have f1 := K.out.2.2.free 1; have f2 := K.out.2.2.free 2; have f3 := K.out.2.2.free 3; have f4 := K.out.2.2.free 4; have hz := z.out; have hz1 : w.heap.size < xw.heap.size := (by omega); have hz2 : w.heap.size + 1 < xw.heap.size := (by omega); have hz3 : w.heap.size + 1 + 1 < xw.heap.size := (by omega); have hz4 : w.heap.size + 2 < xw.heap.size := (by omega))
      | (go_at_call 27; refine (hsd.out _).mono ?_; rintro e w' ⟨rfl, rfl⟩))
    exact bodyPost_ret (v := posV ⟨SB, false, i, g, (o == 99)⟩) (by simp [results, Try.results15, go_sem, posV, r0, r1, r2, r3, r4, hz1, hz2, hz3]) rfl (posV_eq HEQ.out ((below_putF B.out (by omega) _ _ _ _ _).alloc (below_putF B.out (by omega) _ _ _ _ _).size _))
set_option maxRecDepth 100000 in
set_option maxHeartbeats 4000000 in
theorem s_kidPos_11 (o : Int) (t u : ByteArray) (A : Option Addr) (n c k : Nat) (l : Int) (d i g s : Bool) (w : World) (hn : n ≤ 8) (hkn : k < n) (hpo : posOk l d = true)  : Calls Try.prog 15 #[.agg #[.int .i64 11, .int .i64 o, .string t, .string u, .slice A n c], .int .i64 (k : Int), .agg #[.int .i64 l, .bool d, .bool i, .bool g, .bool s]] w (RetPosV w (kidQ 11 o n k ⟨l, d, i, g, s⟩)) := by
  have hL := Lib.hid (show levelOf 11 o = 11 from rfl)
  have K := Lib.hid (KP.made w 11 o t u (.slice A n c) l d i g s)
  have B := Lib.hid (kpW_below w 11 o t u (.slice A n c) l d i g s)
  have z := Lib.hid (show w.heap.size + 3 ≤ (kpW w 11 o t u (.slice A n c) l d i g s).heap.size by rw [kpW_size]; exact Nat.le_refl _)
  unfold kpW at K B z
  have n0 := K.out.1.get (i := 0) rfl
  have n1 := K.out.1.get (i := 1) rfl
  have n2 := K.out.1.get (i := 2) rfl
  have n3 := K.out.1.get (i := 3) rfl
  have n4 := K.out.1.get (i := 4) rfl
  have p0 := K.out.2.1.get (i := 0) rfl
  have p1 := K.out.2.1.get (i := 1) rfl
  have p2 := K.out.2.1.get (i := 2) rfl
  have p3 := K.out.2.1.get (i := 3) rfl
  have p4 := K.out.2.1.get (i := 4) rfl
  have r0 := K.out.2.2.get (i := 0) rfl
  have r1 := K.out.2.2.get (i := 1) rfl
  have r2 := K.out.2.2.get (i := 2) rfl
  have r3 := K.out.2.2.get (i := 3) rfl
  have r4 := K.out.2.2.get (i := 4) rfl
  have f0 := K.out.2.2.free 0
  have f1 := K.out.2.2.free 1
  have f2 := K.out.2.2.free 2
  have f3 := K.out.2.2.free 3
  have f4 := K.out.2.2.free 4
  have hin := Lib.hid (show inB (k : Int) 0 ((n : Int) - 1) = true by unfold inB; simp; omega)
  have hpo := Lib.hid hpo
  have HEQ : kidQ 11 o n k ⟨l, d, i, g, s⟩ = ⟨11, false, i, g, false⟩ := by
    unfold kidQ kidLevelP
    rw [if_neg (by rw [hL.out]; omega)]
    simp
  have HEQ := Lib.hid HEQ
  cases s
  all_goals
    go_enter Try.func15, Try.ntmps15
    go_wp2_with (first
      | (go_at_call 16; refine (s_posOk l d i g _ _).mono ?_; rintro e xw ⟨rfl, hb⟩; rw [hpo.out]; clear n0 n1 n2 n3 n4 p0 p1 p2 p3 p4 r0 r1 r2 r3 r4 f0 f1 f2 f3 f4; have K := Lib.hid (K.out.keep hb (by have := z.out; omega)); have B := Lib.hid (B.out.trans (hb.mono B.out.size)); have z := Lib.hid (Nat.le_trans z.out hb.size); clear hb; have n0 := K.out.1.get (i := 0) rfl; have n1 := K.out.1.get (i := 1) rfl; have n2 := K.out.1.get (i := 2) rfl; have n3 := K.out.1.get (i := 3) rfl; have n4 := K.out.1.get (i := 4) rfl; have p0 := K.out.2.1.get (i := 0) rfl; have p1 := K.out.2.1.get (i := 1) rfl; have p2 := K.out.2.1.get (i := 2) rfl; have p3 := K.out.2.1.get (i := 3) rfl; have p4 := K.out.2.1.get (i := 4) rfl; have r0 := K.out.2.2.get (i := 0) rfl; have r1 := K.out.2.2.get (i := 1) rfl; have r2 := K.out.2.2.get (i := 2) rfl; have r3 := K.out.2.2.get (i := 3) rfl; have r4 := K.out.2.2.get (i := 4) rfl; have f0 := K.out.2.2.free 0; have f1 := K.out.2.2.free 1; have f2 := K.out.2.2.free 2; have f3 := K.out.2.2.free 3; have f4 := K.out.2.2.free 4; have hz := z.out; have hz1 : w.heap.size < xw.heap.size := (by omega); have hz2 : w.heap.size + 1 < xw.heap.size := (by omega); have hz3 : w.heap.size + 1 + 1 < xw.heap.size := (by omega); have hz4 : w.heap.size + 2 < xw.heap.size := (by omega))
      | (go_at_call 25; refine (s_l1In _ _ _ _).mono ?_; rintro e w' ⟨rfl, rfl⟩; rw [hin.out])
      | (go_at_call 17; refine (s_levelOf 11 o t u A n c _).mono ?_; rintro e xw ⟨rfl, hb⟩; rw [hL.out]; clear n0 n1 n2 n3 n4 p0 p1 p2 p3 p4 r0 r1 r2 r3 r4 f0 f1 f2 f3 f4; have K := Lib.hid (K.out.keep hb (by have := z.out; omega)); have B := Lib.hid (B.out.trans (hb.mono B.out.size)); have z := Lib.hid (Nat.le_trans z.out hb.size); clear hb; have n0 := K.out.1.get (i := 0) rfl; have n1 := K.out.1.get (i := 1) rfl; have n2 := K.out.1.get (i := 2) rfl; have n3 := K.out.1.get (i := 3) rfl; have n4 := K.out.1.get (i := 4) rfl; have p0 := K.out.2.1.get (i := 0) rfl; have p1 := K.out.2.1.get (i := 1) rfl; have p2 := K.out.2.1.get (i := 2) rfl; have p3 := K.out.2.1.get (i := 3) rfl; have p4 := K.out.2.1.get (i := 4) rfl; have r0 := K.out.2.2.get (i := 0) rfl; have r1 := K.out.2.2.get (i := 1) rfl; have r2 := K.out.2.2.get (i := 2) rfl; have r3 := K.out.2.2.get (i := 3) rfl; have r4 := K.out.2.2.get (i := 4) rfl; have f0 := K.out.2.2.free 0; have f1 := K.out.2.2.free 1; have f2 := K.out.2.2.free 2; have f3 := K.out.2.2.free 3; have f4 := K.out.2.2.free 4; have hz := z.out; have hz1 : w.heap.size < xw.heap.size := (by omega); have hz2 : w.heap.size + 1 < xw.heap.size := (by omega); have hz3 : w.heap.size + 1 + 1 < xw.heap.size := (by omega); have hz4 : w.heap.size + 2 < xw.heap.size := (by omega)))
    exact bodyPost_ret (v := posV ⟨11, false, i, g, false⟩) (by simp [results, Try.results15, go_sem, posV, r0, r1, r2, r3, r4, hz1, hz2, hz3]) rfl (posV_eq HEQ.out ((below_putF B.out (by omega) _ _ _ _ _).alloc (below_putF B.out (by omega) _ _ _ _ _).size _))
set_option maxRecDepth 100000 in
set_option maxHeartbeats 4000000 in
theorem s_kidPos_9 (o : Int) (t u : ByteArray) (A : Option Addr) (n c k : Nat) (l : Int) (d i g s : Bool) (w : World) (hn : n ≤ 8) (hkn : k < n) (hpo : posOk l d = true)  : Calls Try.prog 15 #[.agg #[.int .i64 9, .int .i64 o, .string t, .string u, .slice A n c], .int .i64 (k : Int), .agg #[.int .i64 l, .bool d, .bool i, .bool g, .bool s]] w (RetPosV w (kidQ 9 o n k ⟨l, d, i, g, s⟩)) := by
  have hL := Lib.hid (show levelOf 9 o = 13 from rfl)
  have K := Lib.hid (KP.made w 9 o t u (.slice A n c) l d i g s)
  have B := Lib.hid (kpW_below w 9 o t u (.slice A n c) l d i g s)
  have z := Lib.hid (show w.heap.size + 3 ≤ (kpW w 9 o t u (.slice A n c) l d i g s).heap.size by rw [kpW_size]; exact Nat.le_refl _)
  unfold kpW at K B z
  have n0 := K.out.1.get (i := 0) rfl
  have n1 := K.out.1.get (i := 1) rfl
  have n2 := K.out.1.get (i := 2) rfl
  have n3 := K.out.1.get (i := 3) rfl
  have n4 := K.out.1.get (i := 4) rfl
  have p0 := K.out.2.1.get (i := 0) rfl
  have p1 := K.out.2.1.get (i := 1) rfl
  have p2 := K.out.2.1.get (i := 2) rfl
  have p3 := K.out.2.1.get (i := 3) rfl
  have p4 := K.out.2.1.get (i := 4) rfl
  have r0 := K.out.2.2.get (i := 0) rfl
  have r1 := K.out.2.2.get (i := 1) rfl
  have r2 := K.out.2.2.get (i := 2) rfl
  have r3 := K.out.2.2.get (i := 3) rfl
  have r4 := K.out.2.2.get (i := 4) rfl
  have f0 := K.out.2.2.free 0
  have f1 := K.out.2.2.free 1
  have f2 := K.out.2.2.free 2
  have f3 := K.out.2.2.free 3
  have f4 := K.out.2.2.free 4
  have hin := Lib.hid (show inB (k : Int) 0 ((n : Int) - 1) = true by unfold inB; simp; omega)
  have hpo := Lib.hid hpo
  have HEQ : kidQ 9 o n k ⟨l, d, i, g, s⟩ = ⟨14, false, i, g, false⟩ := by
    unfold kidQ kidLevelP
    rw [if_neg (by rw [hL.out]; omega)]
    simp
  have HEQ := Lib.hid HEQ
  cases s
  all_goals
    go_enter Try.func15, Try.ntmps15
    go_wp2_with (first
      | (go_at_call 16; refine (s_posOk l d i g _ _).mono ?_; rintro e xw ⟨rfl, hb⟩; rw [hpo.out]; clear n0 n1 n2 n3 n4 p0 p1 p2 p3 p4 r0 r1 r2 r3 r4 f0 f1 f2 f3 f4; have K := Lib.hid (K.out.keep hb (by have := z.out; omega)); have B := Lib.hid (B.out.trans (hb.mono B.out.size)); have z := Lib.hid (Nat.le_trans z.out hb.size); clear hb; have n0 := K.out.1.get (i := 0) rfl; have n1 := K.out.1.get (i := 1) rfl; have n2 := K.out.1.get (i := 2) rfl; have n3 := K.out.1.get (i := 3) rfl; have n4 := K.out.1.get (i := 4) rfl; have p0 := K.out.2.1.get (i := 0) rfl; have p1 := K.out.2.1.get (i := 1) rfl; have p2 := K.out.2.1.get (i := 2) rfl; have p3 := K.out.2.1.get (i := 3) rfl; have p4 := K.out.2.1.get (i := 4) rfl; have r0 := K.out.2.2.get (i := 0) rfl; have r1 := K.out.2.2.get (i := 1) rfl; have r2 := K.out.2.2.get (i := 2) rfl; have r3 := K.out.2.2.get (i := 3) rfl; have r4 := K.out.2.2.get (i := 4) rfl; have f0 := K.out.2.2.free 0; have f1 := K.out.2.2.free 1; have f2 := K.out.2.2.free 2; have f3 := K.out.2.2.free 3; have f4 := K.out.2.2.free 4; have hz := z.out; have hz1 : w.heap.size < xw.heap.size := (by omega); have hz2 : w.heap.size + 1 < xw.heap.size := (by omega); have hz3 : w.heap.size + 1 + 1 < xw.heap.size := (by omega); have hz4 : w.heap.size + 2 < xw.heap.size := (by omega))
      | (go_at_call 25; refine (s_l1In _ _ _ _).mono ?_; rintro e w' ⟨rfl, rfl⟩; rw [hin.out])
      | (go_at_call 17; refine (s_levelOf 9 o t u A n c _).mono ?_; rintro e xw ⟨rfl, hb⟩; rw [hL.out]; clear n0 n1 n2 n3 n4 p0 p1 p2 p3 p4 r0 r1 r2 r3 r4 f0 f1 f2 f3 f4; have K := Lib.hid (K.out.keep hb (by have := z.out; omega)); have B := Lib.hid (B.out.trans (hb.mono B.out.size)); have z := Lib.hid (Nat.le_trans z.out hb.size); clear hb; have n0 := K.out.1.get (i := 0) rfl; have n1 := K.out.1.get (i := 1) rfl; have n2 := K.out.1.get (i := 2) rfl; have n3 := K.out.1.get (i := 3) rfl; have n4 := K.out.1.get (i := 4) rfl; have p0 := K.out.2.1.get (i := 0) rfl; have p1 := K.out.2.1.get (i := 1) rfl; have p2 := K.out.2.1.get (i := 2) rfl; have p3 := K.out.2.1.get (i := 3) rfl; have p4 := K.out.2.1.get (i := 4) rfl; have r0 := K.out.2.2.get (i := 0) rfl; have r1 := K.out.2.2.get (i := 1) rfl; have r2 := K.out.2.2.get (i := 2) rfl; have r3 := K.out.2.2.get (i := 3) rfl; have r4 := K.out.2.2.get (i := 4) rfl; have f0 := K.out.2.2.free 0; have f1 := K.out.2.2.free 1; have f2 := K.out.2.2.free 2; have f3 := K.out.2.2.free 3; have f4 := K.out.2.2.free 4; have hz := z.out; have hz1 : w.heap.size < xw.heap.size := (by omega); have hz2 : w.heap.size + 1 < xw.heap.size := (by omega); have hz3 : w.heap.size + 1 + 1 < xw.heap.size := (by omega); have hz4 : w.heap.size + 2 < xw.heap.size := (by omega)))
    exact bodyPost_ret (v := posV ⟨14, false, i, g, false⟩) (by simp [results, Try.results15, go_sem, posV, r0, r1, r2, r3, r4, hz1, hz2, hz3]) rfl (posV_eq HEQ.out ((below_putF B.out (by omega) _ _ _ _ _).alloc (below_putF B.out (by omega) _ _ _ _ _).size _))
set_option maxRecDepth 100000 in
set_option maxHeartbeats 4000000 in
theorem s_kidPos_10 (o : Int) (t u : ByteArray) (A : Option Addr) (n c k : Nat) (l : Int) (d i g s : Bool) (w : World) (hn : n ≤ 8) (hkn : k < n) (hpo : posOk l d = true)  : Calls Try.prog 15 #[.agg #[.int .i64 10, .int .i64 o, .string t, .string u, .slice A n c], .int .i64 (k : Int), .agg #[.int .i64 l, .bool d, .bool i, .bool g, .bool s]] w (RetPosV w (kidQ 10 o n k ⟨l, d, i, g, s⟩)) := by
  have hL := Lib.hid (show levelOf 10 o = 13 from rfl)
  have K := Lib.hid (KP.made w 10 o t u (.slice A n c) l d i g s)
  have B := Lib.hid (kpW_below w 10 o t u (.slice A n c) l d i g s)
  have z := Lib.hid (show w.heap.size + 3 ≤ (kpW w 10 o t u (.slice A n c) l d i g s).heap.size by rw [kpW_size]; exact Nat.le_refl _)
  unfold kpW at K B z
  have n0 := K.out.1.get (i := 0) rfl
  have n1 := K.out.1.get (i := 1) rfl
  have n2 := K.out.1.get (i := 2) rfl
  have n3 := K.out.1.get (i := 3) rfl
  have n4 := K.out.1.get (i := 4) rfl
  have p0 := K.out.2.1.get (i := 0) rfl
  have p1 := K.out.2.1.get (i := 1) rfl
  have p2 := K.out.2.1.get (i := 2) rfl
  have p3 := K.out.2.1.get (i := 3) rfl
  have p4 := K.out.2.1.get (i := 4) rfl
  have r0 := K.out.2.2.get (i := 0) rfl
  have r1 := K.out.2.2.get (i := 1) rfl
  have r2 := K.out.2.2.get (i := 2) rfl
  have r3 := K.out.2.2.get (i := 3) rfl
  have r4 := K.out.2.2.get (i := 4) rfl
  have f0 := K.out.2.2.free 0
  have f1 := K.out.2.2.free 1
  have f2 := K.out.2.2.free 2
  have f3 := K.out.2.2.free 3
  have f4 := K.out.2.2.free 4
  have hin := Lib.hid (show inB (k : Int) 0 ((n : Int) - 1) = true by unfold inB; simp; omega)
  have hpo := Lib.hid hpo
  have HEQ : kidQ 10 o n k ⟨l, d, i, g, s⟩ = ⟨14, false, i, g, false⟩ := by
    unfold kidQ kidLevelP
    rw [if_neg (by rw [hL.out]; omega)]
    simp
  have HEQ := Lib.hid HEQ
  cases s
  all_goals
    go_enter Try.func15, Try.ntmps15
    go_wp2_with (first
      | (go_at_call 16; refine (s_posOk l d i g _ _).mono ?_; rintro e xw ⟨rfl, hb⟩; rw [hpo.out]; clear n0 n1 n2 n3 n4 p0 p1 p2 p3 p4 r0 r1 r2 r3 r4 f0 f1 f2 f3 f4; have K := Lib.hid (K.out.keep hb (by have := z.out; omega)); have B := Lib.hid (B.out.trans (hb.mono B.out.size)); have z := Lib.hid (Nat.le_trans z.out hb.size); clear hb; have n0 := K.out.1.get (i := 0) rfl; have n1 := K.out.1.get (i := 1) rfl; have n2 := K.out.1.get (i := 2) rfl; have n3 := K.out.1.get (i := 3) rfl; have n4 := K.out.1.get (i := 4) rfl; have p0 := K.out.2.1.get (i := 0) rfl; have p1 := K.out.2.1.get (i := 1) rfl; have p2 := K.out.2.1.get (i := 2) rfl; have p3 := K.out.2.1.get (i := 3) rfl; have p4 := K.out.2.1.get (i := 4) rfl; have r0 := K.out.2.2.get (i := 0) rfl; have r1 := K.out.2.2.get (i := 1) rfl; have r2 := K.out.2.2.get (i := 2) rfl; have r3 := K.out.2.2.get (i := 3) rfl; have r4 := K.out.2.2.get (i := 4) rfl; have f0 := K.out.2.2.free 0; have f1 := K.out.2.2.free 1; have f2 := K.out.2.2.free 2; have f3 := K.out.2.2.free 3; have f4 := K.out.2.2.free 4; have hz := z.out; have hz1 : w.heap.size < xw.heap.size := (by omega); have hz2 : w.heap.size + 1 < xw.heap.size := (by omega); have hz3 : w.heap.size + 1 + 1 < xw.heap.size := (by omega); have hz4 : w.heap.size + 2 < xw.heap.size := (by omega))
      | (go_at_call 25; refine (s_l1In _ _ _ _).mono ?_; rintro e w' ⟨rfl, rfl⟩; rw [hin.out])
      | (go_at_call 17; refine (s_levelOf 10 o t u A n c _).mono ?_; rintro e xw ⟨rfl, hb⟩; rw [hL.out]; clear n0 n1 n2 n3 n4 p0 p1 p2 p3 p4 r0 r1 r2 r3 r4 f0 f1 f2 f3 f4; have K := Lib.hid (K.out.keep hb (by have := z.out; omega)); have B := Lib.hid (B.out.trans (hb.mono B.out.size)); have z := Lib.hid (Nat.le_trans z.out hb.size); clear hb; have n0 := K.out.1.get (i := 0) rfl; have n1 := K.out.1.get (i := 1) rfl; have n2 := K.out.1.get (i := 2) rfl; have n3 := K.out.1.get (i := 3) rfl; have n4 := K.out.1.get (i := 4) rfl; have p0 := K.out.2.1.get (i := 0) rfl; have p1 := K.out.2.1.get (i := 1) rfl; have p2 := K.out.2.1.get (i := 2) rfl; have p3 := K.out.2.1.get (i := 3) rfl; have p4 := K.out.2.1.get (i := 4) rfl; have r0 := K.out.2.2.get (i := 0) rfl; have r1 := K.out.2.2.get (i := 1) rfl; have r2 := K.out.2.2.get (i := 2) rfl; have r3 := K.out.2.2.get (i := 3) rfl; have r4 := K.out.2.2.get (i := 4) rfl; have f0 := K.out.2.2.free 0; have f1 := K.out.2.2.free 1; have f2 := K.out.2.2.free 2; have f3 := K.out.2.2.free 3; have f4 := K.out.2.2.free 4; have hz := z.out; have hz1 : w.heap.size < xw.heap.size := (by omega); have hz2 : w.heap.size + 1 < xw.heap.size := (by omega); have hz3 : w.heap.size + 1 + 1 < xw.heap.size := (by omega); have hz4 : w.heap.size + 2 < xw.heap.size := (by omega)))
    exact bodyPost_ret (v := posV ⟨14, false, i, g, false⟩) (by simp [results, Try.results15, go_sem, posV, r0, r1, r2, r3, r4, hz1, hz2, hz3]) rfl (posV_eq HEQ.out ((below_putF B.out (by omega) _ _ _ _ _).alloc (below_putF B.out (by omega) _ _ _ _ _).size _))
set_option maxRecDepth 100000 in
set_option maxHeartbeats 4000000 in
theorem s_kidPos_6 (o : Int) (t u : ByteArray) (A : Option Addr) (n c k : Nat) (l : Int) (d i g s : Bool) (w : World) (hn : n ≤ 8) (hkn : k < n) (hpo : posOk l d = true)  : Calls Try.prog 15 #[.agg #[.int .i64 6, .int .i64 o, .string t, .string u, .slice A n c], .int .i64 (k : Int), .agg #[.int .i64 l, .bool d, .bool i, .bool g, .bool s]] w (RetPosV w (kidQ 6 o n k ⟨l, d, i, g, s⟩)) := by
  have hL := Lib.hid (show levelOf 6 o = 14 from rfl)
  have K := Lib.hid (KP.made w 6 o t u (.slice A n c) l d i g s)
  have B := Lib.hid (kpW_below w 6 o t u (.slice A n c) l d i g s)
  have z := Lib.hid (show w.heap.size + 3 ≤ (kpW w 6 o t u (.slice A n c) l d i g s).heap.size by rw [kpW_size]; exact Nat.le_refl _)
  unfold kpW at K B z
  have n0 := K.out.1.get (i := 0) rfl
  have n1 := K.out.1.get (i := 1) rfl
  have n2 := K.out.1.get (i := 2) rfl
  have n3 := K.out.1.get (i := 3) rfl
  have n4 := K.out.1.get (i := 4) rfl
  have p0 := K.out.2.1.get (i := 0) rfl
  have p1 := K.out.2.1.get (i := 1) rfl
  have p2 := K.out.2.1.get (i := 2) rfl
  have p3 := K.out.2.1.get (i := 3) rfl
  have p4 := K.out.2.1.get (i := 4) rfl
  have r0 := K.out.2.2.get (i := 0) rfl
  have r1 := K.out.2.2.get (i := 1) rfl
  have r2 := K.out.2.2.get (i := 2) rfl
  have r3 := K.out.2.2.get (i := 3) rfl
  have r4 := K.out.2.2.get (i := 4) rfl
  have f0 := K.out.2.2.free 0
  have f1 := K.out.2.2.free 1
  have f2 := K.out.2.2.free 2
  have f3 := K.out.2.2.free 3
  have f4 := K.out.2.2.free 4
  have hin := Lib.hid (show inB (k : Int) 0 ((n : Int) - 1) = true by unfold inB; simp; omega)
  have hpo := Lib.hid hpo
  have HEQ : kidQ 6 o n k ⟨l, d, i, g, s⟩ = ⟨14, true, i, g, false⟩ := by
    unfold kidQ kidLevelP
    rw [if_neg (by rw [hL.out]; omega)]
    simp
  have HEQ := Lib.hid HEQ
  cases s
  all_goals
    go_enter Try.func15, Try.ntmps15
    go_wp2_with (first
      | (go_at_call 16; refine (s_posOk l d i g _ _).mono ?_; rintro e xw ⟨rfl, hb⟩; rw [hpo.out]; clear n0 n1 n2 n3 n4 p0 p1 p2 p3 p4 r0 r1 r2 r3 r4 f0 f1 f2 f3 f4; have K := Lib.hid (K.out.keep hb (by have := z.out; omega)); have B := Lib.hid (B.out.trans (hb.mono B.out.size)); have z := Lib.hid (Nat.le_trans z.out hb.size); clear hb; have n0 := K.out.1.get (i := 0) rfl; have n1 := K.out.1.get (i := 1) rfl; have n2 := K.out.1.get (i := 2) rfl; have n3 := K.out.1.get (i := 3) rfl; have n4 := K.out.1.get (i := 4) rfl; have p0 := K.out.2.1.get (i := 0) rfl; have p1 := K.out.2.1.get (i := 1) rfl; have p2 := K.out.2.1.get (i := 2) rfl; have p3 := K.out.2.1.get (i := 3) rfl; have p4 := K.out.2.1.get (i := 4) rfl; have r0 := K.out.2.2.get (i := 0) rfl; have r1 := K.out.2.2.get (i := 1) rfl; have r2 := K.out.2.2.get (i := 2) rfl; have r3 := K.out.2.2.get (i := 3) rfl; have r4 := K.out.2.2.get (i := 4) rfl; have f0 := K.out.2.2.free 0; have f1 := K.out.2.2.free 1; have f2 := K.out.2.2.free 2; have f3 := K.out.2.2.free 3; have f4 := K.out.2.2.free 4; have hz := z.out; have hz1 : w.heap.size < xw.heap.size := (by omega); have hz2 : w.heap.size + 1 < xw.heap.size := (by omega); have hz3 : w.heap.size + 1 + 1 < xw.heap.size := (by omega); have hz4 : w.heap.size + 2 < xw.heap.size := (by omega))
      | (go_at_call 25; refine (s_l1In _ _ _ _).mono ?_; rintro e w' ⟨rfl, rfl⟩; rw [hin.out])
      | (go_at_call 17; refine (s_levelOf 6 o t u A n c _).mono ?_; rintro e xw ⟨rfl, hb⟩; rw [hL.out]; clear n0 n1 n2 n3 n4 p0 p1 p2 p3 p4 r0 r1 r2 r3 r4 f0 f1 f2 f3 f4; have K := Lib.hid (K.out.keep hb (by have := z.out; omega)); have B := Lib.hid (B.out.trans (hb.mono B.out.size)); have z := Lib.hid (Nat.le_trans z.out hb.size); clear hb; have n0 := K.out.1.get (i := 0) rfl; have n1 := K.out.1.get (i := 1) rfl; have n2 := K.out.1.get (i := 2) rfl; have n3 := K.out.1.get (i := 3) rfl; have n4 := K.out.1.get (i := 4) rfl; have p0 := K.out.2.1.get (i := 0) rfl; have p1 := K.out.2.1.get (i := 1) rfl; have p2 := K.out.2.1.get (i := 2) rfl; have p3 := K.out.2.1.get (i := 3) rfl; have p4 := K.out.2.1.get (i := 4) rfl; have r0 := K.out.2.2.get (i := 0) rfl; have r1 := K.out.2.2.get (i := 1) rfl; have r2 := K.out.2.2.get (i := 2) rfl; have r3 := K.out.2.2.get (i := 3) rfl; have r4 := K.out.2.2.get (i := 4) rfl; have f0 := K.out.2.2.free 0; have f1 := K.out.2.2.free 1; have f2 := K.out.2.2.free 2; have f3 := K.out.2.2.free 3; have f4 := K.out.2.2.free 4; have hz := z.out; have hz1 : w.heap.size < xw.heap.size := (by omega); have hz2 : w.heap.size + 1 < xw.heap.size := (by omega); have hz3 : w.heap.size + 1 + 1 < xw.heap.size := (by omega); have hz4 : w.heap.size + 2 < xw.heap.size := (by omega)))
    exact bodyPost_ret (v := posV ⟨14, true, i, g, false⟩) (by simp [results, Try.results15, go_sem, posV, r0, r1, r2, r3, r4, hz1, hz2, hz3]) rfl (posV_eq HEQ.out ((below_putF B.out (by omega) _ _ _ _ _).alloc (below_putF B.out (by omega) _ _ _ _ _).size _))
theorem s_kidPos (kd : Int) (o : Int) (t u : ByteArray) (A : Option Addr) (n c k : Nat) (l : Int) (d i g s : Bool) (w : World) (hn : n ≤ 8) (h2 : kd = 12 → n ≤ 2) : Calls Try.prog 15 #[.agg #[.int .i64 kd, .int .i64 o, .string t, .string u, .slice A n c], .int .i64 (k : Int), .agg #[.int .i64 l, .bool d, .bool i, .bool g, .bool s]] w (RetPosV w (kidP kd o n k ⟨l, d, i, g, s⟩)) := by
  unfold kidP
  cases hb : kidPosB kd o n k ⟨l, d, i, g, s⟩
  · rw [if_neg (by decide)]
    exact s_kidPos_no kd o t u A n c k l d i g s w hn hb
  rw [if_pos rfl]
  unfold kidPosB at hb
  simp only [Bool.and_eq_true, decide_eq_true_eq, Bool.not_eq_true', beq_eq_false_iff_ne] at hb
  obtain ⟨⟨hpo, hkn⟩, hlv⟩ := hb
  by_cases h15 : levelOf kd o = 15
  · have e : kidQ kd o n k ⟨l, d, i, g, s⟩ = topP := by unfold kidQ; rw [if_pos (.inr h15)]
    rw [e]
    exact s_kidPos_top kd o t u A n c k l d i g s w hn hkn hpo h15
  have hkd : kd = 15 ∨ kd = 14 ∨ kd = 13 ∨ kd = 12 ∨ kd = 11 ∨ kd = 9 ∨ kd = 10 ∨ kd = 6 := by
    unfold levelOf at hlv h15
    omega
  rcases hkd with rfl | rfl | rfl | rfl | rfl | rfl | rfl | rfl
  · rcases (show k = 0 ∨ 0 < k by omega) with hk0 | hk0
    · exact s_kidPos_15_0 o t u A n c k l d i g s w hn hkn hpo hk0
    · exact s_kidPos_15_1 o t u A n c k l d i g s w hn hkn hpo hk0
  · rcases (show k = 0 ∨ 0 < k by omega) with hk0 | hk0
    · exact s_kidPos_14_0 o t u A n c k l d i g s w hn hkn hpo hk0
    · exact s_kidPos_14_1 o t u A n c k l d i g s w hn hkn hpo hk0
  · by_cases hn1 : 1 < n
    · have e : kidQ 13 o n k ⟨l, d, i, g, s⟩ = topP := by unfold kidQ; rw [if_pos (.inl ⟨rfl, hn1⟩)]
      rw [e]
      exact s_kidPos_in o t u A n c k l d i g s w hn hkn hpo hn1
    · exact s_kidPos_13_0 o t u A n c k l d i g s w hn hkn hpo (by omega) (by omega)
  · have h2 := h2 rfl
    rcases (show k = 0 ∨ 0 < k by omega) with hk0 | hk0
    · exact s_kidPos_12_0 o t u A n c k l d i g s w hn hkn hpo hlv h15 hk0 h2
    · exact s_kidPos_12_1 o t u A n c k l d i g s w hn hkn hpo hlv h15 hk0 h2
  · exact s_kidPos_11 o t u A n c k l d i g s w hn hkn hpo
  · exact s_kidPos_9 o t u A n c k l d i g s w hn hkn hpo
  · exact s_kidPos_10 o t u A n c k l d i g s w hn hkn hpo
  · exact s_kidPos_6 o t u A n c k l d i g s w hn hkn hpo
end Go.Proofs.Ytlabmboedjnpmaa
