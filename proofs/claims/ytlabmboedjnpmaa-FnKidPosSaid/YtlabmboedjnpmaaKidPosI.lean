/- KidPos of the program (walks; printed by gen_kidpos2.py). -/
import Derived.Test.YtlabmboedjnpmaaKidPos
import Derived.Deep.RegionHeld3
namespace Go.Proofs.Ytlabmboedjnpmaa
open Go.RowKit
set_option linter.unusedVariables false
set_option linter.unusedSimpArgs false
/-- the three blocks: the node, the position, the result -/
def KP (W : World) (b : Nat) (kd o : Int) (t u : ByteArray) (kv : Value) (l : Int) (d i g s : Bool) : Prop :=
  Has W b 26 #[.int .i64 kd, .int .i64 o, .string t, .string u, kv] ∧ Has W (b + 1) 28 #[.int .i64 l, .bool d, .bool i, .bool g, .bool s] ∧ Has W (b + 2) 28 #[.int .i64 0, .bool false, .bool false, .bool false, .bool false]
theorem KP.keep {W W' : World} {B b : Nat} {kd o : Int} {t u : ByteArray} {kv : Value} {l : Int} {d i g s : Bool} (h : KP W b kd o t u kv l d i g s) (hb : Below B W W') (hB : b + 2 < B) : KP W' b kd o t u kv l d i g s :=
  ⟨h.1.below hb (by omega), h.2.1.below hb (by omega), h.2.2.below hb (by omega)⟩
def kpW (w : World) (kd o : Int) (t u : ByteArray) (kv : Value) (l : Int) (d i g s : Bool) : World := ((w.alloc (.cells #[.int .i64 kd, .int .i64 o, .string t, .string u, kv] 26)).alloc (.cells #[.int .i64 l, .bool d, .bool i, .bool g, .bool s] 28)).alloc (.cells #[.int .i64 0, .bool false, .bool false, .bool false, .bool false] 28)
theorem KP.made (w : World) (kd o : Int) (t u : ByteArray) (kv : Value) (l : Int) (d i g s : Bool) : KP (kpW w kd o t u kv l d i g s) w.heap.size kd o t u kv l d i g s := by
  unfold kpW
  refine ⟨((Has.made _ _ _).alloc _).alloc _, ?_, ?_⟩
  · have := (Has.made (w.alloc (.cells #[.int .i64 kd, .int .i64 o, .string t, .string u, kv] 26)) 28 #[.int .i64 l, .bool d, .bool i, .bool g, .bool s]).alloc (.cells #[.int .i64 0, .bool false, .bool false, .bool false, .bool false] 28)
    simpa using this
  · have := Has.made ((w.alloc (.cells #[.int .i64 kd, .int .i64 o, .string t, .string u, kv] 26)).alloc (.cells #[.int .i64 l, .bool d, .bool i, .bool g, .bool s] 28)) 28 #[.int .i64 0, .bool false, .bool false, .bool false, .bool false]
    simpa using this
theorem kpW_below (w : World) (kd o : Int) (t u : ByteArray) (kv : Value) (l : Int) (d i g s : Bool) : Below w.heap.size w (kpW w kd o t u kv l d i g s) := by
  unfold kpW
  exact (((Below.refl _ _).alloc (Nat.le_refl _) _).alloc (by simp) _).alloc (by simp; omega) _
theorem kpW_size (w : World) (kd o : Int) (t u : ByteArray) (kv : Value) (l : Int) (d i g s : Bool) : (kpW w kd o t u kv l d i g s).heap.size = w.heap.size + 3 := by
  unfold kpW
  simp
theorem Has.putF {W : World} {x : Nat} {T : TypeId} {z0 z1 z2 z3 z4 : Value} (h : Has W x T #[z0, z1, z2, z3, z4]) (a0 a1 a2 a3 a4 : Value) : Has (Go.Proofs.Ytlabmboedjnpmaa.putF W x a0 a1 a2 a3 a4) x T #[a0, a1, a2, a3, a4] := by
  unfold Go.Proofs.Ytlabmboedjnpmaa.putF
  simpa using ((((h.set 0 a0).set 1 a1).set 2 a2).set 3 a3).set 4 a4
theorem Has.putF_other {W : World} {x b : Nat} {T : TypeId} {cs : Array Value} (h : Has W b T cs) (hne : b ≠ x) (a0 a1 a2 a3 a4 : Value) : Has (Go.Proofs.Ytlabmboedjnpmaa.putF W x a0 a1 a2 a3 a4) b T cs :=
  ((((h.other (p := ⟨x, 0, none⟩) hne a0).other (p := ⟨x, 1, none⟩) hne a1).other (p := ⟨x, 2, none⟩) hne a2).other (p := ⟨x, 3, none⟩) hne a3).other (p := ⟨x, 4, none⟩) hne a4
theorem KP.putF {W : World} {b x : Nat} {kd o : Int} {t u : ByteArray} {kv : Value} {l : Int} {d i g s : Bool} (h : KP W b kd o t u kv l d i g s) (hx : b + 2 < x) (a0 a1 a2 a3 a4 : Value) : KP (Go.Proofs.Ytlabmboedjnpmaa.putF W x a0 a1 a2 a3 a4) b kd o t u kv l d i g s :=
  ⟨h.1.putF_other (by omega) _ _ _ _ _, h.2.1.putF_other (by omega) _ _ _ _ _, h.2.2.putF_other (by omega) _ _ _ _ _⟩
theorem posV_eq {w w' : World} {p q : PPos} (h : p = q) (hb : Below w.heap.size w w') : RetPosV w p (.returned (posV q)) w' := by
  subst h
  exact ⟨rfl, hb⟩
set_option maxRecDepth 100000 in
set_option maxHeartbeats 4000000 in
theorem i_kidPos_no (kd : Int) (o : Int) (t u : ByteArray) (A : Option Addr) (n c k : Nat) (l : Int) (d i g s : Bool) (w : World) (hn : n ≤ 8) (hb : kidPosB kd o n k ⟨l, d, i, g, s⟩ = false) : Calls Try.prog 14 #[.agg #[.int .i64 kd, .int .i64 o, .string t, .string u, .slice A n c], .int .i64 (k : Int), .agg #[.int .i64 l, .bool d, .bool i, .bool g, .bool s]] w (RetPosV w ⟨0, false, false, false, false⟩) := by
  have K0 := Lib.hid (KP.made w kd o t u (.slice A n c) l d i g s)
  have B0 := Lib.hid (kpW_below w kd o t u (.slice A n c) l d i g s)
  have z0 := Lib.hid (show w.heap.size + 3 ≤ (kpW w kd o t u (.slice A n c) l d i g s).heap.size by rw [kpW_size]; exact Nat.le_refl _)
  unfold kpW at K0 B0 z0
  unfold kidPosB at hb
  dsimp only at hb
  cases hpo1 : posOk l d
  · have hpo := Lib.hid hpo1
    clear hpo1 hb
    go_enter Try.func14, Try.ntmps14
    go_wp2_with (go_at_call 12; refine (i_posOk l d i g s _).mono ?_; rintro e x1 ⟨rfl, hb1⟩; rw [hpo.out]; have K1 := Lib.hid (K0.out.keep hb1 (by have := z0.out; omega)); have B1 := Lib.hid (B0.out.trans (hb1.mono B0.out.size)); have z1 := Lib.hid (Nat.le_trans z0.out hb1.size); clear hb1; have n0 := K1.out.1.get (i := 0) rfl; have n1 := K1.out.1.get (i := 1) rfl; have n2 := K1.out.1.get (i := 2) rfl; have n3 := K1.out.1.get (i := 3) rfl; have n4 := K1.out.1.get (i := 4) rfl; have p0 := K1.out.2.1.get (i := 0) rfl; have p1 := K1.out.2.1.get (i := 1) rfl; have p2 := K1.out.2.1.get (i := 2) rfl; have p3 := K1.out.2.1.get (i := 3) rfl; have p4 := K1.out.2.1.get (i := 4) rfl; have r0 := K1.out.2.2.get (i := 0) rfl; have r1 := K1.out.2.2.get (i := 1) rfl; have r2 := K1.out.2.2.get (i := 2) rfl; have r3 := K1.out.2.2.get (i := 3) rfl; have r4 := K1.out.2.2.get (i := 4) rfl; have f0 := K1.out.2.2.free 0; have f1 := K1.out.2.2.free 1; have f2 := K1.out.2.2.free 2; have f3 := K1.out.2.2.free 3; have f4 := K1.out.2.2.free 4; have hz1 := z1.out)
    exact bodyPost_ret (v := posV ⟨0, false, false, false, false⟩) (by simp [results, Try.results14, go_sem, posV, r0, r1, r2, r3, r4]) rfl (posV_eq rfl (below_putF B1.out (by omega) _ _ _ _ _))
  · have hpo := Lib.hid hpo1
    rw [hpo1, Bool.true_and] at hb
    clear hpo1
    by_cases hkn : k < n
    · have hin := Lib.hid (show inB (k : Int) 0 ((n : Int) - 1) = true by unfold inB; simp; omega)
      have hL := Lib.hid (show levelOf kd o = 0 by simpa [hkn] using hb)
      clear hb
      go_enter Try.func14, Try.ntmps14
      go_wp2_with (first
      | (go_at_call 12; refine (i_posOk l d i g s _).mono ?_; rintro e x1 ⟨rfl, hb1⟩; rw [hpo.out]; have K1 := Lib.hid (K0.out.keep hb1 (by have := z0.out; omega)); have B1 := Lib.hid (B0.out.trans (hb1.mono B0.out.size)); have z1 := Lib.hid (Nat.le_trans z0.out hb1.size); clear hb1; have n0 := K1.out.1.get (i := 0) rfl; have n1 := K1.out.1.get (i := 1) rfl; have n2 := K1.out.1.get (i := 2) rfl; have n3 := K1.out.1.get (i := 3) rfl; have n4 := K1.out.1.get (i := 4) rfl; have p0 := K1.out.2.1.get (i := 0) rfl; have p1 := K1.out.2.1.get (i := 1) rfl; have p2 := K1.out.2.1.get (i := 2) rfl; have p3 := K1.out.2.1.get (i := 3) rfl; have p4 := K1.out.2.1.get (i := 4) rfl; have r0 := K1.out.2.2.get (i := 0) rfl; have r1 := K1.out.2.2.get (i := 1) rfl; have r2 := K1.out.2.2.get (i := 2) rfl; have r3 := K1.out.2.2.get (i := 3) rfl; have r4 := K1.out.2.2.get (i := 4) rfl; have f0 := K1.out.2.2.free 0; have f1 := K1.out.2.2.free 1; have f2 := K1.out.2.2.free 2; have f3 := K1.out.2.2.free 3; have f4 := K1.out.2.2.free 4; have hz1 := z1.out)
      | (go_at_call 21; refine (i_within _ _ _ _).mono ?_; rintro e w' ⟨rfl, rfl⟩; rw [hin.out])
      | (go_at_call 11; refine (i_levelOf kd o t u A n c _).mono ?_; rintro e x2 ⟨rfl, hb2⟩; rw [hL.out]; clear n0 n1 n2 n3 n4 p0 p1 p2 p3 p4 r0 r1 r2 r3 r4 f0 f1 f2 f3 f4; have K2 := Lib.hid (K1.out.keep hb2 (by have := z1.out; omega)); have B2 := Lib.hid (B1.out.trans (hb2.mono B1.out.size)); have z2 := Lib.hid (Nat.le_trans z1.out hb2.size); clear hb2; have n0 := K2.out.1.get (i := 0) rfl; have n1 := K2.out.1.get (i := 1) rfl; have n2 := K2.out.1.get (i := 2) rfl; have n3 := K2.out.1.get (i := 3) rfl; have n4 := K2.out.1.get (i := 4) rfl; have p0 := K2.out.2.1.get (i := 0) rfl; have p1 := K2.out.2.1.get (i := 1) rfl; have p2 := K2.out.2.1.get (i := 2) rfl; have p3 := K2.out.2.1.get (i := 3) rfl; have p4 := K2.out.2.1.get (i := 4) rfl; have r0 := K2.out.2.2.get (i := 0) rfl; have r1 := K2.out.2.2.get (i := 1) rfl; have r2 := K2.out.2.2.get (i := 2) rfl; have r3 := K2.out.2.2.get (i := 3) rfl; have r4 := K2.out.2.2.get (i := 4) rfl; have f0 := K2.out.2.2.free 0; have f1 := K2.out.2.2.free 1; have f2 := K2.out.2.2.free 2; have f3 := K2.out.2.2.free 3; have f4 := K2.out.2.2.free 4; have hz2 := z2.out))
      exact bodyPost_ret (v := posV ⟨0, false, false, false, false⟩) (by simp [results, Try.results14, go_sem, posV, r0, r1, r2, r3, r4]) rfl (posV_eq rfl (below_putF B2.out (by omega) _ _ _ _ _))
    · have hin := Lib.hid (show inB (k : Int) 0 ((n : Int) - 1) = false by unfold inB; simp; omega)
      clear hb
      go_enter Try.func14, Try.ntmps14
      go_wp2_with (first
        | (go_at_call 12; refine (i_posOk l d i g s _).mono ?_; rintro e x1 ⟨rfl, hb1⟩; rw [hpo.out]; have K1 := Lib.hid (K0.out.keep hb1 (by have := z0.out; omega)); have B1 := Lib.hid (B0.out.trans (hb1.mono B0.out.size)); have z1 := Lib.hid (Nat.le_trans z0.out hb1.size); clear hb1; have n0 := K1.out.1.get (i := 0) rfl; have n1 := K1.out.1.get (i := 1) rfl; have n2 := K1.out.1.get (i := 2) rfl; have n3 := K1.out.1.get (i := 3) rfl; have n4 := K1.out.1.get (i := 4) rfl; have p0 := K1.out.2.1.get (i := 0) rfl; have p1 := K1.out.2.1.get (i := 1) rfl; have p2 := K1.out.2.1.get (i := 2) rfl; have p3 := K1.out.2.1.get (i := 3) rfl; have p4 := K1.out.2.1.get (i := 4) rfl; have r0 := K1.out.2.2.get (i := 0) rfl; have r1 := K1.out.2.2.get (i := 1) rfl; have r2 := K1.out.2.2.get (i := 2) rfl; have r3 := K1.out.2.2.get (i := 3) rfl; have r4 := K1.out.2.2.get (i := 4) rfl; have f0 := K1.out.2.2.free 0; have f1 := K1.out.2.2.free 1; have f2 := K1.out.2.2.free 2; have f3 := K1.out.2.2.free 3; have f4 := K1.out.2.2.free 4; have hz1 := z1.out)
        | (go_at_call 21; refine (i_within _ _ _ _).mono ?_; rintro e w' ⟨rfl, rfl⟩; rw [hin.out]))
      exact bodyPost_ret (v := posV ⟨0, false, false, false, false⟩) (by simp [results, Try.results14, go_sem, posV, r0, r1, r2, r3, r4]) rfl (posV_eq rfl (below_putF B1.out (by omega) _ _ _ _ _))
set_option maxRecDepth 100000 in
set_option maxHeartbeats 4000000 in
theorem i_kidPos_top (kd : Int) (o : Int) (t u : ByteArray) (A : Option Addr) (n c k : Nat) (l : Int) (d i g s : Bool) (w : World) (hn : n ≤ 8) (hkn : k < n) (hpo : posOk l d = true) (hL : levelOf kd o = 15) : Calls Try.prog 14 #[.agg #[.int .i64 kd, .int .i64 o, .string t, .string u, .slice A n c], .int .i64 (k : Int), .agg #[.int .i64 l, .bool d, .bool i, .bool g, .bool s]] w (RetPosV w topP) := by
  have K := Lib.hid (KP.made w kd o t u (.slice A n c) l d i g s)
  have B := Lib.hid (kpW_below w kd o t u (.slice A n c) l d i g s)
  have z := Lib.hid (show w.heap.size + 3 ≤ (kpW w kd o t u (.slice A n c) l d i g s).heap.size by rw [kpW_size]; exact Nat.le_refl _)
  unfold kpW at K B z
  have n0 := K.out.1.get (i := 0) rfl
  have n1 := K.out.1.get (i := 1) rfl
  have n2 := K.out.1.get (i := 2) rfl
  have n3 := K.out.1.get (i := 3) rfl
  have n4 := K.out.1.get (i := 4) rfl
  have p0 := K.out.2.1.get (i := 0) rfl
  have p1 := K.out.2.1.get (i := 1) rfl
  have p2 := K.out.2.1.get (i := 2) rfl
  have p3 := K.out.2.1.get (i := 3) rfl
  have p4 := K.out.2.1.get (i := 4) rfl
  have r0 := K.out.2.2.get (i := 0) rfl
  have r1 := K.out.2.2.get (i := 1) rfl
  have r2 := K.out.2.2.get (i := 2) rfl
  have r3 := K.out.2.2.get (i := 3) rfl
  have r4 := K.out.2.2.get (i := 4) rfl
  have f0 := K.out.2.2.free 0
  have f1 := K.out.2.2.free 1
  have f2 := K.out.2.2.free 2
  have f3 := K.out.2.2.free 3
  have f4 := K.out.2.2.free 4
  have hin := Lib.hid (show inB (k : Int) 0 ((n : Int) - 1) = true by unfold inB; simp; omega)
  have hpo := Lib.hid hpo
  have hL := Lib.hid hL
  go_enter Try.func14, Try.ntmps14
  go_wp2_with (first
      | (go_at_call 12; refine (i_posOk l d i g s _).mono ?_; rintro e xw ⟨rfl, hb⟩; rw [hpo.out]; clear n0 n1 n2 n3 n4 p0 p1 p2 p3 p4 r0 r1 r2 r3 r4 f0 f1 f2 f3 f4; have K := Lib.hid (K.out.keep hb (by have := z.out; omega)); have B := Lib.hid (B.out.trans (hb.mono B.out.size)); have z := Lib.hid (Nat.le_trans z.out hb.size); clear hb; have n0 := K.out.1.get (i := 0) rfl; have n1 := K.out.1.get (i := 1) rfl; have n2 := K.out.1.get (i := 2) rfl; have n3 := K.out.1.get (i := 3) rfl; have n4 := K.out.1.get (i := 4) rfl; have p0 := K.out.2.1.get (i := 0) rfl; have p1 := K.out.2.1.get (i := 1) rfl; have p2 := K.out.2.1.get (i := 2) rfl; have p3 := K.out.2.1.get (i := 3) rfl; have p4 := K.out.2.1.get (i := 4) rfl; have r0 := K.out.2.2.get (i := 0) rfl; have r1 := K.out.2.2.get (i := 1) rfl; have r2 := K.out.2.2.get (i := 2) rfl; have r3 := K.out.2.2.get (i := 3) rfl; have r4 := K.out.2.2.get (i := 4) rfl; have f0 := K.out.2.2.free 0; have f1 := K.out.2.2.free 1; have f2 := K.out.2.2.free 2; have f3 := K.out.2.2.free 3; have f4 := K.out.2.2.free 4; have hz := z.out)
      | (go_at_call 21; refine (i_within _ _ _ _).mono ?_; rintro e w' ⟨rfl, rfl⟩; rw [hin.out])
      | (go_at_call 11; refine (i_levelOf kd o t u A n c _).mono ?_; rintro e xw ⟨rfl, hb⟩; rw [hL.out]; clear n0 n1 n2 n3 n4 p0 p1 p2 p3 p4 r0 r1 r2 r3 r4 f0 f1 f2 f3 f4; have K := Lib.hid (K.out.keep hb (by have := z.out; omega)); have B := Lib.hid (B.out.trans (hb.mono B.out.size)); have z := Lib.hid (Nat.le_trans z.out hb.size); clear hb; have n0 := K.out.1.get (i := 0) rfl; have n1 := K.out.1.get (i := 1) rfl; have n2 := K.out.1.get (i := 2) rfl; have n3 := K.out.1.get (i := 3) rfl; have n4 := K.out.1.get (i := 4) rfl; have p0 := K.out.2.1.get (i := 0) rfl; have p1 := K.out.2.1.get (i := 1) rfl; have p2 := K.out.2.1.get (i := 2) rfl; have p3 := K.out.2.1.get (i := 3) rfl; have p4 := K.out.2.1.get (i := 4) rfl; have r0 := K.out.2.2.get (i := 0) rfl; have r1 := K.out.2.2.get (i := 1) rfl; have r2 := K.out.2.2.get (i := 2) rfl; have r3 := K.out.2.2.get (i := 3) rfl; have r4 := K.out.2.2.get (i := 4) rfl; have f0 := K.out.2.2.free 0; have f1 := K.out.2.2.free 1; have f2 := K.out.2.2.free 2; have f3 := K.out.2.2.free 3; have f4 := K.out.2.2.free 4; have hz := z.out)
      | (go_at_call 9; refine (i_top _).mono ?_; rintro e xw ⟨rfl, hb⟩; clear n0 n1 n2 n3 n4 p0 p1 p2 p3 p4 r0 r1 r2 r3 r4 f0 f1 f2 f3 f4; have K := Lib.hid (K.out.keep hb (by have := z.out; omega)); have B := Lib.hid (B.out.trans (hb.mono B.out.size)); have z := Lib.hid (Nat.le_trans z.out hb.size); clear hb; have n0 := K.out.1.get (i := 0) rfl; have n1 := K.out.1.get (i := 1) rfl; have n2 := K.out.1.get (i := 2) rfl; have n3 := K.out.1.get (i := 3) rfl; have n4 := K.out.1.get (i := 4) rfl; have p0 := K.out.2.1.get (i := 0) rfl; have p1 := K.out.2.1.get (i := 1) rfl; have p2 := K.out.2.1.get (i := 2) rfl; have p3 := K.out.2.1.get (i := 3) rfl; have p4 := K.out.2.1.get (i := 4) rfl; have r0 := K.out.2.2.get (i := 0) rfl; have r1 := K.out.2.2.get (i := 1) rfl; have r2 := K.out.2.2.get (i := 2) rfl; have r3 := K.out.2.2.get (i := 3) rfl; have r4 := K.out.2.2.get (i := 4) rfl; have f0 := K.out.2.2.free 0; have f1 := K.out.2.2.free 1; have f2 := K.out.2.2.free 2; have f3 := K.out.2.2.free 3; have f4 := K.out.2.2.free 4; have hz := z.out))
  exact bodyPost_ret (v := posV topP) (by simp [results, Try.results14, go_sem, posV, topP, r0, r1, r2, r3, r4]) rfl (posV_eq rfl (below_putF B.out (by omega) _ _ _ _ _))
set_option maxRecDepth 100000 in
set_option maxHeartbeats 4000000 in
theorem i_kidPos_in (o : Int) (t u : ByteArray) (A : Option Addr) (n c k : Nat) (l : Int) (d i g s : Bool) (w : World) (hn : n ≤ 8) (hkn : k < n) (hpo : posOk l d = true) (hn1 : 1 < n) : Calls Try.prog 14 #[.agg #[.int .i64 13, .int .i64 o, .string t, .string u, .slice A n c], .int .i64 (k : Int), .agg #[.int .i64 l, .bool d, .bool i, .bool g, .bool s]] w (RetPosV w topP) := by
  have K := Lib.hid (KP.made w 13 o t u (.slice A n c) l d i g s)
  have B := Lib.hid (kpW_below w 13 o t u (.slice A n c) l d i g s)
  have z := Lib.hid (show w.heap.size + 3 ≤ (kpW w 13 o t u (.slice A n c) l d i g s).heap.size by rw [kpW_size]; exact Nat.le_refl _)
  unfold kpW at K B z
  have n0 := K.out.1.get (i := 0) rfl
  have n1 := K.out.1.get (i := 1) rfl
  have n2 := K.out.1.get (i := 2) rfl
  have n3 := K.out.1.get (i := 3) rfl
  have n4 := K.out.1.get (i := 4) rfl
  have p0 := K.out.2.1.get (i := 0) rfl
  have p1 := K.out.2.1.get (i := 1) rfl
  have p2 := K.out.2.1.get (i := 2) rfl
  have p3 := K.out.2.1.get (i := 3) rfl
  have p4 := K.out.2.1.get (i := 4) rfl
  have r0 := K.out.2.2.get (i := 0) rfl
  have r1 := K.out.2.2.get (i := 1) rfl
  have r2 := K.out.2.2.get (i := 2) rfl
  have r3 := K.out.2.2.get (i := 3) rfl
  have r4 := K.out.2.2.get (i := 4) rfl
  have f0 := K.out.2.2.free 0
  have f1 := K.out.2.2.free 1
  have f2 := K.out.2.2.free 2
  have f3 := K.out.2.2.free 3
  have f4 := K.out.2.2.free 4
  have hin := Lib.hid (show inB (k : Int) 0 ((n : Int) - 1) = true by unfold inB; simp; omega)
  have hpo := Lib.hid hpo
  have hL := Lib.hid (show levelOf 13 o = 5 from rfl)
  have hgt : decide (1 < (n : Int)) = true := by simp; omega
  go_enter Try.func14, Try.ntmps14
  go_wp2_with (first
      | (go_at_call 12; refine (i_posOk l d i g s _).mono ?_; rintro e xw ⟨rfl, hb⟩; rw [hpo.out]; clear n0 n1 n2 n3 n4 p0 p1 p2 p3 p4 r0 r1 r2 r3 r4 f0 f1 f2 f3 f4; have K := Lib.hid (K.out.keep hb (by have := z.out; omega)); have B := Lib.hid (B.out.trans (hb.mono B.out.size)); have z := Lib.hid (Nat.le_trans z.out hb.size); clear hb; have n0 := K.out.1.get (i := 0) rfl; have n1 := K.out.1.get (i := 1) rfl; have n2 := K.out.1.get (i := 2) rfl; have n3 := K.out.1.get (i := 3) rfl; have n4 := K.out.1.get (i := 4) rfl; have p0 := K.out.2.1.get (i := 0) rfl; have p1 := K.out.2.1.get (i := 1) rfl; have p2 := K.out.2.1.get (i := 2) rfl; have p3 := K.out.2.1.get (i := 3) rfl; have p4 := K.out.2.1.get (i := 4) rfl; have r0 := K.out.2.2.get (i := 0) rfl; have r1 := K.out.2.2.get (i := 1) rfl; have r2 := K.out.2.2.get (i := 2) rfl; have r3 := K.out.2.2.get (i := 3) rfl; have r4 := K.out.2.2.get (i := 4) rfl; have f0 := K.out.2.2.free 0; have f1 := K.out.2.2.free 1; have f2 := K.out.2.2.free 2; have f3 := K.out.2.2.free 3; have f4 := K.out.2.2.free 4; have hz := z.out)
      | (go_at_call 21; refine (i_within _ _ _ _).mono ?_; rintro e w' ⟨rfl, rfl⟩; rw [hin.out])
      | (go_at_call 11; refine (i_levelOf 13 o t u A n c _).mono ?_; rintro e xw ⟨rfl, hb⟩; rw [hL.out]; clear n0 n1 n2 n3 n4 p0 p1 p2 p3 p4 r0 r1 r2 r3 r4 f0 f1 f2 f3 f4; have K := Lib.hid (K.out.keep hb (by have := z.out; omega)); have B := Lib.hid (B.out.trans (hb.mono B.out.size)); have z := Lib.hid (Nat.le_trans z.out hb.size); clear hb; have n0 := K.out.1.get (i := 0) rfl; have n1 := K.out.1.get (i := 1) rfl; have n2 := K.out.1.get (i := 2) rfl; have n3 := K.out.1.get (i := 3) rfl; have n4 := K.out.1.get (i := 4) rfl; have p0 := K.out.2.1.get (i := 0) rfl; have p1 := K.out.2.1.get (i := 1) rfl; have p2 := K.out.2.1.get (i := 2) rfl; have p3 := K.out.2.1.get (i := 3) rfl; have p4 := K.out.2.1.get (i := 4) rfl; have r0 := K.out.2.2.get (i := 0) rfl; have r1 := K.out.2.2.get (i := 1) rfl; have r2 := K.out.2.2.get (i := 2) rfl; have r3 := K.out.2.2.get (i := 3) rfl; have r4 := K.out.2.2.get (i := 4) rfl; have f0 := K.out.2.2.free 0; have f1 := K.out.2.2.free 1; have f2 := K.out.2.2.free 2; have f3 := K.out.2.2.free 3; have f4 := K.out.2.2.free 4; have hz := z.out)
      | (go_at_call 9; refine (i_top _).mono ?_; rintro e xw ⟨rfl, hb⟩; clear n0 n1 n2 n3 n4 p0 p1 p2 p3 p4 r0 r1 r2 r3 r4 f0 f1 f2 f3 f4; have K := Lib.hid (K.out.keep hb (by have := z.out; omega)); have B := Lib.hid (B.out.trans (hb.mono B.out.size)); have z := Lib.hid (Nat.le_trans z.out hb.size); clear hb; have n0 := K.out.1.get (i := 0) rfl; have n1 := K.out.1.get (i := 1) rfl; have n2 := K.out.1.get (i := 2) rfl; have n3 := K.out.1.get (i := 3) rfl; have n4 := K.out.1.get (i := 4) rfl; have p0 := K.out.2.1.get (i := 0) rfl; have p1 := K.out.2.1.get (i := 1) rfl; have p2 := K.out.2.1.get (i := 2) rfl; have p3 := K.out.2.1.get (i := 3) rfl; have p4 := K.out.2.1.get (i := 4) rfl; have r0 := K.out.2.2.get (i := 0) rfl; have r1 := K.out.2.2.get (i := 1) rfl; have r2 := K.out.2.2.get (i := 2) rfl; have r3 := K.out.2.2.get (i := 3) rfl; have r4 := K.out.2.2.get (i := 4) rfl; have f0 := K.out.2.2.free 0; have f1 := K.out.2.2.free 1; have f2 := K.out.2.2.free 2; have f3 := K.out.2.2.free 3; have f4 := K.out.2.2.free 4; have hz := z.out))
  exact bodyPost_ret (v := posV topP) (by simp [results, Try.results14, go_sem, posV, topP, r0, r1, r2, r3, r4]) rfl (posV_eq rfl (below_putF B.out (by omega) _ _ _ _ _))
set_option maxRecDepth 100000 in
set_option maxHeartbeats 4000000 in
theorem i_kidPos_15_0t (o : Int) (t u : ByteArray) (A : Option Addr) (n c k : Nat) (l : Int) (d i g : Bool) (w : World) (hn : n ≤ 8) (hkn : k < n) (hpo : posOk l d = true) (hk : k = 0) : Calls Try.prog 14 #[.agg #[.int .i64 15, .int .i64 o, .string t, .string u, .slice A n c], .int .i64 (k : Int), .agg #[.int .i64 l, .bool d, .bool i, .bool g, .bool true]] w (RetPosV w (kidQ 15 o n k ⟨l, d, i, g, true⟩)) := by
  have hL := Lib.hid (show levelOf 15 o = 1 from rfl)
  have K := Lib.hid (KP.made w 15 o t u (.slice A n c) l d i g true)
  have B := Lib.hid (kpW_below w 15 o t u (.slice A n c) l d i g true)
  have z := Lib.hid (show w.heap.size + 3 ≤ (kpW w 15 o t u (.slice A n c) l d i g true).heap.size by rw [kpW_size]; exact Nat.le_refl _)
  unfold kpW at K B z
  have n0 := K.out.1.get (i := 0) rfl
  have n1 := K.out.1.get (i := 1) rfl
  have n2 := K.out.1.get (i := 2) rfl
  have n3 := K.out.1.get (i := 3) rfl
  have n4 := K.out.1.get (i := 4) rfl
  have p0 := K.out.2.1.get (i := 0) rfl
  have p1 := K.out.2.1.get (i := 1) rfl
  have p2 := K.out.2.1.get (i := 2) rfl
  have p3 := K.out.2.1.get (i := 3) rfl
  have p4 := K.out.2.1.get (i := 4) rfl
  have r0 := K.out.2.2.get (i := 0) rfl
  have r1 := K.out.2.2.get (i := 1) rfl
  have r2 := K.out.2.2.get (i := 2) rfl
  have r3 := K.out.2.2.get (i := 3) rfl
  have r4 := K.out.2.2.get (i := 4) rfl
  have f0 := K.out.2.2.free 0
  have f1 := K.out.2.2.free 1
  have f2 := K.out.2.2.free 2
  have f3 := K.out.2.2.free 3
  have f4 := K.out.2.2.free 4
  have hin := Lib.hid (show inB (k : Int) 0 ((n : Int) - 1) = true by unfold inB; simp; omega)
  have hpo := Lib.hid hpo
  have hkz : ((k : Int) == 0) = true := by simp; omega
  have hk1 : ((k : Int) == 1) = false := by simp; omega
  obtain ⟨LV, hLV⟩ : ∃ LV, kidLevelP 15 o k = LV := ⟨_, rfl⟩
  have hkl := Lib.hid hLV
  have HEQ : kidQ 15 o n k ⟨l, d, i, g, true⟩ = ⟨LV, false, i, g, true⟩ := by
    unfold kidQ
    rw [hLV, if_neg (by rw [hL.out]; omega)]
    rw [if_neg (by decide)]
    rw [if_pos hk]
    rfl
  have HEQ := Lib.hid HEQ
  clear hLV
  have hkH := Lib.hid hk
  clear hk
  go_enter Try.func14, Try.ntmps14
  go_wp2_with (first
      | (go_at_call 12; refine (i_posOk l d i g true _).mono ?_; rintro e xw ⟨rfl, hb⟩; rw [hpo.out]; clear n0 n1 n2 n3 n4 p0 p1 p2 p3 p4 r0 r1 r2 r3 r4 f0 f1 f2 f3 f4; have K := Lib.hid (K.out.keep hb (by have := z.out; omega)); have B := Lib.hid (B.out.trans (hb.mono B.out.size)); have z := Lib.hid (Nat.le_trans z.out hb.size); clear hb; have n0 := K.out.1.get (i := 0) rfl; have n1 := K.out.1.get (i := 1) rfl; have n2 := K.out.1.get (i := 2) rfl; have n3 := K.out.1.get (i := 3) rfl; have n4 := K.out.1.get (i := 4) rfl; have p0 := K.out.2.1.get (i := 0) rfl; have p1 := K.out.2.1.get (i := 1) rfl; have p2 := K.out.2.1.get (i := 2) rfl; have p3 := K.out.2.1.get (i := 3) rfl; have p4 := K.out.2.1.get (i := 4) rfl; have r0 := K.out.2.2.get (i := 0) rfl; have r1 := K.out.2.2.get (i := 1) rfl; have r2 := K.out.2.2.get (i := 2) rfl; have r3 := K.out.2.2.get (i := 3) rfl; have r4 := K.out.2.2.get (i := 4) rfl; have f0 := K.out.2.2.free 0; have f1 := K.out.2.2.free 1; have f2 := K.out.2.2.free 2; have f3 := K.out.2.2.free 3; have f4 := K.out.2.2.free 4; have hz := z.out)
      | (go_at_call 21; refine (i_within _ _ _ _).mono ?_; rintro e w' ⟨rfl, rfl⟩; rw [hin.out])
      | (go_at_call 11; refine (i_levelOf 15 o t u A n c _).mono ?_; rintro e xw ⟨rfl, hb⟩; rw [hL.out]; clear n0 n1 n2 n3 n4 p0 p1 p2 p3 p4 r0 r1 r2 r3 r4 f0 f1 f2 f3 f4; have K := Lib.hid (K.out.keep hb (by have := z.out; omega)); have B := Lib.hid (B.out.trans (hb.mono B.out.size)); have z := Lib.hid (Nat.le_trans z.out hb.size); clear hb; have n0 := K.out.1.get (i := 0) rfl; have n1 := K.out.1.get (i := 1) rfl; have n2 := K.out.1.get (i := 2) rfl; have n3 := K.out.1.get (i := 3) rfl; have n4 := K.out.1.get (i := 4) rfl; have p0 := K.out.2.1.get (i := 0) rfl; have p1 := K.out.2.1.get (i := 1) rfl; have p2 := K.out.2.1.get (i := 2) rfl; have p3 := K.out.2.1.get (i := 3) rfl; have p4 := K.out.2.1.get (i := 4) rfl; have r0 := K.out.2.2.get (i := 0) rfl; have r1 := K.out.2.2.get (i := 1) rfl; have r2 := K.out.2.2.get (i := 2) rfl; have r3 := K.out.2.2.get (i := 3) rfl; have r4 := K.out.2.2.get (i := 4) rfl; have f0 := K.out.2.2.free 0; have f1 := K.out.2.2.free 1; have f2 := K.out.2.2.free 2; have f3 := K.out.2.2.free 3; have f4 := K.out.2.2.free 4; have hz := z.out))
  have hzs := z.out
  have bacc : Below xw.drew.heap.size xw.drew xw.drew := Below.refl _ _
  have bal0 := (Below.refl xw.heap.size xw).alloc (Nat.le_refl _) (.cells #[.int .i64 0, .bool false, .bool false, .bool false, .bool false] 28)
  have bal : Below xw.drew.heap.size xw.drew (xw.alloc (.cells #[.int .i64 0, .bool false, .bool false, .bool false, .bool false] 28)).drew := ⟨bal0.os, bal0.tape, bal0.output, bal0.size, bal0.block⟩
  clear bal0
  have hkH := Lib.hid (show ∀ W', Below xw.drew.heap.size xw.drew W' → W'.cell? ⟨w.heap.size, 0, none⟩ = some (.int .i64 15) ∧ W'.cell? ⟨w.heap.size, 1, none⟩ = some (.int .i64 o) ∧ W'.cell? ⟨w.heap.size, 2, none⟩ = some (.string t) ∧ W'.cell? ⟨w.heap.size, 3, none⟩ = some (.string u) ∧ W'.cell? ⟨w.heap.size, 4, none⟩ = some (.slice A n c) ∧ W'.cell? ⟨w.heap.size + 1, 0, none⟩ = some (.int .i64 l) ∧ W'.cell? ⟨w.heap.size + 1, 1, none⟩ = some (.bool d) ∧ W'.cell? ⟨w.heap.size + 1, 2, none⟩ = some (.bool i) ∧ W'.cell? ⟨w.heap.size + 1, 3, none⟩ = some (.bool g) ∧ W'.cell? ⟨w.heap.size + 1, 4, none⟩ = some (.bool true) from fun W' hb => by
    have h := (show KP xw.drew _ _ _ _ _ _ _ _ _ _ _ from K.out).keep hb (show _ < xw.heap.size by omega)
    exact ⟨h.1.get (i := 0) rfl, h.1.get (i := 1) rfl, h.1.get (i := 2) rfl, h.1.get (i := 3) rfl, h.1.get (i := 4) rfl, h.2.1.get (i := 0) rfl, h.2.1.get (i := 1) rfl, h.2.1.get (i := 2) rfl, h.2.1.get (i := 3) rfl, h.2.1.get (i := 4) rfl⟩)
  have hP1 := Lib.hid (show ∀ W' (x0 x1 x2 x3 x4 : Value), Below xw.drew.heap.size xw.drew W' → (((((W'.setCell ⟨xw.heap.size, 0, none⟩ x0).setCell ⟨xw.heap.size, 1, none⟩ x1).setCell ⟨xw.heap.size, 2, none⟩ x2).setCell ⟨xw.heap.size, 3, none⟩ x3).setCell ⟨xw.heap.size, 4, none⟩ x4).cell? ⟨w.heap.size, 0, none⟩ = some (.int .i64 15) ∧ (((((W'.setCell ⟨xw.heap.size, 0, none⟩ x0).setCell ⟨xw.heap.size, 1, none⟩ x1).setCell ⟨xw.heap.size, 2, none⟩ x2).setCell ⟨xw.heap.size, 3, none⟩ x3).setCell ⟨xw.heap.size, 4, none⟩ x4).cell? ⟨w.heap.size, 1, none⟩ = some (.int .i64 o) ∧ (((((W'.setCell ⟨xw.heap.size, 0, none⟩ x0).setCell ⟨xw.heap.size, 1, none⟩ x1).setCell ⟨xw.heap.size, 2, none⟩ x2).setCell ⟨xw.heap.size, 3, none⟩ x3).setCell ⟨xw.heap.size, 4, none⟩ x4).cell? ⟨w.heap.size, 2, none⟩ = some (.string t) ∧ (((((W'.setCell ⟨xw.heap.size, 0, none⟩ x0).setCell ⟨xw.heap.size, 1, none⟩ x1).setCell ⟨xw.heap.size, 2, none⟩ x2).setCell ⟨xw.heap.size, 3, none⟩ x3).setCell ⟨xw.heap.size, 4, none⟩ x4).cell? ⟨w.heap.size, 3, none⟩ = some (.string u) ∧ (((((W'.setCell ⟨xw.heap.size, 0, none⟩ x0).setCell ⟨xw.heap.size, 1, none⟩ x1).setCell ⟨xw.heap.size, 2, none⟩ x2).setCell ⟨xw.heap.size, 3, none⟩ x3).setCell ⟨xw.heap.size, 4, none⟩ x4).cell? ⟨w.heap.size, 4, none⟩ = some (.slice A n c) ∧ (((((W'.setCell ⟨xw.heap.size, 0, none⟩ x0).setCell ⟨xw.heap.size, 1, none⟩ x1).setCell ⟨xw.heap.size, 2, none⟩ x2).setCell ⟨xw.heap.size, 3, none⟩ x3).setCell ⟨xw.heap.size, 4, none⟩ x4).cell? ⟨w.heap.size + 1, 0, none⟩ = some (.int .i64 l) ∧ (((((W'.setCell ⟨xw.heap.size, 0, none⟩ x0).setCell ⟨xw.heap.size, 1, none⟩ x1).setCell ⟨xw.heap.size, 2, none⟩ x2).setCell ⟨xw.heap.size, 3, none⟩ x3).setCell ⟨xw.heap.size, 4, none⟩ x4).cell? ⟨w.heap.size + 1, 1, none⟩ = some (.bool d) ∧ (((((W'.setCell ⟨xw.heap.size, 0, none⟩ x0).setCell ⟨xw.heap.size, 1, none⟩ x1).setCell ⟨xw.heap.size, 2, none⟩ x2).setCell ⟨xw.heap.size, 3, none⟩ x3).setCell ⟨xw.heap.size, 4, none⟩ x4).cell? ⟨w.heap.size + 1, 2, none⟩ = some (.bool i) ∧ (((((W'.setCell ⟨xw.heap.size, 0, none⟩ x0).setCell ⟨xw.heap.size, 1, none⟩ x1).setCell ⟨xw.heap.size, 2, none⟩ x2).setCell ⟨xw.heap.size, 3, none⟩ x3).setCell ⟨xw.heap.size, 4, none⟩ x4).cell? ⟨w.heap.size + 1, 3, none⟩ = some (.bool g) ∧ (((((W'.setCell ⟨xw.heap.size, 0, none⟩ x0).setCell ⟨xw.heap.size, 1, none⟩ x1).setCell ⟨xw.heap.size, 2, none⟩ x2).setCell ⟨xw.heap.size, 3, none⟩ x3).setCell ⟨xw.heap.size, 4, none⟩ x4).cell? ⟨w.heap.size + 1, 4, none⟩ = some (.bool true) from fun W' x0 x1 x2 x3 x4 hb => by
    have h := ((show KP xw.drew _ _ _ _ _ _ _ _ _ _ _ from K.out).keep hb (show _ < xw.heap.size by omega)).putF (x := xw.heap.size) (by omega) x0 x1 x2 x3 x4
    exact ⟨h.1.get (i := 0) rfl, h.1.get (i := 1) rfl, h.1.get (i := 2) rfl, h.1.get (i := 3) rfl, h.1.get (i := 4) rfl, h.2.1.get (i := 0) rfl, h.2.1.get (i := 1) rfl, h.2.1.get (i := 2) rfl, h.2.1.get (i := 3) rfl, h.2.1.get (i := 4) rfl⟩)
  have TX := Lib.hid (Has.made xw 28 #[.int .i64 0, .bool false, .bool false, .bool false, .bool false])
  have hXs : (xw.alloc (.cells #[.int .i64 0, .bool false, .bool false, .bool false, .bool false] 28)).heap.size = xw.heap.size + 1 := by simp
  clear n0 n1 n2 n3 n4 p0 p1 p2 p3 p4 r0 r1 r2 r3 r4 f0 f1 f2 f3 f4 hz
  go_region_held3 (fun W => W.cell? ⟨w.heap.size, 0, none⟩ = some (.int .i64 15) ∧ W.cell? ⟨w.heap.size, 1, none⟩ = some (.int .i64 o) ∧ W.cell? ⟨w.heap.size, 2, none⟩ = some (.string t) ∧ W.cell? ⟨w.heap.size, 3, none⟩ = some (.string u) ∧ W.cell? ⟨w.heap.size, 4, none⟩ = some (.slice A n c) ∧ W.cell? ⟨w.heap.size + 1, 0, none⟩ = some (.int .i64 l) ∧ W.cell? ⟨w.heap.size + 1, 1, none⟩ = some (.bool d) ∧ W.cell? ⟨w.heap.size + 1, 2, none⟩ = some (.bool i) ∧ W.cell? ⟨w.heap.size + 1, 3, none⟩ = some (.bool g) ∧ W.cell? ⟨w.heap.size + 1, 4, none⟩ = some (.bool true)) (first | (with_reducible (exact hkH.out _ bacc)) | (with_reducible (exact hkH.out _ bal)) | (with_reducible (exact hP1.out _ _ _ _ _ _ bacc)) | (with_reducible (exact hkH.out _ (bacc.alloc bacc.size _))) | exact hkH.out _ bacc) (first
    | ((go_at_call 24; refine (i_kidLevel 15 o t u A n c k _ (by omega)).mono ?_; rintro e x4 ⟨rfl, hb⟩; rw [hkl.out]; first
      | (have bacc := Below.trans bacc (hb.mono bacc.size); clear hb)
      | (have T4 := Lib.hid ((show Has (xw.alloc (.cells #[.int .i64 0, .bool false, .bool false, .bool false, .bool false] 28)).drew xw.heap.size _ _ from TX.out).below hb (show _ < (xw.alloc (.cells #[.int .i64 0, .bool false, .bool false, .bool false, .bool false] 28)).heap.size by omega)); have bacc := Below.trans bal (hb.mono bal.size); clear hb; have y0 := T4.out.get (i := 0) rfl; have y1 := T4.out.get (i := 1) rfl; have y2 := T4.out.get (i := 2) rfl; have y3 := T4.out.get (i := 3) rfl; have y4 := T4.out.get (i := 4) rfl; have q0 := T4.out.free 0; have q1 := T4.out.free 1; have q2 := T4.out.free 2; have q3 := T4.out.free 3; have q4 := T4.out.free 4; have ht4 := T4.out.lt))))
  · have hb4 : Below xw.heap.size xw x4 := ⟨bacc.os, bacc.tape, bacc.output, bacc.size, bacc.block⟩
    have hx4 : w.heap.size + 3 ≤ x4.heap.size := Nat.le_trans z.out hb4.size
    have T := Lib.hid (Has.made x4 28 #[.int .i64 LV, .bool false, .bool i, .bool g, .bool false])
    have K := Lib.hid ((K.out.keep hb4 (by omega)).keep ((Below.refl x4.heap.size x4).alloc (Nat.le_refl _) (.cells #[.int .i64 LV, .bool false, .bool i, .bool g, .bool false] 28)) (by omega))
    have B := Lib.hid ((B.out.trans (hb4.mono B.out.size)).alloc (Nat.le_trans B.out.size hb4.size) (.cells #[.int .i64 LV, .bool false, .bool i, .bool g, .bool false] 28))
    obtain ⟨W5, hW5⟩ : ∃ W, x4.alloc (.cells #[.int .i64 LV, .bool false, .bool i, .bool g, .bool false] 28) = W := ⟨_, rfl⟩
    rw [hW5] at T K B ⊢
    clear hW5 bacc bal hkH hP1 hb4
    have n0 := K.out.1.get (i := 0) rfl
    have n1 := K.out.1.get (i := 1) rfl
    have n2 := K.out.1.get (i := 2) rfl
    have n3 := K.out.1.get (i := 3) rfl
    have n4 := K.out.1.get (i := 4) rfl
    have p0 := K.out.2.1.get (i := 0) rfl
    have p1 := K.out.2.1.get (i := 1) rfl
    have p2 := K.out.2.1.get (i := 2) rfl
    have p3 := K.out.2.1.get (i := 3) rfl
    have p4 := K.out.2.1.get (i := 4) rfl
    have r0 := K.out.2.2.get (i := 0) rfl
    have r1 := K.out.2.2.get (i := 1) rfl
    have r2 := K.out.2.2.get (i := 2) rfl
    have r3 := K.out.2.2.get (i := 3) rfl
    have r4 := K.out.2.2.get (i := 4) rfl
    have f0 := K.out.2.2.free 0
    have f1 := K.out.2.2.free 1
    have f2 := K.out.2.2.free 2
    have f3 := K.out.2.2.free 3
    have f4 := K.out.2.2.free 4
    have t0 := T.out.get (i := 0) rfl
    have t1 := T.out.get (i := 1) rfl
    have t2 := T.out.get (i := 2) rfl
    have t3 := T.out.get (i := 3) rfl
    have t4 := T.out.get (i := 4) rfl
    have g4 := T.out.free 4
    have hlt5 := T.out.lt
    go_wp2_with fail
    exact bodyPost_ret (v := posV ⟨LV, false, i, g, true⟩) (by simp [results, Try.results14, go_sem, posV, r0, r1, r2, r3, r4, t0, t1, t2, t3, t4]) rfl (posV_eq HEQ.out (below_putF (B.out.setCell (p := ⟨x4.heap.size, 4, none⟩) (show w.heap.size ≤ x4.heap.size by omega) _) (by omega) _ _ _ _ _))
  · have hb4 : Below xw.heap.size xw x4 := ⟨bacc.os, bacc.tape, bacc.output, bacc.size, bacc.block⟩
    have hx4 : w.heap.size + 3 ≤ x4.heap.size := Nat.le_trans z.out hb4.size
    have T := Lib.hid (show Has (((((x4.setCell ⟨xw.heap.size, 0, none⟩ (.int .i64 LV)).setCell ⟨xw.heap.size, 1, none⟩ (.bool false)).setCell ⟨xw.heap.size, 2, none⟩ (.bool i)).setCell ⟨xw.heap.size, 3, none⟩ (.bool g)).setCell ⟨xw.heap.size, 4, none⟩ (.bool false)) xw.heap.size _ _ from T4.out.putF (.int .i64 LV) (.bool false) (.bool i) (.bool g) (.bool false))
    have K := Lib.hid (show KP (((((x4.setCell ⟨xw.heap.size, 0, none⟩ (.int .i64 LV)).setCell ⟨xw.heap.size, 1, none⟩ (.bool false)).setCell ⟨xw.heap.size, 2, none⟩ (.bool i)).setCell ⟨xw.heap.size, 3, none⟩ (.bool g)).setCell ⟨xw.heap.size, 4, none⟩ (.bool false)) _ _ _ _ _ _ _ _ _ _ _ from (K.out.keep hb4 (by omega)).putF (x := xw.heap.size) (by omega) (.int .i64 LV) (.bool false) (.bool i) (.bool g) (.bool false))
    have B := Lib.hid (show Below w.heap.size w (((((x4.setCell ⟨xw.heap.size, 0, none⟩ (.int .i64 LV)).setCell ⟨xw.heap.size, 1, none⟩ (.bool false)).setCell ⟨xw.heap.size, 2, none⟩ (.bool i)).setCell ⟨xw.heap.size, 3, none⟩ (.bool g)).setCell ⟨xw.heap.size, 4, none⟩ (.bool false)) from below_putF (B.out.trans (hb4.mono B.out.size)) (show w.heap.size ≤ xw.heap.size from B.out.size) _ _ _ _ _)
    obtain ⟨W5, hW5⟩ : ∃ W, (((((x4.setCell ⟨xw.heap.size, 0, none⟩ (.int .i64 LV)).setCell ⟨xw.heap.size, 1, none⟩ (.bool false)).setCell ⟨xw.heap.size, 2, none⟩ (.bool i)).setCell ⟨xw.heap.size, 3, none⟩ (.bool g)).setCell ⟨xw.heap.size, 4, none⟩ (.bool false)) = W := ⟨_, rfl⟩
    rw [hW5] at T K B ⊢
    clear hW5 bacc bal hkH hP1 hb4 y0 y1 y2 y3 y4 q0 q1 q2 q3 q4 T4
    have n0 := K.out.1.get (i := 0) rfl
    have n1 := K.out.1.get (i := 1) rfl
    have n2 := K.out.1.get (i := 2) rfl
    have n3 := K.out.1.get (i := 3) rfl
    have n4 := K.out.1.get (i := 4) rfl
    have p0 := K.out.2.1.get (i := 0) rfl
    have p1 := K.out.2.1.get (i := 1) rfl
    have p2 := K.out.2.1.get (i := 2) rfl
    have p3 := K.out.2.1.get (i := 3) rfl
    have p4 := K.out.2.1.get (i := 4) rfl
    have r0 := K.out.2.2.get (i := 0) rfl
    have r1 := K.out.2.2.get (i := 1) rfl
    have r2 := K.out.2.2.get (i := 2) rfl
    have r3 := K.out.2.2.get (i := 3) rfl
    have r4 := K.out.2.2.get (i := 4) rfl
    have f0 := K.out.2.2.free 0
    have f1 := K.out.2.2.free 1
    have f2 := K.out.2.2.free 2
    have f3 := K.out.2.2.free 3
    have f4 := K.out.2.2.free 4
    have t0 := T.out.get (i := 0) rfl
    have t1 := T.out.get (i := 1) rfl
    have t2 := T.out.get (i := 2) rfl
    have t3 := T.out.get (i := 3) rfl
    have t4 := T.out.get (i := 4) rfl
    have g4 := T.out.free 4
    have hlt5 := T.out.lt
    go_wp2_with fail
    exact bodyPost_ret (v := posV ⟨LV, false, i, g, true⟩) (by simp [results, Try.results14, go_sem, posV, r0, r1, r2, r3, r4, t0, t1, t2, t3, t4]) rfl (posV_eq HEQ.out (below_putF (B.out.setCell (p := ⟨xw.heap.size, 4, none⟩) (show w.heap.size ≤ xw.heap.size by omega) _) (by omega) _ _ _ _ _))
set_option maxRecDepth 100000 in
set_option maxHeartbeats 4000000 in
theorem i_kidPos_15_0f (o : Int) (t u : ByteArray) (A : Option Addr) (n c k : Nat) (l : Int) (d i g : Bool) (w : World) (hn : n ≤ 8) (hkn : k < n) (hpo : posOk l d = true) (hk : k = 0) : Calls Try.prog 14 #[.agg #[.int .i64 15, .int .i64 o, .string t, .string u, .slice A n c], .int .i64 (k : Int), .agg #[.int .i64 l, .bool d, .bool i, .bool g, .bool false]] w (RetPosV w (kidQ 15 o n k ⟨l, d, i, g, false⟩)) := by
  have hL := Lib.hid (show levelOf 15 o = 1 from rfl)
  have K := Lib.hid (KP.made w 15 o t u (.slice A n c) l d i g false)
  have B := Lib.hid (kpW_below w 15 o t u (.slice A n c) l d i g false)
  have z := Lib.hid (show w.heap.size + 3 ≤ (kpW w 15 o t u (.slice A n c) l d i g false).heap.size by rw [kpW_size]; exact Nat.le_refl _)
  unfold kpW at K B z
  have n0 := K.out.1.get (i := 0) rfl
  have n1 := K.out.1.get (i := 1) rfl
  have n2 := K.out.1.get (i := 2) rfl
  have n3 := K.out.1.get (i := 3) rfl
  have n4 := K.out.1.get (i := 4) rfl
  have p0 := K.out.2.1.get (i := 0) rfl
  have p1 := K.out.2.1.get (i := 1) rfl
  have p2 := K.out.2.1.get (i := 2) rfl
  have p3 := K.out.2.1.get (i := 3) rfl
  have p4 := K.out.2.1.get (i := 4) rfl
  have r0 := K.out.2.2.get (i := 0) rfl
  have r1 := K.out.2.2.get (i := 1) rfl
  have r2 := K.out.2.2.get (i := 2) rfl
  have r3 := K.out.2.2.get (i := 3) rfl
  have r4 := K.out.2.2.get (i := 4) rfl
  have f0 := K.out.2.2.free 0
  have f1 := K.out.2.2.free 1
  have f2 := K.out.2.2.free 2
  have f3 := K.out.2.2.free 3
  have f4 := K.out.2.2.free 4
  have hin := Lib.hid (show inB (k : Int) 0 ((n : Int) - 1) = true by unfold inB; simp; omega)
  have hpo := Lib.hid hpo
  have hkz : ((k : Int) == 0) = true := by simp; omega
  have hk1 : ((k : Int) == 1) = false := by simp; omega
  obtain ⟨LV, hLV⟩ : ∃ LV, kidLevelP 15 o k = LV := ⟨_, rfl⟩
  have hkl := Lib.hid hLV
  have HEQ : kidQ 15 o n k ⟨l, d, i, g, false⟩ = ⟨LV, false, i, g, false⟩ := by
    unfold kidQ
    rw [hLV, if_neg (by rw [hL.out]; omega)]
    rw [if_neg (by decide)]
    rw [if_pos hk]
    rfl
  have HEQ := Lib.hid HEQ
  clear hLV
  have hkH := Lib.hid hk
  clear hk
  go_enter Try.func14, Try.ntmps14
  go_wp2_with (first
      | (go_at_call 12; refine (i_posOk l d i g false _).mono ?_; rintro e xw ⟨rfl, hb⟩; rw [hpo.out]; clear n0 n1 n2 n3 n4 p0 p1 p2 p3 p4 r0 r1 r2 r3 r4 f0 f1 f2 f3 f4; have K := Lib.hid (K.out.keep hb (by have := z.out; omega)); have B := Lib.hid (B.out.trans (hb.mono B.out.size)); have z := Lib.hid (Nat.le_trans z.out hb.size); clear hb; have n0 := K.out.1.get (i := 0) rfl; have n1 := K.out.1.get (i := 1) rfl; have n2 := K.out.1.get (i := 2) rfl; have n3 := K.out.1.get (i := 3) rfl; have n4 := K.out.1.get (i := 4) rfl; have p0 := K.out.2.1.get (i := 0) rfl; have p1 := K.out.2.1.get (i := 1) rfl; have p2 := K.out.2.1.get (i := 2) rfl; have p3 := K.out.2.1.get (i := 3) rfl; have p4 := K.out.2.1.get (i := 4) rfl; have r0 := K.out.2.2.get (i := 0) rfl; have r1 := K.out.2.2.get (i := 1) rfl; have r2 := K.out.2.2.get (i := 2) rfl; have r3 := K.out.2.2.get (i := 3) rfl; have r4 := K.out.2.2.get (i := 4) rfl; have f0 := K.out.2.2.free 0; have f1 := K.out.2.2.free 1; have f2 := K.out.2.2.free 2; have f3 := K.out.2.2.free 3; have f4 := K.out.2.2.free 4; have hz := z.out)
      | (go_at_call 21; refine (i_within _ _ _ _).mono ?_; rintro e w' ⟨rfl, rfl⟩; rw [hin.out])
      | (go_at_call 11; refine (i_levelOf 15 o t u A n c _).mono ?_; rintro e xw ⟨rfl, hb⟩; rw [hL.out]; clear n0 n1 n2 n3 n4 p0 p1 p2 p3 p4 r0 r1 r2 r3 r4 f0 f1 f2 f3 f4; have K := Lib.hid (K.out.keep hb (by have := z.out; omega)); have B := Lib.hid (B.out.trans (hb.mono B.out.size)); have z := Lib.hid (Nat.le_trans z.out hb.size); clear hb; have n0 := K.out.1.get (i := 0) rfl; have n1 := K.out.1.get (i := 1) rfl; have n2 := K.out.1.get (i := 2) rfl; have n3 := K.out.1.get (i := 3) rfl; have n4 := K.out.1.get (i := 4) rfl; have p0 := K.out.2.1.get (i := 0) rfl; have p1 := K.out.2.1.get (i := 1) rfl; have p2 := K.out.2.1.get (i := 2) rfl; have p3 := K.out.2.1.get (i := 3) rfl; have p4 := K.out.2.1.get (i := 4) rfl; have r0 := K.out.2.2.get (i := 0) rfl; have r1 := K.out.2.2.get (i := 1) rfl; have r2 := K.out.2.2.get (i := 2) rfl; have r3 := K.out.2.2.get (i := 3) rfl; have r4 := K.out.2.2.get (i := 4) rfl; have f0 := K.out.2.2.free 0; have f1 := K.out.2.2.free 1; have f2 := K.out.2.2.free 2; have f3 := K.out.2.2.free 3; have f4 := K.out.2.2.free 4; have hz := z.out))
  have hzs := z.out
  have bacc : Below xw.drew.heap.size xw.drew xw.drew := Below.refl _ _
  have bal0 := (Below.refl xw.heap.size xw).alloc (Nat.le_refl _) (.cells #[.int .i64 0, .bool false, .bool false, .bool false, .bool false] 28)
  have bal : Below xw.drew.heap.size xw.drew (xw.alloc (.cells #[.int .i64 0, .bool false, .bool false, .bool false, .bool false] 28)).drew := ⟨bal0.os, bal0.tape, bal0.output, bal0.size, bal0.block⟩
  clear bal0
  have hkH := Lib.hid (show ∀ W', Below xw.drew.heap.size xw.drew W' → W'.cell? ⟨w.heap.size, 0, none⟩ = some (.int .i64 15) ∧ W'.cell? ⟨w.heap.size, 1, none⟩ = some (.int .i64 o) ∧ W'.cell? ⟨w.heap.size, 2, none⟩ = some (.string t) ∧ W'.cell? ⟨w.heap.size, 3, none⟩ = some (.string u) ∧ W'.cell? ⟨w.heap.size, 4, none⟩ = some (.slice A n c) ∧ W'.cell? ⟨w.heap.size + 1, 0, none⟩ = some (.int .i64 l) ∧ W'.cell? ⟨w.heap.size + 1, 1, none⟩ = some (.bool d) ∧ W'.cell? ⟨w.heap.size + 1, 2, none⟩ = some (.bool i) ∧ W'.cell? ⟨w.heap.size + 1, 3, none⟩ = some (.bool g) ∧ W'.cell? ⟨w.heap.size + 1, 4, none⟩ = some (.bool false) from fun W' hb => by
    have h := (show KP xw.drew _ _ _ _ _ _ _ _ _ _ _ from K.out).keep hb (show _ < xw.heap.size by omega)
    exact ⟨h.1.get (i := 0) rfl, h.1.get (i := 1) rfl, h.1.get (i := 2) rfl, h.1.get (i := 3) rfl, h.1.get (i := 4) rfl, h.2.1.get (i := 0) rfl, h.2.1.get (i := 1) rfl, h.2.1.get (i := 2) rfl, h.2.1.get (i := 3) rfl, h.2.1.get (i := 4) rfl⟩)
  have hP1 := Lib.hid (show ∀ W' (x0 x1 x2 x3 x4 : Value), Below xw.drew.heap.size xw.drew W' → (((((W'.setCell ⟨xw.heap.size, 0, none⟩ x0).setCell ⟨xw.heap.size, 1, none⟩ x1).setCell ⟨xw.heap.size, 2, none⟩ x2).setCell ⟨xw.heap.size, 3, none⟩ x3).setCell ⟨xw.heap.size, 4, none⟩ x4).cell? ⟨w.heap.size, 0, none⟩ = some (.int .i64 15) ∧ (((((W'.setCell ⟨xw.heap.size, 0, none⟩ x0).setCell ⟨xw.heap.size, 1, none⟩ x1).setCell ⟨xw.heap.size, 2, none⟩ x2).setCell ⟨xw.heap.size, 3, none⟩ x3).setCell ⟨xw.heap.size, 4, none⟩ x4).cell? ⟨w.heap.size, 1, none⟩ = some (.int .i64 o) ∧ (((((W'.setCell ⟨xw.heap.size, 0, none⟩ x0).setCell ⟨xw.heap.size, 1, none⟩ x1).setCell ⟨xw.heap.size, 2, none⟩ x2).setCell ⟨xw.heap.size, 3, none⟩ x3).setCell ⟨xw.heap.size, 4, none⟩ x4).cell? ⟨w.heap.size, 2, none⟩ = some (.string t) ∧ (((((W'.setCell ⟨xw.heap.size, 0, none⟩ x0).setCell ⟨xw.heap.size, 1, none⟩ x1).setCell ⟨xw.heap.size, 2, none⟩ x2).setCell ⟨xw.heap.size, 3, none⟩ x3).setCell ⟨xw.heap.size, 4, none⟩ x4).cell? ⟨w.heap.size, 3, none⟩ = some (.string u) ∧ (((((W'.setCell ⟨xw.heap.size, 0, none⟩ x0).setCell ⟨xw.heap.size, 1, none⟩ x1).setCell ⟨xw.heap.size, 2, none⟩ x2).setCell ⟨xw.heap.size, 3, none⟩ x3).setCell ⟨xw.heap.size, 4, none⟩ x4).cell? ⟨w.heap.size, 4, none⟩ = some (.slice A n c) ∧ (((((W'.setCell ⟨xw.heap.size, 0, none⟩ x0).setCell ⟨xw.heap.size, 1, none⟩ x1).setCell ⟨xw.heap.size, 2, none⟩ x2).setCell ⟨xw.heap.size, 3, none⟩ x3).setCell ⟨xw.heap.size, 4, none⟩ x4).cell? ⟨w.heap.size + 1, 0, none⟩ = some (.int .i64 l) ∧ (((((W'.setCell ⟨xw.heap.size, 0, none⟩ x0).setCell ⟨xw.heap.size, 1, none⟩ x1).setCell ⟨xw.heap.size, 2, none⟩ x2).setCell ⟨xw.heap.size, 3, none⟩ x3).setCell ⟨xw.heap.size, 4, none⟩ x4).cell? ⟨w.heap.size + 1, 1, none⟩ = some (.bool d) ∧ (((((W'.setCell ⟨xw.heap.size, 0, none⟩ x0).setCell ⟨xw.heap.size, 1, none⟩ x1).setCell ⟨xw.heap.size, 2, none⟩ x2).setCell ⟨xw.heap.size, 3, none⟩ x3).setCell ⟨xw.heap.size, 4, none⟩ x4).cell? ⟨w.heap.size + 1, 2, none⟩ = some (.bool i) ∧ (((((W'.setCell ⟨xw.heap.size, 0, none⟩ x0).setCell ⟨xw.heap.size, 1, none⟩ x1).setCell ⟨xw.heap.size, 2, none⟩ x2).setCell ⟨xw.heap.size, 3, none⟩ x3).setCell ⟨xw.heap.size, 4, none⟩ x4).cell? ⟨w.heap.size + 1, 3, none⟩ = some (.bool g) ∧ (((((W'.setCell ⟨xw.heap.size, 0, none⟩ x0).setCell ⟨xw.heap.size, 1, none⟩ x1).setCell ⟨xw.heap.size, 2, none⟩ x2).setCell ⟨xw.heap.size, 3, none⟩ x3).setCell ⟨xw.heap.size, 4, none⟩ x4).cell? ⟨w.heap.size + 1, 4, none⟩ = some (.bool false) from fun W' x0 x1 x2 x3 x4 hb => by
    have h := ((show KP xw.drew _ _ _ _ _ _ _ _ _ _ _ from K.out).keep hb (show _ < xw.heap.size by omega)).putF (x := xw.heap.size) (by omega) x0 x1 x2 x3 x4
    exact ⟨h.1.get (i := 0) rfl, h.1.get (i := 1) rfl, h.1.get (i := 2) rfl, h.1.get (i := 3) rfl, h.1.get (i := 4) rfl, h.2.1.get (i := 0) rfl, h.2.1.get (i := 1) rfl, h.2.1.get (i := 2) rfl, h.2.1.get (i := 3) rfl, h.2.1.get (i := 4) rfl⟩)
  have TX := Lib.hid (Has.made xw 28 #[.int .i64 0, .bool false, .bool false, .bool false, .bool false])
  have hXs : (xw.alloc (.cells #[.int .i64 0, .bool false, .bool false, .bool false, .bool false] 28)).heap.size = xw.heap.size + 1 := by simp
  clear n0 n1 n2 n3 n4 p0 p1 p2 p3 p4 r0 r1 r2 r3 r4 f0 f1 f2 f3 f4 hz
  go_region_held3 (fun W => W.cell? ⟨w.heap.size, 0, none⟩ = some (.int .i64 15) ∧ W.cell? ⟨w.heap.size, 1, none⟩ = some (.int .i64 o) ∧ W.cell? ⟨w.heap.size, 2, none⟩ = some (.string t) ∧ W.cell? ⟨w.heap.size, 3, none⟩ = some (.string u) ∧ W.cell? ⟨w.heap.size, 4, none⟩ = some (.slice A n c) ∧ W.cell? ⟨w.heap.size + 1, 0, none⟩ = some (.int .i64 l) ∧ W.cell? ⟨w.heap.size + 1, 1, none⟩ = some (.bool d) ∧ W.cell? ⟨w.heap.size + 1, 2, none⟩ = some (.bool i) ∧ W.cell? ⟨w.heap.size + 1, 3, none⟩ = some (.bool g) ∧ W.cell? ⟨w.heap.size + 1, 4, none⟩ = some (.bool false)) (first | (with_reducible (exact hkH.out _ bacc)) | (with_reducible (exact hkH.out _ bal)) | (with_reducible (exact hP1.out _ _ _ _ _ _ bacc)) | (with_reducible (exact hkH.out _ (bacc.alloc bacc.size _))) | exact hkH.out _ bacc) (first
    | ((go_at_call 24; refine (i_kidLevel 15 o t u A n c k _ (by omega)).mono ?_; rintro e x4 ⟨rfl, hb⟩; rw [hkl.out]; first
      | (have bacc := Below.trans bacc (hb.mono bacc.size); clear hb)
      | (have T4 := Lib.hid ((show Has (xw.alloc (.cells #[.int .i64 0, .bool false, .bool false, .bool false, .bool false] 28)).drew xw.heap.size _ _ from TX.out).below hb (show _ < (xw.alloc (.cells #[.int .i64 0, .bool false, .bool false, .bool false, .bool false] 28)).heap.size by omega)); have bacc := Below.trans bal (hb.mono bal.size); clear hb; have y0 := T4.out.get (i := 0) rfl; have y1 := T4.out.get (i := 1) rfl; have y2 := T4.out.get (i := 2) rfl; have y3 := T4.out.get (i := 3) rfl; have y4 := T4.out.get (i := 4) rfl; have q0 := T4.out.free 0; have q1 := T4.out.free 1; have q2 := T4.out.free 2; have q3 := T4.out.free 3; have q4 := T4.out.free 4; have ht4 := T4.out.lt))))
  · have hb4 : Below xw.heap.size xw x4 := ⟨bacc.os, bacc.tape, bacc.output, bacc.size, bacc.block⟩
    have hx4 : w.heap.size + 3 ≤ x4.heap.size := Nat.le_trans z.out hb4.size
    have T := Lib.hid (Has.made x4 28 #[.int .i64 LV, .bool false, .bool i, .bool g, .bool false])
    have K := Lib.hid ((K.out.keep hb4 (by omega)).keep ((Below.refl x4.heap.size x4).alloc (Nat.le_refl _) (.cells #[.int .i64 LV, .bool false, .bool i, .bool g, .bool false] 28)) (by omega))
    have B := Lib.hid ((B.out.trans (hb4.mono B.out.size)).alloc (Nat.le_trans B.out.size hb4.size) (.cells #[.int .i64 LV, .bool false, .bool i, .bool g, .bool false] 28))
    obtain ⟨W5, hW5⟩ : ∃ W, x4.alloc (.cells #[.int .i64 LV, .bool false, .bool i, .bool g, .bool false] 28) = W := ⟨_, rfl⟩
    rw [hW5] at T K B ⊢
    clear hW5 bacc bal hkH hP1 hb4
    have n0 := K.out.1.get (i := 0) rfl
    have n1 := K.out.1.get (i := 1) rfl
    have n2 := K.out.1.get (i := 2) rfl
    have n3 := K.out.1.get (i := 3) rfl
    have n4 := K.out.1.get (i := 4) rfl
    have p0 := K.out.2.1.get (i := 0) rfl
    have p1 := K.out.2.1.get (i := 1) rfl
    have p2 := K.out.2.1.get (i := 2) rfl
    have p3 := K.out.2.1.get (i := 3) rfl
    have p4 := K.out.2.1.get (i := 4) rfl
    have r0 := K.out.2.2.get (i := 0) rfl
    have r1 := K.out.2.2.get (i := 1) rfl
    have r2 := K.out.2.2.get (i := 2) rfl
    have r3 := K.out.2.2.get (i := 3) rfl
    have r4 := K.out.2.2.get (i := 4) rfl
    have f0 := K.out.2.2.free 0
    have f1 := K.out.2.2.free 1
    have f2 := K.out.2.2.free 2
    have f3 := K.out.2.2.free 3
    have f4 := K.out.2.2.free 4
    have t0 := T.out.get (i := 0) rfl
    have t1 := T.out.get (i := 1) rfl
    have t2 := T.out.get (i := 2) rfl
    have t3 := T.out.get (i := 3) rfl
    have t4 := T.out.get (i := 4) rfl
    have g4 := T.out.free 4
    have hlt5 := T.out.lt
    go_wp2_with fail
    exact bodyPost_ret (v := posV ⟨LV, false, i, g, false⟩) (by simp [results, Try.results14, go_sem, posV, r0, r1, r2, r3, r4, t0, t1, t2, t3, t4]) rfl (posV_eq HEQ.out (below_putF (B.out.setCell (p := ⟨x4.heap.size, 4, none⟩) (show w.heap.size ≤ x4.heap.size by omega) _) (by omega) _ _ _ _ _))
  · have hb4 : Below xw.heap.size xw x4 := ⟨bacc.os, bacc.tape, bacc.output, bacc.size, bacc.block⟩
    have hx4 : w.heap.size + 3 ≤ x4.heap.size := Nat.le_trans z.out hb4.size
    have T := Lib.hid (show Has (((((x4.setCell ⟨xw.heap.size, 0, none⟩ (.int .i64 LV)).setCell ⟨xw.heap.size, 1, none⟩ (.bool false)).setCell ⟨xw.heap.size, 2, none⟩ (.bool i)).setCell ⟨xw.heap.size, 3, none⟩ (.bool g)).setCell ⟨xw.heap.size, 4, none⟩ (.bool false)) xw.heap.size _ _ from T4.out.putF (.int .i64 LV) (.bool false) (.bool i) (.bool g) (.bool false))
    have K := Lib.hid (show KP (((((x4.setCell ⟨xw.heap.size, 0, none⟩ (.int .i64 LV)).setCell ⟨xw.heap.size, 1, none⟩ (.bool false)).setCell ⟨xw.heap.size, 2, none⟩ (.bool i)).setCell ⟨xw.heap.size, 3, none⟩ (.bool g)).setCell ⟨xw.heap.size, 4, none⟩ (.bool false)) _ _ _ _ _ _ _ _ _ _ _ from (K.out.keep hb4 (by omega)).putF (x := xw.heap.size) (by omega) (.int .i64 LV) (.bool false) (.bool i) (.bool g) (.bool false))
    have B := Lib.hid (show Below w.heap.size w (((((x4.setCell ⟨xw.heap.size, 0, none⟩ (.int .i64 LV)).setCell ⟨xw.heap.size, 1, none⟩ (.bool false)).setCell ⟨xw.heap.size, 2, none⟩ (.bool i)).setCell ⟨xw.heap.size, 3, none⟩ (.bool g)).setCell ⟨xw.heap.size, 4, none⟩ (.bool false)) from below_putF (B.out.trans (hb4.mono B.out.size)) (show w.heap.size ≤ xw.heap.size from B.out.size) _ _ _ _ _)
    obtain ⟨W5, hW5⟩ : ∃ W, (((((x4.setCell ⟨xw.heap.size, 0, none⟩ (.int .i64 LV)).setCell ⟨xw.heap.size, 1, none⟩ (.bool false)).setCell ⟨xw.heap.size, 2, none⟩ (.bool i)).setCell ⟨xw.heap.size, 3, none⟩ (.bool g)).setCell ⟨xw.heap.size, 4, none⟩ (.bool false)) = W := ⟨_, rfl⟩
    rw [hW5] at T K B ⊢
    clear hW5 bacc bal hkH hP1 hb4 y0 y1 y2 y3 y4 q0 q1 q2 q3 q4 T4
    have n0 := K.out.1.get (i := 0) rfl
    have n1 := K.out.1.get (i := 1) rfl
    have n2 := K.out.1.get (i := 2) rfl
    have n3 := K.out.1.get (i := 3) rfl
    have n4 := K.out.1.get (i := 4) rfl
    have p0 := K.out.2.1.get (i := 0) rfl
    have p1 := K.out.2.1.get (i := 1) rfl
    have p2 := K.out.2.1.get (i := 2) rfl
    have p3 := K.out.2.1.get (i := 3) rfl
    have p4 := K.out.2.1.get (i := 4) rfl
    have r0 := K.out.2.2.get (i := 0) rfl
    have r1 := K.out.2.2.get (i := 1) rfl
    have r2 := K.out.2.2.get (i := 2) rfl
    have r3 := K.out.2.2.get (i := 3) rfl
    have r4 := K.out.2.2.get (i := 4) rfl
    have f0 := K.out.2.2.free 0
    have f1 := K.out.2.2.free 1
    have f2 := K.out.2.2.free 2
    have f3 := K.out.2.2.free 3
    have f4 := K.out.2.2.free 4
    have t0 := T.out.get (i := 0) rfl
    have t1 := T.out.get (i := 1) rfl
    have t2 := T.out.get (i := 2) rfl
    have t3 := T.out.get (i := 3) rfl
    have t4 := T.out.get (i := 4) rfl
    have g4 := T.out.free 4
    have hlt5 := T.out.lt
    go_wp2_with fail
    exact bodyPost_ret (v := posV ⟨LV, false, i, g, false⟩) (by simp [results, Try.results14, go_sem, posV, r0, r1, r2, r3, r4, t0, t1, t2, t3, t4]) rfl (posV_eq HEQ.out (below_putF (B.out.setCell (p := ⟨xw.heap.size, 4, none⟩) (show w.heap.size ≤ xw.heap.size by omega) _) (by omega) _ _ _ _ _))
set_option maxRecDepth 100000 in
set_option maxHeartbeats 4000000 in
theorem i_kidPos_15_1 (o : Int) (t u : ByteArray) (A : Option Addr) (n c k : Nat) (l : Int) (d i g s : Bool) (w : World) (hn : n ≤ 8) (hkn : k < n) (hpo : posOk l d = true) (hk : k = 1) : Calls Try.prog 14 #[.agg #[.int .i64 15, .int .i64 o, .string t, .string u, .slice A n c], .int .i64 (k : Int), .agg #[.int .i64 l, .bool d, .bool i, .bool g, .bool s]] w (RetPosV w (kidQ 15 o n k ⟨l, d, i, g, s⟩)) := by
  have hL := Lib.hid (show levelOf 15 o = 1 from rfl)
  have K := Lib.hid (KP.made w 15 o t u (.slice A n c) l d i g s)
  have B := Lib.hid (kpW_below w 15 o t u (.slice A n c) l d i g s)
  have z := Lib.hid (show w.heap.size + 3 ≤ (kpW w 15 o t u (.slice A n c) l d i g s).heap.size by rw [kpW_size]; exact Nat.le_refl _)
  unfold kpW at K B z
  have n0 := K.out.1.get (i := 0) rfl
  have n1 := K.out.1.get (i := 1) rfl
  have n2 := K.out.1.get (i := 2) rfl
  have n3 := K.out.1.get (i := 3) rfl
  have n4 := K.out.1.get (i := 4) rfl
  have p0 := K.out.2.1.get (i := 0) rfl
  have p1 := K.out.2.1.get (i := 1) rfl
  have p2 := K.out.2.1.get (i := 2) rfl
  have p3 := K.out.2.1.get (i := 3) rfl
  have p4 := K.out.2.1.get (i := 4) rfl
  have r0 := K.out.2.2.get (i := 0) rfl
  have r1 := K.out.2.2.get (i := 1) rfl
  have r2 := K.out.2.2.get (i := 2) rfl
  have r3 := K.out.2.2.get (i := 3) rfl
  have r4 := K.out.2.2.get (i := 4) rfl
  have f0 := K.out.2.2.free 0
  have f1 := K.out.2.2.free 1
  have f2 := K.out.2.2.free 2
  have f3 := K.out.2.2.free 3
  have f4 := K.out.2.2.free 4
  have hin := Lib.hid (show inB (k : Int) 0 ((n : Int) - 1) = true by unfold inB; simp; omega)
  have hpo := Lib.hid hpo
  have hkz : ((k : Int) == 0) = false := by simp; omega
  have hk1 : ((k : Int) == 1) = true := by simp; omega
  obtain ⟨LV, hLV⟩ : ∃ LV, kidLevelP 15 o k = LV := ⟨_, rfl⟩
  have hkl := Lib.hid hLV
  have HEQ : kidQ 15 o n k ⟨l, d, i, g, s⟩ = ⟨LV, false, i, g, false⟩ := by
    unfold kidQ
    rw [hLV, if_neg (by rw [hL.out]; omega)]
    rw [if_neg (by decide)]
    rw [if_neg (by omega)]
    rfl
  have HEQ := Lib.hid HEQ
  clear hLV
  have hkH := Lib.hid hk
  clear hk
  go_enter Try.func14, Try.ntmps14
  go_wp2_with (first
      | (go_at_call 12; refine (i_posOk l d i g s _).mono ?_; rintro e xw ⟨rfl, hb⟩; rw [hpo.out]; clear n0 n1 n2 n3 n4 p0 p1 p2 p3 p4 r0 r1 r2 r3 r4 f0 f1 f2 f3 f4; have K := Lib.hid (K.out.keep hb (by have := z.out; omega)); have B := Lib.hid (B.out.trans (hb.mono B.out.size)); have z := Lib.hid (Nat.le_trans z.out hb.size); clear hb; have n0 := K.out.1.get (i := 0) rfl; have n1 := K.out.1.get (i := 1) rfl; have n2 := K.out.1.get (i := 2) rfl; have n3 := K.out.1.get (i := 3) rfl; have n4 := K.out.1.get (i := 4) rfl; have p0 := K.out.2.1.get (i := 0) rfl; have p1 := K.out.2.1.get (i := 1) rfl; have p2 := K.out.2.1.get (i := 2) rfl; have p3 := K.out.2.1.get (i := 3) rfl; have p4 := K.out.2.1.get (i := 4) rfl; have r0 := K.out.2.2.get (i := 0) rfl; have r1 := K.out.2.2.get (i := 1) rfl; have r2 := K.out.2.2.get (i := 2) rfl; have r3 := K.out.2.2.get (i := 3) rfl; have r4 := K.out.2.2.get (i := 4) rfl; have f0 := K.out.2.2.free 0; have f1 := K.out.2.2.free 1; have f2 := K.out.2.2.free 2; have f3 := K.out.2.2.free 3; have f4 := K.out.2.2.free 4; have hz := z.out)
      | (go_at_call 21; refine (i_within _ _ _ _).mono ?_; rintro e w' ⟨rfl, rfl⟩; rw [hin.out])
      | (go_at_call 11; refine (i_levelOf 15 o t u A n c _).mono ?_; rintro e xw ⟨rfl, hb⟩; rw [hL.out]; clear n0 n1 n2 n3 n4 p0 p1 p2 p3 p4 r0 r1 r2 r3 r4 f0 f1 f2 f3 f4; have K := Lib.hid (K.out.keep hb (by have := z.out; omega)); have B := Lib.hid (B.out.trans (hb.mono B.out.size)); have z := Lib.hid (Nat.le_trans z.out hb.size); clear hb; have n0 := K.out.1.get (i := 0) rfl; have n1 := K.out.1.get (i := 1) rfl; have n2 := K.out.1.get (i := 2) rfl; have n3 := K.out.1.get (i := 3) rfl; have n4 := K.out.1.get (i := 4) rfl; have p0 := K.out.2.1.get (i := 0) rfl; have p1 := K.out.2.1.get (i := 1) rfl; have p2 := K.out.2.1.get (i := 2) rfl; have p3 := K.out.2.1.get (i := 3) rfl; have p4 := K.out.2.1.get (i := 4) rfl; have r0 := K.out.2.2.get (i := 0) rfl; have r1 := K.out.2.2.get (i := 1) rfl; have r2 := K.out.2.2.get (i := 2) rfl; have r3 := K.out.2.2.get (i := 3) rfl; have r4 := K.out.2.2.get (i := 4) rfl; have f0 := K.out.2.2.free 0; have f1 := K.out.2.2.free 1; have f2 := K.out.2.2.free 2; have f3 := K.out.2.2.free 3; have f4 := K.out.2.2.free 4; have hz := z.out))
  have hzs := z.out
  have bacc : Below xw.drew.heap.size xw.drew xw.drew := Below.refl _ _
  have bal0 := (Below.refl xw.heap.size xw).alloc (Nat.le_refl _) (.cells #[.int .i64 0, .bool false, .bool false, .bool false, .bool false] 28)
  have bal : Below xw.drew.heap.size xw.drew (xw.alloc (.cells #[.int .i64 0, .bool false, .bool false, .bool false, .bool false] 28)).drew := ⟨bal0.os, bal0.tape, bal0.output, bal0.size, bal0.block⟩
  clear bal0
  have hkH := Lib.hid (show ∀ W', Below xw.drew.heap.size xw.drew W' → W'.cell? ⟨w.heap.size, 0, none⟩ = some (.int .i64 15) ∧ W'.cell? ⟨w.heap.size, 1, none⟩ = some (.int .i64 o) ∧ W'.cell? ⟨w.heap.size, 2, none⟩ = some (.string t) ∧ W'.cell? ⟨w.heap.size, 3, none⟩ = some (.string u) ∧ W'.cell? ⟨w.heap.size, 4, none⟩ = some (.slice A n c) ∧ W'.cell? ⟨w.heap.size + 1, 0, none⟩ = some (.int .i64 l) ∧ W'.cell? ⟨w.heap.size + 1, 1, none⟩ = some (.bool d) ∧ W'.cell? ⟨w.heap.size + 1, 2, none⟩ = some (.bool i) ∧ W'.cell? ⟨w.heap.size + 1, 3, none⟩ = some (.bool g) ∧ W'.cell? ⟨w.heap.size + 1, 4, none⟩ = some (.bool s) from fun W' hb => by
    have h := (show KP xw.drew _ _ _ _ _ _ _ _ _ _ _ from K.out).keep hb (show _ < xw.heap.size by omega)
    exact ⟨h.1.get (i := 0) rfl, h.1.get (i := 1) rfl, h.1.get (i := 2) rfl, h.1.get (i := 3) rfl, h.1.get (i := 4) rfl, h.2.1.get (i := 0) rfl, h.2.1.get (i := 1) rfl, h.2.1.get (i := 2) rfl, h.2.1.get (i := 3) rfl, h.2.1.get (i := 4) rfl⟩)
  have hP1 := Lib.hid (show ∀ W' (x0 x1 x2 x3 x4 : Value), Below xw.drew.heap.size xw.drew W' → (((((W'.setCell ⟨xw.heap.size, 0, none⟩ x0).setCell ⟨xw.heap.size, 1, none⟩ x1).setCell ⟨xw.heap.size, 2, none⟩ x2).setCell ⟨xw.heap.size, 3, none⟩ x3).setCell ⟨xw.heap.size, 4, none⟩ x4).cell? ⟨w.heap.size, 0, none⟩ = some (.int .i64 15) ∧ (((((W'.setCell ⟨xw.heap.size, 0, none⟩ x0).setCell ⟨xw.heap.size, 1, none⟩ x1).setCell ⟨xw.heap.size, 2, none⟩ x2).setCell ⟨xw.heap.size, 3, none⟩ x3).setCell ⟨xw.heap.size, 4, none⟩ x4).cell? ⟨w.heap.size, 1, none⟩ = some (.int .i64 o) ∧ (((((W'.setCell ⟨xw.heap.size, 0, none⟩ x0).setCell ⟨xw.heap.size, 1, none⟩ x1).setCell ⟨xw.heap.size, 2, none⟩ x2).setCell ⟨xw.heap.size, 3, none⟩ x3).setCell ⟨xw.heap.size, 4, none⟩ x4).cell? ⟨w.heap.size, 2, none⟩ = some (.string t) ∧ (((((W'.setCell ⟨xw.heap.size, 0, none⟩ x0).setCell ⟨xw.heap.size, 1, none⟩ x1).setCell ⟨xw.heap.size, 2, none⟩ x2).setCell ⟨xw.heap.size, 3, none⟩ x3).setCell ⟨xw.heap.size, 4, none⟩ x4).cell? ⟨w.heap.size, 3, none⟩ = some (.string u) ∧ (((((W'.setCell ⟨xw.heap.size, 0, none⟩ x0).setCell ⟨xw.heap.size, 1, none⟩ x1).setCell ⟨xw.heap.size, 2, none⟩ x2).setCell ⟨xw.heap.size, 3, none⟩ x3).setCell ⟨xw.heap.size, 4, none⟩ x4).cell? ⟨w.heap.size, 4, none⟩ = some (.slice A n c) ∧ (((((W'.setCell ⟨xw.heap.size, 0, none⟩ x0).setCell ⟨xw.heap.size, 1, none⟩ x1).setCell ⟨xw.heap.size, 2, none⟩ x2).setCell ⟨xw.heap.size, 3, none⟩ x3).setCell ⟨xw.heap.size, 4, none⟩ x4).cell? ⟨w.heap.size + 1, 0, none⟩ = some (.int .i64 l) ∧ (((((W'.setCell ⟨xw.heap.size, 0, none⟩ x0).setCell ⟨xw.heap.size, 1, none⟩ x1).setCell ⟨xw.heap.size, 2, none⟩ x2).setCell ⟨xw.heap.size, 3, none⟩ x3).setCell ⟨xw.heap.size, 4, none⟩ x4).cell? ⟨w.heap.size + 1, 1, none⟩ = some (.bool d) ∧ (((((W'.setCell ⟨xw.heap.size, 0, none⟩ x0).setCell ⟨xw.heap.size, 1, none⟩ x1).setCell ⟨xw.heap.size, 2, none⟩ x2).setCell ⟨xw.heap.size, 3, none⟩ x3).setCell ⟨xw.heap.size, 4, none⟩ x4).cell? ⟨w.heap.size + 1, 2, none⟩ = some (.bool i) ∧ (((((W'.setCell ⟨xw.heap.size, 0, none⟩ x0).setCell ⟨xw.heap.size, 1, none⟩ x1).setCell ⟨xw.heap.size, 2, none⟩ x2).setCell ⟨xw.heap.size, 3, none⟩ x3).setCell ⟨xw.heap.size, 4, none⟩ x4).cell? ⟨w.heap.size + 1, 3, none⟩ = some (.bool g) ∧ (((((W'.setCell ⟨xw.heap.size, 0, none⟩ x0).setCell ⟨xw.heap.size, 1, none⟩ x1).setCell ⟨xw.heap.size, 2, none⟩ x2).setCell ⟨xw.heap.size, 3, none⟩ x3).setCell ⟨xw.heap.size, 4, none⟩ x4).cell? ⟨w.heap.size + 1, 4, none⟩ = some (.bool s) from fun W' x0 x1 x2 x3 x4 hb => by
    have h := ((show KP xw.drew _ _ _ _ _ _ _ _ _ _ _ from K.out).keep hb (show _ < xw.heap.size by omega)).putF (x := xw.heap.size) (by omega) x0 x1 x2 x3 x4
    exact ⟨h.1.get (i := 0) rfl, h.1.get (i := 1) rfl, h.1.get (i := 2) rfl, h.1.get (i := 3) rfl, h.1.get (i := 4) rfl, h.2.1.get (i := 0) rfl, h.2.1.get (i := 1) rfl, h.2.1.get (i := 2) rfl, h.2.1.get (i := 3) rfl, h.2.1.get (i := 4) rfl⟩)
  have TX := Lib.hid (Has.made xw 28 #[.int .i64 0, .bool false, .bool false, .bool false, .bool false])
  have hXs : (xw.alloc (.cells #[.int .i64 0, .bool false, .bool false, .bool false, .bool false] 28)).heap.size = xw.heap.size + 1 := by simp
  clear n0 n1 n2 n3 n4 p0 p1 p2 p3 p4 r0 r1 r2 r3 r4 f0 f1 f2 f3 f4 hz
  go_region_held3 (fun W => W.cell? ⟨w.heap.size, 0, none⟩ = some (.int .i64 15) ∧ W.cell? ⟨w.heap.size, 1, none⟩ = some (.int .i64 o) ∧ W.cell? ⟨w.heap.size, 2, none⟩ = some (.string t) ∧ W.cell? ⟨w.heap.size, 3, none⟩ = some (.string u) ∧ W.cell? ⟨w.heap.size, 4, none⟩ = some (.slice A n c) ∧ W.cell? ⟨w.heap.size + 1, 0, none⟩ = some (.int .i64 l) ∧ W.cell? ⟨w.heap.size + 1, 1, none⟩ = some (.bool d) ∧ W.cell? ⟨w.heap.size + 1, 2, none⟩ = some (.bool i) ∧ W.cell? ⟨w.heap.size + 1, 3, none⟩ = some (.bool g) ∧ W.cell? ⟨w.heap.size + 1, 4, none⟩ = some (.bool s)) (first | (with_reducible (exact hkH.out _ bacc)) | (with_reducible (exact hkH.out _ bal)) | (with_reducible (exact hP1.out _ _ _ _ _ _ bacc)) | (with_reducible (exact hkH.out _ (bacc.alloc bacc.size _))) | exact hkH.out _ bacc) (first
    | ((go_at_call 24; refine (i_kidLevel 15 o t u A n c k _ (by omega)).mono ?_; rintro e x4 ⟨rfl, hb⟩; rw [hkl.out]; first
      | (have bacc := Below.trans bacc (hb.mono bacc.size); clear hb)
      | (have T4 := Lib.hid ((show Has (xw.alloc (.cells #[.int .i64 0, .bool false, .bool false, .bool false, .bool false] 28)).drew xw.heap.size _ _ from TX.out).below hb (show _ < (xw.alloc (.cells #[.int .i64 0, .bool false, .bool false, .bool false, .bool false] 28)).heap.size by omega)); have bacc := Below.trans bal (hb.mono bal.size); clear hb; have y0 := T4.out.get (i := 0) rfl; have y1 := T4.out.get (i := 1) rfl; have y2 := T4.out.get (i := 2) rfl; have y3 := T4.out.get (i := 3) rfl; have y4 := T4.out.get (i := 4) rfl; have q0 := T4.out.free 0; have q1 := T4.out.free 1; have q2 := T4.out.free 2; have q3 := T4.out.free 3; have q4 := T4.out.free 4; have ht4 := T4.out.lt))))
  · have hb4 : Below xw.heap.size xw x4 := ⟨bacc.os, bacc.tape, bacc.output, bacc.size, bacc.block⟩
    have hx4 : w.heap.size + 3 ≤ x4.heap.size := Nat.le_trans z.out hb4.size
    have T := Lib.hid (Has.made x4 28 #[.int .i64 LV, .bool false, .bool i, .bool g, .bool false])
    have K := Lib.hid ((K.out.keep hb4 (by omega)).keep ((Below.refl x4.heap.size x4).alloc (Nat.le_refl _) (.cells #[.int .i64 LV, .bool false, .bool i, .bool g, .bool false] 28)) (by omega))
    have B := Lib.hid ((B.out.trans (hb4.mono B.out.size)).alloc (Nat.le_trans B.out.size hb4.size) (.cells #[.int .i64 LV, .bool false, .bool i, .bool g, .bool false] 28))
    obtain ⟨W5, hW5⟩ : ∃ W, x4.alloc (.cells #[.int .i64 LV, .bool false, .bool i, .bool g, .bool false] 28) = W := ⟨_, rfl⟩
    rw [hW5] at T K B ⊢
    clear hW5 bacc bal hkH hP1 hb4
    have n0 := K.out.1.get (i := 0) rfl
    have n1 := K.out.1.get (i := 1) rfl
    have n2 := K.out.1.get (i := 2) rfl
    have n3 := K.out.1.get (i := 3) rfl
    have n4 := K.out.1.get (i := 4) rfl
    have p0 := K.out.2.1.get (i := 0) rfl
    have p1 := K.out.2.1.get (i := 1) rfl
    have p2 := K.out.2.1.get (i := 2) rfl
    have p3 := K.out.2.1.get (i := 3) rfl
    have p4 := K.out.2.1.get (i := 4) rfl
    have r0 := K.out.2.2.get (i := 0) rfl
    have r1 := K.out.2.2.get (i := 1) rfl
    have r2 := K.out.2.2.get (i := 2) rfl
    have r3 := K.out.2.2.get (i := 3) rfl
    have r4 := K.out.2.2.get (i := 4) rfl
    have f0 := K.out.2.2.free 0
    have f1 := K.out.2.2.free 1
    have f2 := K.out.2.2.free 2
    have f3 := K.out.2.2.free 3
    have f4 := K.out.2.2.free 4
    have t0 := T.out.get (i := 0) rfl
    have t1 := T.out.get (i := 1) rfl
    have t2 := T.out.get (i := 2) rfl
    have t3 := T.out.get (i := 3) rfl
    have t4 := T.out.get (i := 4) rfl
    have g4 := T.out.free 4
    have hlt5 := T.out.lt
    go_wp2_with fail
    exact bodyPost_ret (v := posV ⟨LV, false, i, g, false⟩) (by simp [results, Try.results14, go_sem, posV, r0, r1, r2, r3, r4, t0, t1, t2, t3, t4]) rfl (posV_eq HEQ.out (below_putF (B.out.setCell (p := ⟨x4.heap.size, 4, none⟩) (show w.heap.size ≤ x4.heap.size by omega) _) (by omega) _ _ _ _ _))
  · have hb4 : Below xw.heap.size xw x4 := ⟨bacc.os, bacc.tape, bacc.output, bacc.size, bacc.block⟩
    have hx4 : w.heap.size + 3 ≤ x4.heap.size := Nat.le_trans z.out hb4.size
    have T := Lib.hid (show Has (((((x4.setCell ⟨xw.heap.size, 0, none⟩ (.int .i64 LV)).setCell ⟨xw.heap.size, 1, none⟩ (.bool false)).setCell ⟨xw.heap.size, 2, none⟩ (.bool i)).setCell ⟨xw.heap.size, 3, none⟩ (.bool g)).setCell ⟨xw.heap.size, 4, none⟩ (.bool false)) xw.heap.size _ _ from T4.out.putF (.int .i64 LV) (.bool false) (.bool i) (.bool g) (.bool false))
    have K := Lib.hid (show KP (((((x4.setCell ⟨xw.heap.size, 0, none⟩ (.int .i64 LV)).setCell ⟨xw.heap.size, 1, none⟩ (.bool false)).setCell ⟨xw.heap.size, 2, none⟩ (.bool i)).setCell ⟨xw.heap.size, 3, none⟩ (.bool g)).setCell ⟨xw.heap.size, 4, none⟩ (.bool false)) _ _ _ _ _ _ _ _ _ _ _ from (K.out.keep hb4 (by omega)).putF (x := xw.heap.size) (by omega) (.int .i64 LV) (.bool false) (.bool i) (.bool g) (.bool false))
    have B := Lib.hid (show Below w.heap.size w (((((x4.setCell ⟨xw.heap.size, 0, none⟩ (.int .i64 LV)).setCell ⟨xw.heap.size, 1, none⟩ (.bool false)).setCell ⟨xw.heap.size, 2, none⟩ (.bool i)).setCell ⟨xw.heap.size, 3, none⟩ (.bool g)).setCell ⟨xw.heap.size, 4, none⟩ (.bool false)) from below_putF (B.out.trans (hb4.mono B.out.size)) (show w.heap.size ≤ xw.heap.size from B.out.size) _ _ _ _ _)
    obtain ⟨W5, hW5⟩ : ∃ W, (((((x4.setCell ⟨xw.heap.size, 0, none⟩ (.int .i64 LV)).setCell ⟨xw.heap.size, 1, none⟩ (.bool false)).setCell ⟨xw.heap.size, 2, none⟩ (.bool i)).setCell ⟨xw.heap.size, 3, none⟩ (.bool g)).setCell ⟨xw.heap.size, 4, none⟩ (.bool false)) = W := ⟨_, rfl⟩
    rw [hW5] at T K B ⊢
    clear hW5 bacc bal hkH hP1 hb4 y0 y1 y2 y3 y4 q0 q1 q2 q3 q4 T4
    have n0 := K.out.1.get (i := 0) rfl
    have n1 := K.out.1.get (i := 1) rfl
    have n2 := K.out.1.get (i := 2) rfl
    have n3 := K.out.1.get (i := 3) rfl
    have n4 := K.out.1.get (i := 4) rfl
    have p0 := K.out.2.1.get (i := 0) rfl
    have p1 := K.out.2.1.get (i := 1) rfl
    have p2 := K.out.2.1.get (i := 2) rfl
    have p3 := K.out.2.1.get (i := 3) rfl
    have p4 := K.out.2.1.get (i := 4) rfl
    have r0 := K.out.2.2.get (i := 0) rfl
    have r1 := K.out.2.2.get (i := 1) rfl
    have r2 := K.out.2.2.get (i := 2) rfl
    have r3 := K.out.2.2.get (i := 3) rfl
    have r4 := K.out.2.2.get (i := 4) rfl
    have f0 := K.out.2.2.free 0
    have f1 := K.out.2.2.free 1
    have f2 := K.out.2.2.free 2
    have f3 := K.out.2.2.free 3
    have f4 := K.out.2.2.free 4
    have t0 := T.out.get (i := 0) rfl
    have t1 := T.out.get (i := 1) rfl
    have t2 := T.out.get (i := 2) rfl
    have t3 := T.out.get (i := 3) rfl
    have t4 := T.out.get (i := 4) rfl
    have g4 := T.out.free 4
    have hlt5 := T.out.lt
    go_wp2_with fail
    exact bodyPost_ret (v := posV ⟨LV, false, i, g, false⟩) (by simp [results, Try.results14, go_sem, posV, r0, r1, r2, r3, r4, t0, t1, t2, t3, t4]) rfl (posV_eq HEQ.out (below_putF (B.out.setCell (p := ⟨xw.heap.size, 4, none⟩) (show w.heap.size ≤ xw.heap.size by omega) _) (by omega) _ _ _ _ _))
set_option maxRecDepth 100000 in
set_option maxHeartbeats 4000000 in
theorem i_kidPos_15_2 (o : Int) (t u : ByteArray) (A : Option Addr) (n c k : Nat) (l : Int) (d i g s : Bool) (w : World) (hn : n ≤ 8) (hkn : k < n) (hpo : posOk l d = true) (hk : 2 ≤ k) : Calls Try.prog 14 #[.agg #[.int .i64 15, .int .i64 o, .string t, .string u, .slice A n c], .int .i64 (k : Int), .agg #[.int .i64 l, .bool d, .bool i, .bool g, .bool s]] w (RetPosV w (kidQ 15 o n k ⟨l, d, i, g, s⟩)) := by
  have hL := Lib.hid (show levelOf 15 o = 1 from rfl)
  have K := Lib.hid (KP.made w 15 o t u (.slice A n c) l d i g s)
  have B := Lib.hid (kpW_below w 15 o t u (.slice A n c) l d i g s)
  have z := Lib.hid (show w.heap.size + 3 ≤ (kpW w 15 o t u (.slice A n c) l d i g s).heap.size by rw [kpW_size]; exact Nat.le_refl _)
  unfold kpW at K B z
  have n0 := K.out.1.get (i := 0) rfl
  have n1 := K.out.1.get (i := 1) rfl
  have n2 := K.out.1.get (i := 2) rfl
  have n3 := K.out.1.get (i := 3) rfl
  have n4 := K.out.1.get (i := 4) rfl
  have p0 := K.out.2.1.get (i := 0) rfl
  have p1 := K.out.2.1.get (i := 1) rfl
  have p2 := K.out.2.1.get (i := 2) rfl
  have p3 := K.out.2.1.get (i := 3) rfl
  have p4 := K.out.2.1.get (i := 4) rfl
  have r0 := K.out.2.2.get (i := 0) rfl
  have r1 := K.out.2.2.get (i := 1) rfl
  have r2 := K.out.2.2.get (i := 2) rfl
  have r3 := K.out.2.2.get (i := 3) rfl
  have r4 := K.out.2.2.get (i := 4) rfl
  have f0 := K.out.2.2.free 0
  have f1 := K.out.2.2.free 1
  have f2 := K.out.2.2.free 2
  have f3 := K.out.2.2.free 3
  have f4 := K.out.2.2.free 4
  have hin := Lib.hid (show inB (k : Int) 0 ((n : Int) - 1) = true by unfold inB; simp; omega)
  have hpo := Lib.hid hpo
  have hkz : ((k : Int) == 0) = false := by simp; omega
  have hk1 : ((k : Int) == 1) = false := by simp; omega
  obtain ⟨LV, hLV⟩ : ∃ LV, kidLevelP 15 o k = LV := ⟨_, rfl⟩
  have hkl := Lib.hid hLV
  have HEQ : kidQ 15 o n k ⟨l, d, i, g, s⟩ = ⟨LV, false, i, g, false⟩ := by
    unfold kidQ
    rw [hLV, if_neg (by rw [hL.out]; omega)]
    rw [if_neg (by decide)]
    rw [if_neg (by omega)]
    rfl
  have HEQ := Lib.hid HEQ
  clear hLV
  have hkH := Lib.hid hk
  clear hk
  go_enter Try.func14, Try.ntmps14
  go_wp2_with (first
      | (go_at_call 12; refine (i_posOk l d i g s _).mono ?_; rintro e xw ⟨rfl, hb⟩; rw [hpo.out]; clear n0 n1 n2 n3 n4 p0 p1 p2 p3 p4 r0 r1 r2 r3 r4 f0 f1 f2 f3 f4; have K := Lib.hid (K.out.keep hb (by have := z.out; omega)); have B := Lib.hid (B.out.trans (hb.mono B.out.size)); have z := Lib.hid (Nat.le_trans z.out hb.size); clear hb; have n0 := K.out.1.get (i := 0) rfl; have n1 := K.out.1.get (i := 1) rfl; have n2 := K.out.1.get (i := 2) rfl; have n3 := K.out.1.get (i := 3) rfl; have n4 := K.out.1.get (i := 4) rfl; have p0 := K.out.2.1.get (i := 0) rfl; have p1 := K.out.2.1.get (i := 1) rfl; have p2 := K.out.2.1.get (i := 2) rfl; have p3 := K.out.2.1.get (i := 3) rfl; have p4 := K.out.2.1.get (i := 4) rfl; have r0 := K.out.2.2.get (i := 0) rfl; have r1 := K.out.2.2.get (i := 1) rfl; have r2 := K.out.2.2.get (i := 2) rfl; have r3 := K.out.2.2.get (i := 3) rfl; have r4 := K.out.2.2.get (i := 4) rfl; have f0 := K.out.2.2.free 0; have f1 := K.out.2.2.free 1; have f2 := K.out.2.2.free 2; have f3 := K.out.2.2.free 3; have f4 := K.out.2.2.free 4; have hz := z.out)
      | (go_at_call 21; refine (i_within _ _ _ _).mono ?_; rintro e w' ⟨rfl, rfl⟩; rw [hin.out])
      | (go_at_call 11; refine (i_levelOf 15 o t u A n c _).mono ?_; rintro e xw ⟨rfl, hb⟩; rw [hL.out]; clear n0 n1 n2 n3 n4 p0 p1 p2 p3 p4 r0 r1 r2 r3 r4 f0 f1 f2 f3 f4; have K := Lib.hid (K.out.keep hb (by have := z.out; omega)); have B := Lib.hid (B.out.trans (hb.mono B.out.size)); have z := Lib.hid (Nat.le_trans z.out hb.size); clear hb; have n0 := K.out.1.get (i := 0) rfl; have n1 := K.out.1.get (i := 1) rfl; have n2 := K.out.1.get (i := 2) rfl; have n3 := K.out.1.get (i := 3) rfl; have n4 := K.out.1.get (i := 4) rfl; have p0 := K.out.2.1.get (i := 0) rfl; have p1 := K.out.2.1.get (i := 1) rfl; have p2 := K.out.2.1.get (i := 2) rfl; have p3 := K.out.2.1.get (i := 3) rfl; have p4 := K.out.2.1.get (i := 4) rfl; have r0 := K.out.2.2.get (i := 0) rfl; have r1 := K.out.2.2.get (i := 1) rfl; have r2 := K.out.2.2.get (i := 2) rfl; have r3 := K.out.2.2.get (i := 3) rfl; have r4 := K.out.2.2.get (i := 4) rfl; have f0 := K.out.2.2.free 0; have f1 := K.out.2.2.free 1; have f2 := K.out.2.2.free 2; have f3 := K.out.2.2.free 3; have f4 := K.out.2.2.free 4; have hz := z.out))
  have hzs := z.out
  have bacc : Below xw.drew.heap.size xw.drew xw.drew := Below.refl _ _
  have bal0 := (Below.refl xw.heap.size xw).alloc (Nat.le_refl _) (.cells #[.int .i64 0, .bool false, .bool false, .bool false, .bool false] 28)
  have bal : Below xw.drew.heap.size xw.drew (xw.alloc (.cells #[.int .i64 0, .bool false, .bool false, .bool false, .bool false] 28)).drew := ⟨bal0.os, bal0.tape, bal0.output, bal0.size, bal0.block⟩
  clear bal0
  have hkH := Lib.hid (show ∀ W', Below xw.drew.heap.size xw.drew W' → W'.cell? ⟨w.heap.size, 0, none⟩ = some (.int .i64 15) ∧ W'.cell? ⟨w.heap.size, 1, none⟩ = some (.int .i64 o) ∧ W'.cell? ⟨w.heap.size, 2, none⟩ = some (.string t) ∧ W'.cell? ⟨w.heap.size, 3, none⟩ = some (.string u) ∧ W'.cell? ⟨w.heap.size, 4, none⟩ = some (.slice A n c) ∧ W'.cell? ⟨w.heap.size + 1, 0, none⟩ = some (.int .i64 l) ∧ W'.cell? ⟨w.heap.size + 1, 1, none⟩ = some (.bool d) ∧ W'.cell? ⟨w.heap.size + 1, 2, none⟩ = some (.bool i) ∧ W'.cell? ⟨w.heap.size + 1, 3, none⟩ = some (.bool g) ∧ W'.cell? ⟨w.heap.size + 1, 4, none⟩ = some (.bool s) from fun W' hb => by
    have h := (show KP xw.drew _ _ _ _ _ _ _ _ _ _ _ from K.out).keep hb (show _ < xw.heap.size by omega)
    exact ⟨h.1.get (i := 0) rfl, h.1.get (i := 1) rfl, h.1.get (i := 2) rfl, h.1.get (i := 3) rfl, h.1.get (i := 4) rfl, h.2.1.get (i := 0) rfl, h.2.1.get (i := 1) rfl, h.2.1.get (i := 2) rfl, h.2.1.get (i := 3) rfl, h.2.1.get (i := 4) rfl⟩)
  have hP1 := Lib.hid (show ∀ W' (x0 x1 x2 x3 x4 : Value), Below xw.drew.heap.size xw.drew W' → (((((W'.setCell ⟨xw.heap.size, 0, none⟩ x0).setCell ⟨xw.heap.size, 1, none⟩ x1).setCell ⟨xw.heap.size, 2, none⟩ x2).setCell ⟨xw.heap.size, 3, none⟩ x3).setCell ⟨xw.heap.size, 4, none⟩ x4).cell? ⟨w.heap.size, 0, none⟩ = some (.int .i64 15) ∧ (((((W'.setCell ⟨xw.heap.size, 0, none⟩ x0).setCell ⟨xw.heap.size, 1, none⟩ x1).setCell ⟨xw.heap.size, 2, none⟩ x2).setCell ⟨xw.heap.size, 3, none⟩ x3).setCell ⟨xw.heap.size, 4, none⟩ x4).cell? ⟨w.heap.size, 1, none⟩ = some (.int .i64 o) ∧ (((((W'.setCell ⟨xw.heap.size, 0, none⟩ x0).setCell ⟨xw.heap.size, 1, none⟩ x1).setCell ⟨xw.heap.size, 2, none⟩ x2).setCell ⟨xw.heap.size, 3, none⟩ x3).setCell ⟨xw.heap.size, 4, none⟩ x4).cell? ⟨w.heap.size, 2, none⟩ = some (.string t) ∧ (((((W'.setCell ⟨xw.heap.size, 0, none⟩ x0).setCell ⟨xw.heap.size, 1, none⟩ x1).setCell ⟨xw.heap.size, 2, none⟩ x2).setCell ⟨xw.heap.size, 3, none⟩ x3).setCell ⟨xw.heap.size, 4, none⟩ x4).cell? ⟨w.heap.size, 3, none⟩ = some (.string u) ∧ (((((W'.setCell ⟨xw.heap.size, 0, none⟩ x0).setCell ⟨xw.heap.size, 1, none⟩ x1).setCell ⟨xw.heap.size, 2, none⟩ x2).setCell ⟨xw.heap.size, 3, none⟩ x3).setCell ⟨xw.heap.size, 4, none⟩ x4).cell? ⟨w.heap.size, 4, none⟩ = some (.slice A n c) ∧ (((((W'.setCell ⟨xw.heap.size, 0, none⟩ x0).setCell ⟨xw.heap.size, 1, none⟩ x1).setCell ⟨xw.heap.size, 2, none⟩ x2).setCell ⟨xw.heap.size, 3, none⟩ x3).setCell ⟨xw.heap.size, 4, none⟩ x4).cell? ⟨w.heap.size + 1, 0, none⟩ = some (.int .i64 l) ∧ (((((W'.setCell ⟨xw.heap.size, 0, none⟩ x0).setCell ⟨xw.heap.size, 1, none⟩ x1).setCell ⟨xw.heap.size, 2, none⟩ x2).setCell ⟨xw.heap.size, 3, none⟩ x3).setCell ⟨xw.heap.size, 4, none⟩ x4).cell? ⟨w.heap.size + 1, 1, none⟩ = some (.bool d) ∧ (((((W'.setCell ⟨xw.heap.size, 0, none⟩ x0).setCell ⟨xw.heap.size, 1, none⟩ x1).setCell ⟨xw.heap.size, 2, none⟩ x2).setCell ⟨xw.heap.size, 3, none⟩ x3).setCell ⟨xw.heap.size, 4, none⟩ x4).cell? ⟨w.heap.size + 1, 2, none⟩ = some (.bool i) ∧ (((((W'.setCell ⟨xw.heap.size, 0, none⟩ x0).setCell ⟨xw.heap.size, 1, none⟩ x1).setCell ⟨xw.heap.size, 2, none⟩ x2).setCell ⟨xw.heap.size, 3, none⟩ x3).setCell ⟨xw.heap.size, 4, none⟩ x4).cell? ⟨w.heap.size + 1, 3, none⟩ = some (.bool g) ∧ (((((W'.setCell ⟨xw.heap.size, 0, none⟩ x0).setCell ⟨xw.heap.size, 1, none⟩ x1).setCell ⟨xw.heap.size, 2, none⟩ x2).setCell ⟨xw.heap.size, 3, none⟩ x3).setCell ⟨xw.heap.size, 4, none⟩ x4).cell? ⟨w.heap.size + 1, 4, none⟩ = some (.bool s) from fun W' x0 x1 x2 x3 x4 hb => by
    have h := ((show KP xw.drew _ _ _ _ _ _ _ _ _ _ _ from K.out).keep hb (show _ < xw.heap.size by omega)).putF (x := xw.heap.size) (by omega) x0 x1 x2 x3 x4
    exact ⟨h.1.get (i := 0) rfl, h.1.get (i := 1) rfl, h.1.get (i := 2) rfl, h.1.get (i := 3) rfl, h.1.get (i := 4) rfl, h.2.1.get (i := 0) rfl, h.2.1.get (i := 1) rfl, h.2.1.get (i := 2) rfl, h.2.1.get (i := 3) rfl, h.2.1.get (i := 4) rfl⟩)
  have TX := Lib.hid (Has.made xw 28 #[.int .i64 0, .bool false, .bool false, .bool false, .bool false])
  have hXs : (xw.alloc (.cells #[.int .i64 0, .bool false, .bool false, .bool false, .bool false] 28)).heap.size = xw.heap.size + 1 := by simp
  clear n0 n1 n2 n3 n4 p0 p1 p2 p3 p4 r0 r1 r2 r3 r4 f0 f1 f2 f3 f4 hz
  go_region_held3 (fun W => W.cell? ⟨w.heap.size, 0, none⟩ = some (.int .i64 15) ∧ W.cell? ⟨w.heap.size, 1, none⟩ = some (.int .i64 o) ∧ W.cell? ⟨w.heap.size, 2, none⟩ = some (.string t) ∧ W.cell? ⟨w.heap.size, 3, none⟩ = some (.string u) ∧ W.cell? ⟨w.heap.size, 4, none⟩ = some (.slice A n c) ∧ W.cell? ⟨w.heap.size + 1, 0, none⟩ = some (.int .i64 l) ∧ W.cell? ⟨w.heap.size + 1, 1, none⟩ = some (.bool d) ∧ W.cell? ⟨w.heap.size + 1, 2, none⟩ = some (.bool i) ∧ W.cell? ⟨w.heap.size + 1, 3, none⟩ = some (.bool g) ∧ W.cell? ⟨w.heap.size + 1, 4, none⟩ = some (.bool s)) (first | (with_reducible (exact hkH.out _ bacc)) | (with_reducible (exact hkH.out _ bal)) | (with_reducible (exact hP1.out _ _ _ _ _ _ bacc)) | (with_reducible (exact hkH.out _ (bacc.alloc bacc.size _))) | exact hkH.out _ bacc) (first
    | ((go_at_call 24; refine (i_kidLevel 15 o t u A n c k _ (by omega)).mono ?_; rintro e x4 ⟨rfl, hb⟩; rw [hkl.out]; first
      | (have bacc := Below.trans bacc (hb.mono bacc.size); clear hb)
      | (have T4 := Lib.hid ((show Has (xw.alloc (.cells #[.int .i64 0, .bool false, .bool false, .bool false, .bool false] 28)).drew xw.heap.size _ _ from TX.out).below hb (show _ < (xw.alloc (.cells #[.int .i64 0, .bool false, .bool false, .bool false, .bool false] 28)).heap.size by omega)); have bacc := Below.trans bal (hb.mono bal.size); clear hb; have y0 := T4.out.get (i := 0) rfl; have y1 := T4.out.get (i := 1) rfl; have y2 := T4.out.get (i := 2) rfl; have y3 := T4.out.get (i := 3) rfl; have y4 := T4.out.get (i := 4) rfl; have q0 := T4.out.free 0; have q1 := T4.out.free 1; have q2 := T4.out.free 2; have q3 := T4.out.free 3; have q4 := T4.out.free 4; have ht4 := T4.out.lt))))
  · have hb4 : Below xw.heap.size xw x4 := ⟨bacc.os, bacc.tape, bacc.output, bacc.size, bacc.block⟩
    have hx4 : w.heap.size + 3 ≤ x4.heap.size := Nat.le_trans z.out hb4.size
    have T := Lib.hid (Has.made x4 28 #[.int .i64 LV, .bool false, .bool i, .bool g, .bool false])
    have K := Lib.hid ((K.out.keep hb4 (by omega)).keep ((Below.refl x4.heap.size x4).alloc (Nat.le_refl _) (.cells #[.int .i64 LV, .bool false, .bool i, .bool g, .bool false] 28)) (by omega))
    have B := Lib.hid ((B.out.trans (hb4.mono B.out.size)).alloc (Nat.le_trans B.out.size hb4.size) (.cells #[.int .i64 LV, .bool false, .bool i, .bool g, .bool false] 28))
    obtain ⟨W5, hW5⟩ : ∃ W, x4.alloc (.cells #[.int .i64 LV, .bool false, .bool i, .bool g, .bool false] 28) = W := ⟨_, rfl⟩
    rw [hW5] at T K B ⊢
    clear hW5 bacc bal hkH hP1 hb4
    have n0 := K.out.1.get (i := 0) rfl
    have n1 := K.out.1.get (i := 1) rfl
    have n2 := K.out.1.get (i := 2) rfl
    have n3 := K.out.1.get (i := 3) rfl
    have n4 := K.out.1.get (i := 4) rfl
    have p0 := K.out.2.1.get (i := 0) rfl
    have p1 := K.out.2.1.get (i := 1) rfl
    have p2 := K.out.2.1.get (i := 2) rfl
    have p3 := K.out.2.1.get (i := 3) rfl
    have p4 := K.out.2.1.get (i := 4) rfl
    have r0 := K.out.2.2.get (i := 0) rfl
    have r1 := K.out.2.2.get (i := 1) rfl
    have r2 := K.out.2.2.get (i := 2) rfl
    have r3 := K.out.2.2.get (i := 3) rfl
    have r4 := K.out.2.2.get (i := 4) rfl
    have f0 := K.out.2.2.free 0
    have f1 := K.out.2.2.free 1
    have f2 := K.out.2.2.free 2
    have f3 := K.out.2.2.free 3
    have f4 := K.out.2.2.free 4
    have t0 := T.out.get (i := 0) rfl
    have t1 := T.out.get (i := 1) rfl
    have t2 := T.out.get (i := 2) rfl
    have t3 := T.out.get (i := 3) rfl
    have t4 := T.out.get (i := 4) rfl
    have g4 := T.out.free 4
    have hlt5 := T.out.lt
    go_wp2_with fail
    exact bodyPost_ret (v := posV ⟨LV, false, i, g, false⟩) (by simp [results, Try.results14, go_sem, posV, r0, r1, r2, r3, r4, t0, t1, t2, t3, t4]) rfl (posV_eq HEQ.out (below_putF (B.out.setCell (p := ⟨x4.heap.size, 4, none⟩) (show w.heap.size ≤ x4.heap.size by omega) _) (by omega) _ _ _ _ _))
  · have hb4 : Below xw.heap.size xw x4 := ⟨bacc.os, bacc.tape, bacc.output, bacc.size, bacc.block⟩
    have hx4 : w.heap.size + 3 ≤ x4.heap.size := Nat.le_trans z.out hb4.size
    have T := Lib.hid (show Has (((((x4.setCell ⟨xw.heap.size, 0, none⟩ (.int .i64 LV)).setCell ⟨xw.heap.size, 1, none⟩ (.bool false)).setCell ⟨xw.heap.size, 2, none⟩ (.bool i)).setCell ⟨xw.heap.size, 3, none⟩ (.bool g)).setCell ⟨xw.heap.size, 4, none⟩ (.bool false)) xw.heap.size _ _ from T4.out.putF (.int .i64 LV) (.bool false) (.bool i) (.bool g) (.bool false))
    have K := Lib.hid (show KP (((((x4.setCell ⟨xw.heap.size, 0, none⟩ (.int .i64 LV)).setCell ⟨xw.heap.size, 1, none⟩ (.bool false)).setCell ⟨xw.heap.size, 2, none⟩ (.bool i)).setCell ⟨xw.heap.size, 3, none⟩ (.bool g)).setCell ⟨xw.heap.size, 4, none⟩ (.bool false)) _ _ _ _ _ _ _ _ _ _ _ from (K.out.keep hb4 (by omega)).putF (x := xw.heap.size) (by omega) (.int .i64 LV) (.bool false) (.bool i) (.bool g) (.bool false))
    have B := Lib.hid (show Below w.heap.size w (((((x4.setCell ⟨xw.heap.size, 0, none⟩ (.int .i64 LV)).setCell ⟨xw.heap.size, 1, none⟩ (.bool false)).setCell ⟨xw.heap.size, 2, none⟩ (.bool i)).setCell ⟨xw.heap.size, 3, none⟩ (.bool g)).setCell ⟨xw.heap.size, 4, none⟩ (.bool false)) from below_putF (B.out.trans (hb4.mono B.out.size)) (show w.heap.size ≤ xw.heap.size from B.out.size) _ _ _ _ _)
    obtain ⟨W5, hW5⟩ : ∃ W, (((((x4.setCell ⟨xw.heap.size, 0, none⟩ (.int .i64 LV)).setCell ⟨xw.heap.size, 1, none⟩ (.bool false)).setCell ⟨xw.heap.size, 2, none⟩ (.bool i)).setCell ⟨xw.heap.size, 3, none⟩ (.bool g)).setCell ⟨xw.heap.size, 4, none⟩ (.bool false)) = W := ⟨_, rfl⟩
    rw [hW5] at T K B ⊢
    clear hW5 bacc bal hkH hP1 hb4 y0 y1 y2 y3 y4 q0 q1 q2 q3 q4 T4
    have n0 := K.out.1.get (i := 0) rfl
    have n1 := K.out.1.get (i := 1) rfl
    have n2 := K.out.1.get (i := 2) rfl
    have n3 := K.out.1.get (i := 3) rfl
    have n4 := K.out.1.get (i := 4) rfl
    have p0 := K.out.2.1.get (i := 0) rfl
    have p1 := K.out.2.1.get (i := 1) rfl
    have p2 := K.out.2.1.get (i := 2) rfl
    have p3 := K.out.2.1.get (i := 3) rfl
    have p4 := K.out.2.1.get (i := 4) rfl
    have r0 := K.out.2.2.get (i := 0) rfl
    have r1 := K.out.2.2.get (i := 1) rfl
    have r2 := K.out.2.2.get (i := 2) rfl
    have r3 := K.out.2.2.get (i := 3) rfl
    have r4 := K.out.2.2.get (i := 4) rfl
    have f0 := K.out.2.2.free 0
    have f1 := K.out.2.2.free 1
    have f2 := K.out.2.2.free 2
    have f3 := K.out.2.2.free 3
    have f4 := K.out.2.2.free 4
    have t0 := T.out.get (i := 0) rfl
    have t1 := T.out.get (i := 1) rfl
    have t2 := T.out.get (i := 2) rfl
    have t3 := T.out.get (i := 3) rfl
    have t4 := T.out.get (i := 4) rfl
    have g4 := T.out.free 4
    have hlt5 := T.out.lt
    go_wp2_with fail
    exact bodyPost_ret (v := posV ⟨LV, false, i, g, false⟩) (by simp [results, Try.results14, go_sem, posV, r0, r1, r2, r3, r4, t0, t1, t2, t3, t4]) rfl (posV_eq HEQ.out (below_putF (B.out.setCell (p := ⟨xw.heap.size, 4, none⟩) (show w.heap.size ≤ xw.heap.size by omega) _) (by omega) _ _ _ _ _))
set_option maxRecDepth 100000 in
set_option maxHeartbeats 4000000 in
theorem i_kidPos_14_0t (o : Int) (t u : ByteArray) (A : Option Addr) (n c k : Nat) (l : Int) (d i g : Bool) (w : World) (hn : n ≤ 8) (hkn : k < n) (hpo : posOk l d = true) (hk : k = 0) : Calls Try.prog 14 #[.agg #[.int .i64 14, .int .i64 o, .string t, .string u, .slice A n c], .int .i64 (k : Int), .agg #[.int .i64 l, .bool d, .bool i, .bool g, .bool true]] w (RetPosV w (kidQ 14 o n k ⟨l, d, i, g, true⟩)) := by
  have hL := Lib.hid (show levelOf 14 o = 2 from rfl)
  have K := Lib.hid (KP.made w 14 o t u (.slice A n c) l d i g true)
  have B := Lib.hid (kpW_below w 14 o t u (.slice A n c) l d i g true)
  have z := Lib.hid (show w.heap.size + 3 ≤ (kpW w 14 o t u (.slice A n c) l d i g true).heap.size by rw [kpW_size]; exact Nat.le_refl _)
  unfold kpW at K B z
  have n0 := K.out.1.get (i := 0) rfl
  have n1 := K.out.1.get (i := 1) rfl
  have n2 := K.out.1.get (i := 2) rfl
  have n3 := K.out.1.get (i := 3) rfl
  have n4 := K.out.1.get (i := 4) rfl
  have p0 := K.out.2.1.get (i := 0) rfl
  have p1 := K.out.2.1.get (i := 1) rfl
  have p2 := K.out.2.1.get (i := 2) rfl
  have p3 := K.out.2.1.get (i := 3) rfl
  have p4 := K.out.2.1.get (i := 4) rfl
  have r0 := K.out.2.2.get (i := 0) rfl
  have r1 := K.out.2.2.get (i := 1) rfl
  have r2 := K.out.2.2.get (i := 2) rfl
  have r3 := K.out.2.2.get (i := 3) rfl
  have r4 := K.out.2.2.get (i := 4) rfl
  have f0 := K.out.2.2.free 0
  have f1 := K.out.2.2.free 1
  have f2 := K.out.2.2.free 2
  have f3 := K.out.2.2.free 3
  have f4 := K.out.2.2.free 4
  have hin := Lib.hid (show inB (k : Int) 0 ((n : Int) - 1) = true by unfold inB; simp; omega)
  have hpo := Lib.hid hpo
  have hkz : ((k : Int) == 0) = true := by simp; omega
  have hk1 : ((k : Int) == 1) = false := by simp; omega
  obtain ⟨LV, hLV⟩ : ∃ LV, kidLevelP 14 o k = LV := ⟨_, rfl⟩
  have hkl := Lib.hid hLV
  have HEQ : kidQ 14 o n k ⟨l, d, i, g, true⟩ = ⟨LV, false, i, g, true⟩ := by
    unfold kidQ
    rw [hLV, if_neg (by rw [hL.out]; omega)]
    rw [if_neg (by decide)]
    rw [if_pos hk]
    rfl
  have HEQ := Lib.hid HEQ
  clear hLV
  have hkH := Lib.hid hk
  clear hk
  go_enter Try.func14, Try.ntmps14
  go_wp2_with (first
      | (go_at_call 12; refine (i_posOk l d i g true _).mono ?_; rintro e xw ⟨rfl, hb⟩; rw [hpo.out]; clear n0 n1 n2 n3 n4 p0 p1 p2 p3 p4 r0 r1 r2 r3 r4 f0 f1 f2 f3 f4; have K := Lib.hid (K.out.keep hb (by have := z.out; omega)); have B := Lib.hid (B.out.trans (hb.mono B.out.size)); have z := Lib.hid (Nat.le_trans z.out hb.size); clear hb; have n0 := K.out.1.get (i := 0) rfl; have n1 := K.out.1.get (i := 1) rfl; have n2 := K.out.1.get (i := 2) rfl; have n3 := K.out.1.get (i := 3) rfl; have n4 := K.out.1.get (i := 4) rfl; have p0 := K.out.2.1.get (i := 0) rfl; have p1 := K.out.2.1.get (i := 1) rfl; have p2 := K.out.2.1.get (i := 2) rfl; have p3 := K.out.2.1.get (i := 3) rfl; have p4 := K.out.2.1.get (i := 4) rfl; have r0 := K.out.2.2.get (i := 0) rfl; have r1 := K.out.2.2.get (i := 1) rfl; have r2 := K.out.2.2.get (i := 2) rfl; have r3 := K.out.2.2.get (i := 3) rfl; have r4 := K.out.2.2.get (i := 4) rfl; have f0 := K.out.2.2.free 0; have f1 := K.out.2.2.free 1; have f2 := K.out.2.2.free 2; have f3 := K.out.2.2.free 3; have f4 := K.out.2.2.free 4; have hz := z.out)
      | (go_at_call 21; refine (i_within _ _ _ _).mono ?_; rintro e w' ⟨rfl, rfl⟩; rw [hin.out])
      | (go_at_call 11; refine (i_levelOf 14 o t u A n c _).mono ?_; rintro e xw ⟨rfl, hb⟩; rw [hL.out]; clear n0 n1 n2 n3 n4 p0 p1 p2 p3 p4 r0 r1 r2 r3 r4 f0 f1 f2 f3 f4; have K := Lib.hid (K.out.keep hb (by have := z.out; omega)); have B := Lib.hid (B.out.trans (hb.mono B.out.size)); have z := Lib.hid (Nat.le_trans z.out hb.size); clear hb; have n0 := K.out.1.get (i := 0) rfl; have n1 := K.out.1.get (i := 1) rfl; have n2 := K.out.1.get (i := 2) rfl; have n3 := K.out.1.get (i := 3) rfl; have n4 := K.out.1.get (i := 4) rfl; have p0 := K.out.2.1.get (i := 0) rfl; have p1 := K.out.2.1.get (i := 1) rfl; have p2 := K.out.2.1.get (i := 2) rfl; have p3 := K.out.2.1.get (i := 3) rfl; have p4 := K.out.2.1.get (i := 4) rfl; have r0 := K.out.2.2.get (i := 0) rfl; have r1 := K.out.2.2.get (i := 1) rfl; have r2 := K.out.2.2.get (i := 2) rfl; have r3 := K.out.2.2.get (i := 3) rfl; have r4 := K.out.2.2.get (i := 4) rfl; have f0 := K.out.2.2.free 0; have f1 := K.out.2.2.free 1; have f2 := K.out.2.2.free 2; have f3 := K.out.2.2.free 3; have f4 := K.out.2.2.free 4; have hz := z.out))
  have hzs := z.out
  have bacc : Below xw.drew.heap.size xw.drew xw.drew := Below.refl _ _
  have bal0 := (Below.refl xw.heap.size xw).alloc (Nat.le_refl _) (.cells #[.int .i64 0, .bool false, .bool false, .bool false, .bool false] 28)
  have bal : Below xw.drew.heap.size xw.drew (xw.alloc (.cells #[.int .i64 0, .bool false, .bool false, .bool false, .bool false] 28)).drew := ⟨bal0.os, bal0.tape, bal0.output, bal0.size, bal0.block⟩
  clear bal0
  have hkH := Lib.hid (show ∀ W', Below xw.drew.heap.size xw.drew W' → W'.cell? ⟨w.heap.size, 0, none⟩ = some (.int .i64 14) ∧ W'.cell? ⟨w.heap.size, 1, none⟩ = some (.int .i64 o) ∧ W'.cell? ⟨w.heap.size, 2, none⟩ = some (.string t) ∧ W'.cell? ⟨w.heap.size, 3, none⟩ = some (.string u) ∧ W'.cell? ⟨w.heap.size, 4, none⟩ = some (.slice A n c) ∧ W'.cell? ⟨w.heap.size + 1, 0, none⟩ = some (.int .i64 l) ∧ W'.cell? ⟨w.heap.size + 1, 1, none⟩ = some (.bool d) ∧ W'.cell? ⟨w.heap.size + 1, 2, none⟩ = some (.bool i) ∧ W'.cell? ⟨w.heap.size + 1, 3, none⟩ = some (.bool g) ∧ W'.cell? ⟨w.heap.size + 1, 4, none⟩ = some (.bool true) from fun W' hb => by
    have h := (show KP xw.drew _ _ _ _ _ _ _ _ _ _ _ from K.out).keep hb (show _ < xw.heap.size by omega)
    exact ⟨h.1.get (i := 0) rfl, h.1.get (i := 1) rfl, h.1.get (i := 2) rfl, h.1.get (i := 3) rfl, h.1.get (i := 4) rfl, h.2.1.get (i := 0) rfl, h.2.1.get (i := 1) rfl, h.2.1.get (i := 2) rfl, h.2.1.get (i := 3) rfl, h.2.1.get (i := 4) rfl⟩)
  have hP1 := Lib.hid (show ∀ W' (x0 x1 x2 x3 x4 : Value), Below xw.drew.heap.size xw.drew W' → (((((W'.setCell ⟨xw.heap.size, 0, none⟩ x0).setCell ⟨xw.heap.size, 1, none⟩ x1).setCell ⟨xw.heap.size, 2, none⟩ x2).setCell ⟨xw.heap.size, 3, none⟩ x3).setCell ⟨xw.heap.size, 4, none⟩ x4).cell? ⟨w.heap.size, 0, none⟩ = some (.int .i64 14) ∧ (((((W'.setCell ⟨xw.heap.size, 0, none⟩ x0).setCell ⟨xw.heap.size, 1, none⟩ x1).setCell ⟨xw.heap.size, 2, none⟩ x2).setCell ⟨xw.heap.size, 3, none⟩ x3).setCell ⟨xw.heap.size, 4, none⟩ x4).cell? ⟨w.heap.size, 1, none⟩ = some (.int .i64 o) ∧ (((((W'.setCell ⟨xw.heap.size, 0, none⟩ x0).setCell ⟨xw.heap.size, 1, none⟩ x1).setCell ⟨xw.heap.size, 2, none⟩ x2).setCell ⟨xw.heap.size, 3, none⟩ x3).setCell ⟨xw.heap.size, 4, none⟩ x4).cell? ⟨w.heap.size, 2, none⟩ = some (.string t) ∧ (((((W'.setCell ⟨xw.heap.size, 0, none⟩ x0).setCell ⟨xw.heap.size, 1, none⟩ x1).setCell ⟨xw.heap.size, 2, none⟩ x2).setCell ⟨xw.heap.size, 3, none⟩ x3).setCell ⟨xw.heap.size, 4, none⟩ x4).cell? ⟨w.heap.size, 3, none⟩ = some (.string u) ∧ (((((W'.setCell ⟨xw.heap.size, 0, none⟩ x0).setCell ⟨xw.heap.size, 1, none⟩ x1).setCell ⟨xw.heap.size, 2, none⟩ x2).setCell ⟨xw.heap.size, 3, none⟩ x3).setCell ⟨xw.heap.size, 4, none⟩ x4).cell? ⟨w.heap.size, 4, none⟩ = some (.slice A n c) ∧ (((((W'.setCell ⟨xw.heap.size, 0, none⟩ x0).setCell ⟨xw.heap.size, 1, none⟩ x1).setCell ⟨xw.heap.size, 2, none⟩ x2).setCell ⟨xw.heap.size, 3, none⟩ x3).setCell ⟨xw.heap.size, 4, none⟩ x4).cell? ⟨w.heap.size + 1, 0, none⟩ = some (.int .i64 l) ∧ (((((W'.setCell ⟨xw.heap.size, 0, none⟩ x0).setCell ⟨xw.heap.size, 1, none⟩ x1).setCell ⟨xw.heap.size, 2, none⟩ x2).setCell ⟨xw.heap.size, 3, none⟩ x3).setCell ⟨xw.heap.size, 4, none⟩ x4).cell? ⟨w.heap.size + 1, 1, none⟩ = some (.bool d) ∧ (((((W'.setCell ⟨xw.heap.size, 0, none⟩ x0).setCell ⟨xw.heap.size, 1, none⟩ x1).setCell ⟨xw.heap.size, 2, none⟩ x2).setCell ⟨xw.heap.size, 3, none⟩ x3).setCell ⟨xw.heap.size, 4, none⟩ x4).cell? ⟨w.heap.size + 1, 2, none⟩ = some (.bool i) ∧ (((((W'.setCell ⟨xw.heap.size, 0, none⟩ x0).setCell ⟨xw.heap.size, 1, none⟩ x1).setCell ⟨xw.heap.size, 2, none⟩ x2).setCell ⟨xw.heap.size, 3, none⟩ x3).setCell ⟨xw.heap.size, 4, none⟩ x4).cell? ⟨w.heap.size + 1, 3, none⟩ = some (.bool g) ∧ (((((W'.setCell ⟨xw.heap.size, 0, none⟩ x0).setCell ⟨xw.heap.size, 1, none⟩ x1).setCell ⟨xw.heap.size, 2, none⟩ x2).setCell ⟨xw.heap.size, 3, none⟩ x3).setCell ⟨xw.heap.size, 4, none⟩ x4).cell? ⟨w.heap.size + 1, 4, none⟩ = some (.bool true) from fun W' x0 x1 x2 x3 x4 hb => by
    have h := ((show KP xw.drew _ _ _ _ _ _ _ _ _ _ _ from K.out).keep hb (show _ < xw.heap.size by omega)).putF (x := xw.heap.size) (by omega) x0 x1 x2 x3 x4
    exact ⟨h.1.get (i := 0) rfl, h.1.get (i := 1) rfl, h.1.get (i := 2) rfl, h.1.get (i := 3) rfl, h.1.get (i := 4) rfl, h.2.1.get (i := 0) rfl, h.2.1.get (i := 1) rfl, h.2.1.get (i := 2) rfl, h.2.1.get (i := 3) rfl, h.2.1.get (i := 4) rfl⟩)
  have TX := Lib.hid (Has.made xw 28 #[.int .i64 0, .bool false, .bool false, .bool false, .bool false])
  have hXs : (xw.alloc (.cells #[.int .i64 0, .bool false, .bool false, .bool false, .bool false] 28)).heap.size = xw.heap.size + 1 := by simp
  clear n0 n1 n2 n3 n4 p0 p1 p2 p3 p4 r0 r1 r2 r3 r4 f0 f1 f2 f3 f4 hz
  go_region_held3 (fun W => W.cell? ⟨w.heap.size, 0, none⟩ = some (.int .i64 14) ∧ W.cell? ⟨w.heap.size, 1, none⟩ = some (.int .i64 o) ∧ W.cell? ⟨w.heap.size, 2, none⟩ = some (.string t) ∧ W.cell? ⟨w.heap.size, 3, none⟩ = some (.string u) ∧ W.cell? ⟨w.heap.size, 4, none⟩ = some (.slice A n c) ∧ W.cell? ⟨w.heap.size + 1, 0, none⟩ = some (.int .i64 l) ∧ W.cell? ⟨w.heap.size + 1, 1, none⟩ = some (.bool d) ∧ W.cell? ⟨w.heap.size + 1, 2, none⟩ = some (.bool i) ∧ W.cell? ⟨w.heap.size + 1, 3, none⟩ = some (.bool g) ∧ W.cell? ⟨w.heap.size + 1, 4, none⟩ = some (.bool true)) (first | (with_reducible (exact hkH.out _ bacc)) | (with_reducible (exact hkH.out _ bal)) | (with_reducible (exact hP1.out _ _ _ _ _ _ bacc)) | (with_reducible (exact hkH.out _ (bacc.alloc bacc.size _))) | exact hkH.out _ bacc) (first
    | ((go_at_call 24; refine (i_kidLevel 14 o t u A n c k _ (by omega)).mono ?_; rintro e x4 ⟨rfl, hb⟩; rw [hkl.out]; first
      | (have bacc := Below.trans bacc (hb.mono bacc.size); clear hb)
      | (have T4 := Lib.hid ((show Has (xw.alloc (.cells #[.int .i64 0, .bool false, .bool false, .bool false, .bool false] 28)).drew xw.heap.size _ _ from TX.out).below hb (show _ < (xw.alloc (.cells #[.int .i64 0, .bool false, .bool false, .bool false, .bool false] 28)).heap.size by omega)); have bacc := Below.trans bal (hb.mono bal.size); clear hb; have y0 := T4.out.get (i := 0) rfl; have y1 := T4.out.get (i := 1) rfl; have y2 := T4.out.get (i := 2) rfl; have y3 := T4.out.get (i := 3) rfl; have y4 := T4.out.get (i := 4) rfl; have q0 := T4.out.free 0; have q1 := T4.out.free 1; have q2 := T4.out.free 2; have q3 := T4.out.free 3; have q4 := T4.out.free 4; have ht4 := T4.out.lt))))
  · have hb4 : Below xw.heap.size xw x4 := ⟨bacc.os, bacc.tape, bacc.output, bacc.size, bacc.block⟩
    have hx4 : w.heap.size + 3 ≤ x4.heap.size := Nat.le_trans z.out hb4.size
    have T := Lib.hid (Has.made x4 28 #[.int .i64 LV, .bool false, .bool i, .bool g, .bool false])
    have K := Lib.hid ((K.out.keep hb4 (by omega)).keep ((Below.refl x4.heap.size x4).alloc (Nat.le_refl _) (.cells #[.int .i64 LV, .bool false, .bool i, .bool g, .bool false] 28)) (by omega))
    have B := Lib.hid ((B.out.trans (hb4.mono B.out.size)).alloc (Nat.le_trans B.out.size hb4.size) (.cells #[.int .i64 LV, .bool false, .bool i, .bool g, .bool false] 28))
    obtain ⟨W5, hW5⟩ : ∃ W, x4.alloc (.cells #[.int .i64 LV, .bool false, .bool i, .bool g, .bool false] 28) = W := ⟨_, rfl⟩
    rw [hW5] at T K B ⊢
    clear hW5 bacc bal hkH hP1 hb4
    have n0 := K.out.1.get (i := 0) rfl
    have n1 := K.out.1.get (i := 1) rfl
    have n2 := K.out.1.get (i := 2) rfl
    have n3 := K.out.1.get (i := 3) rfl
    have n4 := K.out.1.get (i := 4) rfl
    have p0 := K.out.2.1.get (i := 0) rfl
    have p1 := K.out.2.1.get (i := 1) rfl
    have p2 := K.out.2.1.get (i := 2) rfl
    have p3 := K.out.2.1.get (i := 3) rfl
    have p4 := K.out.2.1.get (i := 4) rfl
    have r0 := K.out.2.2.get (i := 0) rfl
    have r1 := K.out.2.2.get (i := 1) rfl
    have r2 := K.out.2.2.get (i := 2) rfl
    have r3 := K.out.2.2.get (i := 3) rfl
    have r4 := K.out.2.2.get (i := 4) rfl
    have f0 := K.out.2.2.free 0
    have f1 := K.out.2.2.free 1
    have f2 := K.out.2.2.free 2
    have f3 := K.out.2.2.free 3
    have f4 := K.out.2.2.free 4
    have t0 := T.out.get (i := 0) rfl
    have t1 := T.out.get (i := 1) rfl
    have t2 := T.out.get (i := 2) rfl
    have t3 := T.out.get (i := 3) rfl
    have t4 := T.out.get (i := 4) rfl
    have g4 := T.out.free 4
    have hlt5 := T.out.lt
    go_wp2_with fail
    exact bodyPost_ret (v := posV ⟨LV, false, i, g, true⟩) (by simp [results, Try.results14, go_sem, posV, r0, r1, r2, r3, r4, t0, t1, t2, t3, t4]) rfl (posV_eq HEQ.out (below_putF (B.out.setCell (p := ⟨x4.heap.size, 4, none⟩) (show w.heap.size ≤ x4.heap.size by omega) _) (by omega) _ _ _ _ _))
  · have hb4 : Below xw.heap.size xw x4 := ⟨bacc.os, bacc.tape, bacc.output, bacc.size, bacc.block⟩
    have hx4 : w.heap.size + 3 ≤ x4.heap.size := Nat.le_trans z.out hb4.size
    have T := Lib.hid (show Has (((((x4.setCell ⟨xw.heap.size, 0, none⟩ (.int .i64 LV)).setCell ⟨xw.heap.size, 1, none⟩ (.bool false)).setCell ⟨xw.heap.size, 2, none⟩ (.bool i)).setCell ⟨xw.heap.size, 3, none⟩ (.bool g)).setCell ⟨xw.heap.size, 4, none⟩ (.bool false)) xw.heap.size _ _ from T4.out.putF (.int .i64 LV) (.bool false) (.bool i) (.bool g) (.bool false))
    have K := Lib.hid (show KP (((((x4.setCell ⟨xw.heap.size, 0, none⟩ (.int .i64 LV)).setCell ⟨xw.heap.size, 1, none⟩ (.bool false)).setCell ⟨xw.heap.size, 2, none⟩ (.bool i)).setCell ⟨xw.heap.size, 3, none⟩ (.bool g)).setCell ⟨xw.heap.size, 4, none⟩ (.bool false)) _ _ _ _ _ _ _ _ _ _ _ from (K.out.keep hb4 (by omega)).putF (x := xw.heap.size) (by omega) (.int .i64 LV) (.bool false) (.bool i) (.bool g) (.bool false))
    have B := Lib.hid (show Below w.heap.size w (((((x4.setCell ⟨xw.heap.size, 0, none⟩ (.int .i64 LV)).setCell ⟨xw.heap.size, 1, none⟩ (.bool false)).setCell ⟨xw.heap.size, 2, none⟩ (.bool i)).setCell ⟨xw.heap.size, 3, none⟩ (.bool g)).setCell ⟨xw.heap.size, 4, none⟩ (.bool false)) from below_putF (B.out.trans (hb4.mono B.out.size)) (show w.heap.size ≤ xw.heap.size from B.out.size) _ _ _ _ _)
    obtain ⟨W5, hW5⟩ : ∃ W, (((((x4.setCell ⟨xw.heap.size, 0, none⟩ (.int .i64 LV)).setCell ⟨xw.heap.size, 1, none⟩ (.bool false)).setCell ⟨xw.heap.size, 2, none⟩ (.bool i)).setCell ⟨xw.heap.size, 3, none⟩ (.bool g)).setCell ⟨xw.heap.size, 4, none⟩ (.bool false)) = W := ⟨_, rfl⟩
    rw [hW5] at T K B ⊢
    clear hW5 bacc bal hkH hP1 hb4 y0 y1 y2 y3 y4 q0 q1 q2 q3 q4 T4
    have n0 := K.out.1.get (i := 0) rfl
    have n1 := K.out.1.get (i := 1) rfl
    have n2 := K.out.1.get (i := 2) rfl
    have n3 := K.out.1.get (i := 3) rfl
    have n4 := K.out.1.get (i := 4) rfl
    have p0 := K.out.2.1.get (i := 0) rfl
    have p1 := K.out.2.1.get (i := 1) rfl
    have p2 := K.out.2.1.get (i := 2) rfl
    have p3 := K.out.2.1.get (i := 3) rfl
    have p4 := K.out.2.1.get (i := 4) rfl
    have r0 := K.out.2.2.get (i := 0) rfl
    have r1 := K.out.2.2.get (i := 1) rfl
    have r2 := K.out.2.2.get (i := 2) rfl
    have r3 := K.out.2.2.get (i := 3) rfl
    have r4 := K.out.2.2.get (i := 4) rfl
    have f0 := K.out.2.2.free 0
    have f1 := K.out.2.2.free 1
    have f2 := K.out.2.2.free 2
    have f3 := K.out.2.2.free 3
    have f4 := K.out.2.2.free 4
    have t0 := T.out.get (i := 0) rfl
    have t1 := T.out.get (i := 1) rfl
    have t2 := T.out.get (i := 2) rfl
    have t3 := T.out.get (i := 3) rfl
    have t4 := T.out.get (i := 4) rfl
    have g4 := T.out.free 4
    have hlt5 := T.out.lt
    go_wp2_with fail
    exact bodyPost_ret (v := posV ⟨LV, false, i, g, true⟩) (by simp [results, Try.results14, go_sem, posV, r0, r1, r2, r3, r4, t0, t1, t2, t3, t4]) rfl (posV_eq HEQ.out (below_putF (B.out.setCell (p := ⟨xw.heap.size, 4, none⟩) (show w.heap.size ≤ xw.heap.size by omega) _) (by omega) _ _ _ _ _))
set_option maxRecDepth 100000 in
set_option maxHeartbeats 4000000 in
theorem i_kidPos_14_0f (o : Int) (t u : ByteArray) (A : Option Addr) (n c k : Nat) (l : Int) (d i g : Bool) (w : World) (hn : n ≤ 8) (hkn : k < n) (hpo : posOk l d = true) (hk : k = 0) : Calls Try.prog 14 #[.agg #[.int .i64 14, .int .i64 o, .string t, .string u, .slice A n c], .int .i64 (k : Int), .agg #[.int .i64 l, .bool d, .bool i, .bool g, .bool false]] w (RetPosV w (kidQ 14 o n k ⟨l, d, i, g, false⟩)) := by
  have hL := Lib.hid (show levelOf 14 o = 2 from rfl)
  have K := Lib.hid (KP.made w 14 o t u (.slice A n c) l d i g false)
  have B := Lib.hid (kpW_below w 14 o t u (.slice A n c) l d i g false)
  have z := Lib.hid (show w.heap.size + 3 ≤ (kpW w 14 o t u (.slice A n c) l d i g false).heap.size by rw [kpW_size]; exact Nat.le_refl _)
  unfold kpW at K B z
  have n0 := K.out.1.get (i := 0) rfl
  have n1 := K.out.1.get (i := 1) rfl
  have n2 := K.out.1.get (i := 2) rfl
  have n3 := K.out.1.get (i := 3) rfl
  have n4 := K.out.1.get (i := 4) rfl
  have p0 := K.out.2.1.get (i := 0) rfl
  have p1 := K.out.2.1.get (i := 1) rfl
  have p2 := K.out.2.1.get (i := 2) rfl
  have p3 := K.out.2.1.get (i := 3) rfl
  have p4 := K.out.2.1.get (i := 4) rfl
  have r0 := K.out.2.2.get (i := 0) rfl
  have r1 := K.out.2.2.get (i := 1) rfl
  have r2 := K.out.2.2.get (i := 2) rfl
  have r3 := K.out.2.2.get (i := 3) rfl
  have r4 := K.out.2.2.get (i := 4) rfl
  have f0 := K.out.2.2.free 0
  have f1 := K.out.2.2.free 1
  have f2 := K.out.2.2.free 2
  have f3 := K.out.2.2.free 3
  have f4 := K.out.2.2.free 4
  have hin := Lib.hid (show inB (k : Int) 0 ((n : Int) - 1) = true by unfold inB; simp; omega)
  have hpo := Lib.hid hpo
  have hkz : ((k : Int) == 0) = true := by simp; omega
  have hk1 : ((k : Int) == 1) = false := by simp; omega
  obtain ⟨LV, hLV⟩ : ∃ LV, kidLevelP 14 o k = LV := ⟨_, rfl⟩
  have hkl := Lib.hid hLV
  have HEQ : kidQ 14 o n k ⟨l, d, i, g, false⟩ = ⟨LV, false, i, g, false⟩ := by
    unfold kidQ
    rw [hLV, if_neg (by rw [hL.out]; omega)]
    rw [if_neg (by decide)]
    rw [if_pos hk]
    rfl
  have HEQ := Lib.hid HEQ
  clear hLV
  have hkH := Lib.hid hk
  clear hk
  go_enter Try.func14, Try.ntmps14
  go_wp2_with (first
      | (go_at_call 12; refine (i_posOk l d i g false _).mono ?_; rintro e xw ⟨rfl, hb⟩; rw [hpo.out]; clear n0 n1 n2 n3 n4 p0 p1 p2 p3 p4 r0 r1 r2 r3 r4 f0 f1 f2 f3 f4; have K := Lib.hid (K.out.keep hb (by have := z.out; omega)); have B := Lib.hid (B.out.trans (hb.mono B.out.size)); have z := Lib.hid (Nat.le_trans z.out hb.size); clear hb; have n0 := K.out.1.get (i := 0) rfl; have n1 := K.out.1.get (i := 1) rfl; have n2 := K.out.1.get (i := 2) rfl; have n3 := K.out.1.get (i := 3) rfl; have n4 := K.out.1.get (i := 4) rfl; have p0 := K.out.2.1.get (i := 0) rfl; have p1 := K.out.2.1.get (i := 1) rfl; have p2 := K.out.2.1.get (i := 2) rfl; have p3 := K.out.2.1.get (i := 3) rfl; have p4 := K.out.2.1.get (i := 4) rfl; have r0 := K.out.2.2.get (i := 0) rfl; have r1 := K.out.2.2.get (i := 1) rfl; have r2 := K.out.2.2.get (i := 2) rfl; have r3 := K.out.2.2.get (i := 3) rfl; have r4 := K.out.2.2.get (i := 4) rfl; have f0 := K.out.2.2.free 0; have f1 := K.out.2.2.free 1; have f2 := K.out.2.2.free 2; have f3 := K.out.2.2.free 3; have f4 := K.out.2.2.free 4; have hz := z.out)
      | (go_at_call 21; refine (i_within _ _ _ _).mono ?_; rintro e w' ⟨rfl, rfl⟩; rw [hin.out])
      | (go_at_call 11; refine (i_levelOf 14 o t u A n c _).mono ?_; rintro e xw ⟨rfl, hb⟩; rw [hL.out]; clear n0 n1 n2 n3 n4 p0 p1 p2 p3 p4 r0 r1 r2 r3 r4 f0 f1 f2 f3 f4; have K := Lib.hid (K.out.keep hb (by have := z.out; omega)); have B := Lib.hid (B.out.trans (hb.mono B.out.size)); have z := Lib.hid (Nat.le_trans z.out hb.size); clear hb; have n0 := K.out.1.get (i := 0) rfl; have n1 := K.out.1.get (i := 1) rfl; have n2 := K.out.1.get (i := 2) rfl; have n3 := K.out.1.get (i := 3) rfl; have n4 := K.out.1.get (i := 4) rfl; have p0 := K.out.2.1.get (i := 0) rfl; have p1 := K.out.2.1.get (i := 1) rfl; have p2 := K.out.2.1.get (i := 2) rfl; have p3 := K.out.2.1.get (i := 3) rfl; have p4 := K.out.2.1.get (i := 4) rfl; have r0 := K.out.2.2.get (i := 0) rfl; have r1 := K.out.2.2.get (i := 1) rfl; have r2 := K.out.2.2.get (i := 2) rfl; have r3 := K.out.2.2.get (i := 3) rfl; have r4 := K.out.2.2.get (i := 4) rfl; have f0 := K.out.2.2.free 0; have f1 := K.out.2.2.free 1; have f2 := K.out.2.2.free 2; have f3 := K.out.2.2.free 3; have f4 := K.out.2.2.free 4; have hz := z.out))
  have hzs := z.out
  have bacc : Below xw.drew.heap.size xw.drew xw.drew := Below.refl _ _
  have bal0 := (Below.refl xw.heap.size xw).alloc (Nat.le_refl _) (.cells #[.int .i64 0, .bool false, .bool false, .bool false, .bool false] 28)
  have bal : Below xw.drew.heap.size xw.drew (xw.alloc (.cells #[.int .i64 0, .bool false, .bool false, .bool false, .bool false] 28)).drew := ⟨bal0.os, bal0.tape, bal0.output, bal0.size, bal0.block⟩
  clear bal0
  have hkH := Lib.hid (show ∀ W', Below xw.drew.heap.size xw.drew W' → W'.cell? ⟨w.heap.size, 0, none⟩ = some (.int .i64 14) ∧ W'.cell? ⟨w.heap.size, 1, none⟩ = some (.int .i64 o) ∧ W'.cell? ⟨w.heap.size, 2, none⟩ = some (.string t) ∧ W'.cell? ⟨w.heap.size, 3, none⟩ = some (.string u) ∧ W'.cell? ⟨w.heap.size, 4, none⟩ = some (.slice A n c) ∧ W'.cell? ⟨w.heap.size + 1, 0, none⟩ = some (.int .i64 l) ∧ W'.cell? ⟨w.heap.size + 1, 1, none⟩ = some (.bool d) ∧ W'.cell? ⟨w.heap.size + 1, 2, none⟩ = some (.bool i) ∧ W'.cell? ⟨w.heap.size + 1, 3, none⟩ = some (.bool g) ∧ W'.cell? ⟨w.heap.size + 1, 4, none⟩ = some (.bool false) from fun W' hb => by
    have h := (show KP xw.drew _ _ _ _ _ _ _ _ _ _ _ from K.out).keep hb (show _ < xw.heap.size by omega)
    exact ⟨h.1.get (i := 0) rfl, h.1.get (i := 1) rfl, h.1.get (i := 2) rfl, h.1.get (i := 3) rfl, h.1.get (i := 4) rfl, h.2.1.get (i := 0) rfl, h.2.1.get (i := 1) rfl, h.2.1.get (i := 2) rfl, h.2.1.get (i := 3) rfl, h.2.1.get (i := 4) rfl⟩)
  have hP1 := Lib.hid (show ∀ W' (x0 x1 x2 x3 x4 : Value), Below xw.drew.heap.size xw.drew W' → (((((W'.setCell ⟨xw.heap.size, 0, none⟩ x0).setCell ⟨xw.heap.size, 1, none⟩ x1).setCell ⟨xw.heap.size, 2, none⟩ x2).setCell ⟨xw.heap.size, 3, none⟩ x3).setCell ⟨xw.heap.size, 4, none⟩ x4).cell? ⟨w.heap.size, 0, none⟩ = some (.int .i64 14) ∧ (((((W'.setCell ⟨xw.heap.size, 0, none⟩ x0).setCell ⟨xw.heap.size, 1, none⟩ x1).setCell ⟨xw.heap.size, 2, none⟩ x2).setCell ⟨xw.heap.size, 3, none⟩ x3).setCell ⟨xw.heap.size, 4, none⟩ x4).cell? ⟨w.heap.size, 1, none⟩ = some (.int .i64 o) ∧ (((((W'.setCell ⟨xw.heap.size, 0, none⟩ x0).setCell ⟨xw.heap.size, 1, none⟩ x1).setCell ⟨xw.heap.size, 2, none⟩ x2).setCell ⟨xw.heap.size, 3, none⟩ x3).setCell ⟨xw.heap.size, 4, none⟩ x4).cell? ⟨w.heap.size, 2, none⟩ = some (.string t) ∧ (((((W'.setCell ⟨xw.heap.size, 0, none⟩ x0).setCell ⟨xw.heap.size, 1, none⟩ x1).setCell ⟨xw.heap.size, 2, none⟩ x2).setCell ⟨xw.heap.size, 3, none⟩ x3).setCell ⟨xw.heap.size, 4, none⟩ x4).cell? ⟨w.heap.size, 3, none⟩ = some (.string u) ∧ (((((W'.setCell ⟨xw.heap.size, 0, none⟩ x0).setCell ⟨xw.heap.size, 1, none⟩ x1).setCell ⟨xw.heap.size, 2, none⟩ x2).setCell ⟨xw.heap.size, 3, none⟩ x3).setCell ⟨xw.heap.size, 4, none⟩ x4).cell? ⟨w.heap.size, 4, none⟩ = some (.slice A n c) ∧ (((((W'.setCell ⟨xw.heap.size, 0, none⟩ x0).setCell ⟨xw.heap.size, 1, none⟩ x1).setCell ⟨xw.heap.size, 2, none⟩ x2).setCell ⟨xw.heap.size, 3, none⟩ x3).setCell ⟨xw.heap.size, 4, none⟩ x4).cell? ⟨w.heap.size + 1, 0, none⟩ = some (.int .i64 l) ∧ (((((W'.setCell ⟨xw.heap.size, 0, none⟩ x0).setCell ⟨xw.heap.size, 1, none⟩ x1).setCell ⟨xw.heap.size, 2, none⟩ x2).setCell ⟨xw.heap.size, 3, none⟩ x3).setCell ⟨xw.heap.size, 4, none⟩ x4).cell? ⟨w.heap.size + 1, 1, none⟩ = some (.bool d) ∧ (((((W'.setCell ⟨xw.heap.size, 0, none⟩ x0).setCell ⟨xw.heap.size, 1, none⟩ x1).setCell ⟨xw.heap.size, 2, none⟩ x2).setCell ⟨xw.heap.size, 3, none⟩ x3).setCell ⟨xw.heap.size, 4, none⟩ x4).cell? ⟨w.heap.size + 1, 2, none⟩ = some (.bool i) ∧ (((((W'.setCell ⟨xw.heap.size, 0, none⟩ x0).setCell ⟨xw.heap.size, 1, none⟩ x1).setCell ⟨xw.heap.size, 2, none⟩ x2).setCell ⟨xw.heap.size, 3, none⟩ x3).setCell ⟨xw.heap.size, 4, none⟩ x4).cell? ⟨w.heap.size + 1, 3, none⟩ = some (.bool g) ∧ (((((W'.setCell ⟨xw.heap.size, 0, none⟩ x0).setCell ⟨xw.heap.size, 1, none⟩ x1).setCell ⟨xw.heap.size, 2, none⟩ x2).setCell ⟨xw.heap.size, 3, none⟩ x3).setCell ⟨xw.heap.size, 4, none⟩ x4).cell? ⟨w.heap.size + 1, 4, none⟩ = some (.bool false) from fun W' x0 x1 x2 x3 x4 hb => by
    have h := ((show KP xw.drew _ _ _ _ _ _ _ _ _ _ _ from K.out).keep hb (show _ < xw.heap.size by omega)).putF (x := xw.heap.size) (by omega) x0 x1 x2 x3 x4
    exact ⟨h.1.get (i := 0) rfl, h.1.get (i := 1) rfl, h.1.get (i := 2) rfl, h.1.get (i := 3) rfl, h.1.get (i := 4) rfl, h.2.1.get (i := 0) rfl, h.2.1.get (i := 1) rfl, h.2.1.get (i := 2) rfl, h.2.1.get (i := 3) rfl, h.2.1.get (i := 4) rfl⟩)
  have TX := Lib.hid (Has.made xw 28 #[.int .i64 0, .bool false, .bool false, .bool false, .bool false])
  have hXs : (xw.alloc (.cells #[.int .i64 0, .bool false, .bool false, .bool false, .bool false] 28)).heap.size = xw.heap.size + 1 := by simp
  clear n0 n1 n2 n3 n4 p0 p1 p2 p3 p4 r0 r1 r2 r3 r4 f0 f1 f2 f3 f4 hz
  go_region_held3 (fun W => W.cell? ⟨w.heap.size, 0, none⟩ = some (.int .i64 14) ∧ W.cell? ⟨w.heap.size, 1, none⟩ = some (.int .i64 o) ∧ W.cell? ⟨w.heap.size, 2, none⟩ = some (.string t) ∧ W.cell? ⟨w.heap.size, 3, none⟩ = some (.string u) ∧ W.cell? ⟨w.heap.size, 4, none⟩ = some (.slice A n c) ∧ W.cell? ⟨w.heap.size + 1, 0, none⟩ = some (.int .i64 l) ∧ W.cell? ⟨w.heap.size + 1, 1, none⟩ = some (.bool d) ∧ W.cell? ⟨w.heap.size + 1, 2, none⟩ = some (.bool i) ∧ W.cell? ⟨w.heap.size + 1, 3, none⟩ = some (.bool g) ∧ W.cell? ⟨w.heap.size + 1, 4, none⟩ = some (.bool false)) (first | (with_reducible (exact hkH.out _ bacc)) | (with_reducible (exact hkH.out _ bal)) | (with_reducible (exact hP1.out _ _ _ _ _ _ bacc)) | (with_reducible (exact hkH.out _ (bacc.alloc bacc.size _))) | exact hkH.out _ bacc) (first
    | ((go_at_call 24; refine (i_kidLevel 14 o t u A n c k _ (by omega)).mono ?_; rintro e x4 ⟨rfl, hb⟩; rw [hkl.out]; first
      | (have bacc := Below.trans bacc (hb.mono bacc.size); clear hb)
      | (have T4 := Lib.hid ((show Has (xw.alloc (.cells #[.int .i64 0, .bool false, .bool false, .bool false, .bool false] 28)).drew xw.heap.size _ _ from TX.out).below hb (show _ < (xw.alloc (.cells #[.int .i64 0, .bool false, .bool false, .bool false, .bool false] 28)).heap.size by omega)); have bacc := Below.trans bal (hb.mono bal.size); clear hb; have y0 := T4.out.get (i := 0) rfl; have y1 := T4.out.get (i := 1) rfl; have y2 := T4.out.get (i := 2) rfl; have y3 := T4.out.get (i := 3) rfl; have y4 := T4.out.get (i := 4) rfl; have q0 := T4.out.free 0; have q1 := T4.out.free 1; have q2 := T4.out.free 2; have q3 := T4.out.free 3; have q4 := T4.out.free 4; have ht4 := T4.out.lt))))
  · have hb4 : Below xw.heap.size xw x4 := ⟨bacc.os, bacc.tape, bacc.output, bacc.size, bacc.block⟩
    have hx4 : w.heap.size + 3 ≤ x4.heap.size := Nat.le_trans z.out hb4.size
    have T := Lib.hid (Has.made x4 28 #[.int .i64 LV, .bool false, .bool i, .bool g, .bool false])
    have K := Lib.hid ((K.out.keep hb4 (by omega)).keep ((Below.refl x4.heap.size x4).alloc (Nat.le_refl _) (.cells #[.int .i64 LV, .bool false, .bool i, .bool g, .bool false] 28)) (by omega))
    have B := Lib.hid ((B.out.trans (hb4.mono B.out.size)).alloc (Nat.le_trans B.out.size hb4.size) (.cells #[.int .i64 LV, .bool false, .bool i, .bool g, .bool false] 28))
    obtain ⟨W5, hW5⟩ : ∃ W, x4.alloc (.cells #[.int .i64 LV, .bool false, .bool i, .bool g, .bool false] 28) = W := ⟨_, rfl⟩
    rw [hW5] at T K B ⊢
    clear hW5 bacc bal hkH hP1 hb4
    have n0 := K.out.1.get (i := 0) rfl
    have n1 := K.out.1.get (i := 1) rfl
    have n2 := K.out.1.get (i := 2) rfl
    have n3 := K.out.1.get (i := 3) rfl
    have n4 := K.out.1.get (i := 4) rfl
    have p0 := K.out.2.1.get (i := 0) rfl
    have p1 := K.out.2.1.get (i := 1) rfl
    have p2 := K.out.2.1.get (i := 2) rfl
    have p3 := K.out.2.1.get (i := 3) rfl
    have p4 := K.out.2.1.get (i := 4) rfl
    have r0 := K.out.2.2.get (i := 0) rfl
    have r1 := K.out.2.2.get (i := 1) rfl
    have r2 := K.out.2.2.get (i := 2) rfl
    have r3 := K.out.2.2.get (i := 3) rfl
    have r4 := K.out.2.2.get (i := 4) rfl
    have f0 := K.out.2.2.free 0
    have f1 := K.out.2.2.free 1
    have f2 := K.out.2.2.free 2
    have f3 := K.out.2.2.free 3
    have f4 := K.out.2.2.free 4
    have t0 := T.out.get (i := 0) rfl
    have t1 := T.out.get (i := 1) rfl
    have t2 := T.out.get (i := 2) rfl
    have t3 := T.out.get (i := 3) rfl
    have t4 := T.out.get (i := 4) rfl
    have g4 := T.out.free 4
    have hlt5 := T.out.lt
    go_wp2_with fail
    exact bodyPost_ret (v := posV ⟨LV, false, i, g, false⟩) (by simp [results, Try.results14, go_sem, posV, r0, r1, r2, r3, r4, t0, t1, t2, t3, t4]) rfl (posV_eq HEQ.out (below_putF (B.out.setCell (p := ⟨x4.heap.size, 4, none⟩) (show w.heap.size ≤ x4.heap.size by omega) _) (by omega) _ _ _ _ _))
  · have hb4 : Below xw.heap.size xw x4 := ⟨bacc.os, bacc.tape, bacc.output, bacc.size, bacc.block⟩
    have hx4 : w.heap.size + 3 ≤ x4.heap.size := Nat.le_trans z.out hb4.size
    have T := Lib.hid (show Has (((((x4.setCell ⟨xw.heap.size, 0, none⟩ (.int .i64 LV)).setCell ⟨xw.heap.size, 1, none⟩ (.bool false)).setCell ⟨xw.heap.size, 2, none⟩ (.bool i)).setCell ⟨xw.heap.size, 3, none⟩ (.bool g)).setCell ⟨xw.heap.size, 4, none⟩ (.bool false)) xw.heap.size _ _ from T4.out.putF (.int .i64 LV) (.bool false) (.bool i) (.bool g) (.bool false))
    have K := Lib.hid (show KP (((((x4.setCell ⟨xw.heap.size, 0, none⟩ (.int .i64 LV)).setCell ⟨xw.heap.size, 1, none⟩ (.bool false)).setCell ⟨xw.heap.size, 2, none⟩ (.bool i)).setCell ⟨xw.heap.size, 3, none⟩ (.bool g)).setCell ⟨xw.heap.size, 4, none⟩ (.bool false)) _ _ _ _ _ _ _ _ _ _ _ from (K.out.keep hb4 (by omega)).putF (x := xw.heap.size) (by omega) (.int .i64 LV) (.bool false) (.bool i) (.bool g) (.bool false))
    have B := Lib.hid (show Below w.heap.size w (((((x4.setCell ⟨xw.heap.size, 0, none⟩ (.int .i64 LV)).setCell ⟨xw.heap.size, 1, none⟩ (.bool false)).setCell ⟨xw.heap.size, 2, none⟩ (.bool i)).setCell ⟨xw.heap.size, 3, none⟩ (.bool g)).setCell ⟨xw.heap.size, 4, none⟩ (.bool false)) from below_putF (B.out.trans (hb4.mono B.out.size)) (show w.heap.size ≤ xw.heap.size from B.out.size) _ _ _ _ _)
    obtain ⟨W5, hW5⟩ : ∃ W, (((((x4.setCell ⟨xw.heap.size, 0, none⟩ (.int .i64 LV)).setCell ⟨xw.heap.size, 1, none⟩ (.bool false)).setCell ⟨xw.heap.size, 2, none⟩ (.bool i)).setCell ⟨xw.heap.size, 3, none⟩ (.bool g)).setCell ⟨xw.heap.size, 4, none⟩ (.bool false)) = W := ⟨_, rfl⟩
    rw [hW5] at T K B ⊢
    clear hW5 bacc bal hkH hP1 hb4 y0 y1 y2 y3 y4 q0 q1 q2 q3 q4 T4
    have n0 := K.out.1.get (i := 0) rfl
    have n1 := K.out.1.get (i := 1) rfl
    have n2 := K.out.1.get (i := 2) rfl
    have n3 := K.out.1.get (i := 3) rfl
    have n4 := K.out.1.get (i := 4) rfl
    have p0 := K.out.2.1.get (i := 0) rfl
    have p1 := K.out.2.1.get (i := 1) rfl
    have p2 := K.out.2.1.get (i := 2) rfl
    have p3 := K.out.2.1.get (i := 3) rfl
    have p4 := K.out.2.1.get (i := 4) rfl
    have r0 := K.out.2.2.get (i := 0) rfl
    have r1 := K.out.2.2.get (i := 1) rfl
    have r2 := K.out.2.2.get (i := 2) rfl
    have r3 := K.out.2.2.get (i := 3) rfl
    have r4 := K.out.2.2.get (i := 4) rfl
    have f0 := K.out.2.2.free 0
    have f1 := K.out.2.2.free 1
    have f2 := K.out.2.2.free 2
    have f3 := K.out.2.2.free 3
    have f4 := K.out.2.2.free 4
    have t0 := T.out.get (i := 0) rfl
    have t1 := T.out.get (i := 1) rfl
    have t2 := T.out.get (i := 2) rfl
    have t3 := T.out.get (i := 3) rfl
    have t4 := T.out.get (i := 4) rfl
    have g4 := T.out.free 4
    have hlt5 := T.out.lt
    go_wp2_with fail
    exact bodyPost_ret (v := posV ⟨LV, false, i, g, false⟩) (by simp [results, Try.results14, go_sem, posV, r0, r1, r2, r3, r4, t0, t1, t2, t3, t4]) rfl (posV_eq HEQ.out (below_putF (B.out.setCell (p := ⟨xw.heap.size, 4, none⟩) (show w.heap.size ≤ xw.heap.size by omega) _) (by omega) _ _ _ _ _))
set_option maxRecDepth 100000 in
set_option maxHeartbeats 4000000 in
theorem i_kidPos_14_1 (o : Int) (t u : ByteArray) (A : Option Addr) (n c k : Nat) (l : Int) (d i g s : Bool) (w : World) (hn : n ≤ 8) (hkn : k < n) (hpo : posOk l d = true) (hk : k = 1) : Calls Try.prog 14 #[.agg #[.int .i64 14, .int .i64 o, .string t, .string u, .slice A n c], .int .i64 (k : Int), .agg #[.int .i64 l, .bool d, .bool i, .bool g, .bool s]] w (RetPosV w (kidQ 14 o n k ⟨l, d, i, g, s⟩)) := by
  have hL := Lib.hid (show levelOf 14 o = 2 from rfl)
  have K := Lib.hid (KP.made w 14 o t u (.slice A n c) l d i g s)
  have B := Lib.hid (kpW_below w 14 o t u (.slice A n c) l d i g s)
  have z := Lib.hid (show w.heap.size + 3 ≤ (kpW w 14 o t u (.slice A n c) l d i g s).heap.size by rw [kpW_size]; exact Nat.le_refl _)
  unfold kpW at K B z
  have n0 := K.out.1.get (i := 0) rfl
  have n1 := K.out.1.get (i := 1) rfl
  have n2 := K.out.1.get (i := 2) rfl
  have n3 := K.out.1.get (i := 3) rfl
  have n4 := K.out.1.get (i := 4) rfl
  have p0 := K.out.2.1.get (i := 0) rfl
  have p1 := K.out.2.1.get (i := 1) rfl
  have p2 := K.out.2.1.get (i := 2) rfl
  have p3 := K.out.2.1.get (i := 3) rfl
  have p4 := K.out.2.1.get (i := 4) rfl
  have r0 := K.out.2.2.get (i := 0) rfl
  have r1 := K.out.2.2.get (i := 1) rfl
  have r2 := K.out.2.2.get (i := 2) rfl
  have r3 := K.out.2.2.get (i := 3) rfl
  have r4 := K.out.2.2.get (i := 4) rfl
  have f0 := K.out.2.2.free 0
  have f1 := K.out.2.2.free 1
  have f2 := K.out.2.2.free 2
  have f3 := K.out.2.2.free 3
  have f4 := K.out.2.2.free 4
  have hin := Lib.hid (show inB (k : Int) 0 ((n : Int) - 1) = true by unfold inB; simp; omega)
  have hpo := Lib.hid hpo
  have hkz : ((k : Int) == 0) = false := by simp; omega
  have hk1 : ((k : Int) == 1) = true := by simp; omega
  obtain ⟨LV, hLV⟩ : ∃ LV, kidLevelP 14 o k = LV := ⟨_, rfl⟩
  have hkl := Lib.hid hLV
  have HEQ : kidQ 14 o n k ⟨l, d, i, g, s⟩ = ⟨LV, false, i, g, false⟩ := by
    unfold kidQ
    rw [hLV, if_neg (by rw [hL.out]; omega)]
    rw [if_neg (by decide)]
    rw [if_neg (by omega)]
    rfl
  have HEQ := Lib.hid HEQ
  clear hLV
  have hkH := Lib.hid hk
  clear hk
  go_enter Try.func14, Try.ntmps14
  go_wp2_with (first
      | (go_at_call 12; refine (i_posOk l d i g s _).mono ?_; rintro e xw ⟨rfl, hb⟩; rw [hpo.out]; clear n0 n1 n2 n3 n4 p0 p1 p2 p3 p4 r0 r1 r2 r3 r4 f0 f1 f2 f3 f4; have K := Lib.hid (K.out.keep hb (by have := z.out; omega)); have B := Lib.hid (B.out.trans (hb.mono B.out.size)); have z := Lib.hid (Nat.le_trans z.out hb.size); clear hb; have n0 := K.out.1.get (i := 0) rfl; have n1 := K.out.1.get (i := 1) rfl; have n2 := K.out.1.get (i := 2) rfl; have n3 := K.out.1.get (i := 3) rfl; have n4 := K.out.1.get (i := 4) rfl; have p0 := K.out.2.1.get (i := 0) rfl; have p1 := K.out.2.1.get (i := 1) rfl; have p2 := K.out.2.1.get (i := 2) rfl; have p3 := K.out.2.1.get (i := 3) rfl; have p4 := K.out.2.1.get (i := 4) rfl; have r0 := K.out.2.2.get (i := 0) rfl; have r1 := K.out.2.2.get (i := 1) rfl; have r2 := K.out.2.2.get (i := 2) rfl; have r3 := K.out.2.2.get (i := 3) rfl; have r4 := K.out.2.2.get (i := 4) rfl; have f0 := K.out.2.2.free 0; have f1 := K.out.2.2.free 1; have f2 := K.out.2.2.free 2; have f3 := K.out.2.2.free 3; have f4 := K.out.2.2.free 4; have hz := z.out)
      | (go_at_call 21; refine (i_within _ _ _ _).mono ?_; rintro e w' ⟨rfl, rfl⟩; rw [hin.out])
      | (go_at_call 11; refine (i_levelOf 14 o t u A n c _).mono ?_; rintro e xw ⟨rfl, hb⟩; rw [hL.out]; clear n0 n1 n2 n3 n4 p0 p1 p2 p3 p4 r0 r1 r2 r3 r4 f0 f1 f2 f3 f4; have K := Lib.hid (K.out.keep hb (by have := z.out; omega)); have B := Lib.hid (B.out.trans (hb.mono B.out.size)); have z := Lib.hid (Nat.le_trans z.out hb.size); clear hb; have n0 := K.out.1.get (i := 0) rfl; have n1 := K.out.1.get (i := 1) rfl; have n2 := K.out.1.get (i := 2) rfl; have n3 := K.out.1.get (i := 3) rfl; have n4 := K.out.1.get (i := 4) rfl; have p0 := K.out.2.1.get (i := 0) rfl; have p1 := K.out.2.1.get (i := 1) rfl; have p2 := K.out.2.1.get (i := 2) rfl; have p3 := K.out.2.1.get (i := 3) rfl; have p4 := K.out.2.1.get (i := 4) rfl; have r0 := K.out.2.2.get (i := 0) rfl; have r1 := K.out.2.2.get (i := 1) rfl; have r2 := K.out.2.2.get (i := 2) rfl; have r3 := K.out.2.2.get (i := 3) rfl; have r4 := K.out.2.2.get (i := 4) rfl; have f0 := K.out.2.2.free 0; have f1 := K.out.2.2.free 1; have f2 := K.out.2.2.free 2; have f3 := K.out.2.2.free 3; have f4 := K.out.2.2.free 4; have hz := z.out))
  have hzs := z.out
  have bacc : Below xw.drew.heap.size xw.drew xw.drew := Below.refl _ _
  have bal0 := (Below.refl xw.heap.size xw).alloc (Nat.le_refl _) (.cells #[.int .i64 0, .bool false, .bool false, .bool false, .bool false] 28)
  have bal : Below xw.drew.heap.size xw.drew (xw.alloc (.cells #[.int .i64 0, .bool false, .bool false, .bool false, .bool false] 28)).drew := ⟨bal0.os, bal0.tape, bal0.output, bal0.size, bal0.block⟩
  clear bal0
  have hkH := Lib.hid (show ∀ W', Below xw.drew.heap.size xw.drew W' → W'.cell? ⟨w.heap.size, 0, none⟩ = some (.int .i64 14) ∧ W'.cell? ⟨w.heap.size, 1, none⟩ = some (.int .i64 o) ∧ W'.cell? ⟨w.heap.size, 2, none⟩ = some (.string t) ∧ W'.cell? ⟨w.heap.size, 3, none⟩ = some (.string u) ∧ W'.cell? ⟨w.heap.size, 4, none⟩ = some (.slice A n c) ∧ W'.cell? ⟨w.heap.size + 1, 0, none⟩ = some (.int .i64 l) ∧ W'.cell? ⟨w.heap.size + 1, 1, none⟩ = some (.bool d) ∧ W'.cell? ⟨w.heap.size + 1, 2, none⟩ = some (.bool i) ∧ W'.cell? ⟨w.heap.size + 1, 3, none⟩ = some (.bool g) ∧ W'.cell? ⟨w.heap.size + 1, 4, none⟩ = some (.bool s) from fun W' hb => by
    have h := (show KP xw.drew _ _ _ _ _ _ _ _ _ _ _ from K.out).keep hb (show _ < xw.heap.size by omega)
    exact ⟨h.1.get (i := 0) rfl, h.1.get (i := 1) rfl, h.1.get (i := 2) rfl, h.1.get (i := 3) rfl, h.1.get (i := 4) rfl, h.2.1.get (i := 0) rfl, h.2.1.get (i := 1) rfl, h.2.1.get (i := 2) rfl, h.2.1.get (i := 3) rfl, h.2.1.get (i := 4) rfl⟩)
  have hP1 := Lib.hid (show ∀ W' (x0 x1 x2 x3 x4 : Value), Below xw.drew.heap.size xw.drew W' → (((((W'.setCell ⟨xw.heap.size, 0, none⟩ x0).setCell ⟨xw.heap.size, 1, none⟩ x1).setCell ⟨xw.heap.size, 2, none⟩ x2).setCell ⟨xw.heap.size, 3, none⟩ x3).setCell ⟨xw.heap.size, 4, none⟩ x4).cell? ⟨w.heap.size, 0, none⟩ = some (.int .i64 14) ∧ (((((W'.setCell ⟨xw.heap.size, 0, none⟩ x0).setCell ⟨xw.heap.size, 1, none⟩ x1).setCell ⟨xw.heap.size, 2, none⟩ x2).setCell ⟨xw.heap.size, 3, none⟩ x3).setCell ⟨xw.heap.size, 4, none⟩ x4).cell? ⟨w.heap.size, 1, none⟩ = some (.int .i64 o) ∧ (((((W'.setCell ⟨xw.heap.size, 0, none⟩ x0).setCell ⟨xw.heap.size, 1, none⟩ x1).setCell ⟨xw.heap.size, 2, none⟩ x2).setCell ⟨xw.heap.size, 3, none⟩ x3).setCell ⟨xw.heap.size, 4, none⟩ x4).cell? ⟨w.heap.size, 2, none⟩ = some (.string t) ∧ (((((W'.setCell ⟨xw.heap.size, 0, none⟩ x0).setCell ⟨xw.heap.size, 1, none⟩ x1).setCell ⟨xw.heap.size, 2, none⟩ x2).setCell ⟨xw.heap.size, 3, none⟩ x3).setCell ⟨xw.heap.size, 4, none⟩ x4).cell? ⟨w.heap.size, 3, none⟩ = some (.string u) ∧ (((((W'.setCell ⟨xw.heap.size, 0, none⟩ x0).setCell ⟨xw.heap.size, 1, none⟩ x1).setCell ⟨xw.heap.size, 2, none⟩ x2).setCell ⟨xw.heap.size, 3, none⟩ x3).setCell ⟨xw.heap.size, 4, none⟩ x4).cell? ⟨w.heap.size, 4, none⟩ = some (.slice A n c) ∧ (((((W'.setCell ⟨xw.heap.size, 0, none⟩ x0).setCell ⟨xw.heap.size, 1, none⟩ x1).setCell ⟨xw.heap.size, 2, none⟩ x2).setCell ⟨xw.heap.size, 3, none⟩ x3).setCell ⟨xw.heap.size, 4, none⟩ x4).cell? ⟨w.heap.size + 1, 0, none⟩ = some (.int .i64 l) ∧ (((((W'.setCell ⟨xw.heap.size, 0, none⟩ x0).setCell ⟨xw.heap.size, 1, none⟩ x1).setCell ⟨xw.heap.size, 2, none⟩ x2).setCell ⟨xw.heap.size, 3, none⟩ x3).setCell ⟨xw.heap.size, 4, none⟩ x4).cell? ⟨w.heap.size + 1, 1, none⟩ = some (.bool d) ∧ (((((W'.setCell ⟨xw.heap.size, 0, none⟩ x0).setCell ⟨xw.heap.size, 1, none⟩ x1).setCell ⟨xw.heap.size, 2, none⟩ x2).setCell ⟨xw.heap.size, 3, none⟩ x3).setCell ⟨xw.heap.size, 4, none⟩ x4).cell? ⟨w.heap.size + 1, 2, none⟩ = some (.bool i) ∧ (((((W'.setCell ⟨xw.heap.size, 0, none⟩ x0).setCell ⟨xw.heap.size, 1, none⟩ x1).setCell ⟨xw.heap.size, 2, none⟩ x2).setCell ⟨xw.heap.size, 3, none⟩ x3).setCell ⟨xw.heap.size, 4, none⟩ x4).cell? ⟨w.heap.size + 1, 3, none⟩ = some (.bool g) ∧ (((((W'.setCell ⟨xw.heap.size, 0, none⟩ x0).setCell ⟨xw.heap.size, 1, none⟩ x1).setCell ⟨xw.heap.size, 2, none⟩ x2).setCell ⟨xw.heap.size, 3, none⟩ x3).setCell ⟨xw.heap.size, 4, none⟩ x4).cell? ⟨w.heap.size + 1, 4, none⟩ = some (.bool s) from fun W' x0 x1 x2 x3 x4 hb => by
    have h := ((show KP xw.drew _ _ _ _ _ _ _ _ _ _ _ from K.out).keep hb (show _ < xw.heap.size by omega)).putF (x := xw.heap.size) (by omega) x0 x1 x2 x3 x4
    exact ⟨h.1.get (i := 0) rfl, h.1.get (i := 1) rfl, h.1.get (i := 2) rfl, h.1.get (i := 3) rfl, h.1.get (i := 4) rfl, h.2.1.get (i := 0) rfl, h.2.1.get (i := 1) rfl, h.2.1.get (i := 2) rfl, h.2.1.get (i := 3) rfl, h.2.1.get (i := 4) rfl⟩)
  have TX := Lib.hid (Has.made xw 28 #[.int .i64 0, .bool false, .bool false, .bool false, .bool false])
  have hXs : (xw.alloc (.cells #[.int .i64 0, .bool false, .bool false, .bool false, .bool false] 28)).heap.size = xw.heap.size + 1 := by simp
  clear n0 n1 n2 n3 n4 p0 p1 p2 p3 p4 r0 r1 r2 r3 r4 f0 f1 f2 f3 f4 hz
  go_region_held3 (fun W => W.cell? ⟨w.heap.size, 0, none⟩ = some (.int .i64 14) ∧ W.cell? ⟨w.heap.size, 1, none⟩ = some (.int .i64 o) ∧ W.cell? ⟨w.heap.size, 2, none⟩ = some (.string t) ∧ W.cell? ⟨w.heap.size, 3, none⟩ = some (.string u) ∧ W.cell? ⟨w.heap.size, 4, none⟩ = some (.slice A n c) ∧ W.cell? ⟨w.heap.size + 1, 0, none⟩ = some (.int .i64 l) ∧ W.cell? ⟨w.heap.size + 1, 1, none⟩ = some (.bool d) ∧ W.cell? ⟨w.heap.size + 1, 2, none⟩ = some (.bool i) ∧ W.cell? ⟨w.heap.size + 1, 3, none⟩ = some (.bool g) ∧ W.cell? ⟨w.heap.size + 1, 4, none⟩ = some (.bool s)) (first | (with_reducible (exact hkH.out _ bacc)) | (with_reducible (exact hkH.out _ bal)) | (with_reducible (exact hP1.out _ _ _ _ _ _ bacc)) | (with_reducible (exact hkH.out _ (bacc.alloc bacc.size _))) | exact hkH.out _ bacc) (first
    | ((go_at_call 24; refine (i_kidLevel 14 o t u A n c k _ (by omega)).mono ?_; rintro e x4 ⟨rfl, hb⟩; rw [hkl.out]; first
      | (have bacc := Below.trans bacc (hb.mono bacc.size); clear hb)
      | (have T4 := Lib.hid ((show Has (xw.alloc (.cells #[.int .i64 0, .bool false, .bool false, .bool false, .bool false] 28)).drew xw.heap.size _ _ from TX.out).below hb (show _ < (xw.alloc (.cells #[.int .i64 0, .bool false, .bool false, .bool false, .bool false] 28)).heap.size by omega)); have bacc := Below.trans bal (hb.mono bal.size); clear hb; have y0 := T4.out.get (i := 0) rfl; have y1 := T4.out.get (i := 1) rfl; have y2 := T4.out.get (i := 2) rfl; have y3 := T4.out.get (i := 3) rfl; have y4 := T4.out.get (i := 4) rfl; have q0 := T4.out.free 0; have q1 := T4.out.free 1; have q2 := T4.out.free 2; have q3 := T4.out.free 3; have q4 := T4.out.free 4; have ht4 := T4.out.lt))))
  · have hb4 : Below xw.heap.size xw x4 := ⟨bacc.os, bacc.tape, bacc.output, bacc.size, bacc.block⟩
    have hx4 : w.heap.size + 3 ≤ x4.heap.size := Nat.le_trans z.out hb4.size
    have T := Lib.hid (Has.made x4 28 #[.int .i64 LV, .bool false, .bool i, .bool g, .bool false])
    have K := Lib.hid ((K.out.keep hb4 (by omega)).keep ((Below.refl x4.heap.size x4).alloc (Nat.le_refl _) (.cells #[.int .i64 LV, .bool false, .bool i, .bool g, .bool false] 28)) (by omega))
    have B := Lib.hid ((B.out.trans (hb4.mono B.out.size)).alloc (Nat.le_trans B.out.size hb4.size) (.cells #[.int .i64 LV, .bool false, .bool i, .bool g, .bool false] 28))
    obtain ⟨W5, hW5⟩ : ∃ W, x4.alloc (.cells #[.int .i64 LV, .bool false, .bool i, .bool g, .bool false] 28) = W := ⟨_, rfl⟩
    rw [hW5] at T K B ⊢
    clear hW5 bacc bal hkH hP1 hb4
    have n0 := K.out.1.get (i := 0) rfl
    have n1 := K.out.1.get (i := 1) rfl
    have n2 := K.out.1.get (i := 2) rfl
    have n3 := K.out.1.get (i := 3) rfl
    have n4 := K.out.1.get (i := 4) rfl
    have p0 := K.out.2.1.get (i := 0) rfl
    have p1 := K.out.2.1.get (i := 1) rfl
    have p2 := K.out.2.1.get (i := 2) rfl
    have p3 := K.out.2.1.get (i := 3) rfl
    have p4 := K.out.2.1.get (i := 4) rfl
    have r0 := K.out.2.2.get (i := 0) rfl
    have r1 := K.out.2.2.get (i := 1) rfl
    have r2 := K.out.2.2.get (i := 2) rfl
    have r3 := K.out.2.2.get (i := 3) rfl
    have r4 := K.out.2.2.get (i := 4) rfl
    have f0 := K.out.2.2.free 0
    have f1 := K.out.2.2.free 1
    have f2 := K.out.2.2.free 2
    have f3 := K.out.2.2.free 3
    have f4 := K.out.2.2.free 4
    have t0 := T.out.get (i := 0) rfl
    have t1 := T.out.get (i := 1) rfl
    have t2 := T.out.get (i := 2) rfl
    have t3 := T.out.get (i := 3) rfl
    have t4 := T.out.get (i := 4) rfl
    have g4 := T.out.free 4
    have hlt5 := T.out.lt
    go_wp2_with fail
    exact bodyPost_ret (v := posV ⟨LV, false, i, g, false⟩) (by simp [results, Try.results14, go_sem, posV, r0, r1, r2, r3, r4, t0, t1, t2, t3, t4]) rfl (posV_eq HEQ.out (below_putF (B.out.setCell (p := ⟨x4.heap.size, 4, none⟩) (show w.heap.size ≤ x4.heap.size by omega) _) (by omega) _ _ _ _ _))
  · have hb4 : Below xw.heap.size xw x4 := ⟨bacc.os, bacc.tape, bacc.output, bacc.size, bacc.block⟩
    have hx4 : w.heap.size + 3 ≤ x4.heap.size := Nat.le_trans z.out hb4.size
    have T := Lib.hid (show Has (((((x4.setCell ⟨xw.heap.size, 0, none⟩ (.int .i64 LV)).setCell ⟨xw.heap.size, 1, none⟩ (.bool false)).setCell ⟨xw.heap.size, 2, none⟩ (.bool i)).setCell ⟨xw.heap.size, 3, none⟩ (.bool g)).setCell ⟨xw.heap.size, 4, none⟩ (.bool false)) xw.heap.size _ _ from T4.out.putF (.int .i64 LV) (.bool false) (.bool i) (.bool g) (.bool false))
    have K := Lib.hid (show KP (((((x4.setCell ⟨xw.heap.size, 0, none⟩ (.int .i64 LV)).setCell ⟨xw.heap.size, 1, none⟩ (.bool false)).setCell ⟨xw.heap.size, 2, none⟩ (.bool i)).setCell ⟨xw.heap.size, 3, none⟩ (.bool g)).setCell ⟨xw.heap.size, 4, none⟩ (.bool false)) _ _ _ _ _ _ _ _ _ _ _ from (K.out.keep hb4 (by omega)).putF (x := xw.heap.size) (by omega) (.int .i64 LV) (.bool false) (.bool i) (.bool g) (.bool false))
    have B := Lib.hid (show Below w.heap.size w (((((x4.setCell ⟨xw.heap.size, 0, none⟩ (.int .i64 LV)).setCell ⟨xw.heap.size, 1, none⟩ (.bool false)).setCell ⟨xw.heap.size, 2, none⟩ (.bool i)).setCell ⟨xw.heap.size, 3, none⟩ (.bool g)).setCell ⟨xw.heap.size, 4, none⟩ (.bool false)) from below_putF (B.out.trans (hb4.mono B.out.size)) (show w.heap.size ≤ xw.heap.size from B.out.size) _ _ _ _ _)
    obtain ⟨W5, hW5⟩ : ∃ W, (((((x4.setCell ⟨xw.heap.size, 0, none⟩ (.int .i64 LV)).setCell ⟨xw.heap.size, 1, none⟩ (.bool false)).setCell ⟨xw.heap.size, 2, none⟩ (.bool i)).setCell ⟨xw.heap.size, 3, none⟩ (.bool g)).setCell ⟨xw.heap.size, 4, none⟩ (.bool false)) = W := ⟨_, rfl⟩
    rw [hW5] at T K B ⊢
    clear hW5 bacc bal hkH hP1 hb4 y0 y1 y2 y3 y4 q0 q1 q2 q3 q4 T4
    have n0 := K.out.1.get (i := 0) rfl
    have n1 := K.out.1.get (i := 1) rfl
    have n2 := K.out.1.get (i := 2) rfl
    have n3 := K.out.1.get (i := 3) rfl
    have n4 := K.out.1.get (i := 4) rfl
    have p0 := K.out.2.1.get (i := 0) rfl
    have p1 := K.out.2.1.get (i := 1) rfl
    have p2 := K.out.2.1.get (i := 2) rfl
    have p3 := K.out.2.1.get (i := 3) rfl
    have p4 := K.out.2.1.get (i := 4) rfl
    have r0 := K.out.2.2.get (i := 0) rfl
    have r1 := K.out.2.2.get (i := 1) rfl
    have r2 := K.out.2.2.get (i := 2) rfl
    have r3 := K.out.2.2.get (i := 3) rfl
    have r4 := K.out.2.2.get (i := 4) rfl
    have f0 := K.out.2.2.free 0
    have f1 := K.out.2.2.free 1
    have f2 := K.out.2.2.free 2
    have f3 := K.out.2.2.free 3
    have f4 := K.out.2.2.free 4
    have t0 := T.out.get (i := 0) rfl
    have t1 := T.out.get (i := 1) rfl
    have t2 := T.out.get (i := 2) rfl
    have t3 := T.out.get (i := 3) rfl
    have t4 := T.out.get (i := 4) rfl
    have g4 := T.out.free 4
    have hlt5 := T.out.lt
    go_wp2_with fail
    exact bodyPost_ret (v := posV ⟨LV, false, i, g, false⟩) (by simp [results, Try.results14, go_sem, posV, r0, r1, r2, r3, r4, t0, t1, t2, t3, t4]) rfl (posV_eq HEQ.out (below_putF (B.out.setCell (p := ⟨xw.heap.size, 4, none⟩) (show w.heap.size ≤ xw.heap.size by omega) _) (by omega) _ _ _ _ _))
set_option maxRecDepth 100000 in
set_option maxHeartbeats 4000000 in
theorem i_kidPos_14_2 (o : Int) (t u : ByteArray) (A : Option Addr) (n c k : Nat) (l : Int) (d i g s : Bool) (w : World) (hn : n ≤ 8) (hkn : k < n) (hpo : posOk l d = true) (hk : 2 ≤ k) : Calls Try.prog 14 #[.agg #[.int .i64 14, .int .i64 o, .string t, .string u, .slice A n c], .int .i64 (k : Int), .agg #[.int .i64 l, .bool d, .bool i, .bool g, .bool s]] w (RetPosV w (kidQ 14 o n k ⟨l, d, i, g, s⟩)) := by
  have hL := Lib.hid (show levelOf 14 o = 2 from rfl)
  have K := Lib.hid (KP.made w 14 o t u (.slice A n c) l d i g s)
  have B := Lib.hid (kpW_below w 14 o t u (.slice A n c) l d i g s)
  have z := Lib.hid (show w.heap.size + 3 ≤ (kpW w 14 o t u (.slice A n c) l d i g s).heap.size by rw [kpW_size]; exact Nat.le_refl _)
  unfold kpW at K B z
  have n0 := K.out.1.get (i := 0) rfl
  have n1 := K.out.1.get (i := 1) rfl
  have n2 := K.out.1.get (i := 2) rfl
  have n3 := K.out.1.get (i := 3) rfl
  have n4 := K.out.1.get (i := 4) rfl
  have p0 := K.out.2.1.get (i := 0) rfl
  have p1 := K.out.2.1.get (i := 1) rfl
  have p2 := K.out.2.1.get (i := 2) rfl
  have p3 := K.out.2.1.get (i := 3) rfl
  have p4 := K.out.2.1.get (i := 4) rfl
  have r0 := K.out.2.2.get (i := 0) rfl
  have r1 := K.out.2.2.get (i := 1) rfl
  have r2 := K.out.2.2.get (i := 2) rfl
  have r3 := K.out.2.2.get (i := 3) rfl
  have r4 := K.out.2.2.get (i := 4) rfl
  have f0 := K.out.2.2.free 0
  have f1 := K.out.2.2.free 1
  have f2 := K.out.2.2.free 2
  have f3 := K.out.2.2.free 3
  have f4 := K.out.2.2.free 4
  have hin := Lib.hid (show inB (k : Int) 0 ((n : Int) - 1) = true by unfold inB; simp; omega)
  have hpo := Lib.hid hpo
  have hkz : ((k : Int) == 0) = false := by simp; omega
  have hk1 : ((k : Int) == 1) = false := by simp; omega
  obtain ⟨LV, hLV⟩ : ∃ LV, kidLevelP 14 o k = LV := ⟨_, rfl⟩
  have hkl := Lib.hid hLV
  have HEQ : kidQ 14 o n k ⟨l, d, i, g, s⟩ = ⟨LV, false, i, g, false⟩ := by
    unfold kidQ
    rw [hLV, if_neg (by rw [hL.out]; omega)]
    rw [if_neg (by decide)]
    rw [if_neg (by omega)]
    rfl
  have HEQ := Lib.hid HEQ
  clear hLV
  have hkH := Lib.hid hk
  clear hk
  go_enter Try.func14, Try.ntmps14
  go_wp2_with (first
      | (go_at_call 12; refine (i_posOk l d i g s _).mono ?_; rintro e xw ⟨rfl, hb⟩; rw [hpo.out]; clear n0 n1 n2 n3 n4 p0 p1 p2 p3 p4 r0 r1 r2 r3 r4 f0 f1 f2 f3 f4; have K := Lib.hid (K.out.keep hb (by have := z.out; omega)); have B := Lib.hid (B.out.trans (hb.mono B.out.size)); have z := Lib.hid (Nat.le_trans z.out hb.size); clear hb; have n0 := K.out.1.get (i := 0) rfl; have n1 := K.out.1.get (i := 1) rfl; have n2 := K.out.1.get (i := 2) rfl; have n3 := K.out.1.get (i := 3) rfl; have n4 := K.out.1.get (i := 4) rfl; have p0 := K.out.2.1.get (i := 0) rfl; have p1 := K.out.2.1.get (i := 1) rfl; have p2 := K.out.2.1.get (i := 2) rfl; have p3 := K.out.2.1.get (i := 3) rfl; have p4 := K.out.2.1.get (i := 4) rfl; have r0 := K.out.2.2.get (i := 0) rfl; have r1 := K.out.2.2.get (i := 1) rfl; have r2 := K.out.2.2.get (i := 2) rfl; have r3 := K.out.2.2.get (i := 3) rfl; have r4 := K.out.2.2.get (i := 4) rfl; have f0 := K.out.2.2.free 0; have f1 := K.out.2.2.free 1; have f2 := K.out.2.2.free 2; have f3 := K.out.2.2.free 3; have f4 := K.out.2.2.free 4; have hz := z.out)
      | (go_at_call 21; refine (i_within _ _ _ _).mono ?_; rintro e w' ⟨rfl, rfl⟩; rw [hin.out])
      | (go_at_call 11; refine (i_levelOf 14 o t u A n c _).mono ?_; rintro e xw ⟨rfl, hb⟩; rw [hL.out]; clear n0 n1 n2 n3 n4 p0 p1 p2 p3 p4 r0 r1 r2 r3 r4 f0 f1 f2 f3 f4; have K := Lib.hid (K.out.keep hb (by have := z.out; omega)); have B := Lib.hid (B.out.trans (hb.mono B.out.size)); have z := Lib.hid (Nat.le_trans z.out hb.size); clear hb; have n0 := K.out.1.get (i := 0) rfl; have n1 := K.out.1.get (i := 1) rfl; have n2 := K.out.1.get (i := 2) rfl; have n3 := K.out.1.get (i := 3) rfl; have n4 := K.out.1.get (i := 4) rfl; have p0 := K.out.2.1.get (i := 0) rfl; have p1 := K.out.2.1.get (i := 1) rfl; have p2 := K.out.2.1.get (i := 2) rfl; have p3 := K.out.2.1.get (i := 3) rfl; have p4 := K.out.2.1.get (i := 4) rfl; have r0 := K.out.2.2.get (i := 0) rfl; have r1 := K.out.2.2.get (i := 1) rfl; have r2 := K.out.2.2.get (i := 2) rfl; have r3 := K.out.2.2.get (i := 3) rfl; have r4 := K.out.2.2.get (i := 4) rfl; have f0 := K.out.2.2.free 0; have f1 := K.out.2.2.free 1; have f2 := K.out.2.2.free 2; have f3 := K.out.2.2.free 3; have f4 := K.out.2.2.free 4; have hz := z.out))
  have hzs := z.out
  have bacc : Below xw.drew.heap.size xw.drew xw.drew := Below.refl _ _
  have bal0 := (Below.refl xw.heap.size xw).alloc (Nat.le_refl _) (.cells #[.int .i64 0, .bool false, .bool false, .bool false, .bool false] 28)
  have bal : Below xw.drew.heap.size xw.drew (xw.alloc (.cells #[.int .i64 0, .bool false, .bool false, .bool false, .bool false] 28)).drew := ⟨bal0.os, bal0.tape, bal0.output, bal0.size, bal0.block⟩
  clear bal0
  have hkH := Lib.hid (show ∀ W', Below xw.drew.heap.size xw.drew W' → W'.cell? ⟨w.heap.size, 0, none⟩ = some (.int .i64 14) ∧ W'.cell? ⟨w.heap.size, 1, none⟩ = some (.int .i64 o) ∧ W'.cell? ⟨w.heap.size, 2, none⟩ = some (.string t) ∧ W'.cell? ⟨w.heap.size, 3, none⟩ = some (.string u) ∧ W'.cell? ⟨w.heap.size, 4, none⟩ = some (.slice A n c) ∧ W'.cell? ⟨w.heap.size + 1, 0, none⟩ = some (.int .i64 l) ∧ W'.cell? ⟨w.heap.size + 1, 1, none⟩ = some (.bool d) ∧ W'.cell? ⟨w.heap.size + 1, 2, none⟩ = some (.bool i) ∧ W'.cell? ⟨w.heap.size + 1, 3, none⟩ = some (.bool g) ∧ W'.cell? ⟨w.heap.size + 1, 4, none⟩ = some (.bool s) from fun W' hb => by
    have h := (show KP xw.drew _ _ _ _ _ _ _ _ _ _ _ from K.out).keep hb (show _ < xw.heap.size by omega)
    exact ⟨h.1.get (i := 0) rfl, h.1.get (i := 1) rfl, h.1.get (i := 2) rfl, h.1.get (i := 3) rfl, h.1.get (i := 4) rfl, h.2.1.get (i := 0) rfl, h.2.1.get (i := 1) rfl, h.2.1.get (i := 2) rfl, h.2.1.get (i := 3) rfl, h.2.1.get (i := 4) rfl⟩)
  have hP1 := Lib.hid (show ∀ W' (x0 x1 x2 x3 x4 : Value), Below xw.drew.heap.size xw.drew W' → (((((W'.setCell ⟨xw.heap.size, 0, none⟩ x0).setCell ⟨xw.heap.size, 1, none⟩ x1).setCell ⟨xw.heap.size, 2, none⟩ x2).setCell ⟨xw.heap.size, 3, none⟩ x3).setCell ⟨xw.heap.size, 4, none⟩ x4).cell? ⟨w.heap.size, 0, none⟩ = some (.int .i64 14) ∧ (((((W'.setCell ⟨xw.heap.size, 0, none⟩ x0).setCell ⟨xw.heap.size, 1, none⟩ x1).setCell ⟨xw.heap.size, 2, none⟩ x2).setCell ⟨xw.heap.size, 3, none⟩ x3).setCell ⟨xw.heap.size, 4, none⟩ x4).cell? ⟨w.heap.size, 1, none⟩ = some (.int .i64 o) ∧ (((((W'.setCell ⟨xw.heap.size, 0, none⟩ x0).setCell ⟨xw.heap.size, 1, none⟩ x1).setCell ⟨xw.heap.size, 2, none⟩ x2).setCell ⟨xw.heap.size, 3, none⟩ x3).setCell ⟨xw.heap.size, 4, none⟩ x4).cell? ⟨w.heap.size, 2, none⟩ = some (.string t) ∧ (((((W'.setCell ⟨xw.heap.size, 0, none⟩ x0).setCell ⟨xw.heap.size, 1, none⟩ x1).setCell ⟨xw.heap.size, 2, none⟩ x2).setCell ⟨xw.heap.size, 3, none⟩ x3).setCell ⟨xw.heap.size, 4, none⟩ x4).cell? ⟨w.heap.size, 3, none⟩ = some (.string u) ∧ (((((W'.setCell ⟨xw.heap.size, 0, none⟩ x0).setCell ⟨xw.heap.size, 1, none⟩ x1).setCell ⟨xw.heap.size, 2, none⟩ x2).setCell ⟨xw.heap.size, 3, none⟩ x3).setCell ⟨xw.heap.size, 4, none⟩ x4).cell? ⟨w.heap.size, 4, none⟩ = some (.slice A n c) ∧ (((((W'.setCell ⟨xw.heap.size, 0, none⟩ x0).setCell ⟨xw.heap.size, 1, none⟩ x1).setCell ⟨xw.heap.size, 2, none⟩ x2).setCell ⟨xw.heap.size, 3, none⟩ x3).setCell ⟨xw.heap.size, 4, none⟩ x4).cell? ⟨w.heap.size + 1, 0, none⟩ = some (.int .i64 l) ∧ (((((W'.setCell ⟨xw.heap.size, 0, none⟩ x0).setCell ⟨xw.heap.size, 1, none⟩ x1).setCell ⟨xw.heap.size, 2, none⟩ x2).setCell ⟨xw.heap.size, 3, none⟩ x3).setCell ⟨xw.heap.size, 4, none⟩ x4).cell? ⟨w.heap.size + 1, 1, none⟩ = some (.bool d) ∧ (((((W'.setCell ⟨xw.heap.size, 0, none⟩ x0).setCell ⟨xw.heap.size, 1, none⟩ x1).setCell ⟨xw.heap.size, 2, none⟩ x2).setCell ⟨xw.heap.size, 3, none⟩ x3).setCell ⟨xw.heap.size, 4, none⟩ x4).cell? ⟨w.heap.size + 1, 2, none⟩ = some (.bool i) ∧ (((((W'.setCell ⟨xw.heap.size, 0, none⟩ x0).setCell ⟨xw.heap.size, 1, none⟩ x1).setCell ⟨xw.heap.size, 2, none⟩ x2).setCell ⟨xw.heap.size, 3, none⟩ x3).setCell ⟨xw.heap.size, 4, none⟩ x4).cell? ⟨w.heap.size + 1, 3, none⟩ = some (.bool g) ∧ (((((W'.setCell ⟨xw.heap.size, 0, none⟩ x0).setCell ⟨xw.heap.size, 1, none⟩ x1).setCell ⟨xw.heap.size, 2, none⟩ x2).setCell ⟨xw.heap.size, 3, none⟩ x3).setCell ⟨xw.heap.size, 4, none⟩ x4).cell? ⟨w.heap.size + 1, 4, none⟩ = some (.bool s) from fun W' x0 x1 x2 x3 x4 hb => by
    have h := ((show KP xw.drew _ _ _ _ _ _ _ _ _ _ _ from K.out).keep hb (show _ < xw.heap.size by omega)).putF (x := xw.heap.size) (by omega) x0 x1 x2 x3 x4
    exact ⟨h.1.get (i := 0) rfl, h.1.get (i := 1) rfl, h.1.get (i := 2) rfl, h.1.get (i := 3) rfl, h.1.get (i := 4) rfl, h.2.1.get (i := 0) rfl, h.2.1.get (i := 1) rfl, h.2.1.get (i := 2) rfl, h.2.1.get (i := 3) rfl, h.2.1.get (i := 4) rfl⟩)
  have TX := Lib.hid (Has.made xw 28 #[.int .i64 0, .bool false, .bool false, .bool false, .bool false])
  have hXs : (xw.alloc (.cells #[.int .i64 0, .bool false, .bool false, .bool false, .bool false] 28)).heap.size = xw.heap.size + 1 := by simp
  clear n0 n1 n2 n3 n4 p0 p1 p2 p3 p4 r0 r1 r2 r3 r4 f0 f1 f2 f3 f4 hz
  go_region_held3 (fun W => W.cell? ⟨w.heap.size, 0, none⟩ = some (.int .i64 14) ∧ W.cell? ⟨w.heap.size, 1, none⟩ = some (.int .i64 o) ∧ W.cell? ⟨w.heap.size, 2, none⟩ = some (.string t) ∧ W.cell? ⟨w.heap.size, 3, none⟩ = some (.string u) ∧ W.cell? ⟨w.heap.size, 4, none⟩ = some (.slice A n c) ∧ W.cell? ⟨w.heap.size + 1, 0, none⟩ = some (.int .i64 l) ∧ W.cell? ⟨w.heap.size + 1, 1, none⟩ = some (.bool d) ∧ W.cell? ⟨w.heap.size + 1, 2, none⟩ = some (.bool i) ∧ W.cell? ⟨w.heap.size + 1, 3, none⟩ = some (.bool g) ∧ W.cell? ⟨w.heap.size + 1, 4, none⟩ = some (.bool s)) (first | (with_reducible (exact hkH.out _ bacc)) | (with_reducible (exact hkH.out _ bal)) | (with_reducible (exact hP1.out _ _ _ _ _ _ bacc)) | (with_reducible (exact hkH.out _ (bacc.alloc bacc.size _))) | exact hkH.out _ bacc) (first
    | ((go_at_call 24; refine (i_kidLevel 14 o t u A n c k _ (by omega)).mono ?_; rintro e x4 ⟨rfl, hb⟩; rw [hkl.out]; first
      | (have bacc := Below.trans bacc (hb.mono bacc.size); clear hb)
      | (have T4 := Lib.hid ((show Has (xw.alloc (.cells #[.int .i64 0, .bool false, .bool false, .bool false, .bool false] 28)).drew xw.heap.size _ _ from TX.out).below hb (show _ < (xw.alloc (.cells #[.int .i64 0, .bool false, .bool false, .bool false, .bool false] 28)).heap.size by omega)); have bacc := Below.trans bal (hb.mono bal.size); clear hb; have y0 := T4.out.get (i := 0) rfl; have y1 := T4.out.get (i := 1) rfl; have y2 := T4.out.get (i := 2) rfl; have y3 := T4.out.get (i := 3) rfl; have y4 := T4.out.get (i := 4) rfl; have q0 := T4.out.free 0; have q1 := T4.out.free 1; have q2 := T4.out.free 2; have q3 := T4.out.free 3; have q4 := T4.out.free 4; have ht4 := T4.out.lt))))
  · have hb4 : Below xw.heap.size xw x4 := ⟨bacc.os, bacc.tape, bacc.output, bacc.size, bacc.block⟩
    have hx4 : w.heap.size + 3 ≤ x4.heap.size := Nat.le_trans z.out hb4.size
    have T := Lib.hid (Has.made x4 28 #[.int .i64 LV, .bool false, .bool i, .bool g, .bool false])
    have K := Lib.hid ((K.out.keep hb4 (by omega)).keep ((Below.refl x4.heap.size x4).alloc (Nat.le_refl _) (.cells #[.int .i64 LV, .bool false, .bool i, .bool g, .bool false] 28)) (by omega))
    have B := Lib.hid ((B.out.trans (hb4.mono B.out.size)).alloc (Nat.le_trans B.out.size hb4.size) (.cells #[.int .i64 LV, .bool false, .bool i, .bool g, .bool false] 28))
    obtain ⟨W5, hW5⟩ : ∃ W, x4.alloc (.cells #[.int .i64 LV, .bool false, .bool i, .bool g, .bool false] 28) = W := ⟨_, rfl⟩
    rw [hW5] at T K B ⊢
    clear hW5 bacc bal hkH hP1 hb4
    have n0 := K.out.1.get (i := 0) rfl
    have n1 := K.out.1.get (i := 1) rfl
    have n2 := K.out.1.get (i := 2) rfl
    have n3 := K.out.1.get (i := 3) rfl
    have n4 := K.out.1.get (i := 4) rfl
    have p0 := K.out.2.1.get (i := 0) rfl
    have p1 := K.out.2.1.get (i := 1) rfl
    have p2 := K.out.2.1.get (i := 2) rfl
    have p3 := K.out.2.1.get (i := 3) rfl
    have p4 := K.out.2.1.get (i := 4) rfl
    have r0 := K.out.2.2.get (i := 0) rfl
    have r1 := K.out.2.2.get (i := 1) rfl
    have r2 := K.out.2.2.get (i := 2) rfl
    have r3 := K.out.2.2.get (i := 3) rfl
    have r4 := K.out.2.2.get (i := 4) rfl
    have f0 := K.out.2.2.free 0
    have f1 := K.out.2.2.free 1
    have f2 := K.out.2.2.free 2
    have f3 := K.out.2.2.free 3
    have f4 := K.out.2.2.free 4
    have t0 := T.out.get (i := 0) rfl
    have t1 := T.out.get (i := 1) rfl
    have t2 := T.out.get (i := 2) rfl
    have t3 := T.out.get (i := 3) rfl
    have t4 := T.out.get (i := 4) rfl
    have g4 := T.out.free 4
    have hlt5 := T.out.lt
    go_wp2_with fail
    exact bodyPost_ret (v := posV ⟨LV, false, i, g, false⟩) (by simp [results, Try.results14, go_sem, posV, r0, r1, r2, r3, r4, t0, t1, t2, t3, t4]) rfl (posV_eq HEQ.out (below_putF (B.out.setCell (p := ⟨x4.heap.size, 4, none⟩) (show w.heap.size ≤ x4.heap.size by omega) _) (by omega) _ _ _ _ _))
  · have hb4 : Below xw.heap.size xw x4 := ⟨bacc.os, bacc.tape, bacc.output, bacc.size, bacc.block⟩
    have hx4 : w.heap.size + 3 ≤ x4.heap.size := Nat.le_trans z.out hb4.size
    have T := Lib.hid (show Has (((((x4.setCell ⟨xw.heap.size, 0, none⟩ (.int .i64 LV)).setCell ⟨xw.heap.size, 1, none⟩ (.bool false)).setCell ⟨xw.heap.size, 2, none⟩ (.bool i)).setCell ⟨xw.heap.size, 3, none⟩ (.bool g)).setCell ⟨xw.heap.size, 4, none⟩ (.bool false)) xw.heap.size _ _ from T4.out.putF (.int .i64 LV) (.bool false) (.bool i) (.bool g) (.bool false))
    have K := Lib.hid (show KP (((((x4.setCell ⟨xw.heap.size, 0, none⟩ (.int .i64 LV)).setCell ⟨xw.heap.size, 1, none⟩ (.bool false)).setCell ⟨xw.heap.size, 2, none⟩ (.bool i)).setCell ⟨xw.heap.size, 3, none⟩ (.bool g)).setCell ⟨xw.heap.size, 4, none⟩ (.bool false)) _ _ _ _ _ _ _ _ _ _ _ from (K.out.keep hb4 (by omega)).putF (x := xw.heap.size) (by omega) (.int .i64 LV) (.bool false) (.bool i) (.bool g) (.bool false))
    have B := Lib.hid (show Below w.heap.size w (((((x4.setCell ⟨xw.heap.size, 0, none⟩ (.int .i64 LV)).setCell ⟨xw.heap.size, 1, none⟩ (.bool false)).setCell ⟨xw.heap.size, 2, none⟩ (.bool i)).setCell ⟨xw.heap.size, 3, none⟩ (.bool g)).setCell ⟨xw.heap.size, 4, none⟩ (.bool false)) from below_putF (B.out.trans (hb4.mono B.out.size)) (show w.heap.size ≤ xw.heap.size from B.out.size) _ _ _ _ _)
    obtain ⟨W5, hW5⟩ : ∃ W, (((((x4.setCell ⟨xw.heap.size, 0, none⟩ (.int .i64 LV)).setCell ⟨xw.heap.size, 1, none⟩ (.bool false)).setCell ⟨xw.heap.size, 2, none⟩ (.bool i)).setCell ⟨xw.heap.size, 3, none⟩ (.bool g)).setCell ⟨xw.heap.size, 4, none⟩ (.bool false)) = W := ⟨_, rfl⟩
    rw [hW5] at T K B ⊢
    clear hW5 bacc bal hkH hP1 hb4 y0 y1 y2 y3 y4 q0 q1 q2 q3 q4 T4
    have n0 := K.out.1.get (i := 0) rfl
    have n1 := K.out.1.get (i := 1) rfl
    have n2 := K.out.1.get (i := 2) rfl
    have n3 := K.out.1.get (i := 3) rfl
    have n4 := K.out.1.get (i := 4) rfl
    have p0 := K.out.2.1.get (i := 0) rfl
    have p1 := K.out.2.1.get (i := 1) rfl
    have p2 := K.out.2.1.get (i := 2) rfl
    have p3 := K.out.2.1.get (i := 3) rfl
    have p4 := K.out.2.1.get (i := 4) rfl
    have r0 := K.out.2.2.get (i := 0) rfl
    have r1 := K.out.2.2.get (i := 1) rfl
    have r2 := K.out.2.2.get (i := 2) rfl
    have r3 := K.out.2.2.get (i := 3) rfl
    have r4 := K.out.2.2.get (i := 4) rfl
    have f0 := K.out.2.2.free 0
    have f1 := K.out.2.2.free 1
    have f2 := K.out.2.2.free 2
    have f3 := K.out.2.2.free 3
    have f4 := K.out.2.2.free 4
    have t0 := T.out.get (i := 0) rfl
    have t1 := T.out.get (i := 1) rfl
    have t2 := T.out.get (i := 2) rfl
    have t3 := T.out.get (i := 3) rfl
    have t4 := T.out.get (i := 4) rfl
    have g4 := T.out.free 4
    have hlt5 := T.out.lt
    go_wp2_with fail
    exact bodyPost_ret (v := posV ⟨LV, false, i, g, false⟩) (by simp [results, Try.results14, go_sem, posV, r0, r1, r2, r3, r4, t0, t1, t2, t3, t4]) rfl (posV_eq HEQ.out (below_putF (B.out.setCell (p := ⟨xw.heap.size, 4, none⟩) (show w.heap.size ≤ xw.heap.size by omega) _) (by omega) _ _ _ _ _))
set_option maxRecDepth 100000 in
set_option maxHeartbeats 4000000 in
theorem i_kidPos_13_0t (o : Int) (t u : ByteArray) (A : Option Addr) (n c k : Nat) (l : Int) (d i g : Bool) (w : World) (hn : n ≤ 8) (hkn : k < n) (hpo : posOk l d = true) (hk : k = 0) (hn1 : n = 1) : Calls Try.prog 14 #[.agg #[.int .i64 13, .int .i64 o, .string t, .string u, .slice A n c], .int .i64 (k : Int), .agg #[.int .i64 l, .bool d, .bool i, .bool g, .bool true]] w (RetPosV w (kidQ 13 o n k ⟨l, d, i, g, true⟩)) := by
  have hL := Lib.hid (show levelOf 13 o = 5 from rfl)
  have K := Lib.hid (KP.made w 13 o t u (.slice A n c) l d i g true)
  have B := Lib.hid (kpW_below w 13 o t u (.slice A n c) l d i g true)
  have z := Lib.hid (show w.heap.size + 3 ≤ (kpW w 13 o t u (.slice A n c) l d i g true).heap.size by rw [kpW_size]; exact Nat.le_refl _)
  unfold kpW at K B z
  have n0 := K.out.1.get (i := 0) rfl
  have n1 := K.out.1.get (i := 1) rfl
  have n2 := K.out.1.get (i := 2) rfl
  have n3 := K.out.1.get (i := 3) rfl
  have n4 := K.out.1.get (i := 4) rfl
  have p0 := K.out.2.1.get (i := 0) rfl
  have p1 := K.out.2.1.get (i := 1) rfl
  have p2 := K.out.2.1.get (i := 2) rfl
  have p3 := K.out.2.1.get (i := 3) rfl
  have p4 := K.out.2.1.get (i := 4) rfl
  have r0 := K.out.2.2.get (i := 0) rfl
  have r1 := K.out.2.2.get (i := 1) rfl
  have r2 := K.out.2.2.get (i := 2) rfl
  have r3 := K.out.2.2.get (i := 3) rfl
  have r4 := K.out.2.2.get (i := 4) rfl
  have f0 := K.out.2.2.free 0
  have f1 := K.out.2.2.free 1
  have f2 := K.out.2.2.free 2
  have f3 := K.out.2.2.free 3
  have f4 := K.out.2.2.free 4
  have hin := Lib.hid (show inB (k : Int) 0 ((n : Int) - 1) = true by unfold inB; simp; omega)
  have hpo := Lib.hid hpo
  have hkz : ((k : Int) == 0) = true := by simp; omega
  have hk1 : ((k : Int) == 1) = false := by simp; omega
  have hgt : decide (1 < (n : Int)) = false := by simp; omega
  obtain ⟨LV, hLV⟩ : ∃ LV, kidLevelP 13 o k = LV := ⟨_, rfl⟩
  have hkl := Lib.hid hLV
  have HEQ : kidQ 13 o n k ⟨l, d, i, g, true⟩ = ⟨LV, false, i, g, true⟩ := by
    unfold kidQ
    rw [hLV, if_neg (by rw [hL.out]; omega)]
    rw [if_neg (by decide)]
    rw [if_pos hk]
    rfl
  have HEQ := Lib.hid HEQ
  clear hLV
  have hkH := Lib.hid hk
  clear hk
  have hn1H := Lib.hid hn1
  clear hn1
  go_enter Try.func14, Try.ntmps14
  go_wp2_with (first
      | (go_at_call 12; refine (i_posOk l d i g true _).mono ?_; rintro e xw ⟨rfl, hb⟩; rw [hpo.out]; clear n0 n1 n2 n3 n4 p0 p1 p2 p3 p4 r0 r1 r2 r3 r4 f0 f1 f2 f3 f4; have K := Lib.hid (K.out.keep hb (by have := z.out; omega)); have B := Lib.hid (B.out.trans (hb.mono B.out.size)); have z := Lib.hid (Nat.le_trans z.out hb.size); clear hb; have n0 := K.out.1.get (i := 0) rfl; have n1 := K.out.1.get (i := 1) rfl; have n2 := K.out.1.get (i := 2) rfl; have n3 := K.out.1.get (i := 3) rfl; have n4 := K.out.1.get (i := 4) rfl; have p0 := K.out.2.1.get (i := 0) rfl; have p1 := K.out.2.1.get (i := 1) rfl; have p2 := K.out.2.1.get (i := 2) rfl; have p3 := K.out.2.1.get (i := 3) rfl; have p4 := K.out.2.1.get (i := 4) rfl; have r0 := K.out.2.2.get (i := 0) rfl; have r1 := K.out.2.2.get (i := 1) rfl; have r2 := K.out.2.2.get (i := 2) rfl; have r3 := K.out.2.2.get (i := 3) rfl; have r4 := K.out.2.2.get (i := 4) rfl; have f0 := K.out.2.2.free 0; have f1 := K.out.2.2.free 1; have f2 := K.out.2.2.free 2; have f3 := K.out.2.2.free 3; have f4 := K.out.2.2.free 4; have hz := z.out)
      | (go_at_call 21; refine (i_within _ _ _ _).mono ?_; rintro e w' ⟨rfl, rfl⟩; rw [hin.out])
      | (go_at_call 11; refine (i_levelOf 13 o t u A n c _).mono ?_; rintro e xw ⟨rfl, hb⟩; rw [hL.out]; clear n0 n1 n2 n3 n4 p0 p1 p2 p3 p4 r0 r1 r2 r3 r4 f0 f1 f2 f3 f4; have K := Lib.hid (K.out.keep hb (by have := z.out; omega)); have B := Lib.hid (B.out.trans (hb.mono B.out.size)); have z := Lib.hid (Nat.le_trans z.out hb.size); clear hb; have n0 := K.out.1.get (i := 0) rfl; have n1 := K.out.1.get (i := 1) rfl; have n2 := K.out.1.get (i := 2) rfl; have n3 := K.out.1.get (i := 3) rfl; have n4 := K.out.1.get (i := 4) rfl; have p0 := K.out.2.1.get (i := 0) rfl; have p1 := K.out.2.1.get (i := 1) rfl; have p2 := K.out.2.1.get (i := 2) rfl; have p3 := K.out.2.1.get (i := 3) rfl; have p4 := K.out.2.1.get (i := 4) rfl; have r0 := K.out.2.2.get (i := 0) rfl; have r1 := K.out.2.2.get (i := 1) rfl; have r2 := K.out.2.2.get (i := 2) rfl; have r3 := K.out.2.2.get (i := 3) rfl; have r4 := K.out.2.2.get (i := 4) rfl; have f0 := K.out.2.2.free 0; have f1 := K.out.2.2.free 1; have f2 := K.out.2.2.free 2; have f3 := K.out.2.2.free 3; have f4 := K.out.2.2.free 4; have hz := z.out))
  have hzs := z.out
  have bacc : Below xw.drew.heap.size xw.drew xw.drew := Below.refl _ _
  have bal0 := (Below.refl xw.heap.size xw).alloc (Nat.le_refl _) (.cells #[.int .i64 0, .bool false, .bool false, .bool false, .bool false] 28)
  have bal : Below xw.drew.heap.size xw.drew (xw.alloc (.cells #[.int .i64 0, .bool false, .bool false, .bool false, .bool false] 28)).drew := ⟨bal0.os, bal0.tape, bal0.output, bal0.size, bal0.block⟩
  clear bal0
  have hkH := Lib.hid (show ∀ W', Below xw.drew.heap.size xw.drew W' → W'.cell? ⟨w.heap.size, 0, none⟩ = some (.int .i64 13) ∧ W'.cell? ⟨w.heap.size, 1, none⟩ = some (.int .i64 o) ∧ W'.cell? ⟨w.heap.size, 2, none⟩ = some (.string t) ∧ W'.cell? ⟨w.heap.size, 3, none⟩ = some (.string u) ∧ W'.cell? ⟨w.heap.size, 4, none⟩ = some (.slice A n c) ∧ W'.cell? ⟨w.heap.size + 1, 0, none⟩ = some (.int .i64 l) ∧ W'.cell? ⟨w.heap.size + 1, 1, none⟩ = some (.bool d) ∧ W'.cell? ⟨w.heap.size + 1, 2, none⟩ = some (.bool i) ∧ W'.cell? ⟨w.heap.size + 1, 3, none⟩ = some (.bool g) ∧ W'.cell? ⟨w.heap.size + 1, 4, none⟩ = some (.bool true) from fun W' hb => by
    have h := (show KP xw.drew _ _ _ _ _ _ _ _ _ _ _ from K.out).keep hb (show _ < xw.heap.size by omega)
    exact ⟨h.1.get (i := 0) rfl, h.1.get (i := 1) rfl, h.1.get (i := 2) rfl, h.1.get (i := 3) rfl, h.1.get (i := 4) rfl, h.2.1.get (i := 0) rfl, h.2.1.get (i := 1) rfl, h.2.1.get (i := 2) rfl, h.2.1.get (i := 3) rfl, h.2.1.get (i := 4) rfl⟩)
  have hP1 := Lib.hid (show ∀ W' (x0 x1 x2 x3 x4 : Value), Below xw.drew.heap.size xw.drew W' → (((((W'.setCell ⟨xw.heap.size, 0, none⟩ x0).setCell ⟨xw.heap.size, 1, none⟩ x1).setCell ⟨xw.heap.size, 2, none⟩ x2).setCell ⟨xw.heap.size, 3, none⟩ x3).setCell ⟨xw.heap.size, 4, none⟩ x4).cell? ⟨w.heap.size, 0, none⟩ = some (.int .i64 13) ∧ (((((W'.setCell ⟨xw.heap.size, 0, none⟩ x0).setCell ⟨xw.heap.size, 1, none⟩ x1).setCell ⟨xw.heap.size, 2, none⟩ x2).setCell ⟨xw.heap.size, 3, none⟩ x3).setCell ⟨xw.heap.size, 4, none⟩ x4).cell? ⟨w.heap.size, 1, none⟩ = some (.int .i64 o) ∧ (((((W'.setCell ⟨xw.heap.size, 0, none⟩ x0).setCell ⟨xw.heap.size, 1, none⟩ x1).setCell ⟨xw.heap.size, 2, none⟩ x2).setCell ⟨xw.heap.size, 3, none⟩ x3).setCell ⟨xw.heap.size, 4, none⟩ x4).cell? ⟨w.heap.size, 2, none⟩ = some (.string t) ∧ (((((W'.setCell ⟨xw.heap.size, 0, none⟩ x0).setCell ⟨xw.heap.size, 1, none⟩ x1).setCell ⟨xw.heap.size, 2, none⟩ x2).setCell ⟨xw.heap.size, 3, none⟩ x3).setCell ⟨xw.heap.size, 4, none⟩ x4).cell? ⟨w.heap.size, 3, none⟩ = some (.string u) ∧ (((((W'.setCell ⟨xw.heap.size, 0, none⟩ x0).setCell ⟨xw.heap.size, 1, none⟩ x1).setCell ⟨xw.heap.size, 2, none⟩ x2).setCell ⟨xw.heap.size, 3, none⟩ x3).setCell ⟨xw.heap.size, 4, none⟩ x4).cell? ⟨w.heap.size, 4, none⟩ = some (.slice A n c) ∧ (((((W'.setCell ⟨xw.heap.size, 0, none⟩ x0).setCell ⟨xw.heap.size, 1, none⟩ x1).setCell ⟨xw.heap.size, 2, none⟩ x2).setCell ⟨xw.heap.size, 3, none⟩ x3).setCell ⟨xw.heap.size, 4, none⟩ x4).cell? ⟨w.heap.size + 1, 0, none⟩ = some (.int .i64 l) ∧ (((((W'.setCell ⟨xw.heap.size, 0, none⟩ x0).setCell ⟨xw.heap.size, 1, none⟩ x1).setCell ⟨xw.heap.size, 2, none⟩ x2).setCell ⟨xw.heap.size, 3, none⟩ x3).setCell ⟨xw.heap.size, 4, none⟩ x4).cell? ⟨w.heap.size + 1, 1, none⟩ = some (.bool d) ∧ (((((W'.setCell ⟨xw.heap.size, 0, none⟩ x0).setCell ⟨xw.heap.size, 1, none⟩ x1).setCell ⟨xw.heap.size, 2, none⟩ x2).setCell ⟨xw.heap.size, 3, none⟩ x3).setCell ⟨xw.heap.size, 4, none⟩ x4).cell? ⟨w.heap.size + 1, 2, none⟩ = some (.bool i) ∧ (((((W'.setCell ⟨xw.heap.size, 0, none⟩ x0).setCell ⟨xw.heap.size, 1, none⟩ x1).setCell ⟨xw.heap.size, 2, none⟩ x2).setCell ⟨xw.heap.size, 3, none⟩ x3).setCell ⟨xw.heap.size, 4, none⟩ x4).cell? ⟨w.heap.size + 1, 3, none⟩ = some (.bool g) ∧ (((((W'.setCell ⟨xw.heap.size, 0, none⟩ x0).setCell ⟨xw.heap.size, 1, none⟩ x1).setCell ⟨xw.heap.size, 2, none⟩ x2).setCell ⟨xw.heap.size, 3, none⟩ x3).setCell ⟨xw.heap.size, 4, none⟩ x4).cell? ⟨w.heap.size + 1, 4, none⟩ = some (.bool true) from fun W' x0 x1 x2 x3 x4 hb => by
    have h := ((show KP xw.drew _ _ _ _ _ _ _ _ _ _ _ from K.out).keep hb (show _ < xw.heap.size by omega)).putF (x := xw.heap.size) (by omega) x0 x1 x2 x3 x4
    exact ⟨h.1.get (i := 0) rfl, h.1.get (i := 1) rfl, h.1.get (i := 2) rfl, h.1.get (i := 3) rfl, h.1.get (i := 4) rfl, h.2.1.get (i := 0) rfl, h.2.1.get (i := 1) rfl, h.2.1.get (i := 2) rfl, h.2.1.get (i := 3) rfl, h.2.1.get (i := 4) rfl⟩)
  have TX := Lib.hid (Has.made xw 28 #[.int .i64 0, .bool false, .bool false, .bool false, .bool false])
  have hXs : (xw.alloc (.cells #[.int .i64 0, .bool false, .bool false, .bool false, .bool false] 28)).heap.size = xw.heap.size + 1 := by simp
  clear n0 n1 n2 n3 n4 p0 p1 p2 p3 p4 r0 r1 r2 r3 r4 f0 f1 f2 f3 f4 hz
  go_region_held3 (fun W => W.cell? ⟨w.heap.size, 0, none⟩ = some (.int .i64 13) ∧ W.cell? ⟨w.heap.size, 1, none⟩ = some (.int .i64 o) ∧ W.cell? ⟨w.heap.size, 2, none⟩ = some (.string t) ∧ W.cell? ⟨w.heap.size, 3, none⟩ = some (.string u) ∧ W.cell? ⟨w.heap.size, 4, none⟩ = some (.slice A n c) ∧ W.cell? ⟨w.heap.size + 1, 0, none⟩ = some (.int .i64 l) ∧ W.cell? ⟨w.heap.size + 1, 1, none⟩ = some (.bool d) ∧ W.cell? ⟨w.heap.size + 1, 2, none⟩ = some (.bool i) ∧ W.cell? ⟨w.heap.size + 1, 3, none⟩ = some (.bool g) ∧ W.cell? ⟨w.heap.size + 1, 4, none⟩ = some (.bool true)) (first | (with_reducible (exact hkH.out _ bacc)) | (with_reducible (exact hkH.out _ bal)) | (with_reducible (exact hP1.out _ _ _ _ _ _ bacc)) | (with_reducible (exact hkH.out _ (bacc.alloc bacc.size _))) | exact hkH.out _ bacc) (first
    | ((go_at_call 24; refine (i_kidLevel 13 o t u A n c k _ (by omega)).mono ?_; rintro e x4 ⟨rfl, hb⟩; rw [hkl.out]; first
      | (have bacc := Below.trans bacc (hb.mono bacc.size); clear hb)
      | (have T4 := Lib.hid ((show Has (xw.alloc (.cells #[.int .i64 0, .bool false, .bool false, .bool false, .bool false] 28)).drew xw.heap.size _ _ from TX.out).below hb (show _ < (xw.alloc (.cells #[.int .i64 0, .bool false, .bool false, .bool false, .bool false] 28)).heap.size by omega)); have bacc := Below.trans bal (hb.mono bal.size); clear hb; have y0 := T4.out.get (i := 0) rfl; have y1 := T4.out.get (i := 1) rfl; have y2 := T4.out.get (i := 2) rfl; have y3 := T4.out.get (i := 3) rfl; have y4 := T4.out.get (i := 4) rfl; have q0 := T4.out.free 0; have q1 := T4.out.free 1; have q2 := T4.out.free 2; have q3 := T4.out.free 3; have q4 := T4.out.free 4; have ht4 := T4.out.lt))))
  · have hb4 : Below xw.heap.size xw x4 := ⟨bacc.os, bacc.tape, bacc.output, bacc.size, bacc.block⟩
    have hx4 : w.heap.size + 3 ≤ x4.heap.size := Nat.le_trans z.out hb4.size
    have T := Lib.hid (Has.made x4 28 #[.int .i64 LV, .bool false, .bool i, .bool g, .bool false])
    have K := Lib.hid ((K.out.keep hb4 (by omega)).keep ((Below.refl x4.heap.size x4).alloc (Nat.le_refl _) (.cells #[.int .i64 LV, .bool false, .bool i, .bool g, .bool false] 28)) (by omega))
    have B := Lib.hid ((B.out.trans (hb4.mono B.out.size)).alloc (Nat.le_trans B.out.size hb4.size) (.cells #[.int .i64 LV, .bool false, .bool i, .bool g, .bool false] 28))
    obtain ⟨W5, hW5⟩ : ∃ W, x4.alloc (.cells #[.int .i64 LV, .bool false, .bool i, .bool g, .bool false] 28) = W := ⟨_, rfl⟩
    rw [hW5] at T K B ⊢
    clear hW5 bacc bal hkH hP1 hb4
    have n0 := K.out.1.get (i := 0) rfl
    have n1 := K.out.1.get (i := 1) rfl
    have n2 := K.out.1.get (i := 2) rfl
    have n3 := K.out.1.get (i := 3) rfl
    have n4 := K.out.1.get (i := 4) rfl
    have p0 := K.out.2.1.get (i := 0) rfl
    have p1 := K.out.2.1.get (i := 1) rfl
    have p2 := K.out.2.1.get (i := 2) rfl
    have p3 := K.out.2.1.get (i := 3) rfl
    have p4 := K.out.2.1.get (i := 4) rfl
    have r0 := K.out.2.2.get (i := 0) rfl
    have r1 := K.out.2.2.get (i := 1) rfl
    have r2 := K.out.2.2.get (i := 2) rfl
    have r3 := K.out.2.2.get (i := 3) rfl
    have r4 := K.out.2.2.get (i := 4) rfl
    have f0 := K.out.2.2.free 0
    have f1 := K.out.2.2.free 1
    have f2 := K.out.2.2.free 2
    have f3 := K.out.2.2.free 3
    have f4 := K.out.2.2.free 4
    have t0 := T.out.get (i := 0) rfl
    have t1 := T.out.get (i := 1) rfl
    have t2 := T.out.get (i := 2) rfl
    have t3 := T.out.get (i := 3) rfl
    have t4 := T.out.get (i := 4) rfl
    have g4 := T.out.free 4
    have hlt5 := T.out.lt
    go_wp2_with fail
    exact bodyPost_ret (v := posV ⟨LV, false, i, g, true⟩) (by simp [results, Try.results14, go_sem, posV, r0, r1, r2, r3, r4, t0, t1, t2, t3, t4]) rfl (posV_eq HEQ.out (below_putF (B.out.setCell (p := ⟨x4.heap.size, 4, none⟩) (show w.heap.size ≤ x4.heap.size by omega) _) (by omega) _ _ _ _ _))
  · have hb4 : Below xw.heap.size xw x4 := ⟨bacc.os, bacc.tape, bacc.output, bacc.size, bacc.block⟩
    have hx4 : w.heap.size + 3 ≤ x4.heap.size := Nat.le_trans z.out hb4.size
    have T := Lib.hid (show Has (((((x4.setCell ⟨xw.heap.size, 0, none⟩ (.int .i64 LV)).setCell ⟨xw.heap.size, 1, none⟩ (.bool false)).setCell ⟨xw.heap.size, 2, none⟩ (.bool i)).setCell ⟨xw.heap.size, 3, none⟩ (.bool g)).setCell ⟨xw.heap.size, 4, none⟩ (.bool false)) xw.heap.size _ _ from T4.out.putF (.int .i64 LV) (.bool false) (.bool i) (.bool g) (.bool false))
    have K := Lib.hid (show KP (((((x4.setCell ⟨xw.heap.size, 0, none⟩ (.int .i64 LV)).setCell ⟨xw.heap.size, 1, none⟩ (.bool false)).setCell ⟨xw.heap.size, 2, none⟩ (.bool i)).setCell ⟨xw.heap.size, 3, none⟩ (.bool g)).setCell ⟨xw.heap.size, 4, none⟩ (.bool false)) _ _ _ _ _ _ _ _ _ _ _ from (K.out.keep hb4 (by omega)).putF (x := xw.heap.size) (by omega) (.int .i64 LV) (.bool false) (.bool i) (.bool g) (.bool false))
    have B := Lib.hid (show Below w.heap.size w (((((x4.setCell ⟨xw.heap.size, 0, none⟩ (.int .i64 LV)).setCell ⟨xw.heap.size, 1, none⟩ (.bool false)).setCell ⟨xw.heap.size, 2, none⟩ (.bool i)).setCell ⟨xw.heap.size, 3, none⟩ (.bool g)).setCell ⟨xw.heap.size, 4, none⟩ (.bool false)) from below_putF (B.out.trans (hb4.mono B.out.size)) (show w.heap.size ≤ xw.heap.size from B.out.size) _ _ _ _ _)
    obtain ⟨W5, hW5⟩ : ∃ W, (((((x4.setCell ⟨xw.heap.size, 0, none⟩ (.int .i64 LV)).setCell ⟨xw.heap.size, 1, none⟩ (.bool false)).setCell ⟨xw.heap.size, 2, none⟩ (.bool i)).setCell ⟨xw.heap.size, 3, none⟩ (.bool g)).setCell ⟨xw.heap.size, 4, none⟩ (.bool false)) = W := ⟨_, rfl⟩
    rw [hW5] at T K B ⊢
    clear hW5 bacc bal hkH hP1 hb4 y0 y1 y2 y3 y4 q0 q1 q2 q3 q4 T4
    have n0 := K.out.1.get (i := 0) rfl
    have n1 := K.out.1.get (i := 1) rfl
    have n2 := K.out.1.get (i := 2) rfl
    have n3 := K.out.1.get (i := 3) rfl
    have n4 := K.out.1.get (i := 4) rfl
    have p0 := K.out.2.1.get (i := 0) rfl
    have p1 := K.out.2.1.get (i := 1) rfl
    have p2 := K.out.2.1.get (i := 2) rfl
    have p3 := K.out.2.1.get (i := 3) rfl
    have p4 := K.out.2.1.get (i := 4) rfl
    have r0 := K.out.2.2.get (i := 0) rfl
    have r1 := K.out.2.2.get (i := 1) rfl
    have r2 := K.out.2.2.get (i := 2) rfl
    have r3 := K.out.2.2.get (i := 3) rfl
    have r4 := K.out.2.2.get (i := 4) rfl
    have f0 := K.out.2.2.free 0
    have f1 := K.out.2.2.free 1
    have f2 := K.out.2.2.free 2
    have f3 := K.out.2.2.free 3
    have f4 := K.out.2.2.free 4
    have t0 := T.out.get (i := 0) rfl
    have t1 := T.out.get (i := 1) rfl
    have t2 := T.out.get (i := 2) rfl
    have t3 := T.out.get (i := 3) rfl
    have t4 := T.out.get (i := 4) rfl
    have g4 := T.out.free 4
    have hlt5 := T.out.lt
    go_wp2_with fail
    exact bodyPost_ret (v := posV ⟨LV, false, i, g, true⟩) (by simp [results, Try.results14, go_sem, posV, r0, r1, r2, r3, r4, t0, t1, t2, t3, t4]) rfl (posV_eq HEQ.out (below_putF (B.out.setCell (p := ⟨xw.heap.size, 4, none⟩) (show w.heap.size ≤ xw.heap.size by omega) _) (by omega) _ _ _ _ _))
set_option maxRecDepth 100000 in
set_option maxHeartbeats 4000000 in
theorem i_kidPos_13_0f (o : Int) (t u : ByteArray) (A : Option Addr) (n c k : Nat) (l : Int) (d i g : Bool) (w : World) (hn : n ≤ 8) (hkn : k < n) (hpo : posOk l d = true) (hk : k = 0) (hn1 : n = 1) : Calls Try.prog 14 #[.agg #[.int .i64 13, .int .i64 o, .string t, .string u, .slice A n c], .int .i64 (k : Int), .agg #[.int .i64 l, .bool d, .bool i, .bool g, .bool false]] w (RetPosV w (kidQ 13 o n k ⟨l, d, i, g, false⟩)) := by
  have hL := Lib.hid (show levelOf 13 o = 5 from rfl)
  have K := Lib.hid (KP.made w 13 o t u (.slice A n c) l d i g false)
  have B := Lib.hid (kpW_below w 13 o t u (.slice A n c) l d i g false)
  have z := Lib.hid (show w.heap.size + 3 ≤ (kpW w 13 o t u (.slice A n c) l d i g false).heap.size by rw [kpW_size]; exact Nat.le_refl _)
  unfold kpW at K B z
  have n0 := K.out.1.get (i := 0) rfl
  have n1 := K.out.1.get (i := 1) rfl
  have n2 := K.out.1.get (i := 2) rfl
  have n3 := K.out.1.get (i := 3) rfl
  have n4 := K.out.1.get (i := 4) rfl
  have p0 := K.out.2.1.get (i := 0) rfl
  have p1 := K.out.2.1.get (i := 1) rfl
  have p2 := K.out.2.1.get (i := 2) rfl
  have p3 := K.out.2.1.get (i := 3) rfl
  have p4 := K.out.2.1.get (i := 4) rfl
  have r0 := K.out.2.2.get (i := 0) rfl
  have r1 := K.out.2.2.get (i := 1) rfl
  have r2 := K.out.2.2.get (i := 2) rfl
  have r3 := K.out.2.2.get (i := 3) rfl
  have r4 := K.out.2.2.get (i := 4) rfl
  have f0 := K.out.2.2.free 0
  have f1 := K.out.2.2.free 1
  have f2 := K.out.2.2.free 2
  have f3 := K.out.2.2.free 3
  have f4 := K.out.2.2.free 4
  have hin := Lib.hid (show inB (k : Int) 0 ((n : Int) - 1) = true by unfold inB; simp; omega)
  have hpo := Lib.hid hpo
  have hkz : ((k : Int) == 0) = true := by simp; omega
  have hk1 : ((k : Int) == 1) = false := by simp; omega
  have hgt : decide (1 < (n : Int)) = false := by simp; omega
  obtain ⟨LV, hLV⟩ : ∃ LV, kidLevelP 13 o k = LV := ⟨_, rfl⟩
  have hkl := Lib.hid hLV
  have HEQ : kidQ 13 o n k ⟨l, d, i, g, false⟩ = ⟨LV, false, i, g, false⟩ := by
    unfold kidQ
    rw [hLV, if_neg (by rw [hL.out]; omega)]
    rw [if_neg (by decide)]
    rw [if_pos hk]
    rfl
  have HEQ := Lib.hid HEQ
  clear hLV
  have hkH := Lib.hid hk
  clear hk
  have hn1H := Lib.hid hn1
  clear hn1
  go_enter Try.func14, Try.ntmps14
  go_wp2_with (first
      | (go_at_call 12; refine (i_posOk l d i g false _).mono ?_; rintro e xw ⟨rfl, hb⟩; rw [hpo.out]; clear n0 n1 n2 n3 n4 p0 p1 p2 p3 p4 r0 r1 r2 r3 r4 f0 f1 f2 f3 f4; have K := Lib.hid (K.out.keep hb (by have := z.out; omega)); have B := Lib.hid (B.out.trans (hb.mono B.out.size)); have z := Lib.hid (Nat.le_trans z.out hb.size); clear hb; have n0 := K.out.1.get (i := 0) rfl; have n1 := K.out.1.get (i := 1) rfl; have n2 := K.out.1.get (i := 2) rfl; have n3 := K.out.1.get (i := 3) rfl; have n4 := K.out.1.get (i := 4) rfl; have p0 := K.out.2.1.get (i := 0) rfl; have p1 := K.out.2.1.get (i := 1) rfl; have p2 := K.out.2.1.get (i := 2) rfl; have p3 := K.out.2.1.get (i := 3) rfl; have p4 := K.out.2.1.get (i := 4) rfl; have r0 := K.out.2.2.get (i := 0) rfl; have r1 := K.out.2.2.get (i := 1) rfl; have r2 := K.out.2.2.get (i := 2) rfl; have r3 := K.out.2.2.get (i := 3) rfl; have r4 := K.out.2.2.get (i := 4) rfl; have f0 := K.out.2.2.free 0; have f1 := K.out.2.2.free 1; have f2 := K.out.2.2.free 2; have f3 := K.out.2.2.free 3; have f4 := K.out.2.2.free 4; have hz := z.out)
      | (go_at_call 21; refine (i_within _ _ _ _).mono ?_; rintro e w' ⟨rfl, rfl⟩; rw [hin.out])
      | (go_at_call 11; refine (i_levelOf 13 o t u A n c _).mono ?_; rintro e xw ⟨rfl, hb⟩; rw [hL.out]; clear n0 n1 n2 n3 n4 p0 p1 p2 p3 p4 r0 r1 r2 r3 r4 f0 f1 f2 f3 f4; have K := Lib.hid (K.out.keep hb (by have := z.out; omega)); have B := Lib.hid (B.out.trans (hb.mono B.out.size)); have z := Lib.hid (Nat.le_trans z.out hb.size); clear hb; have n0 := K.out.1.get (i := 0) rfl; have n1 := K.out.1.get (i := 1) rfl; have n2 := K.out.1.get (i := 2) rfl; have n3 := K.out.1.get (i := 3) rfl; have n4 := K.out.1.get (i := 4) rfl; have p0 := K.out.2.1.get (i := 0) rfl; have p1 := K.out.2.1.get (i := 1) rfl; have p2 := K.out.2.1.get (i := 2) rfl; have p3 := K.out.2.1.get (i := 3) rfl; have p4 := K.out.2.1.get (i := 4) rfl; have r0 := K.out.2.2.get (i := 0) rfl; have r1 := K.out.2.2.get (i := 1) rfl; have r2 := K.out.2.2.get (i := 2) rfl; have r3 := K.out.2.2.get (i := 3) rfl; have r4 := K.out.2.2.get (i := 4) rfl; have f0 := K.out.2.2.free 0; have f1 := K.out.2.2.free 1; have f2 := K.out.2.2.free 2; have f3 := K.out.2.2.free 3; have f4 := K.out.2.2.free 4; have hz := z.out))
  have hzs := z.out
  have bacc : Below xw.drew.heap.size xw.drew xw.drew := Below.refl _ _
  have bal0 := (Below.refl xw.heap.size xw).alloc (Nat.le_refl _) (.cells #[.int .i64 0, .bool false, .bool false, .bool false, .bool false] 28)
  have bal : Below xw.drew.heap.size xw.drew (xw.alloc (.cells #[.int .i64 0, .bool false, .bool false, .bool false, .bool false] 28)).drew := ⟨bal0.os, bal0.tape, bal0.output, bal0.size, bal0.block⟩
  clear bal0
  have hkH := Lib.hid (show ∀ W', Below xw.drew.heap.size xw.drew W' → W'.cell? ⟨w.heap.size, 0, none⟩ = some (.int .i64 13) ∧ W'.cell? ⟨w.heap.size, 1, none⟩ = some (.int .i64 o) ∧ W'.cell? ⟨w.heap.size, 2, none⟩ = some (.string t) ∧ W'.cell? ⟨w.heap.size, 3, none⟩ = some (.string u) ∧ W'.cell? ⟨w.heap.size, 4, none⟩ = some (.slice A n c) ∧ W'.cell? ⟨w.heap.size + 1, 0, none⟩ = some (.int .i64 l) ∧ W'.cell? ⟨w.heap.size + 1, 1, none⟩ = some (.bool d) ∧ W'.cell? ⟨w.heap.size + 1, 2, none⟩ = some (.bool i) ∧ W'.cell? ⟨w.heap.size + 1, 3, none⟩ = some (.bool g) ∧ W'.cell? ⟨w.heap.size + 1, 4, none⟩ = some (.bool false) from fun W' hb => by
    have h := (show KP xw.drew _ _ _ _ _ _ _ _ _ _ _ from K.out).keep hb (show _ < xw.heap.size by omega)
    exact ⟨h.1.get (i := 0) rfl, h.1.get (i := 1) rfl, h.1.get (i := 2) rfl, h.1.get (i := 3) rfl, h.1.get (i := 4) rfl, h.2.1.get (i := 0) rfl, h.2.1.get (i := 1) rfl, h.2.1.get (i := 2) rfl, h.2.1.get (i := 3) rfl, h.2.1.get (i := 4) rfl⟩)
  have hP1 := Lib.hid (show ∀ W' (x0 x1 x2 x3 x4 : Value), Below xw.drew.heap.size xw.drew W' → (((((W'.setCell ⟨xw.heap.size, 0, none⟩ x0).setCell ⟨xw.heap.size, 1, none⟩ x1).setCell ⟨xw.heap.size, 2, none⟩ x2).setCell ⟨xw.heap.size, 3, none⟩ x3).setCell ⟨xw.heap.size, 4, none⟩ x4).cell? ⟨w.heap.size, 0, none⟩ = some (.int .i64 13) ∧ (((((W'.setCell ⟨xw.heap.size, 0, none⟩ x0).setCell ⟨xw.heap.size, 1, none⟩ x1).setCell ⟨xw.heap.size, 2, none⟩ x2).setCell ⟨xw.heap.size, 3, none⟩ x3).setCell ⟨xw.heap.size, 4, none⟩ x4).cell? ⟨w.heap.size, 1, none⟩ = some (.int .i64 o) ∧ (((((W'.setCell ⟨xw.heap.size, 0, none⟩ x0).setCell ⟨xw.heap.size, 1, none⟩ x1).setCell ⟨xw.heap.size, 2, none⟩ x2).setCell ⟨xw.heap.size, 3, none⟩ x3).setCell ⟨xw.heap.size, 4, none⟩ x4).cell? ⟨w.heap.size, 2, none⟩ = some (.string t) ∧ (((((W'.setCell ⟨xw.heap.size, 0, none⟩ x0).setCell ⟨xw.heap.size, 1, none⟩ x1).setCell ⟨xw.heap.size, 2, none⟩ x2).setCell ⟨xw.heap.size, 3, none⟩ x3).setCell ⟨xw.heap.size, 4, none⟩ x4).cell? ⟨w.heap.size, 3, none⟩ = some (.string u) ∧ (((((W'.setCell ⟨xw.heap.size, 0, none⟩ x0).setCell ⟨xw.heap.size, 1, none⟩ x1).setCell ⟨xw.heap.size, 2, none⟩ x2).setCell ⟨xw.heap.size, 3, none⟩ x3).setCell ⟨xw.heap.size, 4, none⟩ x4).cell? ⟨w.heap.size, 4, none⟩ = some (.slice A n c) ∧ (((((W'.setCell ⟨xw.heap.size, 0, none⟩ x0).setCell ⟨xw.heap.size, 1, none⟩ x1).setCell ⟨xw.heap.size, 2, none⟩ x2).setCell ⟨xw.heap.size, 3, none⟩ x3).setCell ⟨xw.heap.size, 4, none⟩ x4).cell? ⟨w.heap.size + 1, 0, none⟩ = some (.int .i64 l) ∧ (((((W'.setCell ⟨xw.heap.size, 0, none⟩ x0).setCell ⟨xw.heap.size, 1, none⟩ x1).setCell ⟨xw.heap.size, 2, none⟩ x2).setCell ⟨xw.heap.size, 3, none⟩ x3).setCell ⟨xw.heap.size, 4, none⟩ x4).cell? ⟨w.heap.size + 1, 1, none⟩ = some (.bool d) ∧ (((((W'.setCell ⟨xw.heap.size, 0, none⟩ x0).setCell ⟨xw.heap.size, 1, none⟩ x1).setCell ⟨xw.heap.size, 2, none⟩ x2).setCell ⟨xw.heap.size, 3, none⟩ x3).setCell ⟨xw.heap.size, 4, none⟩ x4).cell? ⟨w.heap.size + 1, 2, none⟩ = some (.bool i) ∧ (((((W'.setCell ⟨xw.heap.size, 0, none⟩ x0).setCell ⟨xw.heap.size, 1, none⟩ x1).setCell ⟨xw.heap.size, 2, none⟩ x2).setCell ⟨xw.heap.size, 3, none⟩ x3).setCell ⟨xw.heap.size, 4, none⟩ x4).cell? ⟨w.heap.size + 1, 3, none⟩ = some (.bool g) ∧ (((((W'.setCell ⟨xw.heap.size, 0, none⟩ x0).setCell ⟨xw.heap.size, 1, none⟩ x1).setCell ⟨xw.heap.size, 2, none⟩ x2).setCell ⟨xw.heap.size, 3, none⟩ x3).setCell ⟨xw.heap.size, 4, none⟩ x4).cell? ⟨w.heap.size + 1, 4, none⟩ = some (.bool false) from fun W' x0 x1 x2 x3 x4 hb => by
    have h := ((show KP xw.drew _ _ _ _ _ _ _ _ _ _ _ from K.out).keep hb (show _ < xw.heap.size by omega)).putF (x := xw.heap.size) (by omega) x0 x1 x2 x3 x4
    exact ⟨h.1.get (i := 0) rfl, h.1.get (i := 1) rfl, h.1.get (i := 2) rfl, h.1.get (i := 3) rfl, h.1.get (i := 4) rfl, h.2.1.get (i := 0) rfl, h.2.1.get (i := 1) rfl, h.2.1.get (i := 2) rfl, h.2.1.get (i := 3) rfl, h.2.1.get (i := 4) rfl⟩)
  have TX := Lib.hid (Has.made xw 28 #[.int .i64 0, .bool false, .bool false, .bool false, .bool false])
  have hXs : (xw.alloc (.cells #[.int .i64 0, .bool false, .bool false, .bool false, .bool false] 28)).heap.size = xw.heap.size + 1 := by simp
  clear n0 n1 n2 n3 n4 p0 p1 p2 p3 p4 r0 r1 r2 r3 r4 f0 f1 f2 f3 f4 hz
  go_region_held3 (fun W => W.cell? ⟨w.heap.size, 0, none⟩ = some (.int .i64 13) ∧ W.cell? ⟨w.heap.size, 1, none⟩ = some (.int .i64 o) ∧ W.cell? ⟨w.heap.size, 2, none⟩ = some (.string t) ∧ W.cell? ⟨w.heap.size, 3, none⟩ = some (.string u) ∧ W.cell? ⟨w.heap.size, 4, none⟩ = some (.slice A n c) ∧ W.cell? ⟨w.heap.size + 1, 0, none⟩ = some (.int .i64 l) ∧ W.cell? ⟨w.heap.size + 1, 1, none⟩ = some (.bool d) ∧ W.cell? ⟨w.heap.size + 1, 2, none⟩ = some (.bool i) ∧ W.cell? ⟨w.heap.size + 1, 3, none⟩ = some (.bool g) ∧ W.cell? ⟨w.heap.size + 1, 4, none⟩ = some (.bool false)) (first | (with_reducible (exact hkH.out _ bacc)) | (with_reducible (exact hkH.out _ bal)) | (with_reducible (exact hP1.out _ _ _ _ _ _ bacc)) | (with_reducible (exact hkH.out _ (bacc.alloc bacc.size _))) | exact hkH.out _ bacc) (first
    | ((go_at_call 24; refine (i_kidLevel 13 o t u A n c k _ (by omega)).mono ?_; rintro e x4 ⟨rfl, hb⟩; rw [hkl.out]; first
      | (have bacc := Below.trans bacc (hb.mono bacc.size); clear hb)
      | (have T4 := Lib.hid ((show Has (xw.alloc (.cells #[.int .i64 0, .bool false, .bool false, .bool false, .bool false] 28)).drew xw.heap.size _ _ from TX.out).below hb (show _ < (xw.alloc (.cells #[.int .i64 0, .bool false, .bool false, .bool false, .bool false] 28)).heap.size by omega)); have bacc := Below.trans bal (hb.mono bal.size); clear hb; have y0 := T4.out.get (i := 0) rfl; have y1 := T4.out.get (i := 1) rfl; have y2 := T4.out.get (i := 2) rfl; have y3 := T4.out.get (i := 3) rfl; have y4 := T4.out.get (i := 4) rfl; have q0 := T4.out.free 0; have q1 := T4.out.free 1; have q2 := T4.out.free 2; have q3 := T4.out.free 3; have q4 := T4.out.free 4; have ht4 := T4.out.lt))))
  · have hb4 : Below xw.heap.size xw x4 := ⟨bacc.os, bacc.tape, bacc.output, bacc.size, bacc.block⟩
    have hx4 : w.heap.size + 3 ≤ x4.heap.size := Nat.le_trans z.out hb4.size
    have T := Lib.hid (Has.made x4 28 #[.int .i64 LV, .bool false, .bool i, .bool g, .bool false])
    have K := Lib.hid ((K.out.keep hb4 (by omega)).keep ((Below.refl x4.heap.size x4).alloc (Nat.le_refl _) (.cells #[.int .i64 LV, .bool false, .bool i, .bool g, .bool false] 28)) (by omega))
    have B := Lib.hid ((B.out.trans (hb4.mono B.out.size)).alloc (Nat.le_trans B.out.size hb4.size) (.cells #[.int .i64 LV, .bool false, .bool i, .bool g, .bool false] 28))
    obtain ⟨W5, hW5⟩ : ∃ W, x4.alloc (.cells #[.int .i64 LV, .bool false, .bool i, .bool g, .bool false] 28) = W := ⟨_, rfl⟩
    rw [hW5] at T K B ⊢
    clear hW5 bacc bal hkH hP1 hb4
    have n0 := K.out.1.get (i := 0) rfl
    have n1 := K.out.1.get (i := 1) rfl
    have n2 := K.out.1.get (i := 2) rfl
    have n3 := K.out.1.get (i := 3) rfl
    have n4 := K.out.1.get (i := 4) rfl
    have p0 := K.out.2.1.get (i := 0) rfl
    have p1 := K.out.2.1.get (i := 1) rfl
    have p2 := K.out.2.1.get (i := 2) rfl
    have p3 := K.out.2.1.get (i := 3) rfl
    have p4 := K.out.2.1.get (i := 4) rfl
    have r0 := K.out.2.2.get (i := 0) rfl
    have r1 := K.out.2.2.get (i := 1) rfl
    have r2 := K.out.2.2.get (i := 2) rfl
    have r3 := K.out.2.2.get (i := 3) rfl
    have r4 := K.out.2.2.get (i := 4) rfl
    have f0 := K.out.2.2.free 0
    have f1 := K.out.2.2.free 1
    have f2 := K.out.2.2.free 2
    have f3 := K.out.2.2.free 3
    have f4 := K.out.2.2.free 4
    have t0 := T.out.get (i := 0) rfl
    have t1 := T.out.get (i := 1) rfl
    have t2 := T.out.get (i := 2) rfl
    have t3 := T.out.get (i := 3) rfl
    have t4 := T.out.get (i := 4) rfl
    have g4 := T.out.free 4
    have hlt5 := T.out.lt
    go_wp2_with fail
    exact bodyPost_ret (v := posV ⟨LV, false, i, g, false⟩) (by simp [results, Try.results14, go_sem, posV, r0, r1, r2, r3, r4, t0, t1, t2, t3, t4]) rfl (posV_eq HEQ.out (below_putF (B.out.setCell (p := ⟨x4.heap.size, 4, none⟩) (show w.heap.size ≤ x4.heap.size by omega) _) (by omega) _ _ _ _ _))
  · have hb4 : Below xw.heap.size xw x4 := ⟨bacc.os, bacc.tape, bacc.output, bacc.size, bacc.block⟩
    have hx4 : w.heap.size + 3 ≤ x4.heap.size := Nat.le_trans z.out hb4.size
    have T := Lib.hid (show Has (((((x4.setCell ⟨xw.heap.size, 0, none⟩ (.int .i64 LV)).setCell ⟨xw.heap.size, 1, none⟩ (.bool false)).setCell ⟨xw.heap.size, 2, none⟩ (.bool i)).setCell ⟨xw.heap.size, 3, none⟩ (.bool g)).setCell ⟨xw.heap.size, 4, none⟩ (.bool false)) xw.heap.size _ _ from T4.out.putF (.int .i64 LV) (.bool false) (.bool i) (.bool g) (.bool false))
    have K := Lib.hid (show KP (((((x4.setCell ⟨xw.heap.size, 0, none⟩ (.int .i64 LV)).setCell ⟨xw.heap.size, 1, none⟩ (.bool false)).setCell ⟨xw.heap.size, 2, none⟩ (.bool i)).setCell ⟨xw.heap.size, 3, none⟩ (.bool g)).setCell ⟨xw.heap.size, 4, none⟩ (.bool false)) _ _ _ _ _ _ _ _ _ _ _ from (K.out.keep hb4 (by omega)).putF (x := xw.heap.size) (by omega) (.int .i64 LV) (.bool false) (.bool i) (.bool g) (.bool false))
    have B := Lib.hid (show Below w.heap.size w (((((x4.setCell ⟨xw.heap.size, 0, none⟩ (.int .i64 LV)).setCell ⟨xw.heap.size, 1, none⟩ (.bool false)).setCell ⟨xw.heap.size, 2, none⟩ (.bool i)).setCell ⟨xw.heap.size, 3, none⟩ (.bool g)).setCell ⟨xw.heap.size, 4, none⟩ (.bool false)) from below_putF (B.out.trans (hb4.mono B.out.size)) (show w.heap.size ≤ xw.heap.size from B.out.size) _ _ _ _ _)
    obtain ⟨W5, hW5⟩ : ∃ W, (((((x4.setCell ⟨xw.heap.size, 0, none⟩ (.int .i64 LV)).setCell ⟨xw.heap.size, 1, none⟩ (.bool false)).setCell ⟨xw.heap.size, 2, none⟩ (.bool i)).setCell ⟨xw.heap.size, 3, none⟩ (.bool g)).setCell ⟨xw.heap.size, 4, none⟩ (.bool false)) = W := ⟨_, rfl⟩
    rw [hW5] at T K B ⊢
    clear hW5 bacc bal hkH hP1 hb4 y0 y1 y2 y3 y4 q0 q1 q2 q3 q4 T4
    have n0 := K.out.1.get (i := 0) rfl
    have n1 := K.out.1.get (i := 1) rfl
    have n2 := K.out.1.get (i := 2) rfl
    have n3 := K.out.1.get (i := 3) rfl
    have n4 := K.out.1.get (i := 4) rfl
    have p0 := K.out.2.1.get (i := 0) rfl
    have p1 := K.out.2.1.get (i := 1) rfl
    have p2 := K.out.2.1.get (i := 2) rfl
    have p3 := K.out.2.1.get (i := 3) rfl
    have p4 := K.out.2.1.get (i := 4) rfl
    have r0 := K.out.2.2.get (i := 0) rfl
    have r1 := K.out.2.2.get (i := 1) rfl
    have r2 := K.out.2.2.get (i := 2) rfl
    have r3 := K.out.2.2.get (i := 3) rfl
    have r4 := K.out.2.2.get (i := 4) rfl
    have f0 := K.out.2.2.free 0
    have f1 := K.out.2.2.free 1
    have f2 := K.out.2.2.free 2
    have f3 := K.out.2.2.free 3
    have f4 := K.out.2.2.free 4
    have t0 := T.out.get (i := 0) rfl
    have t1 := T.out.get (i := 1) rfl
    have t2 := T.out.get (i := 2) rfl
    have t3 := T.out.get (i := 3) rfl
    have t4 := T.out.get (i := 4) rfl
    have g4 := T.out.free 4
    have hlt5 := T.out.lt
    go_wp2_with fail
    exact bodyPost_ret (v := posV ⟨LV, false, i, g, false⟩) (by simp [results, Try.results14, go_sem, posV, r0, r1, r2, r3, r4, t0, t1, t2, t3, t4]) rfl (posV_eq HEQ.out (below_putF (B.out.setCell (p := ⟨xw.heap.size, 4, none⟩) (show w.heap.size ≤ xw.heap.size by omega) _) (by omega) _ _ _ _ _))
end Go.Proofs.Ytlabmboedjnpmaa
