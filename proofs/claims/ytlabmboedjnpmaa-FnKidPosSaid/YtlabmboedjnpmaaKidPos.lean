/- The position of a kid: KidPos of the program and of the reference (walks; printed by gen_kidpos.py). -/
import Derived.Test.YtlabmboedjnpmaaDrawFits
import Derived.Test.YtlabmboedjnpmaaLawsLevel
import Derived.Test.YtlabmboedjnpmaaPos
namespace Go.Proofs.Ytlabmboedjnpmaa
open Go.RowKit
set_option linter.unusedVariables false
set_option linter.unusedSimpArgs false

/-- the levels of the two sides of an operator, by its own -/
def sideA (L : Int) : Int := if L = 3 then 3 else if L = 4 then 4 else if L = 6 then 7 else if L = 7 then 8 else if L = 8 then 8 else if L = 9 then 9 else if L = 10 then 10 else 13
def sideB (L : Int) : Int := if L = 3 then 4 else if L = 4 then 5 else if L = 6 then 7 else if L = 7 then 8 else if L = 8 then 9 else if L = 9 then 10 else if L = 10 then 11 else 11
def kidLevelP (kind op : Int) (k : Nat) : Int :=
  if kind = 15 then (if k = 0 then 14 else 1) else if kind = 14 then (if k = 0 then 3 else 2) else if kind = 13 then 5 else if kind = 11 then 11 else if kind = 12 then (if k = 0 then sideA (opLevel op) else sideB (opLevel op)) else 14
/-- is there a position of the kid? -/
def kidPosB (kind op : Int) (n k : Nat) (p : PPos) : Bool := posOk p.level p.dollar && decide (k < n) && !(levelOf kind op == 0)
def topP : PPos := ⟨1, false, false, false, false⟩
/-- where there is one -/
def kidQ (kind op : Int) (n k : Nat) (p : PPos) : PPos :=
  if kind = 13 ∧ 1 < n ∨ levelOf kind op = 15 then topP
  else ⟨kidLevelP kind op k, decide (kind = 6), p.noIn, p.noGt, if kind = 11 ∨ kind = 9 ∨ kind = 10 ∨ kind = 6 then false else if k = 0 then p.noSign else decide (kind = 12 ∧ op = 99)⟩
def kidP (kind op : Int) (n k : Nat) (p : PPos) : PPos := if kidPosB kind op n k p = true then kidQ kind op n k p else ⟨0, false, false, false, false⟩
def posV (p : PPos) : Value := .agg #[.int .i64 p.level, .bool p.dollar, .bool p.noIn, .bool p.noGt, .bool p.noSign]
def RetPosV (w : World) (p : PPos) (e : Ending) (w' : World) : Prop := e = .returned (posV p) ∧ Below w.heap.size w w'
set_option maxHeartbeats 1000000 in
theorem i_binLevel (x : Int) (k : Nat) (w : World) (hk : k ≤ 10) : Calls Try.prog 34 #[.int .i64 x, .int .i64 (k : Int)] w fun e w' => e = .returned (.int .i64 (if k = 0 then sideA (opLevel x) else sideB (opLevel x))) ∧ w = w' := by
  obtain ⟨L, hL⟩ : ∃ L, opLevel x = L := ⟨_, rfl⟩
  have h := fun W => i_opLevel x W
  rw [hL] at h
  rw [hL]
  clear hL
  rcases Nat.eq_zero_or_pos k with rfl | hp
  · go_enter Try.func34, Try.ntmps34
    go_wp2_with (go_at_call 22; refine (h _).mono ?_; rintro e w' ⟨rfl, rfl⟩)
    all_goals (go_ret; refine ⟨ret_int ?_, rfl⟩; simp_all [sideA, sideB])
  · have hz : ((k : Int) == 0) = false := by simp; omega
    have hz2 : ¬ k = 0 := by omega
    go_enter Try.func34, Try.ntmps34
    go_wp2_with (go_at_call 22; refine (h _).mono ?_; rintro e w' ⟨rfl, rfl⟩)
    all_goals (go_ret; refine ⟨ret_int ?_, rfl⟩; simp_all [sideA, sideB])
set_option maxHeartbeats 1000000 in
theorem s_sides (x : Int) (w : World) : Calls Try.prog 27 #[.int .i64 x] w fun e w' => e = .returned (.tuple #[.int .i64 (sideA (opLevel x)), .int .i64 (sideB (opLevel x))]) ∧ w = w' := by
  obtain ⟨L, hL⟩ : ∃ L, opLevel x = L := ⟨_, rfl⟩
  have h := fun W => s_opLevel x W
  rw [hL] at h
  rw [hL]
  clear hL
  go_enter Try.func27, Try.ntmps27
  go_wp2_with (go_at_call 28; refine (h _).mono ?_; rintro e w' ⟨rfl, rfl⟩)
  all_goals exact bodyPost_ret (v := .tuple #[.int .i64 (sideA L), .int .i64 (sideB L)]) (by simp_all [results, Try.results27, go_sem, sideA, sideB]) rfl ⟨rfl, rfl⟩
set_option maxHeartbeats 1000000 in
theorem i_kidLevel (kd x : Int) (t u : ByteArray) (A : Option Addr) (m c k : Nat) (w : World) (hk : k ≤ 10) : Calls Try.prog 24 #[.agg #[.int .i64 kd, .int .i64 x, .string t, .string u, .slice A m c], .int .i64 (k : Int)] w (RetInt w (kidLevelP kd x k)) := by
  have h := fun W => i_binLevel x k W hk
  rcases Nat.eq_zero_or_pos k with rfl | hp
  · go_enter Try.func24, Try.ntmps24
    go_wp2_with (go_at_call 34; refine (h _).mono ?_; rintro e w' ⟨rfl, rfl⟩)
    all_goals (go_ret; refine ⟨ret_int ?_, (Below.refl _ _).alloc (Nat.le_refl _) _⟩; simp_all [kidLevelP])
  · have hz : ((k : Int) == 0) = false := by simp; omega
    have hz2 : ¬ k = 0 := by omega
    have hz3 : decide ((k : Int) > 0) = true := by simp; omega
    go_enter Try.func24, Try.ntmps24
    go_wp2_with (go_at_call 34; refine (h _).mono ?_; rintro e w' ⟨rfl, rfl⟩)
    all_goals (go_ret; refine ⟨ret_int ?_, (Below.refl _ _).alloc (Nat.le_refl _) _⟩; simp_all [kidLevelP])
end Go.Proofs.Ytlabmboedjnpmaa
