/- FieldsOk of the program (walk). -/
import Derived.Test.YtlabmboedjnpmaaGreatDoorFieldI2
import Derived.Test.YtlabmboedjnpmaaGreatDoorFieldI3
import Derived.Test.YtlabmboedjnpmaaGreatDoorFieldI4
namespace Go.Proofs.YtlabmboedjnpmaaGreatDoor
open Go.RowKit
set_option linter.unusedVariables false
set_option linter.unusedSimpArgs false
theorem kind_expr {k : Int} {P : Int → Prop} (h : isExprB k = true) (h1 : P 1) (h2 : P 2) (h3 : P 3) (h4 : P 4) (h5 : P 5) (h6 : P 6) (h7 : P 7) (h8 : P 8) (h9 : P 9) (h10 : P 10) (h11 : P 11) (h12 : P 12) (h13 : P 13) (h14 : P 14) (h15 : P 15) : P k := by
  unfold isExprB at h
  rw [inB_true] at h
  rcases (by omega : k = 1 ∨ k = 2 ∨ k = 3 ∨ k = 4 ∨ k = 5 ∨ k = 6 ∨ k = 7 ∨ k = 8 ∨ k = 9 ∨ k = 10 ∨ k = 11 ∨ k = 12 ∨ k = 13 ∨ k = 14 ∨ k = 15) with e | e | e | e | e | e | e | e | e | e | e | e | e | e | e <;> rw [e] <;> assumption
theorem kind_stmt {k : Int} {P : Int → Prop} (h : isStmtB k = true) (h20 : P 20) (h21 : P 21) (h22 : P 22) (h23 : P 23) (h24 : P 24) (h25 : P 25) (h26 : P 26) (h27 : P 27) (h28 : P 28) (h29 : P 29) (h30 : P 30) (h31 : P 31) (h32 : P 32) (h33 : P 33) (h34 : P 34) : P k := by
  unfold isStmtB at h
  rw [inB_true] at h
  rcases (by omega : k = 20 ∨ k = 21 ∨ k = 22 ∨ k = 23 ∨ k = 24 ∨ k = 25 ∨ k = 26 ∨ k = 27 ∨ k = 28 ∨ k = 29 ∨ k = 30 ∨ k = 31 ∨ k = 32 ∨ k = 33 ∨ k = 34) with e | e | e | e | e | e | e | e | e | e | e | e | e | e | e <;> rw [e] <;> assumption
theorem kind_item {k : Int} {P : Int → Prop} (h : inB k 40 45 = true) (h40 : P 40) (h41 : P 41) (h42 : P 42) (h43 : P 43) (h44 : P 44) (h45 : P 45) : P k := by
  rw [inB_true] at h
  rcases (by omega : k = 40 ∨ k = 41 ∨ k = 42 ∨ k = 43 ∨ k = 44 ∨ k = 45) with e | e | e | e | e | e <;> rw [e] <;> assumption
def RetForms (w : World) (k o : Int) (t u : ByteArray) (n : Nat) (e : Ending) (w' : World) : Prop := ∃ a b c lo hi, RetForm w a b c lo hi e w' ∧ (a && b && c && inB n lo hi) = (opOkB k o && textOkB k t u && inB n (manyLo k o u) (manyHi k o u n))
def RetFormE (w : World) (k o : Int) (t u : ByteArray) (n : Nat) (e : Ending) (w' : World) : Prop := ∃ a b lo hi, RetForm w a b false lo hi e w' ∧ (a && b && u.toList.isEmpty && inB n lo hi) = (opOkB k o && textOkB k t u && inB n (manyLo k o u) (manyHi k o u n))
theorem i_exprForm (k : Int) (hk : isExprB k = true) (o : Int) (t u : ByteArray) (A : Option Addr) (n c : Nat) (w : World) (ht : t.size ≤ 16777216) (hu : u.size ≤ 16777216) (t0 : TabAt w 1 kwL) (t1 : TabAt w 2 signL) (t2 : TabAt w 0 biL) : Calls Tryz.prog 25 #[.agg #[.int .i64 k, .int .i64 o, .string t, .string u, .slice A n c]] w (RetFormE w k o t u n) := by
  refine kind_expr (P := fun k => Calls Tryz.prog 25 #[.agg #[.int .i64 k, .int .i64 o, .string t, .string u, .slice A n c]] w (RetFormE w k o t u n)) hk ?_ ?_ ?_ ?_ ?_ ?_ ?_ ?_ ?_ ?_ ?_ ?_ ?_ ?_ ?_
  · exact (i_exprForm_1 o t u A n c w ht t0 t1 t2).mono fun e w' h => ⟨_, _, _, _, h, by simp [opOkB, textOkB, manyLo, manyHi, emptyB, Bool.and_assoc]⟩
  · exact (i_exprForm_2 o t u A n c w ht t0 t1 t2).mono fun e w' h => ⟨_, _, _, _, h, by simp [opOkB, textOkB, manyLo, manyHi, emptyB, Bool.and_assoc]⟩
  · exact (i_exprForm_3 o t u A n c w ht t0 t1 t2).mono fun e w' h => ⟨_, _, _, _, h, by simp [opOkB, textOkB, manyLo, manyHi, emptyB, Bool.and_assoc]⟩
  · exact (i_exprForm_4 o t u A n c w ht t0 t1 t2).mono fun e w' h => ⟨_, _, _, _, h, by simp [opOkB, textOkB, manyLo, manyHi, emptyB, Bool.and_assoc]⟩
  · exact (i_exprForm_5 o t u A n c w ht t0 t1 t2).mono fun e w' h => ⟨_, _, _, _, h, by simp [opOkB, textOkB, manyLo, manyHi, emptyB, Bool.and_assoc]⟩
  · exact (i_exprForm_6 o t u A n c w ht t0 t1 t2).mono fun e w' h => ⟨_, _, _, _, h, by simp [opOkB, textOkB, manyLo, manyHi, emptyB, Bool.and_assoc]⟩
  · exact (i_exprForm_7 o t u A n c w ht t0 t1 t2).mono fun e w' h => ⟨_, _, _, _, h, by simp [opOkB, textOkB, manyLo, manyHi, emptyB, Bool.and_assoc]⟩
  · exact (i_exprForm_8 o t u A n c w ht t0 t1 t2).mono fun e w' h => ⟨_, _, _, _, h, by simp [opOkB, textOkB, manyLo, manyHi, emptyB, Bool.and_assoc]⟩
  · exact (i_exprForm_9 o t u A n c w ht t0 t1 t2).mono fun e w' h => ⟨_, _, _, _, h, by simp [opOkB, textOkB, manyLo, manyHi, emptyB, Bool.and_assoc]⟩
  · exact (i_exprForm_10 o t u A n c w ht t0 t1 t2).mono fun e w' h => ⟨_, _, _, _, h, by simp [opOkB, textOkB, manyLo, manyHi, emptyB, Bool.and_assoc]⟩
  · exact (i_exprForm_11 o t u A n c w).mono fun e w' h => ⟨_, _, _, _, h, by simp [opOkB, textOkB, manyLo, manyHi, emptyB, Bool.and_assoc]⟩
  · exact (i_exprForm_12 o t u A n c w ht t0 t1 t2).mono fun e w' h => ⟨_, _, _, _, h, by simp [opOkB, textOkB, manyLo, manyHi, emptyB, Bool.and_assoc]⟩
  · exact (i_exprForm_13 o t u A n c w ht t0 t1 t2).mono fun e w' h => ⟨_, _, _, _, h, by simp [opOkB, textOkB, manyLo, manyHi, emptyB, Bool.and_assoc]⟩
  · exact (i_exprForm_14 o t u A n c w ht t0 t1 t2).mono fun e w' h => ⟨_, _, _, _, h, by simp [opOkB, textOkB, manyLo, manyHi, emptyB, Bool.and_assoc]⟩
  · exact (i_exprForm_15 o t u A n c w ht t0 t1 t2).mono fun e w' h => ⟨_, _, _, _, h, by simp [opOkB, textOkB, manyLo, manyHi, emptyB, Bool.and_assoc]⟩
theorem i_stmtForm (k : Int) (hk : isStmtB k = true) (o : Int) (t u : ByteArray) (A : Option Addr) (n c : Nat) (w : World) (ht : t.size ≤ 16777216) (hu : u.size ≤ 16777216) (t0 : TabAt w 1 kwL) (t1 : TabAt w 2 signL) (t2 : TabAt w 0 biL) (hn : n ≤ 400) : Calls Tryz.prog 27 #[.agg #[.int .i64 k, .int .i64 o, .string t, .string u, .slice A n c]] w (RetForms w k o t u n) := by
  have h400 : inB (n : Int) 0 400 = inB (n : Int) 0 n := by
    rw [(inB_true).2 (show (0 : Int) ≤ n ∧ (n : Int) ≤ 400 by omega), (inB_true).2 (show (0 : Int) ≤ n ∧ (n : Int) ≤ n by omega)]
  refine kind_stmt (P := fun k => Calls Tryz.prog 27 #[.agg #[.int .i64 k, .int .i64 o, .string t, .string u, .slice A n c]] w (RetForms w k o t u n)) hk ?_ ?_ ?_ ?_ ?_ ?_ ?_ ?_ ?_ ?_ ?_ ?_ ?_ ?_ ?_
  · exact (i_stmtForm_20 o t u A n c w ht hu t0 t1 t2).mono fun e w' h => ⟨_, _, _, _, _, h, by simp [opOkB, textOkB, manyLo, manyHi, emptyB, Bool.and_assoc]⟩
  · refine (i_stmtForm_21 o t u A n c w).mono fun e w' h => ?_
    obtain ⟨a, lo, hi, h, ha, hx⟩ := h
    refine ⟨_, _, _, _, _, h, ?_⟩
    cases a
    · simp [opOkB, ← ha]
    · obtain ⟨rfl, rfl⟩ := hx rfl
      have e1 : opOkB 21 o = true := by simp [opOkB, ← ha]
      have e2 : manyHi 21 o u n = manyHi 21 o u 0 := by simp [manyHi]
      rw [e1, e2]
      simp [textOkB, emptyB, Bool.and_assoc]
  · exact (i_stmtForm_22 o t u A n c w ht hu t0 t1 t2).mono fun e w' h => ⟨_, _, _, _, _, h, by simp [opOkB, textOkB, manyLo, manyHi, emptyB, Bool.and_assoc]⟩
  · exact (i_stmtForm_23 o t u A n c w ht hu t0 t1 t2).mono fun e w' h => ⟨_, _, _, _, _, h, by simp [opOkB, textOkB, manyLo, manyHi, emptyB, Bool.and_assoc]⟩
  · exact (i_stmtForm_24 o t u A n c w ht hu t0 t1 t2).mono fun e w' h => ⟨_, _, _, _, _, h, by simp [opOkB, textOkB, manyLo, manyHi, emptyB, Bool.and_assoc]⟩
  · exact (i_stmtForm_25 o t u A n c w ht hu t0 t1 t2).mono fun e w' h => ⟨_, _, _, _, _, h, by simp [opOkB, textOkB, manyLo, manyHi, emptyB, Bool.and_assoc]⟩
  · exact (i_stmtForm_26 o t u A n c w ht hu t0 t1 t2).mono fun e w' h => ⟨_, _, _, _, _, h, by simp [opOkB, textOkB, manyLo, manyHi, emptyB, Bool.and_assoc]⟩
  · exact (i_stmtForm_27 o t u A n c w ht hu t0 t1 t2).mono fun e w' h => ⟨_, _, _, _, _, h, by simp [opOkB, textOkB, manyLo, manyHi, emptyB, Bool.and_assoc]⟩
  · exact (i_stmtForm_28 o t u A n c w ht hu t0 t1 t2).mono fun e w' h => ⟨_, _, _, _, _, h, by simp [opOkB, textOkB, manyLo, manyHi, emptyB, Bool.and_assoc]⟩
  · exact (i_stmtForm_29 o t u A n c w ht hu t0 t1 t2).mono fun e w' h => ⟨_, _, _, _, _, h, by simp [opOkB, textOkB, manyLo, manyHi, emptyB, Bool.and_assoc]⟩
  · exact (i_stmtForm_30 o t u A n c w ht hu t0 t1 t2).mono fun e w' h => ⟨_, _, _, _, _, h, by simp [opOkB, textOkB, manyLo, manyHi, emptyB, Bool.and_assoc]⟩
  · exact (i_stmtForm_31 o t u A n c w ht hu t0 t1 t2).mono fun e w' h => ⟨_, _, _, _, _, h, by simp [opOkB, textOkB, manyLo, manyHi, emptyB, Bool.and_assoc]⟩
  · exact (i_stmtForm_32 o t u A n c w ht hu t0 t1 t2).mono fun e w' h => ⟨_, _, _, _, _, h, by simp [opOkB, textOkB, manyLo, manyHi, emptyB, Bool.and_assoc]⟩
  · exact (i_stmtForm_33 o t u A n c w ht hu t0 t1 t2).mono fun e w' h => ⟨_, _, _, _, _, h, by simp [opOkB, textOkB, manyLo, manyHi, emptyB, Bool.and_assoc, h400]⟩
  · exact (i_stmtForm_34 o t u A n c w ht hu t0 t1 t2).mono fun e w' h => ⟨_, _, _, _, _, h, by simp [opOkB, textOkB, manyLo, manyHi, emptyB, Bool.and_assoc]⟩
theorem i_itemForm (k : Int) (hk : inB k 40 45 = true) (o : Int) (t u : ByteArray) (A : Option Addr) (n c : Nat) (w : World) (ht : t.size ≤ 16777216) (hu : u.size ≤ 16777216) (t0 : TabAt w 1 kwL) (t1 : TabAt w 2 signL) (t2 : TabAt w 0 biL) (hn : n ≤ 400) : Calls Tryz.prog 29 #[.agg #[.int .i64 k, .int .i64 o, .string t, .string u, .slice A n c]] w (RetForms w k o t u n) := by
  have h400 : inB (n : Int) 0 400 = inB (n : Int) 0 n := by
    rw [(inB_true).2 (show (0 : Int) ≤ n ∧ (n : Int) ≤ 400 by omega), (inB_true).2 (show (0 : Int) ≤ n ∧ (n : Int) ≤ n by omega)]
  refine kind_item (P := fun k => Calls Tryz.prog 29 #[.agg #[.int .i64 k, .int .i64 o, .string t, .string u, .slice A n c]] w (RetForms w k o t u n)) hk ?_ ?_ ?_ ?_ ?_ ?_
  · exact (i_itemForm_40 o t u A n c w ht hu t0 t1 t2).mono fun e w' h => ⟨_, _, _, _, _, h, by simp [opOkB, textOkB, manyLo, manyHi, emptyB, Bool.and_assoc]⟩
  · exact (i_itemForm_41 o t u A n c w ht hu t0 t1 t2).mono fun e w' h => ⟨_, _, _, _, _, h, by simp [opOkB, textOkB, manyLo, manyHi, emptyB, Bool.and_assoc]⟩
  · cases h3 : o == 3
    · refine (i_itemForm_42n o t u A n c w ht hu t0 t1 t2 h3).mono fun e w' h => ⟨_, _, _, _, _, h, ?_⟩
      by_cases ho : inB o 1 3 = true
      · have hz : Int.tdiv o 3 = 0 := by
          have := inB_true.1 ho
          have h3' : o ≠ 3 := by simpa using h3
          rcases (by omega : o = 1 ∨ o = 2) with rfl | rfl <;> rfl
        simp [opOkB, textOkB, manyLo, manyHi, emptyB, Bool.and_assoc, hz]
      · simp [opOkB, Bool.eq_false_iff.2 ho]
    · refine (i_itemForm_42y o t u A n c w ht hu t0 t1 t2 h3).mono fun e w' h => ⟨_, _, _, _, _, h, ?_⟩
      obtain rfl : o = 3 := by simpa using h3
      simp [opOkB, textOkB, manyLo, manyHi, emptyB, Bool.and_assoc]
  · cases h3 : o == 3
    · cases h1 : o == 1
      · refine (i_itemForm_43n o t u A n c w ht hu t0 t1 t2 h1 h3).mono fun e w' h => ⟨_, _, _, _, _, h, ?_⟩
        simp [opOkB, h1, h3]
      · refine (i_itemForm_43m o t u A n c w ht hu t0 t1 t2 h1 h3).mono fun e w' h => ⟨_, _, _, _, _, h, ?_⟩
        obtain rfl : o = 1 := by simpa using h1
        simp [opOkB, textOkB, manyLo, manyHi, emptyB, Bool.and_assoc]
    · have h1 : (o == 1) = false := by
        obtain rfl : o = 3 := by simpa using h3
        rfl
      refine (i_itemForm_43y o t u A n c w ht hu t0 t1 t2 h1 h3).mono fun e w' h => ⟨_, _, _, _, _, h, ?_⟩
      obtain rfl : o = 3 := by simpa using h3
      simp [opOkB, textOkB, manyLo, manyHi, emptyB, Bool.and_assoc]
  · exact (i_itemForm_44 o t u A n c w ht hu t0 t1 t2).mono fun e w' h => ⟨_, _, _, _, _, h, by simp [opOkB, textOkB, manyLo, manyHi, emptyB, Bool.and_assoc]⟩
  · exact (i_itemForm_45 o t u A n c w ht hu t0 t1 t2).mono fun e w' h => ⟨_, _, _, _, _, h, by simp [opOkB, textOkB, manyLo, manyHi, emptyB, Bool.and_assoc, h400]⟩
end Go.Proofs.YtlabmboedjnpmaaGreatDoor
