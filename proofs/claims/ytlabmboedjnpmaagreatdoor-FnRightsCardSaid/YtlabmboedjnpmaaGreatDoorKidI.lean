/- Which kids a node may have: kidOk of the program (walks; written by gen_kid.py). -/
import Derived.Test.YtlabmboedjnpmaaGreatDoorField
namespace Go.Proofs.YtlabmboedjnpmaaGreatDoor
open Go.RowKit
set_option linter.unusedVariables false
set_option linter.unusedSimpArgs false
theorem kid_not {j n : Nat} (h : (!((j : Int) == (n : Int) - 1)) = true) : ((j : Int) == (n : Int) - 1) = false := by simpa using h
theorem kid_yes {j n : Nat} (h : (!((j : Int) == (n : Int) - 1)) = false) : ((j : Int) == (n : Int) - 1) = true := by simpa using h
theorem i_isItem (x : Int) (w : World) : Calls Tryz.prog 40 #[.int .i64 x] w fun e w' => e = .returned (.bool (inB x 40 44)) ∧ w = w' := by
  go_enter Tryz.func40, Tryz.ntmps40
  go_wp2_with (go_at_call 28; refine (i_within _ _ _ _).mono ?_; rintro e w' ⟨rfl, rfl⟩)
  go_ret
  exact ⟨rfl, rfl⟩
set_option maxRecDepth 100000 in
set_option maxHeartbeats 1000000 in
theorem i_kidOk_1 (o : Int) (t u : ByteArray) (A : Option Addr) (n c : Nat) (j : Nat) (x : Int) (w : World) (hn : n ≤ c) (hc : c ≤ 9223372036854775807) (hj : j < n) : Calls Tryz.prog 18 #[.agg #[.int .i64 1, .int .i64 o, .string t, .string u, .slice A n c], .int .i64 j, .int .i64 x] w (RetBool w (kidB 1 o n j x)) := by
  go_enter Tryz.func18, Tryz.ntmps18
  go_wp2_with (first | (go_at_call 11; refine (i_isExpr _ _).mono ?_; rintro e w' ⟨rfl, rfl⟩) | (go_at_call 39; refine (i_isLvalue _ _).mono ?_; rintro e w' ⟨rfl, rfl⟩) | (go_at_call 26; refine (i_isStmt _ _).mono ?_; rintro e w' ⟨rfl, rfl⟩) | (go_at_call 40; refine (i_isItem _ _).mono ?_; rintro e w' ⟨rfl, rfl⟩) | (go_at_call 28; refine (i_within _ _ _ _).mono ?_; rintro e w' ⟨rfl, rfl⟩))
  all_goals (go_ret; refine ⟨ret_bool ?_, (Below.refl _ _).alloc (Nat.le_refl _) _⟩; first | rfl | (simp_all [kidB]; done) | (simp_all [kidB]; omega) | (rename_i h; have h2 := lv_expr h; simp_all [kidB]; done) | (rename_i h; have h2 := kid_not h; simp [kidB, h2]; done) | (rename_i h; have h2 := kid_yes h; simp [kidB, h2]; done))
set_option maxRecDepth 100000 in
set_option maxHeartbeats 1000000 in
theorem i_kidOk_2 (o : Int) (t u : ByteArray) (A : Option Addr) (n c : Nat) (j : Nat) (x : Int) (w : World) (hn : n ≤ c) (hc : c ≤ 9223372036854775807) (hj : j < n) : Calls Tryz.prog 18 #[.agg #[.int .i64 2, .int .i64 o, .string t, .string u, .slice A n c], .int .i64 j, .int .i64 x] w (RetBool w (kidB 2 o n j x)) := by
  go_enter Tryz.func18, Tryz.ntmps18
  go_wp2_with (first | (go_at_call 11; refine (i_isExpr _ _).mono ?_; rintro e w' ⟨rfl, rfl⟩) | (go_at_call 39; refine (i_isLvalue _ _).mono ?_; rintro e w' ⟨rfl, rfl⟩) | (go_at_call 26; refine (i_isStmt _ _).mono ?_; rintro e w' ⟨rfl, rfl⟩) | (go_at_call 40; refine (i_isItem _ _).mono ?_; rintro e w' ⟨rfl, rfl⟩) | (go_at_call 28; refine (i_within _ _ _ _).mono ?_; rintro e w' ⟨rfl, rfl⟩))
  all_goals (go_ret; refine ⟨ret_bool ?_, (Below.refl _ _).alloc (Nat.le_refl _) _⟩; first | rfl | (simp_all [kidB]; done) | (simp_all [kidB]; omega) | (rename_i h; have h2 := lv_expr h; simp_all [kidB]; done) | (rename_i h; have h2 := kid_not h; simp [kidB, h2]; done) | (rename_i h; have h2 := kid_yes h; simp [kidB, h2]; done))
set_option maxRecDepth 100000 in
set_option maxHeartbeats 1000000 in
theorem i_kidOk_3 (o : Int) (t u : ByteArray) (A : Option Addr) (n c : Nat) (j : Nat) (x : Int) (w : World) (hn : n ≤ c) (hc : c ≤ 9223372036854775807) (hj : j < n) : Calls Tryz.prog 18 #[.agg #[.int .i64 3, .int .i64 o, .string t, .string u, .slice A n c], .int .i64 j, .int .i64 x] w (RetBool w (kidB 3 o n j x)) := by
  go_enter Tryz.func18, Tryz.ntmps18
  go_wp2_with (first | (go_at_call 11; refine (i_isExpr _ _).mono ?_; rintro e w' ⟨rfl, rfl⟩) | (go_at_call 39; refine (i_isLvalue _ _).mono ?_; rintro e w' ⟨rfl, rfl⟩) | (go_at_call 26; refine (i_isStmt _ _).mono ?_; rintro e w' ⟨rfl, rfl⟩) | (go_at_call 40; refine (i_isItem _ _).mono ?_; rintro e w' ⟨rfl, rfl⟩) | (go_at_call 28; refine (i_within _ _ _ _).mono ?_; rintro e w' ⟨rfl, rfl⟩))
  all_goals (go_ret; refine ⟨ret_bool ?_, (Below.refl _ _).alloc (Nat.le_refl _) _⟩; first | rfl | (simp_all [kidB]; done) | (simp_all [kidB]; omega) | (rename_i h; have h2 := lv_expr h; simp_all [kidB]; done) | (rename_i h; have h2 := kid_not h; simp [kidB, h2]; done) | (rename_i h; have h2 := kid_yes h; simp [kidB, h2]; done))
set_option maxRecDepth 100000 in
set_option maxHeartbeats 1000000 in
theorem i_kidOk_4 (o : Int) (t u : ByteArray) (A : Option Addr) (n c : Nat) (j : Nat) (x : Int) (w : World) (hn : n ≤ c) (hc : c ≤ 9223372036854775807) (hj : j < n) : Calls Tryz.prog 18 #[.agg #[.int .i64 4, .int .i64 o, .string t, .string u, .slice A n c], .int .i64 j, .int .i64 x] w (RetBool w (kidB 4 o n j x)) := by
  go_enter Tryz.func18, Tryz.ntmps18
  go_wp2_with (first | (go_at_call 11; refine (i_isExpr _ _).mono ?_; rintro e w' ⟨rfl, rfl⟩) | (go_at_call 39; refine (i_isLvalue _ _).mono ?_; rintro e w' ⟨rfl, rfl⟩) | (go_at_call 26; refine (i_isStmt _ _).mono ?_; rintro e w' ⟨rfl, rfl⟩) | (go_at_call 40; refine (i_isItem _ _).mono ?_; rintro e w' ⟨rfl, rfl⟩) | (go_at_call 28; refine (i_within _ _ _ _).mono ?_; rintro e w' ⟨rfl, rfl⟩))
  all_goals (go_ret; refine ⟨ret_bool ?_, (Below.refl _ _).alloc (Nat.le_refl _) _⟩; first | rfl | (simp_all [kidB]; done) | (simp_all [kidB]; omega) | (rename_i h; have h2 := lv_expr h; simp_all [kidB]; done) | (rename_i h; have h2 := kid_not h; simp [kidB, h2]; done) | (rename_i h; have h2 := kid_yes h; simp [kidB, h2]; done))
set_option maxRecDepth 100000 in
set_option maxHeartbeats 1000000 in
theorem i_kidOk_5 (o : Int) (t u : ByteArray) (A : Option Addr) (n c : Nat) (j : Nat) (x : Int) (w : World) (hn : n ≤ c) (hc : c ≤ 9223372036854775807) (hj : j < n) : Calls Tryz.prog 18 #[.agg #[.int .i64 5, .int .i64 o, .string t, .string u, .slice A n c], .int .i64 j, .int .i64 x] w (RetBool w (kidB 5 o n j x)) := by
  go_enter Tryz.func18, Tryz.ntmps18
  go_wp2_with (first | (go_at_call 11; refine (i_isExpr _ _).mono ?_; rintro e w' ⟨rfl, rfl⟩) | (go_at_call 39; refine (i_isLvalue _ _).mono ?_; rintro e w' ⟨rfl, rfl⟩) | (go_at_call 26; refine (i_isStmt _ _).mono ?_; rintro e w' ⟨rfl, rfl⟩) | (go_at_call 40; refine (i_isItem _ _).mono ?_; rintro e w' ⟨rfl, rfl⟩) | (go_at_call 28; refine (i_within _ _ _ _).mono ?_; rintro e w' ⟨rfl, rfl⟩))
  all_goals (go_ret; refine ⟨ret_bool ?_, (Below.refl _ _).alloc (Nat.le_refl _) _⟩; first | rfl | (simp_all [kidB]; done) | (simp_all [kidB]; omega) | (rename_i h; have h2 := lv_expr h; simp_all [kidB]; done) | (rename_i h; have h2 := kid_not h; simp [kidB, h2]; done) | (rename_i h; have h2 := kid_yes h; simp [kidB, h2]; done))
set_option maxRecDepth 100000 in
set_option maxHeartbeats 1000000 in
theorem i_kidOk_6 (o : Int) (t u : ByteArray) (A : Option Addr) (n c : Nat) (j : Nat) (x : Int) (w : World) (hn : n ≤ c) (hc : c ≤ 9223372036854775807) (hj : j < n) : Calls Tryz.prog 18 #[.agg #[.int .i64 6, .int .i64 o, .string t, .string u, .slice A n c], .int .i64 j, .int .i64 x] w (RetBool w (kidB 6 o n j x)) := by
  go_enter Tryz.func18, Tryz.ntmps18
  go_wp2_with (first | (go_at_call 11; refine (i_isExpr _ _).mono ?_; rintro e w' ⟨rfl, rfl⟩) | (go_at_call 39; refine (i_isLvalue _ _).mono ?_; rintro e w' ⟨rfl, rfl⟩) | (go_at_call 26; refine (i_isStmt _ _).mono ?_; rintro e w' ⟨rfl, rfl⟩) | (go_at_call 40; refine (i_isItem _ _).mono ?_; rintro e w' ⟨rfl, rfl⟩) | (go_at_call 28; refine (i_within _ _ _ _).mono ?_; rintro e w' ⟨rfl, rfl⟩))
  all_goals (go_ret; refine ⟨ret_bool ?_, (Below.refl _ _).alloc (Nat.le_refl _) _⟩; first | rfl | (simp_all [kidB]; done) | (simp_all [kidB]; omega) | (rename_i h; have h2 := lv_expr h; simp_all [kidB]; done) | (rename_i h; have h2 := kid_not h; simp [kidB, h2]; done) | (rename_i h; have h2 := kid_yes h; simp [kidB, h2]; done))
set_option maxRecDepth 100000 in
set_option maxHeartbeats 1000000 in
theorem i_kidOk_7 (o : Int) (t u : ByteArray) (A : Option Addr) (n c : Nat) (j : Nat) (x : Int) (w : World) (hn : n ≤ c) (hc : c ≤ 9223372036854775807) (hj : j < n) : Calls Tryz.prog 18 #[.agg #[.int .i64 7, .int .i64 o, .string t, .string u, .slice A n c], .int .i64 j, .int .i64 x] w (RetBool w (kidB 7 o n j x)) := by
  go_enter Tryz.func18, Tryz.ntmps18
  go_wp2_with (first | (go_at_call 11; refine (i_isExpr _ _).mono ?_; rintro e w' ⟨rfl, rfl⟩) | (go_at_call 39; refine (i_isLvalue _ _).mono ?_; rintro e w' ⟨rfl, rfl⟩) | (go_at_call 26; refine (i_isStmt _ _).mono ?_; rintro e w' ⟨rfl, rfl⟩) | (go_at_call 40; refine (i_isItem _ _).mono ?_; rintro e w' ⟨rfl, rfl⟩) | (go_at_call 28; refine (i_within _ _ _ _).mono ?_; rintro e w' ⟨rfl, rfl⟩))
  all_goals (go_ret; refine ⟨ret_bool ?_, (Below.refl _ _).alloc (Nat.le_refl _) _⟩; first | rfl | (simp_all [kidB]; done) | (simp_all [kidB]; omega) | (rename_i h; have h2 := lv_expr h; simp_all [kidB]; done) | (rename_i h; have h2 := kid_not h; simp [kidB, h2]; done) | (rename_i h; have h2 := kid_yes h; simp [kidB, h2]; done))
set_option maxRecDepth 100000 in
set_option maxHeartbeats 1000000 in
theorem i_kidOk_8 (o : Int) (t u : ByteArray) (A : Option Addr) (n c : Nat) (j : Nat) (x : Int) (w : World) (hn : n ≤ c) (hc : c ≤ 9223372036854775807) (hj : j < n) : Calls Tryz.prog 18 #[.agg #[.int .i64 8, .int .i64 o, .string t, .string u, .slice A n c], .int .i64 j, .int .i64 x] w (RetBool w (kidB 8 o n j x)) := by
  go_enter Tryz.func18, Tryz.ntmps18
  go_wp2_with (first | (go_at_call 11; refine (i_isExpr _ _).mono ?_; rintro e w' ⟨rfl, rfl⟩) | (go_at_call 39; refine (i_isLvalue _ _).mono ?_; rintro e w' ⟨rfl, rfl⟩) | (go_at_call 26; refine (i_isStmt _ _).mono ?_; rintro e w' ⟨rfl, rfl⟩) | (go_at_call 40; refine (i_isItem _ _).mono ?_; rintro e w' ⟨rfl, rfl⟩) | (go_at_call 28; refine (i_within _ _ _ _).mono ?_; rintro e w' ⟨rfl, rfl⟩))
  all_goals (go_ret; refine ⟨ret_bool ?_, (Below.refl _ _).alloc (Nat.le_refl _) _⟩; first | rfl | (simp_all [kidB]; done) | (simp_all [kidB]; omega) | (rename_i h; have h2 := lv_expr h; simp_all [kidB]; done) | (rename_i h; have h2 := kid_not h; simp [kidB, h2]; done) | (rename_i h; have h2 := kid_yes h; simp [kidB, h2]; done))
set_option maxRecDepth 100000 in
set_option maxHeartbeats 1000000 in
theorem i_kidOk_9 (o : Int) (t u : ByteArray) (A : Option Addr) (n c : Nat) (j : Nat) (x : Int) (w : World) (hn : n ≤ c) (hc : c ≤ 9223372036854775807) (hj : j < n) : Calls Tryz.prog 18 #[.agg #[.int .i64 9, .int .i64 o, .string t, .string u, .slice A n c], .int .i64 j, .int .i64 x] w (RetBool w (kidB 9 o n j x)) := by
  go_enter Tryz.func18, Tryz.ntmps18
  go_wp2_with (first | (go_at_call 11; refine (i_isExpr _ _).mono ?_; rintro e w' ⟨rfl, rfl⟩) | (go_at_call 39; refine (i_isLvalue _ _).mono ?_; rintro e w' ⟨rfl, rfl⟩) | (go_at_call 26; refine (i_isStmt _ _).mono ?_; rintro e w' ⟨rfl, rfl⟩) | (go_at_call 40; refine (i_isItem _ _).mono ?_; rintro e w' ⟨rfl, rfl⟩) | (go_at_call 28; refine (i_within _ _ _ _).mono ?_; rintro e w' ⟨rfl, rfl⟩))
  all_goals (go_ret; refine ⟨ret_bool ?_, (Below.refl _ _).alloc (Nat.le_refl _) _⟩; first | rfl | (simp_all [kidB]; done) | (simp_all [kidB]; omega) | (rename_i h; have h2 := lv_expr h; simp_all [kidB]; done) | (rename_i h; have h2 := kid_not h; simp [kidB, h2]; done) | (rename_i h; have h2 := kid_yes h; simp [kidB, h2]; done))
set_option maxRecDepth 100000 in
set_option maxHeartbeats 1000000 in
theorem i_kidOk_10 (o : Int) (t u : ByteArray) (A : Option Addr) (n c : Nat) (j : Nat) (x : Int) (w : World) (hn : n ≤ c) (hc : c ≤ 9223372036854775807) (hj : j < n) : Calls Tryz.prog 18 #[.agg #[.int .i64 10, .int .i64 o, .string t, .string u, .slice A n c], .int .i64 j, .int .i64 x] w (RetBool w (kidB 10 o n j x)) := by
  go_enter Tryz.func18, Tryz.ntmps18
  go_wp2_with (first | (go_at_call 11; refine (i_isExpr _ _).mono ?_; rintro e w' ⟨rfl, rfl⟩) | (go_at_call 39; refine (i_isLvalue _ _).mono ?_; rintro e w' ⟨rfl, rfl⟩) | (go_at_call 26; refine (i_isStmt _ _).mono ?_; rintro e w' ⟨rfl, rfl⟩) | (go_at_call 40; refine (i_isItem _ _).mono ?_; rintro e w' ⟨rfl, rfl⟩) | (go_at_call 28; refine (i_within _ _ _ _).mono ?_; rintro e w' ⟨rfl, rfl⟩))
  all_goals (go_ret; refine ⟨ret_bool ?_, (Below.refl _ _).alloc (Nat.le_refl _) _⟩; first | rfl | (simp_all [kidB]; done) | (simp_all [kidB]; omega) | (rename_i h; have h2 := lv_expr h; simp_all [kidB]; done) | (rename_i h; have h2 := kid_not h; simp [kidB, h2]; done) | (rename_i h; have h2 := kid_yes h; simp [kidB, h2]; done))
set_option maxRecDepth 100000 in
set_option maxHeartbeats 1000000 in
theorem i_kidOk_11 (o : Int) (t u : ByteArray) (A : Option Addr) (n c : Nat) (j : Nat) (x : Int) (w : World) (hn : n ≤ c) (hc : c ≤ 9223372036854775807) (hj : j < n) : Calls Tryz.prog 18 #[.agg #[.int .i64 11, .int .i64 o, .string t, .string u, .slice A n c], .int .i64 j, .int .i64 x] w (RetBool w (kidB 11 o n j x)) := by
  go_enter Tryz.func18, Tryz.ntmps18
  go_wp2_with (first | (go_at_call 11; refine (i_isExpr _ _).mono ?_; rintro e w' ⟨rfl, rfl⟩) | (go_at_call 39; refine (i_isLvalue _ _).mono ?_; rintro e w' ⟨rfl, rfl⟩) | (go_at_call 26; refine (i_isStmt _ _).mono ?_; rintro e w' ⟨rfl, rfl⟩) | (go_at_call 40; refine (i_isItem _ _).mono ?_; rintro e w' ⟨rfl, rfl⟩) | (go_at_call 28; refine (i_within _ _ _ _).mono ?_; rintro e w' ⟨rfl, rfl⟩))
  all_goals (go_ret; refine ⟨ret_bool ?_, (Below.refl _ _).alloc (Nat.le_refl _) _⟩; first | rfl | (simp_all [kidB]; done) | (simp_all [kidB]; omega) | (rename_i h; have h2 := lv_expr h; simp_all [kidB]; done) | (rename_i h; have h2 := kid_not h; simp [kidB, h2]; done) | (rename_i h; have h2 := kid_yes h; simp [kidB, h2]; done))
set_option maxRecDepth 100000 in
set_option maxHeartbeats 1000000 in
theorem i_kidOk_12 (o : Int) (t u : ByteArray) (A : Option Addr) (n c : Nat) (j : Nat) (x : Int) (w : World) (hn : n ≤ c) (hc : c ≤ 9223372036854775807) (hj : j < n) : Calls Tryz.prog 18 #[.agg #[.int .i64 12, .int .i64 o, .string t, .string u, .slice A n c], .int .i64 j, .int .i64 x] w (RetBool w (kidB 12 o n j x)) := by
  go_enter Tryz.func18, Tryz.ntmps18
  go_wp2_with (first | (go_at_call 11; refine (i_isExpr _ _).mono ?_; rintro e w' ⟨rfl, rfl⟩) | (go_at_call 39; refine (i_isLvalue _ _).mono ?_; rintro e w' ⟨rfl, rfl⟩) | (go_at_call 26; refine (i_isStmt _ _).mono ?_; rintro e w' ⟨rfl, rfl⟩) | (go_at_call 40; refine (i_isItem _ _).mono ?_; rintro e w' ⟨rfl, rfl⟩) | (go_at_call 28; refine (i_within _ _ _ _).mono ?_; rintro e w' ⟨rfl, rfl⟩))
  all_goals (go_ret; refine ⟨ret_bool ?_, (Below.refl _ _).alloc (Nat.le_refl _) _⟩; first | rfl | (simp_all [kidB]; done) | (simp_all [kidB]; omega) | (rename_i h; have h2 := lv_expr h; simp_all [kidB]; done) | (rename_i h; have h2 := kid_not h; simp [kidB, h2]; done) | (rename_i h; have h2 := kid_yes h; simp [kidB, h2]; done))
set_option maxRecDepth 100000 in
set_option maxHeartbeats 1000000 in
theorem i_kidOk_13 (o : Int) (t u : ByteArray) (A : Option Addr) (n c : Nat) (j : Nat) (x : Int) (w : World) (hn : n ≤ c) (hc : c ≤ 9223372036854775807) (hj : j < n) : Calls Tryz.prog 18 #[.agg #[.int .i64 13, .int .i64 o, .string t, .string u, .slice A n c], .int .i64 j, .int .i64 x] w (RetBool w (kidB 13 o n j x)) := by
  go_enter Tryz.func18, Tryz.ntmps18
  go_wp2_with (first | (go_at_call 11; refine (i_isExpr _ _).mono ?_; rintro e w' ⟨rfl, rfl⟩) | (go_at_call 39; refine (i_isLvalue _ _).mono ?_; rintro e w' ⟨rfl, rfl⟩) | (go_at_call 26; refine (i_isStmt _ _).mono ?_; rintro e w' ⟨rfl, rfl⟩) | (go_at_call 40; refine (i_isItem _ _).mono ?_; rintro e w' ⟨rfl, rfl⟩) | (go_at_call 28; refine (i_within _ _ _ _).mono ?_; rintro e w' ⟨rfl, rfl⟩))
  all_goals (go_ret; refine ⟨ret_bool ?_, (Below.refl _ _).alloc (Nat.le_refl _) _⟩; first | rfl | (simp_all [kidB]; done) | (simp_all [kidB]; omega) | (rename_i h; have h2 := lv_expr h; simp_all [kidB]; done) | (rename_i h; have h2 := kid_not h; simp [kidB, h2]; done) | (rename_i h; have h2 := kid_yes h; simp [kidB, h2]; done))
set_option maxRecDepth 100000 in
set_option maxHeartbeats 1000000 in
theorem i_kidOk_14 (o : Int) (t u : ByteArray) (A : Option Addr) (n c : Nat) (j : Nat) (x : Int) (w : World) (hn : n ≤ c) (hc : c ≤ 9223372036854775807) (hj : j < n) : Calls Tryz.prog 18 #[.agg #[.int .i64 14, .int .i64 o, .string t, .string u, .slice A n c], .int .i64 j, .int .i64 x] w (RetBool w (kidB 14 o n j x)) := by
  go_enter Tryz.func18, Tryz.ntmps18
  go_wp2_with (first | (go_at_call 11; refine (i_isExpr _ _).mono ?_; rintro e w' ⟨rfl, rfl⟩) | (go_at_call 39; refine (i_isLvalue _ _).mono ?_; rintro e w' ⟨rfl, rfl⟩) | (go_at_call 26; refine (i_isStmt _ _).mono ?_; rintro e w' ⟨rfl, rfl⟩) | (go_at_call 40; refine (i_isItem _ _).mono ?_; rintro e w' ⟨rfl, rfl⟩) | (go_at_call 28; refine (i_within _ _ _ _).mono ?_; rintro e w' ⟨rfl, rfl⟩))
  all_goals (go_ret; refine ⟨ret_bool ?_, (Below.refl _ _).alloc (Nat.le_refl _) _⟩; first | rfl | (simp_all [kidB]; done) | (simp_all [kidB]; omega) | (rename_i h; have h2 := lv_expr h; simp_all [kidB]; done) | (rename_i h; have h2 := kid_not h; simp [kidB, h2]; done) | (rename_i h; have h2 := kid_yes h; simp [kidB, h2]; done))
set_option maxRecDepth 100000 in
set_option maxHeartbeats 1000000 in
theorem i_kidOk_16 (o : Int) (t u : ByteArray) (A : Option Addr) (n c : Nat) (j : Nat) (x : Int) (w : World) (hn : n ≤ c) (hc : c ≤ 9223372036854775807) (hj : j < n) : Calls Tryz.prog 18 #[.agg #[.int .i64 16, .int .i64 o, .string t, .string u, .slice A n c], .int .i64 j, .int .i64 x] w (RetBool w (kidB 16 o n j x)) := by
  go_enter Tryz.func18, Tryz.ntmps18
  go_wp2_with (first | (go_at_call 11; refine (i_isExpr _ _).mono ?_; rintro e w' ⟨rfl, rfl⟩) | (go_at_call 39; refine (i_isLvalue _ _).mono ?_; rintro e w' ⟨rfl, rfl⟩) | (go_at_call 26; refine (i_isStmt _ _).mono ?_; rintro e w' ⟨rfl, rfl⟩) | (go_at_call 40; refine (i_isItem _ _).mono ?_; rintro e w' ⟨rfl, rfl⟩) | (go_at_call 28; refine (i_within _ _ _ _).mono ?_; rintro e w' ⟨rfl, rfl⟩))
  all_goals (go_ret; refine ⟨ret_bool ?_, (Below.refl _ _).alloc (Nat.le_refl _) _⟩; first | rfl | (simp_all [kidB]; done) | (simp_all [kidB]; omega) | (rename_i h; have h2 := lv_expr h; simp_all [kidB]; done) | (rename_i h; have h2 := kid_not h; simp [kidB, h2]; done) | (rename_i h; have h2 := kid_yes h; simp [kidB, h2]; done))
set_option maxRecDepth 100000 in
set_option maxHeartbeats 1000000 in
theorem i_kidOk_20 (o : Int) (t u : ByteArray) (A : Option Addr) (n c : Nat) (j : Nat) (x : Int) (w : World) (hn : n ≤ c) (hc : c ≤ 9223372036854775807) (hj : j < n) : Calls Tryz.prog 18 #[.agg #[.int .i64 20, .int .i64 o, .string t, .string u, .slice A n c], .int .i64 j, .int .i64 x] w (RetBool w (kidB 20 o n j x)) := by
  go_enter Tryz.func18, Tryz.ntmps18
  go_wp2_with (first | (go_at_call 11; refine (i_isExpr _ _).mono ?_; rintro e w' ⟨rfl, rfl⟩) | (go_at_call 39; refine (i_isLvalue _ _).mono ?_; rintro e w' ⟨rfl, rfl⟩) | (go_at_call 26; refine (i_isStmt _ _).mono ?_; rintro e w' ⟨rfl, rfl⟩) | (go_at_call 40; refine (i_isItem _ _).mono ?_; rintro e w' ⟨rfl, rfl⟩) | (go_at_call 28; refine (i_within _ _ _ _).mono ?_; rintro e w' ⟨rfl, rfl⟩))
  all_goals (go_ret; refine ⟨ret_bool ?_, (Below.refl _ _).alloc (Nat.le_refl _) _⟩; first | rfl | (simp_all [kidB]; done) | (simp_all [kidB]; omega) | (rename_i h; have h2 := lv_expr h; simp_all [kidB]; done) | (rename_i h; have h2 := kid_not h; simp [kidB, h2]; done) | (rename_i h; have h2 := kid_yes h; simp [kidB, h2]; done))
set_option maxRecDepth 100000 in
set_option maxHeartbeats 1000000 in
theorem i_kidOk_21 (o : Int) (t u : ByteArray) (A : Option Addr) (n c : Nat) (j : Nat) (x : Int) (w : World) (hn : n ≤ c) (hc : c ≤ 9223372036854775807) (hj : j < n) : Calls Tryz.prog 18 #[.agg #[.int .i64 21, .int .i64 o, .string t, .string u, .slice A n c], .int .i64 j, .int .i64 x] w (RetBool w (kidB 21 o n j x)) := by
  go_enter Tryz.func18, Tryz.ntmps18
  go_wp2_with (first | (go_at_call 11; refine (i_isExpr _ _).mono ?_; rintro e w' ⟨rfl, rfl⟩) | (go_at_call 39; refine (i_isLvalue _ _).mono ?_; rintro e w' ⟨rfl, rfl⟩) | (go_at_call 26; refine (i_isStmt _ _).mono ?_; rintro e w' ⟨rfl, rfl⟩) | (go_at_call 40; refine (i_isItem _ _).mono ?_; rintro e w' ⟨rfl, rfl⟩) | (go_at_call 28; refine (i_within _ _ _ _).mono ?_; rintro e w' ⟨rfl, rfl⟩))
  all_goals (go_ret; refine ⟨ret_bool ?_, (Below.refl _ _).alloc (Nat.le_refl _) _⟩; first | rfl | (simp_all [kidB]; done) | (simp_all [kidB]; omega) | (rename_i h; have h2 := lv_expr h; simp_all [kidB]; done) | (rename_i h; have h2 := kid_not h; simp [kidB, h2]; done) | (rename_i h; have h2 := kid_yes h; simp [kidB, h2]; done))
set_option maxRecDepth 100000 in
set_option maxHeartbeats 1000000 in
theorem i_kidOk_22 (o : Int) (t u : ByteArray) (A : Option Addr) (n c : Nat) (j : Nat) (x : Int) (w : World) (hn : n ≤ c) (hc : c ≤ 9223372036854775807) (hj : j < n) : Calls Tryz.prog 18 #[.agg #[.int .i64 22, .int .i64 o, .string t, .string u, .slice A n c], .int .i64 j, .int .i64 x] w (RetBool w (kidB 22 o n j x)) := by
  go_enter Tryz.func18, Tryz.ntmps18
  go_wp2_with (first | (go_at_call 11; refine (i_isExpr _ _).mono ?_; rintro e w' ⟨rfl, rfl⟩) | (go_at_call 39; refine (i_isLvalue _ _).mono ?_; rintro e w' ⟨rfl, rfl⟩) | (go_at_call 26; refine (i_isStmt _ _).mono ?_; rintro e w' ⟨rfl, rfl⟩) | (go_at_call 40; refine (i_isItem _ _).mono ?_; rintro e w' ⟨rfl, rfl⟩) | (go_at_call 28; refine (i_within _ _ _ _).mono ?_; rintro e w' ⟨rfl, rfl⟩))
  all_goals (go_ret; refine ⟨ret_bool ?_, (Below.refl _ _).alloc (Nat.le_refl _) _⟩; first | rfl | (simp_all [kidB]; done) | (simp_all [kidB]; omega) | (rename_i h; have h2 := lv_expr h; simp_all [kidB]; done) | (rename_i h; have h2 := kid_not h; simp [kidB, h2]; done) | (rename_i h; have h2 := kid_yes h; simp [kidB, h2]; done))
set_option maxRecDepth 100000 in
set_option maxHeartbeats 1000000 in
theorem i_kidOk_23 (o : Int) (t u : ByteArray) (A : Option Addr) (n c : Nat) (j : Nat) (x : Int) (w : World) (hn : n ≤ c) (hc : c ≤ 9223372036854775807) (hj : j < n) : Calls Tryz.prog 18 #[.agg #[.int .i64 23, .int .i64 o, .string t, .string u, .slice A n c], .int .i64 j, .int .i64 x] w (RetBool w (kidB 23 o n j x)) := by
  go_enter Tryz.func18, Tryz.ntmps18
  go_wp2_with (first | (go_at_call 11; refine (i_isExpr _ _).mono ?_; rintro e w' ⟨rfl, rfl⟩) | (go_at_call 39; refine (i_isLvalue _ _).mono ?_; rintro e w' ⟨rfl, rfl⟩) | (go_at_call 26; refine (i_isStmt _ _).mono ?_; rintro e w' ⟨rfl, rfl⟩) | (go_at_call 40; refine (i_isItem _ _).mono ?_; rintro e w' ⟨rfl, rfl⟩) | (go_at_call 28; refine (i_within _ _ _ _).mono ?_; rintro e w' ⟨rfl, rfl⟩))
  all_goals (go_ret; refine ⟨ret_bool ?_, (Below.refl _ _).alloc (Nat.le_refl _) _⟩; first | rfl | (simp_all [kidB]; done) | (simp_all [kidB]; omega) | (rename_i h; have h2 := lv_expr h; simp_all [kidB]; done) | (rename_i h; have h2 := kid_not h; simp [kidB, h2]; done) | (rename_i h; have h2 := kid_yes h; simp [kidB, h2]; done))
set_option maxRecDepth 100000 in
set_option maxHeartbeats 1000000 in
theorem i_kidOk_24 (o : Int) (t u : ByteArray) (A : Option Addr) (n c : Nat) (j : Nat) (x : Int) (w : World) (hn : n ≤ c) (hc : c ≤ 9223372036854775807) (hj : j < n) : Calls Tryz.prog 18 #[.agg #[.int .i64 24, .int .i64 o, .string t, .string u, .slice A n c], .int .i64 j, .int .i64 x] w (RetBool w (kidB 24 o n j x)) := by
  go_enter Tryz.func18, Tryz.ntmps18
  go_wp2_with (first | (go_at_call 11; refine (i_isExpr _ _).mono ?_; rintro e w' ⟨rfl, rfl⟩) | (go_at_call 39; refine (i_isLvalue _ _).mono ?_; rintro e w' ⟨rfl, rfl⟩) | (go_at_call 26; refine (i_isStmt _ _).mono ?_; rintro e w' ⟨rfl, rfl⟩) | (go_at_call 40; refine (i_isItem _ _).mono ?_; rintro e w' ⟨rfl, rfl⟩) | (go_at_call 28; refine (i_within _ _ _ _).mono ?_; rintro e w' ⟨rfl, rfl⟩))
  all_goals (go_ret; refine ⟨ret_bool ?_, (Below.refl _ _).alloc (Nat.le_refl _) _⟩; first | rfl | (simp_all [kidB]; done) | (simp_all [kidB]; omega) | (rename_i h; have h2 := lv_expr h; simp_all [kidB]; done) | (rename_i h; have h2 := kid_not h; simp [kidB, h2]; done) | (rename_i h; have h2 := kid_yes h; simp [kidB, h2]; done))
set_option maxRecDepth 100000 in
set_option maxHeartbeats 1000000 in
theorem i_kidOk_25 (o : Int) (t u : ByteArray) (A : Option Addr) (n c : Nat) (j : Nat) (x : Int) (w : World) (hn : n ≤ c) (hc : c ≤ 9223372036854775807) (hj : j < n) : Calls Tryz.prog 18 #[.agg #[.int .i64 25, .int .i64 o, .string t, .string u, .slice A n c], .int .i64 j, .int .i64 x] w (RetBool w (kidB 25 o n j x)) := by
  go_enter Tryz.func18, Tryz.ntmps18
  go_wp2_with (first | (go_at_call 11; refine (i_isExpr _ _).mono ?_; rintro e w' ⟨rfl, rfl⟩) | (go_at_call 39; refine (i_isLvalue _ _).mono ?_; rintro e w' ⟨rfl, rfl⟩) | (go_at_call 26; refine (i_isStmt _ _).mono ?_; rintro e w' ⟨rfl, rfl⟩) | (go_at_call 40; refine (i_isItem _ _).mono ?_; rintro e w' ⟨rfl, rfl⟩) | (go_at_call 28; refine (i_within _ _ _ _).mono ?_; rintro e w' ⟨rfl, rfl⟩))
  all_goals (go_ret; refine ⟨ret_bool ?_, (Below.refl _ _).alloc (Nat.le_refl _) _⟩; first | rfl | (simp_all [kidB]; done) | (simp_all [kidB]; omega) | (rename_i h; have h2 := lv_expr h; simp_all [kidB]; done) | (rename_i h; have h2 := kid_not h; simp [kidB, h2]; done) | (rename_i h; have h2 := kid_yes h; simp [kidB, h2]; done))
set_option maxRecDepth 100000 in
set_option maxHeartbeats 1000000 in
theorem i_kidOk_26 (o : Int) (t u : ByteArray) (A : Option Addr) (n c : Nat) (j : Nat) (x : Int) (w : World) (hn : n ≤ c) (hc : c ≤ 9223372036854775807) (hj : j < n) : Calls Tryz.prog 18 #[.agg #[.int .i64 26, .int .i64 o, .string t, .string u, .slice A n c], .int .i64 j, .int .i64 x] w (RetBool w (kidB 26 o n j x)) := by
  go_enter Tryz.func18, Tryz.ntmps18
  go_wp2_with (first | (go_at_call 11; refine (i_isExpr _ _).mono ?_; rintro e w' ⟨rfl, rfl⟩) | (go_at_call 39; refine (i_isLvalue _ _).mono ?_; rintro e w' ⟨rfl, rfl⟩) | (go_at_call 26; refine (i_isStmt _ _).mono ?_; rintro e w' ⟨rfl, rfl⟩) | (go_at_call 40; refine (i_isItem _ _).mono ?_; rintro e w' ⟨rfl, rfl⟩) | (go_at_call 28; refine (i_within _ _ _ _).mono ?_; rintro e w' ⟨rfl, rfl⟩))
  all_goals (go_ret; refine ⟨ret_bool ?_, (Below.refl _ _).alloc (Nat.le_refl _) _⟩; first | rfl | (simp_all [kidB]; done) | (simp_all [kidB]; omega) | (rename_i h; have h2 := lv_expr h; simp_all [kidB]; done) | (rename_i h; have h2 := kid_not h; simp [kidB, h2]; done) | (rename_i h; have h2 := kid_yes h; simp [kidB, h2]; done))
set_option maxRecDepth 100000 in
set_option maxHeartbeats 1000000 in
theorem i_kidOk_27 (o : Int) (t u : ByteArray) (A : Option Addr) (n c : Nat) (j : Nat) (x : Int) (w : World) (hn : n ≤ c) (hc : c ≤ 9223372036854775807) (hj : j < n) : Calls Tryz.prog 18 #[.agg #[.int .i64 27, .int .i64 o, .string t, .string u, .slice A n c], .int .i64 j, .int .i64 x] w (RetBool w (kidB 27 o n j x)) := by
  go_enter Tryz.func18, Tryz.ntmps18
  go_wp2_with (first | (go_at_call 11; refine (i_isExpr _ _).mono ?_; rintro e w' ⟨rfl, rfl⟩) | (go_at_call 39; refine (i_isLvalue _ _).mono ?_; rintro e w' ⟨rfl, rfl⟩) | (go_at_call 26; refine (i_isStmt _ _).mono ?_; rintro e w' ⟨rfl, rfl⟩) | (go_at_call 40; refine (i_isItem _ _).mono ?_; rintro e w' ⟨rfl, rfl⟩) | (go_at_call 28; refine (i_within _ _ _ _).mono ?_; rintro e w' ⟨rfl, rfl⟩))
  all_goals (go_ret; refine ⟨ret_bool ?_, (Below.refl _ _).alloc (Nat.le_refl _) _⟩; first | rfl | (simp_all [kidB]; done) | (simp_all [kidB]; omega) | (rename_i h; have h2 := lv_expr h; simp_all [kidB]; done) | (rename_i h; have h2 := kid_not h; simp [kidB, h2]; done) | (rename_i h; have h2 := kid_yes h; simp [kidB, h2]; done))
set_option maxRecDepth 100000 in
set_option maxHeartbeats 1000000 in
theorem i_kidOk_32 (o : Int) (t u : ByteArray) (A : Option Addr) (n c : Nat) (j : Nat) (x : Int) (w : World) (hn : n ≤ c) (hc : c ≤ 9223372036854775807) (hj : j < n) : Calls Tryz.prog 18 #[.agg #[.int .i64 32, .int .i64 o, .string t, .string u, .slice A n c], .int .i64 j, .int .i64 x] w (RetBool w (kidB 32 o n j x)) := by
  go_enter Tryz.func18, Tryz.ntmps18
  go_wp2_with (first | (go_at_call 11; refine (i_isExpr _ _).mono ?_; rintro e w' ⟨rfl, rfl⟩) | (go_at_call 39; refine (i_isLvalue _ _).mono ?_; rintro e w' ⟨rfl, rfl⟩) | (go_at_call 26; refine (i_isStmt _ _).mono ?_; rintro e w' ⟨rfl, rfl⟩) | (go_at_call 40; refine (i_isItem _ _).mono ?_; rintro e w' ⟨rfl, rfl⟩) | (go_at_call 28; refine (i_within _ _ _ _).mono ?_; rintro e w' ⟨rfl, rfl⟩))
  all_goals (go_ret; refine ⟨ret_bool ?_, (Below.refl _ _).alloc (Nat.le_refl _) _⟩; first | rfl | (simp_all [kidB]; done) | (simp_all [kidB]; omega) | (rename_i h; have h2 := lv_expr h; simp_all [kidB]; done) | (rename_i h; have h2 := kid_not h; simp [kidB, h2]; done) | (rename_i h; have h2 := kid_yes h; simp [kidB, h2]; done))
set_option maxRecDepth 100000 in
set_option maxHeartbeats 1000000 in
theorem i_kidOk_33 (o : Int) (t u : ByteArray) (A : Option Addr) (n c : Nat) (j : Nat) (x : Int) (w : World) (hn : n ≤ c) (hc : c ≤ 9223372036854775807) (hj : j < n) : Calls Tryz.prog 18 #[.agg #[.int .i64 33, .int .i64 o, .string t, .string u, .slice A n c], .int .i64 j, .int .i64 x] w (RetBool w (kidB 33 o n j x)) := by
  go_enter Tryz.func18, Tryz.ntmps18
  go_wp2_with (first | (go_at_call 11; refine (i_isExpr _ _).mono ?_; rintro e w' ⟨rfl, rfl⟩) | (go_at_call 39; refine (i_isLvalue _ _).mono ?_; rintro e w' ⟨rfl, rfl⟩) | (go_at_call 26; refine (i_isStmt _ _).mono ?_; rintro e w' ⟨rfl, rfl⟩) | (go_at_call 40; refine (i_isItem _ _).mono ?_; rintro e w' ⟨rfl, rfl⟩) | (go_at_call 28; refine (i_within _ _ _ _).mono ?_; rintro e w' ⟨rfl, rfl⟩))
  all_goals (go_ret; refine ⟨ret_bool ?_, (Below.refl _ _).alloc (Nat.le_refl _) _⟩; first | rfl | (simp_all [kidB]; done) | (simp_all [kidB]; omega) | (rename_i h; have h2 := lv_expr h; simp_all [kidB]; done) | (rename_i h; have h2 := kid_not h; simp [kidB, h2]; done) | (rename_i h; have h2 := kid_yes h; simp [kidB, h2]; done))
set_option maxRecDepth 100000 in
set_option maxHeartbeats 1000000 in
theorem i_kidOk_34 (o : Int) (t u : ByteArray) (A : Option Addr) (n c : Nat) (j : Nat) (x : Int) (w : World) (hn : n ≤ c) (hc : c ≤ 9223372036854775807) (hj : j < n) : Calls Tryz.prog 18 #[.agg #[.int .i64 34, .int .i64 o, .string t, .string u, .slice A n c], .int .i64 j, .int .i64 x] w (RetBool w (kidB 34 o n j x)) := by
  go_enter Tryz.func18, Tryz.ntmps18
  go_wp2_with (first | (go_at_call 11; refine (i_isExpr _ _).mono ?_; rintro e w' ⟨rfl, rfl⟩) | (go_at_call 39; refine (i_isLvalue _ _).mono ?_; rintro e w' ⟨rfl, rfl⟩) | (go_at_call 26; refine (i_isStmt _ _).mono ?_; rintro e w' ⟨rfl, rfl⟩) | (go_at_call 40; refine (i_isItem _ _).mono ?_; rintro e w' ⟨rfl, rfl⟩) | (go_at_call 28; refine (i_within _ _ _ _).mono ?_; rintro e w' ⟨rfl, rfl⟩))
  all_goals (go_ret; refine ⟨ret_bool ?_, (Below.refl _ _).alloc (Nat.le_refl _) _⟩; first | rfl | (simp_all [kidB]; done) | (simp_all [kidB]; omega) | (rename_i h; have h2 := lv_expr h; simp_all [kidB]; done) | (rename_i h; have h2 := kid_not h; simp [kidB, h2]; done) | (rename_i h; have h2 := kid_yes h; simp [kidB, h2]; done))
set_option maxRecDepth 100000 in
set_option maxHeartbeats 1000000 in
theorem i_kidOk_40 (o : Int) (t u : ByteArray) (A : Option Addr) (n c : Nat) (j : Nat) (x : Int) (w : World) (hn : n ≤ c) (hc : c ≤ 9223372036854775807) (hj : j < n) : Calls Tryz.prog 18 #[.agg #[.int .i64 40, .int .i64 o, .string t, .string u, .slice A n c], .int .i64 j, .int .i64 x] w (RetBool w (kidB 40 o n j x)) := by
  go_enter Tryz.func18, Tryz.ntmps18
  go_wp2_with (first | (go_at_call 11; refine (i_isExpr _ _).mono ?_; rintro e w' ⟨rfl, rfl⟩) | (go_at_call 39; refine (i_isLvalue _ _).mono ?_; rintro e w' ⟨rfl, rfl⟩) | (go_at_call 26; refine (i_isStmt _ _).mono ?_; rintro e w' ⟨rfl, rfl⟩) | (go_at_call 40; refine (i_isItem _ _).mono ?_; rintro e w' ⟨rfl, rfl⟩) | (go_at_call 28; refine (i_within _ _ _ _).mono ?_; rintro e w' ⟨rfl, rfl⟩))
  all_goals (go_ret; refine ⟨ret_bool ?_, (Below.refl _ _).alloc (Nat.le_refl _) _⟩; first | rfl | (simp_all [kidB]; done) | (simp_all [kidB]; omega) | (rename_i h; have h2 := lv_expr h; simp_all [kidB]; done) | (rename_i h; have h2 := kid_not h; simp [kidB, h2]; done) | (rename_i h; have h2 := kid_yes h; simp [kidB, h2]; done))
set_option maxRecDepth 100000 in
set_option maxHeartbeats 1000000 in
theorem i_kidOk_41 (o : Int) (t u : ByteArray) (A : Option Addr) (n c : Nat) (j : Nat) (x : Int) (w : World) (hn : n ≤ c) (hc : c ≤ 9223372036854775807) (hj : j < n) : Calls Tryz.prog 18 #[.agg #[.int .i64 41, .int .i64 o, .string t, .string u, .slice A n c], .int .i64 j, .int .i64 x] w (RetBool w (kidB 41 o n j x)) := by
  go_enter Tryz.func18, Tryz.ntmps18
  go_wp2_with (first | (go_at_call 11; refine (i_isExpr _ _).mono ?_; rintro e w' ⟨rfl, rfl⟩) | (go_at_call 39; refine (i_isLvalue _ _).mono ?_; rintro e w' ⟨rfl, rfl⟩) | (go_at_call 26; refine (i_isStmt _ _).mono ?_; rintro e w' ⟨rfl, rfl⟩) | (go_at_call 40; refine (i_isItem _ _).mono ?_; rintro e w' ⟨rfl, rfl⟩) | (go_at_call 28; refine (i_within _ _ _ _).mono ?_; rintro e w' ⟨rfl, rfl⟩))
  all_goals (go_ret; refine ⟨ret_bool ?_, (Below.refl _ _).alloc (Nat.le_refl _) _⟩; first | rfl | (simp_all [kidB]; done) | (simp_all [kidB]; omega) | (rename_i h; have h2 := lv_expr h; simp_all [kidB]; done) | (rename_i h; have h2 := kid_not h; simp [kidB, h2]; done) | (rename_i h; have h2 := kid_yes h; simp [kidB, h2]; done))
set_option maxRecDepth 100000 in
set_option maxHeartbeats 1000000 in
theorem i_kidOk_45 (o : Int) (t u : ByteArray) (A : Option Addr) (n c : Nat) (j : Nat) (x : Int) (w : World) (hn : n ≤ c) (hc : c ≤ 9223372036854775807) (hj : j < n) : Calls Tryz.prog 18 #[.agg #[.int .i64 45, .int .i64 o, .string t, .string u, .slice A n c], .int .i64 j, .int .i64 x] w (RetBool w (kidB 45 o n j x)) := by
  go_enter Tryz.func18, Tryz.ntmps18
  go_wp2_with (first | (go_at_call 11; refine (i_isExpr _ _).mono ?_; rintro e w' ⟨rfl, rfl⟩) | (go_at_call 39; refine (i_isLvalue _ _).mono ?_; rintro e w' ⟨rfl, rfl⟩) | (go_at_call 26; refine (i_isStmt _ _).mono ?_; rintro e w' ⟨rfl, rfl⟩) | (go_at_call 40; refine (i_isItem _ _).mono ?_; rintro e w' ⟨rfl, rfl⟩) | (go_at_call 28; refine (i_within _ _ _ _).mono ?_; rintro e w' ⟨rfl, rfl⟩))
  all_goals (go_ret; refine ⟨ret_bool ?_, (Below.refl _ _).alloc (Nat.le_refl _) _⟩; first | rfl | (simp_all [kidB]; done) | (simp_all [kidB]; omega) | (rename_i h; have h2 := lv_expr h; simp_all [kidB]; done) | (rename_i h; have h2 := kid_not h; simp [kidB, h2]; done) | (rename_i h; have h2 := kid_yes h; simp [kidB, h2]; done))
set_option maxRecDepth 100000 in
set_option maxHeartbeats 1000000 in
theorem i_kidOk_15 (o : Int) (t u : ByteArray) (A : Option Addr) (n c : Nat) (j : Nat) (x : Int) (w : World) (hn : n ≤ c) (hc : c ≤ 9223372036854775807) (hj : j < n) : Calls Tryz.prog 18 #[.agg #[.int .i64 15, .int .i64 o, .string t, .string u, .slice A n c], .int .i64 j, .int .i64 x] w (RetBool w (kidB 15 o n j x)) := by
  go_enter Tryz.func18, Tryz.ntmps18
  go_wp2_with (first | (go_at_call 11; refine (i_isExpr _ _).mono ?_; rintro e w' ⟨rfl, rfl⟩) | (go_at_call 39; refine (i_isLvalue _ _).mono ?_; rintro e w' ⟨rfl, rfl⟩) | (go_at_call 26; refine (i_isStmt _ _).mono ?_; rintro e w' ⟨rfl, rfl⟩) | (go_at_call 40; refine (i_isItem _ _).mono ?_; rintro e w' ⟨rfl, rfl⟩) | (go_at_call 28; refine (i_within _ _ _ _).mono ?_; rintro e w' ⟨rfl, rfl⟩))
  all_goals (go_ret; refine ⟨ret_bool ?_, (Below.refl _ _).alloc (Nat.le_refl _) _⟩; first | rfl | (simp_all [kidB]; done) | (simp_all [kidB]; omega) | (rename_i h; have h2 := lv_expr h; simp_all [kidB]; done) | (rename_i h; have h2 := kid_not h; simp [kidB, h2]; done) | (rename_i h; have h2 := kid_yes h; simp [kidB, h2]; done))
set_option maxRecDepth 100000 in
set_option maxHeartbeats 1000000 in
theorem i_kidOk_28 (o : Int) (t u : ByteArray) (A : Option Addr) (n c : Nat) (j : Nat) (x : Int) (w : World) (hn : n ≤ c) (hc : c ≤ 9223372036854775807) (hj : j < n) : Calls Tryz.prog 18 #[.agg #[.int .i64 28, .int .i64 o, .string t, .string u, .slice A n c], .int .i64 j, .int .i64 x] w (RetBool w (kidB 28 o n j x)) := by
  go_enter Tryz.func18, Tryz.ntmps18
  go_wp2_with (first | (go_at_call 11; refine (i_isExpr _ _).mono ?_; rintro e w' ⟨rfl, rfl⟩) | (go_at_call 39; refine (i_isLvalue _ _).mono ?_; rintro e w' ⟨rfl, rfl⟩) | (go_at_call 26; refine (i_isStmt _ _).mono ?_; rintro e w' ⟨rfl, rfl⟩) | (go_at_call 40; refine (i_isItem _ _).mono ?_; rintro e w' ⟨rfl, rfl⟩) | (go_at_call 28; refine (i_within _ _ _ _).mono ?_; rintro e w' ⟨rfl, rfl⟩))
  all_goals (go_ret; refine ⟨ret_bool ?_, (Below.refl _ _).alloc (Nat.le_refl _) _⟩; first | rfl | (simp_all [kidB]; done) | (simp_all [kidB]; omega) | (rename_i h; have h2 := lv_expr h; simp_all [kidB]; done) | (rename_i h; have h2 := kid_not h; simp [kidB, h2]; done) | (rename_i h; have h2 := kid_yes h; simp [kidB, h2]; done))
set_option maxRecDepth 100000 in
set_option maxHeartbeats 1000000 in
theorem i_kidOk_44 (o : Int) (t u : ByteArray) (A : Option Addr) (n c : Nat) (j : Nat) (x : Int) (w : World) (hn : n ≤ c) (hc : c ≤ 9223372036854775807) (hj : j < n) : Calls Tryz.prog 18 #[.agg #[.int .i64 44, .int .i64 o, .string t, .string u, .slice A n c], .int .i64 j, .int .i64 x] w (RetBool w (kidB 44 o n j x)) := by
  go_enter Tryz.func18, Tryz.ntmps18
  go_wp2_with (first | (go_at_call 11; refine (i_isExpr _ _).mono ?_; rintro e w' ⟨rfl, rfl⟩) | (go_at_call 39; refine (i_isLvalue _ _).mono ?_; rintro e w' ⟨rfl, rfl⟩) | (go_at_call 26; refine (i_isStmt _ _).mono ?_; rintro e w' ⟨rfl, rfl⟩) | (go_at_call 40; refine (i_isItem _ _).mono ?_; rintro e w' ⟨rfl, rfl⟩) | (go_at_call 28; refine (i_within _ _ _ _).mono ?_; rintro e w' ⟨rfl, rfl⟩))
  all_goals (go_ret; refine ⟨ret_bool ?_, (Below.refl _ _).alloc (Nat.le_refl _) _⟩; first | rfl | (simp_all [kidB]; done) | (simp_all [kidB]; omega) | (rename_i h; have h2 := lv_expr h; simp_all [kidB]; done) | (rename_i h; have h2 := kid_not h; simp [kidB, h2]; done) | (rename_i h; have h2 := kid_yes h; simp [kidB, h2]; done))
set_option maxRecDepth 100000 in
set_option maxHeartbeats 1000000 in
theorem i_kidOk_29 (o : Int) (t u : ByteArray) (A : Option Addr) (n c : Nat) (j : Nat) (x : Int) (w : World) (hn : n ≤ c) (hc : c ≤ 9223372036854775807) (hj : j < n) (hm : n = 2) : Calls Tryz.prog 18 #[.agg #[.int .i64 29, .int .i64 o, .string t, .string u, .slice A n c], .int .i64 j, .int .i64 x] w (RetBool w (kidB 29 o n j x)) := by
  subst hm
  rcases (by omega : j = 0 ∨ j = 1) with rfl | rfl
  · go_enter Tryz.func18, Tryz.ntmps18
    go_wp2_with (first | (go_at_call 11; refine (i_isExpr _ _).mono ?_; rintro e w' ⟨rfl, rfl⟩) | (go_at_call 39; refine (i_isLvalue _ _).mono ?_; rintro e w' ⟨rfl, rfl⟩) | (go_at_call 26; refine (i_isStmt _ _).mono ?_; rintro e w' ⟨rfl, rfl⟩) | (go_at_call 40; refine (i_isItem _ _).mono ?_; rintro e w' ⟨rfl, rfl⟩) | (go_at_call 28; refine (i_within _ _ _ _).mono ?_; rintro e w' ⟨rfl, rfl⟩))
    all_goals (go_ret; refine ⟨ret_bool ?_, (Below.refl _ _).alloc (Nat.le_refl _) _⟩; first | rfl | (simp_all [kidB]; done) | (simp_all [kidB]; omega) | (rename_i h; have h2 := lv_expr h; simp_all [kidB]; done) | (rename_i h; have h2 := kid_not h; simp [kidB, h2]; done) | (rename_i h; have h2 := kid_yes h; simp [kidB, h2]; done))
  · go_enter Tryz.func18, Tryz.ntmps18
    go_wp2_with (first | (go_at_call 11; refine (i_isExpr _ _).mono ?_; rintro e w' ⟨rfl, rfl⟩) | (go_at_call 39; refine (i_isLvalue _ _).mono ?_; rintro e w' ⟨rfl, rfl⟩) | (go_at_call 26; refine (i_isStmt _ _).mono ?_; rintro e w' ⟨rfl, rfl⟩) | (go_at_call 40; refine (i_isItem _ _).mono ?_; rintro e w' ⟨rfl, rfl⟩) | (go_at_call 28; refine (i_within _ _ _ _).mono ?_; rintro e w' ⟨rfl, rfl⟩))
    all_goals (go_ret; refine ⟨ret_bool ?_, (Below.refl _ _).alloc (Nat.le_refl _) _⟩; first | rfl | (simp_all [kidB]; done) | (simp_all [kidB]; omega) | (rename_i h; have h2 := lv_expr h; simp_all [kidB]; done) | (rename_i h; have h2 := kid_not h; simp [kidB, h2]; done) | (rename_i h; have h2 := kid_yes h; simp [kidB, h2]; done))
set_option maxRecDepth 100000 in
set_option maxHeartbeats 1000000 in
theorem i_kidOk_30 (o : Int) (t u : ByteArray) (A : Option Addr) (n c : Nat) (j : Nat) (x : Int) (w : World) (hn : n ≤ c) (hc : c ≤ 9223372036854775807) (hj : j < n) (hm : n = 2) : Calls Tryz.prog 18 #[.agg #[.int .i64 30, .int .i64 o, .string t, .string u, .slice A n c], .int .i64 j, .int .i64 x] w (RetBool w (kidB 30 o n j x)) := by
  subst hm
  rcases (by omega : j = 0 ∨ j = 1) with rfl | rfl
  · go_enter Tryz.func18, Tryz.ntmps18
    go_wp2_with (first | (go_at_call 11; refine (i_isExpr _ _).mono ?_; rintro e w' ⟨rfl, rfl⟩) | (go_at_call 39; refine (i_isLvalue _ _).mono ?_; rintro e w' ⟨rfl, rfl⟩) | (go_at_call 26; refine (i_isStmt _ _).mono ?_; rintro e w' ⟨rfl, rfl⟩) | (go_at_call 40; refine (i_isItem _ _).mono ?_; rintro e w' ⟨rfl, rfl⟩) | (go_at_call 28; refine (i_within _ _ _ _).mono ?_; rintro e w' ⟨rfl, rfl⟩))
    all_goals (go_ret; refine ⟨ret_bool ?_, (Below.refl _ _).alloc (Nat.le_refl _) _⟩; first | rfl | (simp_all [kidB]; done) | (simp_all [kidB]; omega) | (rename_i h; have h2 := lv_expr h; simp_all [kidB]; done) | (rename_i h; have h2 := kid_not h; simp [kidB, h2]; done) | (rename_i h; have h2 := kid_yes h; simp [kidB, h2]; done))
  · go_enter Tryz.func18, Tryz.ntmps18
    go_wp2_with (first | (go_at_call 11; refine (i_isExpr _ _).mono ?_; rintro e w' ⟨rfl, rfl⟩) | (go_at_call 39; refine (i_isLvalue _ _).mono ?_; rintro e w' ⟨rfl, rfl⟩) | (go_at_call 26; refine (i_isStmt _ _).mono ?_; rintro e w' ⟨rfl, rfl⟩) | (go_at_call 40; refine (i_isItem _ _).mono ?_; rintro e w' ⟨rfl, rfl⟩) | (go_at_call 28; refine (i_within _ _ _ _).mono ?_; rintro e w' ⟨rfl, rfl⟩))
    all_goals (go_ret; refine ⟨ret_bool ?_, (Below.refl _ _).alloc (Nat.le_refl _) _⟩; first | rfl | (simp_all [kidB]; done) | (simp_all [kidB]; omega) | (rename_i h; have h2 := lv_expr h; simp_all [kidB]; done) | (rename_i h; have h2 := kid_not h; simp [kidB, h2]; done) | (rename_i h; have h2 := kid_yes h; simp [kidB, h2]; done))
set_option maxRecDepth 100000 in
set_option maxHeartbeats 1000000 in
theorem i_kidOk_31 (o : Int) (t u : ByteArray) (A : Option Addr) (n c : Nat) (j : Nat) (x : Int) (w : World) (hn : n ≤ c) (hc : c ≤ 9223372036854775807) (hj : j < n) (hm : n = 4) : Calls Tryz.prog 18 #[.agg #[.int .i64 31, .int .i64 o, .string t, .string u, .slice A n c], .int .i64 j, .int .i64 x] w (RetBool w (kidB 31 o n j x)) := by
  subst hm
  rcases (by omega : j = 0 ∨ j = 1 ∨ j = 2 ∨ j = 3) with rfl | rfl | rfl | rfl
  · go_enter Tryz.func18, Tryz.ntmps18
    go_wp2_with (first | (go_at_call 11; refine (i_isExpr _ _).mono ?_; rintro e w' ⟨rfl, rfl⟩) | (go_at_call 39; refine (i_isLvalue _ _).mono ?_; rintro e w' ⟨rfl, rfl⟩) | (go_at_call 26; refine (i_isStmt _ _).mono ?_; rintro e w' ⟨rfl, rfl⟩) | (go_at_call 40; refine (i_isItem _ _).mono ?_; rintro e w' ⟨rfl, rfl⟩) | (go_at_call 28; refine (i_within _ _ _ _).mono ?_; rintro e w' ⟨rfl, rfl⟩))
    all_goals (go_ret; refine ⟨ret_bool ?_, (Below.refl _ _).alloc (Nat.le_refl _) _⟩; first | rfl | (simp_all [kidB]; done) | (simp_all [kidB]; omega) | (rename_i h; have h2 := lv_expr h; simp_all [kidB]; done) | (rename_i h; have h2 := kid_not h; simp [kidB, h2]; done) | (rename_i h; have h2 := kid_yes h; simp [kidB, h2]; done))
  · go_enter Tryz.func18, Tryz.ntmps18
    go_wp2_with (first | (go_at_call 11; refine (i_isExpr _ _).mono ?_; rintro e w' ⟨rfl, rfl⟩) | (go_at_call 39; refine (i_isLvalue _ _).mono ?_; rintro e w' ⟨rfl, rfl⟩) | (go_at_call 26; refine (i_isStmt _ _).mono ?_; rintro e w' ⟨rfl, rfl⟩) | (go_at_call 40; refine (i_isItem _ _).mono ?_; rintro e w' ⟨rfl, rfl⟩) | (go_at_call 28; refine (i_within _ _ _ _).mono ?_; rintro e w' ⟨rfl, rfl⟩))
    all_goals (go_ret; refine ⟨ret_bool ?_, (Below.refl _ _).alloc (Nat.le_refl _) _⟩; first | rfl | (simp_all [kidB]; done) | (simp_all [kidB]; omega) | (rename_i h; have h2 := lv_expr h; simp_all [kidB]; done) | (rename_i h; have h2 := kid_not h; simp [kidB, h2]; done) | (rename_i h; have h2 := kid_yes h; simp [kidB, h2]; done))
  · go_enter Tryz.func18, Tryz.ntmps18
    go_wp2_with (first | (go_at_call 11; refine (i_isExpr _ _).mono ?_; rintro e w' ⟨rfl, rfl⟩) | (go_at_call 39; refine (i_isLvalue _ _).mono ?_; rintro e w' ⟨rfl, rfl⟩) | (go_at_call 26; refine (i_isStmt _ _).mono ?_; rintro e w' ⟨rfl, rfl⟩) | (go_at_call 40; refine (i_isItem _ _).mono ?_; rintro e w' ⟨rfl, rfl⟩) | (go_at_call 28; refine (i_within _ _ _ _).mono ?_; rintro e w' ⟨rfl, rfl⟩))
    all_goals (go_ret; refine ⟨ret_bool ?_, (Below.refl _ _).alloc (Nat.le_refl _) _⟩; first | rfl | (simp_all [kidB]; done) | (simp_all [kidB]; omega) | (rename_i h; have h2 := lv_expr h; simp_all [kidB]; done) | (rename_i h; have h2 := kid_not h; simp [kidB, h2]; done) | (rename_i h; have h2 := kid_yes h; simp [kidB, h2]; done))
  · go_enter Tryz.func18, Tryz.ntmps18
    go_wp2_with (first | (go_at_call 11; refine (i_isExpr _ _).mono ?_; rintro e w' ⟨rfl, rfl⟩) | (go_at_call 39; refine (i_isLvalue _ _).mono ?_; rintro e w' ⟨rfl, rfl⟩) | (go_at_call 26; refine (i_isStmt _ _).mono ?_; rintro e w' ⟨rfl, rfl⟩) | (go_at_call 40; refine (i_isItem _ _).mono ?_; rintro e w' ⟨rfl, rfl⟩) | (go_at_call 28; refine (i_within _ _ _ _).mono ?_; rintro e w' ⟨rfl, rfl⟩))
    all_goals (go_ret; refine ⟨ret_bool ?_, (Below.refl _ _).alloc (Nat.le_refl _) _⟩; first | rfl | (simp_all [kidB]; done) | (simp_all [kidB]; omega) | (rename_i h; have h2 := lv_expr h; simp_all [kidB]; done) | (rename_i h; have h2 := kid_not h; simp [kidB, h2]; done) | (rename_i h; have h2 := kid_yes h; simp [kidB, h2]; done))
set_option maxRecDepth 100000 in
set_option maxHeartbeats 1000000 in
theorem i_kidOk_42a (o : Int) (t u : ByteArray) (A : Option Addr) (n c : Nat) (j : Nat) (x : Int) (w : World) (hn : n ≤ c) (hc : c ≤ 9223372036854775807) (hj : j < n) (ho : o = 1) (hm : n = 1) : Calls Tryz.prog 18 #[.agg #[.int .i64 42, .int .i64 o, .string t, .string u, .slice A n c], .int .i64 j, .int .i64 x] w (RetBool w (kidB 42 o n j x)) := by
  subst ho; subst hm
  rcases (by omega : j = 0) with rfl
  · go_enter Tryz.func18, Tryz.ntmps18
    go_wp2_with (first | (go_at_call 11; refine (i_isExpr _ _).mono ?_; rintro e w' ⟨rfl, rfl⟩) | (go_at_call 39; refine (i_isLvalue _ _).mono ?_; rintro e w' ⟨rfl, rfl⟩) | (go_at_call 26; refine (i_isStmt _ _).mono ?_; rintro e w' ⟨rfl, rfl⟩) | (go_at_call 40; refine (i_isItem _ _).mono ?_; rintro e w' ⟨rfl, rfl⟩) | (go_at_call 28; refine (i_within _ _ _ _).mono ?_; rintro e w' ⟨rfl, rfl⟩))
    all_goals (go_ret; refine ⟨ret_bool ?_, (Below.refl _ _).alloc (Nat.le_refl _) _⟩; first | rfl | (simp_all [kidB]; done) | (simp_all [kidB]; omega) | (rename_i h; have h2 := lv_expr h; simp_all [kidB]; done) | (rename_i h; have h2 := kid_not h; simp [kidB, h2]; done) | (rename_i h; have h2 := kid_yes h; simp [kidB, h2]; done))
set_option maxRecDepth 100000 in
set_option maxHeartbeats 1000000 in
theorem i_kidOk_42b (o : Int) (t u : ByteArray) (A : Option Addr) (n c : Nat) (j : Nat) (x : Int) (w : World) (hn : n ≤ c) (hc : c ≤ 9223372036854775807) (hj : j < n) (ho : o = 2) (hm : n = 1) : Calls Tryz.prog 18 #[.agg #[.int .i64 42, .int .i64 o, .string t, .string u, .slice A n c], .int .i64 j, .int .i64 x] w (RetBool w (kidB 42 o n j x)) := by
  subst ho; subst hm
  rcases (by omega : j = 0) with rfl
  · go_enter Tryz.func18, Tryz.ntmps18
    go_wp2_with (first | (go_at_call 11; refine (i_isExpr _ _).mono ?_; rintro e w' ⟨rfl, rfl⟩) | (go_at_call 39; refine (i_isLvalue _ _).mono ?_; rintro e w' ⟨rfl, rfl⟩) | (go_at_call 26; refine (i_isStmt _ _).mono ?_; rintro e w' ⟨rfl, rfl⟩) | (go_at_call 40; refine (i_isItem _ _).mono ?_; rintro e w' ⟨rfl, rfl⟩) | (go_at_call 28; refine (i_within _ _ _ _).mono ?_; rintro e w' ⟨rfl, rfl⟩))
    all_goals (go_ret; refine ⟨ret_bool ?_, (Below.refl _ _).alloc (Nat.le_refl _) _⟩; first | rfl | (simp_all [kidB]; done) | (simp_all [kidB]; omega) | (rename_i h; have h2 := lv_expr h; simp_all [kidB]; done) | (rename_i h; have h2 := kid_not h; simp [kidB, h2]; done) | (rename_i h; have h2 := kid_yes h; simp [kidB, h2]; done))
set_option maxRecDepth 100000 in
set_option maxHeartbeats 1000000 in
theorem i_kidOk_42c (o : Int) (t u : ByteArray) (A : Option Addr) (n c : Nat) (j : Nat) (x : Int) (w : World) (hn : n ≤ c) (hc : c ≤ 9223372036854775807) (hj : j < n) (ho : o = 3) (hm : n = 2) : Calls Tryz.prog 18 #[.agg #[.int .i64 42, .int .i64 o, .string t, .string u, .slice A n c], .int .i64 j, .int .i64 x] w (RetBool w (kidB 42 o n j x)) := by
  subst ho; subst hm
  rcases (by omega : j = 0 ∨ j = 1) with rfl | rfl
  · go_enter Tryz.func18, Tryz.ntmps18
    go_wp2_with (first | (go_at_call 11; refine (i_isExpr _ _).mono ?_; rintro e w' ⟨rfl, rfl⟩) | (go_at_call 39; refine (i_isLvalue _ _).mono ?_; rintro e w' ⟨rfl, rfl⟩) | (go_at_call 26; refine (i_isStmt _ _).mono ?_; rintro e w' ⟨rfl, rfl⟩) | (go_at_call 40; refine (i_isItem _ _).mono ?_; rintro e w' ⟨rfl, rfl⟩) | (go_at_call 28; refine (i_within _ _ _ _).mono ?_; rintro e w' ⟨rfl, rfl⟩))
    all_goals (go_ret; refine ⟨ret_bool ?_, (Below.refl _ _).alloc (Nat.le_refl _) _⟩; first | rfl | (simp_all [kidB]; done) | (simp_all [kidB]; omega) | (rename_i h; have h2 := lv_expr h; simp_all [kidB]; done) | (rename_i h; have h2 := kid_not h; simp [kidB, h2]; done) | (rename_i h; have h2 := kid_yes h; simp [kidB, h2]; done))
  · go_enter Tryz.func18, Tryz.ntmps18
    go_wp2_with (first | (go_at_call 11; refine (i_isExpr _ _).mono ?_; rintro e w' ⟨rfl, rfl⟩) | (go_at_call 39; refine (i_isLvalue _ _).mono ?_; rintro e w' ⟨rfl, rfl⟩) | (go_at_call 26; refine (i_isStmt _ _).mono ?_; rintro e w' ⟨rfl, rfl⟩) | (go_at_call 40; refine (i_isItem _ _).mono ?_; rintro e w' ⟨rfl, rfl⟩) | (go_at_call 28; refine (i_within _ _ _ _).mono ?_; rintro e w' ⟨rfl, rfl⟩))
    all_goals (go_ret; refine ⟨ret_bool ?_, (Below.refl _ _).alloc (Nat.le_refl _) _⟩; first | rfl | (simp_all [kidB]; done) | (simp_all [kidB]; omega) | (rename_i h; have h2 := lv_expr h; simp_all [kidB]; done) | (rename_i h; have h2 := kid_not h; simp [kidB, h2]; done) | (rename_i h; have h2 := kid_yes h; simp [kidB, h2]; done))
set_option maxRecDepth 100000 in
set_option maxHeartbeats 1000000 in
theorem i_kidOk_43a (o : Int) (t u : ByteArray) (A : Option Addr) (n c : Nat) (j : Nat) (x : Int) (w : World) (hn : n ≤ c) (hc : c ≤ 9223372036854775807) (hj : j < n) (ho : o = 1) (hm : n = 2) : Calls Tryz.prog 18 #[.agg #[.int .i64 43, .int .i64 o, .string t, .string u, .slice A n c], .int .i64 j, .int .i64 x] w (RetBool w (kidB 43 o n j x)) := by
  subst ho; subst hm
  rcases (by omega : j = 0 ∨ j = 1) with rfl | rfl
  · go_enter Tryz.func18, Tryz.ntmps18
    go_wp2_with (first | (go_at_call 11; refine (i_isExpr _ _).mono ?_; rintro e w' ⟨rfl, rfl⟩) | (go_at_call 39; refine (i_isLvalue _ _).mono ?_; rintro e w' ⟨rfl, rfl⟩) | (go_at_call 26; refine (i_isStmt _ _).mono ?_; rintro e w' ⟨rfl, rfl⟩) | (go_at_call 40; refine (i_isItem _ _).mono ?_; rintro e w' ⟨rfl, rfl⟩) | (go_at_call 28; refine (i_within _ _ _ _).mono ?_; rintro e w' ⟨rfl, rfl⟩))
    all_goals (go_ret; refine ⟨ret_bool ?_, (Below.refl _ _).alloc (Nat.le_refl _) _⟩; first | rfl | (simp_all [kidB]; done) | (simp_all [kidB]; omega) | (rename_i h; have h2 := lv_expr h; simp_all [kidB]; done) | (rename_i h; have h2 := kid_not h; simp [kidB, h2]; done) | (rename_i h; have h2 := kid_yes h; simp [kidB, h2]; done))
  · go_enter Tryz.func18, Tryz.ntmps18
    go_wp2_with (first | (go_at_call 11; refine (i_isExpr _ _).mono ?_; rintro e w' ⟨rfl, rfl⟩) | (go_at_call 39; refine (i_isLvalue _ _).mono ?_; rintro e w' ⟨rfl, rfl⟩) | (go_at_call 26; refine (i_isStmt _ _).mono ?_; rintro e w' ⟨rfl, rfl⟩) | (go_at_call 40; refine (i_isItem _ _).mono ?_; rintro e w' ⟨rfl, rfl⟩) | (go_at_call 28; refine (i_within _ _ _ _).mono ?_; rintro e w' ⟨rfl, rfl⟩))
    all_goals (go_ret; refine ⟨ret_bool ?_, (Below.refl _ _).alloc (Nat.le_refl _) _⟩; first | rfl | (simp_all [kidB]; done) | (simp_all [kidB]; omega) | (rename_i h; have h2 := lv_expr h; simp_all [kidB]; done) | (rename_i h; have h2 := kid_not h; simp [kidB, h2]; done) | (rename_i h; have h2 := kid_yes h; simp [kidB, h2]; done))
set_option maxRecDepth 100000 in
set_option maxHeartbeats 1000000 in
theorem i_kidOk_43c (o : Int) (t u : ByteArray) (A : Option Addr) (n c : Nat) (j : Nat) (x : Int) (w : World) (hn : n ≤ c) (hc : c ≤ 9223372036854775807) (hj : j < n) (ho : o = 3) (hm : n = 3) : Calls Tryz.prog 18 #[.agg #[.int .i64 43, .int .i64 o, .string t, .string u, .slice A n c], .int .i64 j, .int .i64 x] w (RetBool w (kidB 43 o n j x)) := by
  subst ho; subst hm
  rcases (by omega : j = 0 ∨ j = 1 ∨ j = 2) with rfl | rfl | rfl
  · go_enter Tryz.func18, Tryz.ntmps18
    go_wp2_with (first | (go_at_call 11; refine (i_isExpr _ _).mono ?_; rintro e w' ⟨rfl, rfl⟩) | (go_at_call 39; refine (i_isLvalue _ _).mono ?_; rintro e w' ⟨rfl, rfl⟩) | (go_at_call 26; refine (i_isStmt _ _).mono ?_; rintro e w' ⟨rfl, rfl⟩) | (go_at_call 40; refine (i_isItem _ _).mono ?_; rintro e w' ⟨rfl, rfl⟩) | (go_at_call 28; refine (i_within _ _ _ _).mono ?_; rintro e w' ⟨rfl, rfl⟩))
    all_goals (go_ret; refine ⟨ret_bool ?_, (Below.refl _ _).alloc (Nat.le_refl _) _⟩; first | rfl | (simp_all [kidB]; done) | (simp_all [kidB]; omega) | (rename_i h; have h2 := lv_expr h; simp_all [kidB]; done) | (rename_i h; have h2 := kid_not h; simp [kidB, h2]; done) | (rename_i h; have h2 := kid_yes h; simp [kidB, h2]; done))
  · go_enter Tryz.func18, Tryz.ntmps18
    go_wp2_with (first | (go_at_call 11; refine (i_isExpr _ _).mono ?_; rintro e w' ⟨rfl, rfl⟩) | (go_at_call 39; refine (i_isLvalue _ _).mono ?_; rintro e w' ⟨rfl, rfl⟩) | (go_at_call 26; refine (i_isStmt _ _).mono ?_; rintro e w' ⟨rfl, rfl⟩) | (go_at_call 40; refine (i_isItem _ _).mono ?_; rintro e w' ⟨rfl, rfl⟩) | (go_at_call 28; refine (i_within _ _ _ _).mono ?_; rintro e w' ⟨rfl, rfl⟩))
    all_goals (go_ret; refine ⟨ret_bool ?_, (Below.refl _ _).alloc (Nat.le_refl _) _⟩; first | rfl | (simp_all [kidB]; done) | (simp_all [kidB]; omega) | (rename_i h; have h2 := lv_expr h; simp_all [kidB]; done) | (rename_i h; have h2 := kid_not h; simp [kidB, h2]; done) | (rename_i h; have h2 := kid_yes h; simp [kidB, h2]; done))
  · go_enter Tryz.func18, Tryz.ntmps18
    go_wp2_with (first | (go_at_call 11; refine (i_isExpr _ _).mono ?_; rintro e w' ⟨rfl, rfl⟩) | (go_at_call 39; refine (i_isLvalue _ _).mono ?_; rintro e w' ⟨rfl, rfl⟩) | (go_at_call 26; refine (i_isStmt _ _).mono ?_; rintro e w' ⟨rfl, rfl⟩) | (go_at_call 40; refine (i_isItem _ _).mono ?_; rintro e w' ⟨rfl, rfl⟩) | (go_at_call 28; refine (i_within _ _ _ _).mono ?_; rintro e w' ⟨rfl, rfl⟩))
    all_goals (go_ret; refine ⟨ret_bool ?_, (Below.refl _ _).alloc (Nat.le_refl _) _⟩; first | rfl | (simp_all [kidB]; done) | (simp_all [kidB]; omega) | (rename_i h; have h2 := lv_expr h; simp_all [kidB]; done) | (rename_i h; have h2 := kid_not h; simp [kidB, h2]; done) | (rename_i h; have h2 := kid_yes h; simp [kidB, h2]; done))
theorem i_kidOk (k : Int) (o : Int) (t u : ByteArray) (A : Option Addr) (n c : Nat) (j : Nat) (x : Int) (w : World) (hn : n ≤ c) (hc : c ≤ maxLen) (hj : j < n) (hf : fieldsB k o t u n = true) : Calls Tryz.prog 18 #[.agg #[.int .i64 k, .int .i64 o, .string t, .string u, .slice A n c], .int .i64 j, .int .i64 x] w (RetBool w (kidB k o n j x)) := by
  have hc : c ≤ 9223372036854775807 := by unfold maxLen at hc; omega
  have hk : knownB k = true := by cases h : knownB k; simp [fieldsB, h] at hf; rfl
  revert hf
  refine known_cases (P := fun k => fieldsB k o t u n = true → Calls Tryz.prog 18 #[.agg #[.int .i64 k, .int .i64 o, .string t, .string u, .slice A n c], .int .i64 j, .int .i64 x] w (RetBool w (kidB k o n j x))) hk ?_ ?_ ?_ ?_ ?_ ?_ ?_ ?_ ?_ ?_ ?_ ?_ ?_ ?_ ?_ ?_ ?_ ?_ ?_ ?_ ?_ ?_ ?_ ?_ ?_ ?_ ?_ ?_ ?_ ?_ ?_ ?_ ?_ ?_ ?_ ?_ ?_
  · intro _; exact i_kidOk_1 o t u A n c j x w hn hc hj
  · intro _; exact i_kidOk_2 o t u A n c j x w hn hc hj
  · intro _; exact i_kidOk_3 o t u A n c j x w hn hc hj
  · intro _; exact i_kidOk_4 o t u A n c j x w hn hc hj
  · intro _; exact i_kidOk_5 o t u A n c j x w hn hc hj
  · intro _; exact i_kidOk_6 o t u A n c j x w hn hc hj
  · intro _; exact i_kidOk_7 o t u A n c j x w hn hc hj
  · intro _; exact i_kidOk_8 o t u A n c j x w hn hc hj
  · intro _; exact i_kidOk_9 o t u A n c j x w hn hc hj
  · intro _; exact i_kidOk_10 o t u A n c j x w hn hc hj
  · intro _; exact i_kidOk_11 o t u A n c j x w hn hc hj
  · intro _; exact i_kidOk_12 o t u A n c j x w hn hc hj
  · intro _; exact i_kidOk_13 o t u A n c j x w hn hc hj
  · intro _; exact i_kidOk_14 o t u A n c j x w hn hc hj
  · intro _; exact i_kidOk_15 o t u A n c j x w hn hc hj
  · intro _; exact i_kidOk_16 o t u A n c j x w hn hc hj
  · intro _; exact i_kidOk_20 o t u A n c j x w hn hc hj
  · intro _; exact i_kidOk_21 o t u A n c j x w hn hc hj
  · intro _; exact i_kidOk_22 o t u A n c j x w hn hc hj
  · intro _; exact i_kidOk_23 o t u A n c j x w hn hc hj
  · intro _; exact i_kidOk_24 o t u A n c j x w hn hc hj
  · intro _; exact i_kidOk_25 o t u A n c j x w hn hc hj
  · intro _; exact i_kidOk_26 o t u A n c j x w hn hc hj
  · intro _; exact i_kidOk_27 o t u A n c j x w hn hc hj
  · intro _; exact i_kidOk_28 o t u A n c j x w hn hc hj
  · intro h; exact i_kidOk_29 o t u A n c j x w hn hc hj (by simp [fieldsB, manyLo, manyHi, inB] at h; omega)
  · intro h; exact i_kidOk_30 o t u A n c j x w hn hc hj (by simp [fieldsB, manyLo, manyHi, inB] at h; omega)
  · intro h; exact i_kidOk_31 o t u A n c j x w hn hc hj (by simp [fieldsB, manyLo, manyHi, inB] at h; omega)
  · intro _; exact i_kidOk_32 o t u A n c j x w hn hc hj
  · intro _; exact i_kidOk_33 o t u A n c j x w hn hc hj
  · intro _; exact i_kidOk_34 o t u A n c j x w hn hc hj
  · intro _; exact i_kidOk_40 o t u A n c j x w hn hc hj
  · intro _; exact i_kidOk_41 o t u A n c j x w hn hc hj
  · intro h
    simp [fieldsB, opOkB, manyLo, manyHi, inB] at h
    rcases (by omega : o = 1 ∨ o = 2 ∨ o = 3) with ho | ho | ho
    · exact i_kidOk_42a o t u A n c j x w hn hc hj ho (by rw [ho] at h; have e : Int.tdiv 1 3 = 0 := rfl; rw [e] at h; omega)
    · exact i_kidOk_42b o t u A n c j x w hn hc hj ho (by rw [ho] at h; have e : Int.tdiv 2 3 = 0 := rfl; rw [e] at h; omega)
    · exact i_kidOk_42c o t u A n c j x w hn hc hj ho (by rw [ho] at h; have e : Int.tdiv 3 3 = 1 := rfl; rw [e] at h; omega)
  · intro h
    simp [fieldsB, opOkB, manyLo, manyHi, inB] at h
    rcases (by omega : o = 1 ∨ o = 3) with ho | ho
    · exact i_kidOk_43a o t u A n c j x w hn hc hj ho (by rw [ho] at h; have e : Int.tdiv 1 3 = 0 := rfl; rw [e] at h; omega)
    · exact i_kidOk_43c o t u A n c j x w hn hc hj ho (by rw [ho] at h; have e : Int.tdiv 3 3 = 1 := rfl; rw [e] at h; omega)
  · intro _; exact i_kidOk_44 o t u A n c j x w hn hc hj
  · intro _; exact i_kidOk_45 o t u A n c j x w hn hc hj
end Go.Proofs.YtlabmboedjnpmaaGreatDoor
