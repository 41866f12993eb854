/- Which kids a node may have: l7Kid of the reference (walks; written by gen_kid.py). -/
import Derived.Test.YtlabmboedjnpmaaGreatDoorField
namespace Go.Proofs.YtlabmboedjnpmaaGreatDoor
open Go.RowKit
set_option linter.unusedVariables false
set_option linter.unusedSimpArgs false
set_option maxRecDepth 100000 in
set_option maxHeartbeats 1000000 in
theorem s_l7Kid_1 (o : Int) (t u : ByteArray) (A : Option Addr) (n c : Nat) (j : Nat) (x : Int) (w : World) (hn : n ≤ c) (hc : c ≤ 9223372036854775807) (hj : j < n) : Calls Tryz.prog 24 #[.agg #[.int .i64 1, .int .i64 o, .string t, .string u, .slice A n c], .int .i64 j, .int .i64 x] w (RetBool w (kidB 1 o n j x)) := by
  go_enter Tryz.func24, Tryz.ntmps24
  go_wp2_with (first | (go_at_call 13; refine (s_isExpr _ _).mono ?_; rintro e w' ⟨rfl, rfl⟩) | (go_at_call 46; refine (s_isLvalue _ _).mono ?_; rintro e w' ⟨rfl, rfl⟩) | (go_at_call 47; refine (s_isStmt _ _).mono ?_; rintro e w' ⟨rfl, rfl⟩) | (go_at_call 30; refine (s_l1In _ _ _ _).mono ?_; rintro e w' ⟨rfl, rfl⟩))
  all_goals (go_ret; refine ⟨ret_bool ?_, (Below.refl _ _).alloc (Nat.le_refl _) _⟩; first | rfl | (simp_all [kidB]; done) | (simp_all [kidB]; omega) | skip)
set_option maxRecDepth 100000 in
set_option maxHeartbeats 1000000 in
theorem s_l7Kid_2 (o : Int) (t u : ByteArray) (A : Option Addr) (n c : Nat) (j : Nat) (x : Int) (w : World) (hn : n ≤ c) (hc : c ≤ 9223372036854775807) (hj : j < n) : Calls Tryz.prog 24 #[.agg #[.int .i64 2, .int .i64 o, .string t, .string u, .slice A n c], .int .i64 j, .int .i64 x] w (RetBool w (kidB 2 o n j x)) := by
  go_enter Tryz.func24, Tryz.ntmps24
  go_wp2_with (first | (go_at_call 13; refine (s_isExpr _ _).mono ?_; rintro e w' ⟨rfl, rfl⟩) | (go_at_call 46; refine (s_isLvalue _ _).mono ?_; rintro e w' ⟨rfl, rfl⟩) | (go_at_call 47; refine (s_isStmt _ _).mono ?_; rintro e w' ⟨rfl, rfl⟩) | (go_at_call 30; refine (s_l1In _ _ _ _).mono ?_; rintro e w' ⟨rfl, rfl⟩))
  all_goals (go_ret; refine ⟨ret_bool ?_, (Below.refl _ _).alloc (Nat.le_refl _) _⟩; first | rfl | (simp_all [kidB]; done) | (simp_all [kidB]; omega) | skip)
set_option maxRecDepth 100000 in
set_option maxHeartbeats 1000000 in
theorem s_l7Kid_3 (o : Int) (t u : ByteArray) (A : Option Addr) (n c : Nat) (j : Nat) (x : Int) (w : World) (hn : n ≤ c) (hc : c ≤ 9223372036854775807) (hj : j < n) : Calls Tryz.prog 24 #[.agg #[.int .i64 3, .int .i64 o, .string t, .string u, .slice A n c], .int .i64 j, .int .i64 x] w (RetBool w (kidB 3 o n j x)) := by
  go_enter Tryz.func24, Tryz.ntmps24
  go_wp2_with (first | (go_at_call 13; refine (s_isExpr _ _).mono ?_; rintro e w' ⟨rfl, rfl⟩) | (go_at_call 46; refine (s_isLvalue _ _).mono ?_; rintro e w' ⟨rfl, rfl⟩) | (go_at_call 47; refine (s_isStmt _ _).mono ?_; rintro e w' ⟨rfl, rfl⟩) | (go_at_call 30; refine (s_l1In _ _ _ _).mono ?_; rintro e w' ⟨rfl, rfl⟩))
  all_goals (go_ret; refine ⟨ret_bool ?_, (Below.refl _ _).alloc (Nat.le_refl _) _⟩; first | rfl | (simp_all [kidB]; done) | (simp_all [kidB]; omega) | skip)
set_option maxRecDepth 100000 in
set_option maxHeartbeats 1000000 in
theorem s_l7Kid_4 (o : Int) (t u : ByteArray) (A : Option Addr) (n c : Nat) (j : Nat) (x : Int) (w : World) (hn : n ≤ c) (hc : c ≤ 9223372036854775807) (hj : j < n) : Calls Tryz.prog 24 #[.agg #[.int .i64 4, .int .i64 o, .string t, .string u, .slice A n c], .int .i64 j, .int .i64 x] w (RetBool w (kidB 4 o n j x)) := by
  go_enter Tryz.func24, Tryz.ntmps24
  go_wp2_with (first | (go_at_call 13; refine (s_isExpr _ _).mono ?_; rintro e w' ⟨rfl, rfl⟩) | (go_at_call 46; refine (s_isLvalue _ _).mono ?_; rintro e w' ⟨rfl, rfl⟩) | (go_at_call 47; refine (s_isStmt _ _).mono ?_; rintro e w' ⟨rfl, rfl⟩) | (go_at_call 30; refine (s_l1In _ _ _ _).mono ?_; rintro e w' ⟨rfl, rfl⟩))
  all_goals (go_ret; refine ⟨ret_bool ?_, (Below.refl _ _).alloc (Nat.le_refl _) _⟩; first | rfl | (simp_all [kidB]; done) | (simp_all [kidB]; omega) | skip)
set_option maxRecDepth 100000 in
set_option maxHeartbeats 1000000 in
theorem s_l7Kid_5 (o : Int) (t u : ByteArray) (A : Option Addr) (n c : Nat) (j : Nat) (x : Int) (w : World) (hn : n ≤ c) (hc : c ≤ 9223372036854775807) (hj : j < n) : Calls Tryz.prog 24 #[.agg #[.int .i64 5, .int .i64 o, .string t, .string u, .slice A n c], .int .i64 j, .int .i64 x] w (RetBool w (kidB 5 o n j x)) := by
  go_enter Tryz.func24, Tryz.ntmps24
  go_wp2_with (first | (go_at_call 13; refine (s_isExpr _ _).mono ?_; rintro e w' ⟨rfl, rfl⟩) | (go_at_call 46; refine (s_isLvalue _ _).mono ?_; rintro e w' ⟨rfl, rfl⟩) | (go_at_call 47; refine (s_isStmt _ _).mono ?_; rintro e w' ⟨rfl, rfl⟩) | (go_at_call 30; refine (s_l1In _ _ _ _).mono ?_; rintro e w' ⟨rfl, rfl⟩))
  all_goals (go_ret; refine ⟨ret_bool ?_, (Below.refl _ _).alloc (Nat.le_refl _) _⟩; first | rfl | (simp_all [kidB]; done) | (simp_all [kidB]; omega) | skip)
set_option maxRecDepth 100000 in
set_option maxHeartbeats 1000000 in
theorem s_l7Kid_6 (o : Int) (t u : ByteArray) (A : Option Addr) (n c : Nat) (j : Nat) (x : Int) (w : World) (hn : n ≤ c) (hc : c ≤ 9223372036854775807) (hj : j < n) : Calls Tryz.prog 24 #[.agg #[.int .i64 6, .int .i64 o, .string t, .string u, .slice A n c], .int .i64 j, .int .i64 x] w (RetBool w (kidB 6 o n j x)) := by
  go_enter Tryz.func24, Tryz.ntmps24
  go_wp2_with (first | (go_at_call 13; refine (s_isExpr _ _).mono ?_; rintro e w' ⟨rfl, rfl⟩) | (go_at_call 46; refine (s_isLvalue _ _).mono ?_; rintro e w' ⟨rfl, rfl⟩) | (go_at_call 47; refine (s_isStmt _ _).mono ?_; rintro e w' ⟨rfl, rfl⟩) | (go_at_call 30; refine (s_l1In _ _ _ _).mono ?_; rintro e w' ⟨rfl, rfl⟩))
  all_goals (go_ret; refine ⟨ret_bool ?_, (Below.refl _ _).alloc (Nat.le_refl _) _⟩; first | rfl | (simp_all [kidB]; done) | (simp_all [kidB]; omega) | skip)
set_option maxRecDepth 100000 in
set_option maxHeartbeats 1000000 in
theorem s_l7Kid_7 (o : Int) (t u : ByteArray) (A : Option Addr) (n c : Nat) (j : Nat) (x : Int) (w : World) (hn : n ≤ c) (hc : c ≤ 9223372036854775807) (hj : j < n) : Calls Tryz.prog 24 #[.agg #[.int .i64 7, .int .i64 o, .string t, .string u, .slice A n c], .int .i64 j, .int .i64 x] w (RetBool w (kidB 7 o n j x)) := by
  go_enter Tryz.func24, Tryz.ntmps24
  go_wp2_with (first | (go_at_call 13; refine (s_isExpr _ _).mono ?_; rintro e w' ⟨rfl, rfl⟩) | (go_at_call 46; refine (s_isLvalue _ _).mono ?_; rintro e w' ⟨rfl, rfl⟩) | (go_at_call 47; refine (s_isStmt _ _).mono ?_; rintro e w' ⟨rfl, rfl⟩) | (go_at_call 30; refine (s_l1In _ _ _ _).mono ?_; rintro e w' ⟨rfl, rfl⟩))
  all_goals (go_ret; refine ⟨ret_bool ?_, (Below.refl _ _).alloc (Nat.le_refl _) _⟩; first | rfl | (simp_all [kidB]; done) | (simp_all [kidB]; omega) | skip)
set_option maxRecDepth 100000 in
set_option maxHeartbeats 1000000 in
theorem s_l7Kid_8 (o : Int) (t u : ByteArray) (A : Option Addr) (n c : Nat) (j : Nat) (x : Int) (w : World) (hn : n ≤ c) (hc : c ≤ 9223372036854775807) (hj : j < n) : Calls Tryz.prog 24 #[.agg #[.int .i64 8, .int .i64 o, .string t, .string u, .slice A n c], .int .i64 j, .int .i64 x] w (RetBool w (kidB 8 o n j x)) := by
  go_enter Tryz.func24, Tryz.ntmps24
  go_wp2_with (first | (go_at_call 13; refine (s_isExpr _ _).mono ?_; rintro e w' ⟨rfl, rfl⟩) | (go_at_call 46; refine (s_isLvalue _ _).mono ?_; rintro e w' ⟨rfl, rfl⟩) | (go_at_call 47; refine (s_isStmt _ _).mono ?_; rintro e w' ⟨rfl, rfl⟩) | (go_at_call 30; refine (s_l1In _ _ _ _).mono ?_; rintro e w' ⟨rfl, rfl⟩))
  all_goals (go_ret; refine ⟨ret_bool ?_, (Below.refl _ _).alloc (Nat.le_refl _) _⟩; first | rfl | (simp_all [kidB]; done) | (simp_all [kidB]; omega) | skip)
set_option maxRecDepth 100000 in
set_option maxHeartbeats 1000000 in
theorem s_l7Kid_9 (o : Int) (t u : ByteArray) (A : Option Addr) (n c : Nat) (j : Nat) (x : Int) (w : World) (hn : n ≤ c) (hc : c ≤ 9223372036854775807) (hj : j < n) : Calls Tryz.prog 24 #[.agg #[.int .i64 9, .int .i64 o, .string t, .string u, .slice A n c], .int .i64 j, .int .i64 x] w (RetBool w (kidB 9 o n j x)) := by
  go_enter Tryz.func24, Tryz.ntmps24
  go_wp2_with (first | (go_at_call 13; refine (s_isExpr _ _).mono ?_; rintro e w' ⟨rfl, rfl⟩) | (go_at_call 46; refine (s_isLvalue _ _).mono ?_; rintro e w' ⟨rfl, rfl⟩) | (go_at_call 47; refine (s_isStmt _ _).mono ?_; rintro e w' ⟨rfl, rfl⟩) | (go_at_call 30; refine (s_l1In _ _ _ _).mono ?_; rintro e w' ⟨rfl, rfl⟩))
  all_goals (go_ret; refine ⟨ret_bool ?_, (Below.refl _ _).alloc (Nat.le_refl _) _⟩; first | rfl | (simp_all [kidB]; done) | (simp_all [kidB]; omega) | skip)
set_option maxRecDepth 100000 in
set_option maxHeartbeats 1000000 in
theorem s_l7Kid_10 (o : Int) (t u : ByteArray) (A : Option Addr) (n c : Nat) (j : Nat) (x : Int) (w : World) (hn : n ≤ c) (hc : c ≤ 9223372036854775807) (hj : j < n) : Calls Tryz.prog 24 #[.agg #[.int .i64 10, .int .i64 o, .string t, .string u, .slice A n c], .int .i64 j, .int .i64 x] w (RetBool w (kidB 10 o n j x)) := by
  go_enter Tryz.func24, Tryz.ntmps24
  go_wp2_with (first | (go_at_call 13; refine (s_isExpr _ _).mono ?_; rintro e w' ⟨rfl, rfl⟩) | (go_at_call 46; refine (s_isLvalue _ _).mono ?_; rintro e w' ⟨rfl, rfl⟩) | (go_at_call 47; refine (s_isStmt _ _).mono ?_; rintro e w' ⟨rfl, rfl⟩) | (go_at_call 30; refine (s_l1In _ _ _ _).mono ?_; rintro e w' ⟨rfl, rfl⟩))
  all_goals (go_ret; refine ⟨ret_bool ?_, (Below.refl _ _).alloc (Nat.le_refl _) _⟩; first | rfl | (simp_all [kidB]; done) | (simp_all [kidB]; omega) | skip)
set_option maxRecDepth 100000 in
set_option maxHeartbeats 1000000 in
theorem s_l7Kid_11 (o : Int) (t u : ByteArray) (A : Option Addr) (n c : Nat) (j : Nat) (x : Int) (w : World) (hn : n ≤ c) (hc : c ≤ 9223372036854775807) (hj : j < n) : Calls Tryz.prog 24 #[.agg #[.int .i64 11, .int .i64 o, .string t, .string u, .slice A n c], .int .i64 j, .int .i64 x] w (RetBool w (kidB 11 o n j x)) := by
  go_enter Tryz.func24, Tryz.ntmps24
  go_wp2_with (first | (go_at_call 13; refine (s_isExpr _ _).mono ?_; rintro e w' ⟨rfl, rfl⟩) | (go_at_call 46; refine (s_isLvalue _ _).mono ?_; rintro e w' ⟨rfl, rfl⟩) | (go_at_call 47; refine (s_isStmt _ _).mono ?_; rintro e w' ⟨rfl, rfl⟩) | (go_at_call 30; refine (s_l1In _ _ _ _).mono ?_; rintro e w' ⟨rfl, rfl⟩))
  all_goals (go_ret; refine ⟨ret_bool ?_, (Below.refl _ _).alloc (Nat.le_refl _) _⟩; first | rfl | (simp_all [kidB]; done) | (simp_all [kidB]; omega) | skip)
set_option maxRecDepth 100000 in
set_option maxHeartbeats 1000000 in
theorem s_l7Kid_12 (o : Int) (t u : ByteArray) (A : Option Addr) (n c : Nat) (j : Nat) (x : Int) (w : World) (hn : n ≤ c) (hc : c ≤ 9223372036854775807) (hj : j < n) : Calls Tryz.prog 24 #[.agg #[.int .i64 12, .int .i64 o, .string t, .string u, .slice A n c], .int .i64 j, .int .i64 x] w (RetBool w (kidB 12 o n j x)) := by
  go_enter Tryz.func24, Tryz.ntmps24
  go_wp2_with (first | (go_at_call 13; refine (s_isExpr _ _).mono ?_; rintro e w' ⟨rfl, rfl⟩) | (go_at_call 46; refine (s_isLvalue _ _).mono ?_; rintro e w' ⟨rfl, rfl⟩) | (go_at_call 47; refine (s_isStmt _ _).mono ?_; rintro e w' ⟨rfl, rfl⟩) | (go_at_call 30; refine (s_l1In _ _ _ _).mono ?_; rintro e w' ⟨rfl, rfl⟩))
  all_goals (go_ret; refine ⟨ret_bool ?_, (Below.refl _ _).alloc (Nat.le_refl _) _⟩; first | rfl | (simp_all [kidB]; done) | (simp_all [kidB]; omega) | skip)
set_option maxRecDepth 100000 in
set_option maxHeartbeats 1000000 in
theorem s_l7Kid_13 (o : Int) (t u : ByteArray) (A : Option Addr) (n c : Nat) (j : Nat) (x : Int) (w : World) (hn : n ≤ c) (hc : c ≤ 9223372036854775807) (hj : j < n) : Calls Tryz.prog 24 #[.agg #[.int .i64 13, .int .i64 o, .string t, .string u, .slice A n c], .int .i64 j, .int .i64 x] w (RetBool w (kidB 13 o n j x)) := by
  go_enter Tryz.func24, Tryz.ntmps24
  go_wp2_with (first | (go_at_call 13; refine (s_isExpr _ _).mono ?_; rintro e w' ⟨rfl, rfl⟩) | (go_at_call 46; refine (s_isLvalue _ _).mono ?_; rintro e w' ⟨rfl, rfl⟩) | (go_at_call 47; refine (s_isStmt _ _).mono ?_; rintro e w' ⟨rfl, rfl⟩) | (go_at_call 30; refine (s_l1In _ _ _ _).mono ?_; rintro e w' ⟨rfl, rfl⟩))
  all_goals (go_ret; refine ⟨ret_bool ?_, (Below.refl _ _).alloc (Nat.le_refl _) _⟩; first | rfl | (simp_all [kidB]; done) | (simp_all [kidB]; omega) | skip)
set_option maxRecDepth 100000 in
set_option maxHeartbeats 1000000 in
theorem s_l7Kid_14 (o : Int) (t u : ByteArray) (A : Option Addr) (n c : Nat) (j : Nat) (x : Int) (w : World) (hn : n ≤ c) (hc : c ≤ 9223372036854775807) (hj : j < n) : Calls Tryz.prog 24 #[.agg #[.int .i64 14, .int .i64 o, .string t, .string u, .slice A n c], .int .i64 j, .int .i64 x] w (RetBool w (kidB 14 o n j x)) := by
  go_enter Tryz.func24, Tryz.ntmps24
  go_wp2_with (first | (go_at_call 13; refine (s_isExpr _ _).mono ?_; rintro e w' ⟨rfl, rfl⟩) | (go_at_call 46; refine (s_isLvalue _ _).mono ?_; rintro e w' ⟨rfl, rfl⟩) | (go_at_call 47; refine (s_isStmt _ _).mono ?_; rintro e w' ⟨rfl, rfl⟩) | (go_at_call 30; refine (s_l1In _ _ _ _).mono ?_; rintro e w' ⟨rfl, rfl⟩))
  all_goals (go_ret; refine ⟨ret_bool ?_, (Below.refl _ _).alloc (Nat.le_refl _) _⟩; first | rfl | (simp_all [kidB]; done) | (simp_all [kidB]; omega) | skip)
set_option maxRecDepth 100000 in
set_option maxHeartbeats 1000000 in
theorem s_l7Kid_15 (o : Int) (t u : ByteArray) (A : Option Addr) (n c : Nat) (j : Nat) (x : Int) (w : World) (hn : n ≤ c) (hc : c ≤ 9223372036854775807) (hj : j < n) : Calls Tryz.prog 24 #[.agg #[.int .i64 15, .int .i64 o, .string t, .string u, .slice A n c], .int .i64 j, .int .i64 x] w (RetBool w (kidB 15 o n j x)) := by
  go_enter Tryz.func24, Tryz.ntmps24
  go_wp2_with (first | (go_at_call 13; refine (s_isExpr _ _).mono ?_; rintro e w' ⟨rfl, rfl⟩) | (go_at_call 46; refine (s_isLvalue _ _).mono ?_; rintro e w' ⟨rfl, rfl⟩) | (go_at_call 47; refine (s_isStmt _ _).mono ?_; rintro e w' ⟨rfl, rfl⟩) | (go_at_call 30; refine (s_l1In _ _ _ _).mono ?_; rintro e w' ⟨rfl, rfl⟩))
  all_goals (go_ret; refine ⟨ret_bool ?_, (Below.refl _ _).alloc (Nat.le_refl _) _⟩; first | rfl | (simp_all [kidB]; done) | (simp_all [kidB]; omega) | skip)
set_option maxRecDepth 100000 in
set_option maxHeartbeats 1000000 in
theorem s_l7Kid_16 (o : Int) (t u : ByteArray) (A : Option Addr) (n c : Nat) (j : Nat) (x : Int) (w : World) (hn : n ≤ c) (hc : c ≤ 9223372036854775807) (hj : j < n) : Calls Tryz.prog 24 #[.agg #[.int .i64 16, .int .i64 o, .string t, .string u, .slice A n c], .int .i64 j, .int .i64 x] w (RetBool w (kidB 16 o n j x)) := by
  go_enter Tryz.func24, Tryz.ntmps24
  go_wp2_with (first | (go_at_call 13; refine (s_isExpr _ _).mono ?_; rintro e w' ⟨rfl, rfl⟩) | (go_at_call 46; refine (s_isLvalue _ _).mono ?_; rintro e w' ⟨rfl, rfl⟩) | (go_at_call 47; refine (s_isStmt _ _).mono ?_; rintro e w' ⟨rfl, rfl⟩) | (go_at_call 30; refine (s_l1In _ _ _ _).mono ?_; rintro e w' ⟨rfl, rfl⟩))
  all_goals (go_ret; refine ⟨ret_bool ?_, (Below.refl _ _).alloc (Nat.le_refl _) _⟩; first | rfl | (simp_all [kidB]; done) | (simp_all [kidB]; omega) | skip)
set_option maxRecDepth 100000 in
set_option maxHeartbeats 1000000 in
theorem s_l7Kid_20 (o : Int) (t u : ByteArray) (A : Option Addr) (n c : Nat) (j : Nat) (x : Int) (w : World) (hn : n ≤ c) (hc : c ≤ 9223372036854775807) (hj : j < n) : Calls Tryz.prog 24 #[.agg #[.int .i64 20, .int .i64 o, .string t, .string u, .slice A n c], .int .i64 j, .int .i64 x] w (RetBool w (kidB 20 o n j x)) := by
  go_enter Tryz.func24, Tryz.ntmps24
  go_wp2_with (first | (go_at_call 13; refine (s_isExpr _ _).mono ?_; rintro e w' ⟨rfl, rfl⟩) | (go_at_call 46; refine (s_isLvalue _ _).mono ?_; rintro e w' ⟨rfl, rfl⟩) | (go_at_call 47; refine (s_isStmt _ _).mono ?_; rintro e w' ⟨rfl, rfl⟩) | (go_at_call 30; refine (s_l1In _ _ _ _).mono ?_; rintro e w' ⟨rfl, rfl⟩))
  all_goals (go_ret; refine ⟨ret_bool ?_, (Below.refl _ _).alloc (Nat.le_refl _) _⟩; first | rfl | (simp_all [kidB]; done) | (simp_all [kidB]; omega) | skip)
set_option maxRecDepth 100000 in
set_option maxHeartbeats 1000000 in
theorem s_l7Kid_21 (o : Int) (t u : ByteArray) (A : Option Addr) (n c : Nat) (j : Nat) (x : Int) (w : World) (hn : n ≤ c) (hc : c ≤ 9223372036854775807) (hj : j < n) : Calls Tryz.prog 24 #[.agg #[.int .i64 21, .int .i64 o, .string t, .string u, .slice A n c], .int .i64 j, .int .i64 x] w (RetBool w (kidB 21 o n j x)) := by
  go_enter Tryz.func24, Tryz.ntmps24
  go_wp2_with (first | (go_at_call 13; refine (s_isExpr _ _).mono ?_; rintro e w' ⟨rfl, rfl⟩) | (go_at_call 46; refine (s_isLvalue _ _).mono ?_; rintro e w' ⟨rfl, rfl⟩) | (go_at_call 47; refine (s_isStmt _ _).mono ?_; rintro e w' ⟨rfl, rfl⟩) | (go_at_call 30; refine (s_l1In _ _ _ _).mono ?_; rintro e w' ⟨rfl, rfl⟩))
  all_goals (go_ret; refine ⟨ret_bool ?_, (Below.refl _ _).alloc (Nat.le_refl _) _⟩; first | rfl | (simp_all [kidB]; done) | (simp_all [kidB]; omega) | skip)
set_option maxRecDepth 100000 in
set_option maxHeartbeats 1000000 in
theorem s_l7Kid_22 (o : Int) (t u : ByteArray) (A : Option Addr) (n c : Nat) (j : Nat) (x : Int) (w : World) (hn : n ≤ c) (hc : c ≤ 9223372036854775807) (hj : j < n) : Calls Tryz.prog 24 #[.agg #[.int .i64 22, .int .i64 o, .string t, .string u, .slice A n c], .int .i64 j, .int .i64 x] w (RetBool w (kidB 22 o n j x)) := by
  go_enter Tryz.func24, Tryz.ntmps24
  go_wp2_with (first | (go_at_call 13; refine (s_isExpr _ _).mono ?_; rintro e w' ⟨rfl, rfl⟩) | (go_at_call 46; refine (s_isLvalue _ _).mono ?_; rintro e w' ⟨rfl, rfl⟩) | (go_at_call 47; refine (s_isStmt _ _).mono ?_; rintro e w' ⟨rfl, rfl⟩) | (go_at_call 30; refine (s_l1In _ _ _ _).mono ?_; rintro e w' ⟨rfl, rfl⟩))
  all_goals (go_ret; refine ⟨ret_bool ?_, (Below.refl _ _).alloc (Nat.le_refl _) _⟩; first | rfl | (simp_all [kidB]; done) | (simp_all [kidB]; omega) | skip)
set_option maxRecDepth 100000 in
set_option maxHeartbeats 1000000 in
theorem s_l7Kid_23 (o : Int) (t u : ByteArray) (A : Option Addr) (n c : Nat) (j : Nat) (x : Int) (w : World) (hn : n ≤ c) (hc : c ≤ 9223372036854775807) (hj : j < n) : Calls Tryz.prog 24 #[.agg #[.int .i64 23, .int .i64 o, .string t, .string u, .slice A n c], .int .i64 j, .int .i64 x] w (RetBool w (kidB 23 o n j x)) := by
  go_enter Tryz.func24, Tryz.ntmps24
  go_wp2_with (first | (go_at_call 13; refine (s_isExpr _ _).mono ?_; rintro e w' ⟨rfl, rfl⟩) | (go_at_call 46; refine (s_isLvalue _ _).mono ?_; rintro e w' ⟨rfl, rfl⟩) | (go_at_call 47; refine (s_isStmt _ _).mono ?_; rintro e w' ⟨rfl, rfl⟩) | (go_at_call 30; refine (s_l1In _ _ _ _).mono ?_; rintro e w' ⟨rfl, rfl⟩))
  all_goals (go_ret; refine ⟨ret_bool ?_, (Below.refl _ _).alloc (Nat.le_refl _) _⟩; first | rfl | (simp_all [kidB]; done) | (simp_all [kidB]; omega) | skip)
set_option maxRecDepth 100000 in
set_option maxHeartbeats 1000000 in
theorem s_l7Kid_24 (o : Int) (t u : ByteArray) (A : Option Addr) (n c : Nat) (j : Nat) (x : Int) (w : World) (hn : n ≤ c) (hc : c ≤ 9223372036854775807) (hj : j < n) : Calls Tryz.prog 24 #[.agg #[.int .i64 24, .int .i64 o, .string t, .string u, .slice A n c], .int .i64 j, .int .i64 x] w (RetBool w (kidB 24 o n j x)) := by
  go_enter Tryz.func24, Tryz.ntmps24
  go_wp2_with (first | (go_at_call 13; refine (s_isExpr _ _).mono ?_; rintro e w' ⟨rfl, rfl⟩) | (go_at_call 46; refine (s_isLvalue _ _).mono ?_; rintro e w' ⟨rfl, rfl⟩) | (go_at_call 47; refine (s_isStmt _ _).mono ?_; rintro e w' ⟨rfl, rfl⟩) | (go_at_call 30; refine (s_l1In _ _ _ _).mono ?_; rintro e w' ⟨rfl, rfl⟩))
  all_goals (go_ret; refine ⟨ret_bool ?_, (Below.refl _ _).alloc (Nat.le_refl _) _⟩; first | rfl | (simp_all [kidB]; done) | (simp_all [kidB]; omega) | skip)
set_option maxRecDepth 100000 in
set_option maxHeartbeats 1000000 in
theorem s_l7Kid_25 (o : Int) (t u : ByteArray) (A : Option Addr) (n c : Nat) (j : Nat) (x : Int) (w : World) (hn : n ≤ c) (hc : c ≤ 9223372036854775807) (hj : j < n) : Calls Tryz.prog 24 #[.agg #[.int .i64 25, .int .i64 o, .string t, .string u, .slice A n c], .int .i64 j, .int .i64 x] w (RetBool w (kidB 25 o n j x)) := by
  go_enter Tryz.func24, Tryz.ntmps24
  go_wp2_with (first | (go_at_call 13; refine (s_isExpr _ _).mono ?_; rintro e w' ⟨rfl, rfl⟩) | (go_at_call 46; refine (s_isLvalue _ _).mono ?_; rintro e w' ⟨rfl, rfl⟩) | (go_at_call 47; refine (s_isStmt _ _).mono ?_; rintro e w' ⟨rfl, rfl⟩) | (go_at_call 30; refine (s_l1In _ _ _ _).mono ?_; rintro e w' ⟨rfl, rfl⟩))
  all_goals (go_ret; refine ⟨ret_bool ?_, (Below.refl _ _).alloc (Nat.le_refl _) _⟩; first | rfl | (simp_all [kidB]; done) | (simp_all [kidB]; omega) | skip)
set_option maxRecDepth 100000 in
set_option maxHeartbeats 1000000 in
theorem s_l7Kid_26 (o : Int) (t u : ByteArray) (A : Option Addr) (n c : Nat) (j : Nat) (x : Int) (w : World) (hn : n ≤ c) (hc : c ≤ 9223372036854775807) (hj : j < n) : Calls Tryz.prog 24 #[.agg #[.int .i64 26, .int .i64 o, .string t, .string u, .slice A n c], .int .i64 j, .int .i64 x] w (RetBool w (kidB 26 o n j x)) := by
  go_enter Tryz.func24, Tryz.ntmps24
  go_wp2_with (first | (go_at_call 13; refine (s_isExpr _ _).mono ?_; rintro e w' ⟨rfl, rfl⟩) | (go_at_call 46; refine (s_isLvalue _ _).mono ?_; rintro e w' ⟨rfl, rfl⟩) | (go_at_call 47; refine (s_isStmt _ _).mono ?_; rintro e w' ⟨rfl, rfl⟩) | (go_at_call 30; refine (s_l1In _ _ _ _).mono ?_; rintro e w' ⟨rfl, rfl⟩))
  all_goals (go_ret; refine ⟨ret_bool ?_, (Below.refl _ _).alloc (Nat.le_refl _) _⟩; first | rfl | (simp_all [kidB]; done) | (simp_all [kidB]; omega) | skip)
set_option maxRecDepth 100000 in
set_option maxHeartbeats 1000000 in
theorem s_l7Kid_27 (o : Int) (t u : ByteArray) (A : Option Addr) (n c : Nat) (j : Nat) (x : Int) (w : World) (hn : n ≤ c) (hc : c ≤ 9223372036854775807) (hj : j < n) : Calls Tryz.prog 24 #[.agg #[.int .i64 27, .int .i64 o, .string t, .string u, .slice A n c], .int .i64 j, .int .i64 x] w (RetBool w (kidB 27 o n j x)) := by
  go_enter Tryz.func24, Tryz.ntmps24
  go_wp2_with (first | (go_at_call 13; refine (s_isExpr _ _).mono ?_; rintro e w' ⟨rfl, rfl⟩) | (go_at_call 46; refine (s_isLvalue _ _).mono ?_; rintro e w' ⟨rfl, rfl⟩) | (go_at_call 47; refine (s_isStmt _ _).mono ?_; rintro e w' ⟨rfl, rfl⟩) | (go_at_call 30; refine (s_l1In _ _ _ _).mono ?_; rintro e w' ⟨rfl, rfl⟩))
  all_goals (go_ret; refine ⟨ret_bool ?_, (Below.refl _ _).alloc (Nat.le_refl _) _⟩; first | rfl | (simp_all [kidB]; done) | (simp_all [kidB]; omega) | skip)
set_option maxRecDepth 100000 in
set_option maxHeartbeats 1000000 in
theorem s_l7Kid_28 (o : Int) (t u : ByteArray) (A : Option Addr) (n c : Nat) (j : Nat) (x : Int) (w : World) (hn : n ≤ c) (hc : c ≤ 9223372036854775807) (hj : j < n) : Calls Tryz.prog 24 #[.agg #[.int .i64 28, .int .i64 o, .string t, .string u, .slice A n c], .int .i64 j, .int .i64 x] w (RetBool w (kidB 28 o n j x)) := by
  go_enter Tryz.func24, Tryz.ntmps24
  go_wp2_with (first | (go_at_call 13; refine (s_isExpr _ _).mono ?_; rintro e w' ⟨rfl, rfl⟩) | (go_at_call 46; refine (s_isLvalue _ _).mono ?_; rintro e w' ⟨rfl, rfl⟩) | (go_at_call 47; refine (s_isStmt _ _).mono ?_; rintro e w' ⟨rfl, rfl⟩) | (go_at_call 30; refine (s_l1In _ _ _ _).mono ?_; rintro e w' ⟨rfl, rfl⟩))
  all_goals (go_ret; refine ⟨ret_bool ?_, (Below.refl _ _).alloc (Nat.le_refl _) _⟩; first | rfl | (simp_all [kidB]; done) | (simp_all [kidB]; omega) | skip)
set_option maxRecDepth 100000 in
set_option maxHeartbeats 1000000 in
theorem s_l7Kid_29 (o : Int) (t u : ByteArray) (A : Option Addr) (n c : Nat) (j : Nat) (x : Int) (w : World) (hn : n ≤ c) (hc : c ≤ 9223372036854775807) (hj : j < n) : Calls Tryz.prog 24 #[.agg #[.int .i64 29, .int .i64 o, .string t, .string u, .slice A n c], .int .i64 j, .int .i64 x] w (RetBool w (kidB 29 o n j x)) := by
  go_enter Tryz.func24, Tryz.ntmps24
  go_wp2_with (first | (go_at_call 13; refine (s_isExpr _ _).mono ?_; rintro e w' ⟨rfl, rfl⟩) | (go_at_call 46; refine (s_isLvalue _ _).mono ?_; rintro e w' ⟨rfl, rfl⟩) | (go_at_call 47; refine (s_isStmt _ _).mono ?_; rintro e w' ⟨rfl, rfl⟩) | (go_at_call 30; refine (s_l1In _ _ _ _).mono ?_; rintro e w' ⟨rfl, rfl⟩))
  all_goals (go_ret; refine ⟨ret_bool ?_, (Below.refl _ _).alloc (Nat.le_refl _) _⟩; first | rfl | (simp_all [kidB]; done) | (simp_all [kidB]; omega) | skip)
set_option maxRecDepth 100000 in
set_option maxHeartbeats 1000000 in
theorem s_l7Kid_30 (o : Int) (t u : ByteArray) (A : Option Addr) (n c : Nat) (j : Nat) (x : Int) (w : World) (hn : n ≤ c) (hc : c ≤ 9223372036854775807) (hj : j < n) : Calls Tryz.prog 24 #[.agg #[.int .i64 30, .int .i64 o, .string t, .string u, .slice A n c], .int .i64 j, .int .i64 x] w (RetBool w (kidB 30 o n j x)) := by
  go_enter Tryz.func24, Tryz.ntmps24
  go_wp2_with (first | (go_at_call 13; refine (s_isExpr _ _).mono ?_; rintro e w' ⟨rfl, rfl⟩) | (go_at_call 46; refine (s_isLvalue _ _).mono ?_; rintro e w' ⟨rfl, rfl⟩) | (go_at_call 47; refine (s_isStmt _ _).mono ?_; rintro e w' ⟨rfl, rfl⟩) | (go_at_call 30; refine (s_l1In _ _ _ _).mono ?_; rintro e w' ⟨rfl, rfl⟩))
  all_goals (go_ret; refine ⟨ret_bool ?_, (Below.refl _ _).alloc (Nat.le_refl _) _⟩; first | rfl | (simp_all [kidB]; done) | (simp_all [kidB]; omega) | skip)
set_option maxRecDepth 100000 in
set_option maxHeartbeats 1000000 in
theorem s_l7Kid_31 (o : Int) (t u : ByteArray) (A : Option Addr) (n c : Nat) (j : Nat) (x : Int) (w : World) (hn : n ≤ c) (hc : c ≤ 9223372036854775807) (hj : j < n) : Calls Tryz.prog 24 #[.agg #[.int .i64 31, .int .i64 o, .string t, .string u, .slice A n c], .int .i64 j, .int .i64 x] w (RetBool w (kidB 31 o n j x)) := by
  go_enter Tryz.func24, Tryz.ntmps24
  go_wp2_with (first | (go_at_call 13; refine (s_isExpr _ _).mono ?_; rintro e w' ⟨rfl, rfl⟩) | (go_at_call 46; refine (s_isLvalue _ _).mono ?_; rintro e w' ⟨rfl, rfl⟩) | (go_at_call 47; refine (s_isStmt _ _).mono ?_; rintro e w' ⟨rfl, rfl⟩) | (go_at_call 30; refine (s_l1In _ _ _ _).mono ?_; rintro e w' ⟨rfl, rfl⟩))
  all_goals (go_ret; refine ⟨ret_bool ?_, (Below.refl _ _).alloc (Nat.le_refl _) _⟩; first | rfl | (simp_all [kidB]; done) | (simp_all [kidB]; omega) | skip)
set_option maxRecDepth 100000 in
set_option maxHeartbeats 1000000 in
theorem s_l7Kid_32 (o : Int) (t u : ByteArray) (A : Option Addr) (n c : Nat) (j : Nat) (x : Int) (w : World) (hn : n ≤ c) (hc : c ≤ 9223372036854775807) (hj : j < n) : Calls Tryz.prog 24 #[.agg #[.int .i64 32, .int .i64 o, .string t, .string u, .slice A n c], .int .i64 j, .int .i64 x] w (RetBool w (kidB 32 o n j x)) := by
  go_enter Tryz.func24, Tryz.ntmps24
  go_wp2_with (first | (go_at_call 13; refine (s_isExpr _ _).mono ?_; rintro e w' ⟨rfl, rfl⟩) | (go_at_call 46; refine (s_isLvalue _ _).mono ?_; rintro e w' ⟨rfl, rfl⟩) | (go_at_call 47; refine (s_isStmt _ _).mono ?_; rintro e w' ⟨rfl, rfl⟩) | (go_at_call 30; refine (s_l1In _ _ _ _).mono ?_; rintro e w' ⟨rfl, rfl⟩))
  all_goals (go_ret; refine ⟨ret_bool ?_, (Below.refl _ _).alloc (Nat.le_refl _) _⟩; first | rfl | (simp_all [kidB]; done) | (simp_all [kidB]; omega) | skip)
set_option maxRecDepth 100000 in
set_option maxHeartbeats 1000000 in
theorem s_l7Kid_33 (o : Int) (t u : ByteArray) (A : Option Addr) (n c : Nat) (j : Nat) (x : Int) (w : World) (hn : n ≤ c) (hc : c ≤ 9223372036854775807) (hj : j < n) : Calls Tryz.prog 24 #[.agg #[.int .i64 33, .int .i64 o, .string t, .string u, .slice A n c], .int .i64 j, .int .i64 x] w (RetBool w (kidB 33 o n j x)) := by
  go_enter Tryz.func24, Tryz.ntmps24
  go_wp2_with (first | (go_at_call 13; refine (s_isExpr _ _).mono ?_; rintro e w' ⟨rfl, rfl⟩) | (go_at_call 46; refine (s_isLvalue _ _).mono ?_; rintro e w' ⟨rfl, rfl⟩) | (go_at_call 47; refine (s_isStmt _ _).mono ?_; rintro e w' ⟨rfl, rfl⟩) | (go_at_call 30; refine (s_l1In _ _ _ _).mono ?_; rintro e w' ⟨rfl, rfl⟩))
  all_goals (go_ret; refine ⟨ret_bool ?_, (Below.refl _ _).alloc (Nat.le_refl _) _⟩; first | rfl | (simp_all [kidB]; done) | (simp_all [kidB]; omega) | skip)
set_option maxRecDepth 100000 in
set_option maxHeartbeats 1000000 in
theorem s_l7Kid_34 (o : Int) (t u : ByteArray) (A : Option Addr) (n c : Nat) (j : Nat) (x : Int) (w : World) (hn : n ≤ c) (hc : c ≤ 9223372036854775807) (hj : j < n) : Calls Tryz.prog 24 #[.agg #[.int .i64 34, .int .i64 o, .string t, .string u, .slice A n c], .int .i64 j, .int .i64 x] w (RetBool w (kidB 34 o n j x)) := by
  go_enter Tryz.func24, Tryz.ntmps24
  go_wp2_with (first | (go_at_call 13; refine (s_isExpr _ _).mono ?_; rintro e w' ⟨rfl, rfl⟩) | (go_at_call 46; refine (s_isLvalue _ _).mono ?_; rintro e w' ⟨rfl, rfl⟩) | (go_at_call 47; refine (s_isStmt _ _).mono ?_; rintro e w' ⟨rfl, rfl⟩) | (go_at_call 30; refine (s_l1In _ _ _ _).mono ?_; rintro e w' ⟨rfl, rfl⟩))
  all_goals (go_ret; refine ⟨ret_bool ?_, (Below.refl _ _).alloc (Nat.le_refl _) _⟩; first | rfl | (simp_all [kidB]; done) | (simp_all [kidB]; omega) | skip)
set_option maxRecDepth 100000 in
set_option maxHeartbeats 1000000 in
theorem s_l7Kid_40 (o : Int) (t u : ByteArray) (A : Option Addr) (n c : Nat) (j : Nat) (x : Int) (w : World) (hn : n ≤ c) (hc : c ≤ 9223372036854775807) (hj : j < n) : Calls Tryz.prog 24 #[.agg #[.int .i64 40, .int .i64 o, .string t, .string u, .slice A n c], .int .i64 j, .int .i64 x] w (RetBool w (kidB 40 o n j x)) := by
  go_enter Tryz.func24, Tryz.ntmps24
  go_wp2_with (first | (go_at_call 13; refine (s_isExpr _ _).mono ?_; rintro e w' ⟨rfl, rfl⟩) | (go_at_call 46; refine (s_isLvalue _ _).mono ?_; rintro e w' ⟨rfl, rfl⟩) | (go_at_call 47; refine (s_isStmt _ _).mono ?_; rintro e w' ⟨rfl, rfl⟩) | (go_at_call 30; refine (s_l1In _ _ _ _).mono ?_; rintro e w' ⟨rfl, rfl⟩))
  all_goals (go_ret; refine ⟨ret_bool ?_, (Below.refl _ _).alloc (Nat.le_refl _) _⟩; first | rfl | (simp_all [kidB]; done) | (simp_all [kidB]; omega) | skip)
set_option maxRecDepth 100000 in
set_option maxHeartbeats 1000000 in
theorem s_l7Kid_41 (o : Int) (t u : ByteArray) (A : Option Addr) (n c : Nat) (j : Nat) (x : Int) (w : World) (hn : n ≤ c) (hc : c ≤ 9223372036854775807) (hj : j < n) : Calls Tryz.prog 24 #[.agg #[.int .i64 41, .int .i64 o, .string t, .string u, .slice A n c], .int .i64 j, .int .i64 x] w (RetBool w (kidB 41 o n j x)) := by
  go_enter Tryz.func24, Tryz.ntmps24
  go_wp2_with (first | (go_at_call 13; refine (s_isExpr _ _).mono ?_; rintro e w' ⟨rfl, rfl⟩) | (go_at_call 46; refine (s_isLvalue _ _).mono ?_; rintro e w' ⟨rfl, rfl⟩) | (go_at_call 47; refine (s_isStmt _ _).mono ?_; rintro e w' ⟨rfl, rfl⟩) | (go_at_call 30; refine (s_l1In _ _ _ _).mono ?_; rintro e w' ⟨rfl, rfl⟩))
  all_goals (go_ret; refine ⟨ret_bool ?_, (Below.refl _ _).alloc (Nat.le_refl _) _⟩; first | rfl | (simp_all [kidB]; done) | (simp_all [kidB]; omega) | skip)
set_option maxRecDepth 100000 in
set_option maxHeartbeats 1000000 in
theorem s_l7Kid_42 (o : Int) (t u : ByteArray) (A : Option Addr) (n c : Nat) (j : Nat) (x : Int) (w : World) (hn : n ≤ c) (hc : c ≤ 9223372036854775807) (hj : j < n) : Calls Tryz.prog 24 #[.agg #[.int .i64 42, .int .i64 o, .string t, .string u, .slice A n c], .int .i64 j, .int .i64 x] w (RetBool w (kidB 42 o n j x)) := by
  go_enter Tryz.func24, Tryz.ntmps24
  go_wp2_with (first | (go_at_call 13; refine (s_isExpr _ _).mono ?_; rintro e w' ⟨rfl, rfl⟩) | (go_at_call 46; refine (s_isLvalue _ _).mono ?_; rintro e w' ⟨rfl, rfl⟩) | (go_at_call 47; refine (s_isStmt _ _).mono ?_; rintro e w' ⟨rfl, rfl⟩) | (go_at_call 30; refine (s_l1In _ _ _ _).mono ?_; rintro e w' ⟨rfl, rfl⟩))
  all_goals (go_ret; refine ⟨ret_bool ?_, (Below.refl _ _).alloc (Nat.le_refl _) _⟩; first | rfl | (simp_all [kidB]; done) | (simp_all [kidB]; omega) | skip)
set_option maxRecDepth 100000 in
set_option maxHeartbeats 1000000 in
theorem s_l7Kid_43 (o : Int) (t u : ByteArray) (A : Option Addr) (n c : Nat) (j : Nat) (x : Int) (w : World) (hn : n ≤ c) (hc : c ≤ 9223372036854775807) (hj : j < n) : Calls Tryz.prog 24 #[.agg #[.int .i64 43, .int .i64 o, .string t, .string u, .slice A n c], .int .i64 j, .int .i64 x] w (RetBool w (kidB 43 o n j x)) := by
  go_enter Tryz.func24, Tryz.ntmps24
  go_wp2_with (first | (go_at_call 13; refine (s_isExpr _ _).mono ?_; rintro e w' ⟨rfl, rfl⟩) | (go_at_call 46; refine (s_isLvalue _ _).mono ?_; rintro e w' ⟨rfl, rfl⟩) | (go_at_call 47; refine (s_isStmt _ _).mono ?_; rintro e w' ⟨rfl, rfl⟩) | (go_at_call 30; refine (s_l1In _ _ _ _).mono ?_; rintro e w' ⟨rfl, rfl⟩))
  all_goals (go_ret; refine ⟨ret_bool ?_, (Below.refl _ _).alloc (Nat.le_refl _) _⟩; first | rfl | (simp_all [kidB]; done) | (simp_all [kidB]; omega) | skip)
set_option maxRecDepth 100000 in
set_option maxHeartbeats 1000000 in
theorem s_l7Kid_44 (o : Int) (t u : ByteArray) (A : Option Addr) (n c : Nat) (j : Nat) (x : Int) (w : World) (hn : n ≤ c) (hc : c ≤ 9223372036854775807) (hj : j < n) : Calls Tryz.prog 24 #[.agg #[.int .i64 44, .int .i64 o, .string t, .string u, .slice A n c], .int .i64 j, .int .i64 x] w (RetBool w (kidB 44 o n j x)) := by
  go_enter Tryz.func24, Tryz.ntmps24
  go_wp2_with (first | (go_at_call 13; refine (s_isExpr _ _).mono ?_; rintro e w' ⟨rfl, rfl⟩) | (go_at_call 46; refine (s_isLvalue _ _).mono ?_; rintro e w' ⟨rfl, rfl⟩) | (go_at_call 47; refine (s_isStmt _ _).mono ?_; rintro e w' ⟨rfl, rfl⟩) | (go_at_call 30; refine (s_l1In _ _ _ _).mono ?_; rintro e w' ⟨rfl, rfl⟩))
  all_goals (go_ret; refine ⟨ret_bool ?_, (Below.refl _ _).alloc (Nat.le_refl _) _⟩; first | rfl | (simp_all [kidB]; done) | (simp_all [kidB]; omega) | skip)
set_option maxRecDepth 100000 in
set_option maxHeartbeats 1000000 in
theorem s_l7Kid_45 (o : Int) (t u : ByteArray) (A : Option Addr) (n c : Nat) (j : Nat) (x : Int) (w : World) (hn : n ≤ c) (hc : c ≤ 9223372036854775807) (hj : j < n) : Calls Tryz.prog 24 #[.agg #[.int .i64 45, .int .i64 o, .string t, .string u, .slice A n c], .int .i64 j, .int .i64 x] w (RetBool w (kidB 45 o n j x)) := by
  go_enter Tryz.func24, Tryz.ntmps24
  go_wp2_with (first | (go_at_call 13; refine (s_isExpr _ _).mono ?_; rintro e w' ⟨rfl, rfl⟩) | (go_at_call 46; refine (s_isLvalue _ _).mono ?_; rintro e w' ⟨rfl, rfl⟩) | (go_at_call 47; refine (s_isStmt _ _).mono ?_; rintro e w' ⟨rfl, rfl⟩) | (go_at_call 30; refine (s_l1In _ _ _ _).mono ?_; rintro e w' ⟨rfl, rfl⟩))
  all_goals (go_ret; refine ⟨ret_bool ?_, (Below.refl _ _).alloc (Nat.le_refl _) _⟩; first | rfl | (simp_all [kidB]; done) | (simp_all [kidB]; omega) | skip)
theorem s_l7Kid (k : Int) (hk : knownB k = true) (o : Int) (t u : ByteArray) (A : Option Addr) (n c : Nat) (j : Nat) (x : Int) (w : World) (hn : n ≤ c) (hc : c ≤ maxLen) (hj : j < n) : Calls Tryz.prog 24 #[.agg #[.int .i64 k, .int .i64 o, .string t, .string u, .slice A n c], .int .i64 j, .int .i64 x] w (RetBool w (kidB k o n j x)) := by
  have hc : c ≤ 9223372036854775807 := by unfold maxLen at hc; omega
  refine known_cases (P := fun k => Calls Tryz.prog 24 #[.agg #[.int .i64 k, .int .i64 o, .string t, .string u, .slice A n c], .int .i64 j, .int .i64 x] w (RetBool w (kidB k o n j x))) hk ?_ ?_ ?_ ?_ ?_ ?_ ?_ ?_ ?_ ?_ ?_ ?_ ?_ ?_ ?_ ?_ ?_ ?_ ?_ ?_ ?_ ?_ ?_ ?_ ?_ ?_ ?_ ?_ ?_ ?_ ?_ ?_ ?_ ?_ ?_ ?_ ?_
  · exact s_l7Kid_1 o t u A n c j x w hn hc hj
  · exact s_l7Kid_2 o t u A n c j x w hn hc hj
  · exact s_l7Kid_3 o t u A n c j x w hn hc hj
  · exact s_l7Kid_4 o t u A n c j x w hn hc hj
  · exact s_l7Kid_5 o t u A n c j x w hn hc hj
  · exact s_l7Kid_6 o t u A n c j x w hn hc hj
  · exact s_l7Kid_7 o t u A n c j x w hn hc hj
  · exact s_l7Kid_8 o t u A n c j x w hn hc hj
  · exact s_l7Kid_9 o t u A n c j x w hn hc hj
  · exact s_l7Kid_10 o t u A n c j x w hn hc hj
  · exact s_l7Kid_11 o t u A n c j x w hn hc hj
  · exact s_l7Kid_12 o t u A n c j x w hn hc hj
  · exact s_l7Kid_13 o t u A n c j x w hn hc hj
  · exact s_l7Kid_14 o t u A n c j x w hn hc hj
  · exact s_l7Kid_15 o t u A n c j x w hn hc hj
  · exact s_l7Kid_16 o t u A n c j x w hn hc hj
  · exact s_l7Kid_20 o t u A n c j x w hn hc hj
  · exact s_l7Kid_21 o t u A n c j x w hn hc hj
  · exact s_l7Kid_22 o t u A n c j x w hn hc hj
  · exact s_l7Kid_23 o t u A n c j x w hn hc hj
  · exact s_l7Kid_24 o t u A n c j x w hn hc hj
  · exact s_l7Kid_25 o t u A n c j x w hn hc hj
  · exact s_l7Kid_26 o t u A n c j x w hn hc hj
  · exact s_l7Kid_27 o t u A n c j x w hn hc hj
  · exact s_l7Kid_28 o t u A n c j x w hn hc hj
  · exact s_l7Kid_29 o t u A n c j x w hn hc hj
  · exact s_l7Kid_30 o t u A n c j x w hn hc hj
  · exact s_l7Kid_31 o t u A n c j x w hn hc hj
  · exact s_l7Kid_32 o t u A n c j x w hn hc hj
  · exact s_l7Kid_33 o t u A n c j x w hn hc hj
  · exact s_l7Kid_34 o t u A n c j x w hn hc hj
  · exact s_l7Kid_40 o t u A n c j x w hn hc hj
  · exact s_l7Kid_41 o t u A n c j x w hn hc hj
  · exact s_l7Kid_42 o t u A n c j x w hn hc hj
  · exact s_l7Kid_43 o t u A n c j x w hn hc hj
  · exact s_l7Kid_44 o t u A n c j x w hn hc hj
  · exact s_l7Kid_45 o t u A n c j x w hn hc hj
end Go.Proofs.YtlabmboedjnpmaaGreatDoor
