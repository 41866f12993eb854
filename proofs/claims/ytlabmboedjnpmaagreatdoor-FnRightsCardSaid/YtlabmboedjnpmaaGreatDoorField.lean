/- Whether the fields of a node are valid: FieldsOk of the reference (walks). -/
import Derived.Test.YtlabmboedjnpmaaGreatDoorLexR
import Derived.Test.YtlabmboedjnpmaaGreatDoorTokOk
import Derived.Test.YtlabmboedjnpmaaGreatDoorKitR
namespace Go.Proofs.YtlabmboedjnpmaaGreatDoor
open Go.RowKit
set_option linter.unusedVariables false
set_option linter.unusedSimpArgs false
theorem text_cases (k : Int) (P : Int → Prop) (hn : ∀ x, x = 1 ∨ x = 5 ∨ x = 7 ∨ x = 13 ∨ x = 27 ∨ x = 44 → P x) (h2 : P 2) (h3 : P 3) (h4 : P 4) (h34 : P 34) (h8 : P 8) (h32 : P 32) (h21 : P 21)
    (ho : ∀ x, (x == 1) = false → (x == 5) = false → (x == 7) = false → (x == 13) = false → (x == 27) = false → (x == 44) = false → (x == 2) = false → (x == 3) = false → (x == 4) = false → (x == 34) = false → (x == 8) = false → (x == 32) = false → (x == 21) = false → P x) : P k := by
  by_cases c1 : k = 1 ∨ k = 5 ∨ k = 7 ∨ k = 13 ∨ k = 27 ∨ k = 44
  · exact hn k c1
  by_cases c2 : k = 2
  · rw [c2]; exact h2
  by_cases c3 : k = 3
  · rw [c3]; exact h3
  by_cases c4 : k = 4
  · rw [c4]; exact h4
  by_cases c34 : k = 34
  · rw [c34]; exact h34
  by_cases c8 : k = 8
  · rw [c8]; exact h8
  by_cases c32 : k = 32
  · rw [c32]; exact h32
  by_cases c21 : k = 21
  · rw [c21]; exact h21
  refine ho k ?_ ?_ ?_ ?_ ?_ ?_ ?_ ?_ ?_ ?_ ?_ ?_ ?_ <;> simp <;> omega
theorem text_other {k : Int} (t u : ByteArray) (h1 : (k == 1) = false) (h5 : (k == 5) = false) (h7 : (k == 7) = false) (h13 : (k == 13) = false) (h27 : (k == 27) = false) (h44 : (k == 44) = false) (h2 : (k == 2) = false) (h3 : (k == 3) = false) (h4 : (k == 4) = false) (h34 : (k == 34) = false) (h8 : (k == 8) = false) (h32 : (k == 32) = false) (h21 : (k == 21) = false) : textOkB k t u = (emptyB t && emptyB u) := by
  simp at h1 h5 h7 h13 h27 h44 h2 h3 h4 h34 h8 h32 h21
  simp [textOkB, *]
/-- a node that has been put into a block of its own, and what a call leaves of it -/
theorem node_box (w : World) (a b c d e : Value) (t : TypeId) : ∀ o, (w.alloc (.cells #[a, b, c, d, e] t)).cell? ⟨w.heap.size, o, none⟩ = (#[a, b, c, d, e] : Array Value)[o]? := fun o => by rw [World.cell?_alloc_new]
theorem s_isBin (o : Int) (w : World) : Calls Tryz.prog 60 #[.int .i64 o] w fun e w' => e = .returned (.bool (opLevel o != 0)) ∧ w = w' := by
  go_enter Tryz.func60, Tryz.ntmps60
  go_wp2_with fail
  all_goals (go_ret; refine ⟨ret_bool ?_, rfl⟩; simp_all [opLevel])
theorem s_isAssign (k : Int) (w : World) : Calls Tryz.prog 61 #[.int .i64 k] w fun e w' => e = .returned (.bool (isAssignB k)) ∧ w = w' := by
  unfold isAssignB
  cases h : k == 54
  · go_enter Tryz.func61, Tryz.ntmps61
    go_wp2_with (go_at_call 30; refine (s_l1In _ _ _ _).mono ?_; rintro e w' ⟨rfl, rfl⟩)
    go_ret
    exact ⟨rfl, rfl⟩
  · go_enter Tryz.func61, Tryz.ntmps61
    go_wp2_with fail
    go_ret
    exact ⟨rfl, rfl⟩
set_option maxRecDepth 100000 in
set_option maxHeartbeats 1000000 in
theorem s_l7Op (k o : Int) (t u : ByteArray) (A : Option Addr) (n c : Nat) (w : World) : Calls Tryz.prog 44 #[.agg #[.int .i64 k, .int .i64 o, .string t, .string u, .slice A n c]] w (RetBool w (opOkB k o)) := by
  go_enter Tryz.func44, Tryz.ntmps44
  go_wp2_with (first | (go_at_call 60; refine (s_isBin _ _).mono ?_; rintro e w' ⟨rfl, rfl⟩) | (go_at_call 61; refine (s_isAssign _ _).mono ?_; rintro e w' ⟨rfl, rfl⟩) | (go_at_call 30; refine (s_l1In _ _ _ _).mono ?_; rintro e w' ⟨rfl, rfl⟩))
  all_goals (go_ret; refine ⟨ret_bool ?_, (Below.refl _ _).alloc (Nat.le_refl _) _⟩; simp_all [opOkB, stepB])
set_option maxRecDepth 100000 in
set_option maxHeartbeats 1000000 in
theorem s_l7Many (k o : Int) (t u : ByteArray) (A : Option Addr) (n c : Nat) (w : World) (ho : okInt o) : Calls Tryz.prog 43 #[.agg #[.int .i64 k, .int .i64 o, .string t, .string u, .slice A n c]] w fun e w' => (∃ x y, e = .returned (.tuple #[.int .i64 x, .int .i64 y]) ∧ (opOkB k o = true → x = manyLo k o u ∧ y = manyHi k o u n)) ∧ Below w.heap.size w w' := by
  obtain ⟨ho1, ho2⟩ := ho
  by_cases c33 : k = 33 ∨ k = 45
  · have hG : ∀ k o, k = 33 ∨ k = 45 → opOkB k o = true → (0 : Int) = manyLo k o u ∧ (n : Int) = manyHi k o u n := by
      rintro k o (rfl | rfl) _ <;> simp [manyLo, manyHi]
    have hG := Lib.hid hG
    rcases c33 with rfl | rfl
    all_goals
      go_enter Tryz.func43, Tryz.ntmps43
      go_wp2_with fail
      go_quiet (fail)
      go_wp2_with fail
      go_ret2
      exact ⟨⟨_, _, rfl, hG.out _ _ (by simp)⟩, below_drewN ((Below.refl _ _).alloc (Nat.le_refl _) _) _⟩
  by_cases c42 : k = 42 ∨ k = 43
  · obtain ⟨q, hq⟩ : ∃ q, Int.tdiv o 3 = q := ⟨_, rfl⟩
    have hqb : -9223372036854775808 < q ∧ q < 9223372036854775000 := by
      have := Int.mul_tdiv_add_tmod o 3
      have h1 := Int.tmod_lt_of_pos o (show (0 : Int) < 3 by omega)
      have h2 := Int.lt_tmod_of_pos o (show (0 : Int) < 3 by omega)
      omega
    have hG : ∀ k, k = 42 → opOkB k o = true → (1 + q) = manyLo k o u ∧ (1 + q) = manyHi k o u n := by
      rintro k rfl _; simp [manyLo, manyHi, hq]
    have hG3 : ∀ k, k = 43 → opOkB k o = true → (2 + q) = manyLo k o u ∧ (2 + q) = manyHi k o u n := by
      rintro k rfl _; simp [manyLo, manyHi, hq]
    have hG := Lib.hid hG
    have hG3 := Lib.hid hG3
    have hqw : IntKind.i64.wrap q = q := IntWalk.i64_in _ (by omega)
    have hqw1 : IntKind.i64.wrap (1 + q) = 1 + q := IntWalk.i64_in _ (by omega)
    have hqw2 : IntKind.i64.wrap (2 + q) = 2 + q := IntWalk.i64_in _ (by omega)
    rcases c42 with rfl | rfl
    · go_enter Tryz.func43, Tryz.ntmps43
      go_wp2_with fail
      go_quiet (fail)
      go_wp2_with fail
      go_ret2
      exact ⟨⟨_, _, rfl, hG.out _ rfl⟩, below_drewN ((Below.refl _ _).alloc (Nat.le_refl _) _) _⟩
    · go_enter Tryz.func43, Tryz.ntmps43
      go_wp2_with fail
      go_quiet (fail)
      go_wp2_with fail
      go_ret2
      exact ⟨⟨_, _, rfl, hG3.out _ rfl⟩, below_drewN ((Below.refl _ _).alloc (Nat.le_refl _) _) _⟩
  have d33 : (k == 33) = false := by simp; omega
  have d45 : (k == 45) = false := by simp; omega
  have d42 : (k == 42) = false := by simp; omega
  have d43 : (k == 43) = false := by simp; omega
  have hp : Hid (opOkB 21 o = true → wrap64 (o + 1) = o + 1) := by
    intro h
    simp [opOkB, inB] at h
    exact IntWalk.wrap64_in _ (by omega)
  clear c33 c42
  go_enter Tryz.func43, Tryz.ntmps43
  go_wp2_with fail
  all_goals (go_ret2; refine ⟨⟨_, _, rfl, fun h => ?_⟩, (Below.refl _ _).alloc (Nat.le_refl _) _⟩; first | (simp_all [manyLo, manyHi, emptyB]; done) | (have hp := hp.out; simp_all [manyLo, manyHi, emptyB]))
set_option maxRecDepth 100000 in
set_option maxHeartbeats 1000000 in
theorem s_l7Text (k o : Int) (t u : ByteArray) (A : Option Addr) (n c : Nat) (w : World) (ht : t.size ≤ 16777216) (hu : u.size ≤ 16777216) : Calls Tryz.prog 45 #[.agg #[.int .i64 k, .int .i64 o, .string t, .string u, .slice A n c]] w (RetBool w (textOkB k t u)) := by
  refine text_cases k (fun k => Calls Tryz.prog 45 #[.agg #[.int .i64 k, .int .i64 o, .string t, .string u, .slice A n c]] w (RetBool w (textOkB k t u))) ?_ ?_ ?_ ?_ ?_ ?_ ?_ ?_ ?_
  · intro x hx
    rcases hx with rfl | rfl | rfl | rfl | rfl | rfl
    all_goals
      show Calls _ _ _ _ (RetBool w (nameOkB t && emptyB u))
      go_enter Tryz.func45, Tryz.ntmps45
      go_wp2_with fail
      refine (s_nameOk _ _ ht).mono ?_
      rintro e w1 ⟨rfl, hb1⟩
      have hc := fun o => hb1.cell (p := ⟨w.heap.size, o, none⟩) (by simp)
      cases hN : nameOkB t
      · go_wp2_with fail
        go_ret
        exact ⟨ret_bool (by rw [hN]; rfl), ((Below.refl _ _).alloc (Nat.le_refl _) _).trans (hb1.mono (by simp))⟩
      · go_wp2_with fail
        go_ret
        exact ⟨ret_bool (by rw [hN]; rfl), ((Below.refl _ _).alloc (Nat.le_refl _) _).trans (hb1.mono (by simp))⟩
  · show Calls _ _ _ _ (RetBool w (tokenOkB ⟨3, t, 0⟩ && emptyB u))
    go_enter Tryz.func45, Tryz.ntmps45
    go_wp2_with fail
    refine (s_tokenOk _ _ _ _ (by unfold okI64; omega) ht).mono ?_
    rintro e w1 ⟨rfl, hb1⟩
    have hc := fun o => hb1.cell (p := ⟨w.heap.size, o, none⟩) (by simp)
    cases hN : tokenOkB ⟨3, t, 0⟩
    · go_wp2_with fail
      go_ret
      exact ⟨ret_bool (by rw [hN]; rfl), ((Below.refl _ _).alloc (Nat.le_refl _) _).trans (hb1.mono (by simp))⟩
    · go_wp2_with fail
      go_ret
      exact ⟨ret_bool (by rw [hN]; rfl), ((Below.refl _ _).alloc (Nat.le_refl _) _).trans (hb1.mono (by simp))⟩
  · show Calls _ _ _ _ (RetBool w (tokenOkB ⟨4, t, 0⟩ && emptyB u))
    go_enter Tryz.func45, Tryz.ntmps45
    go_wp2_with fail
    refine (s_tokenOk _ _ _ _ (by unfold okI64; omega) ht).mono ?_
    rintro e w1 ⟨rfl, hb1⟩
    have hc := fun o => hb1.cell (p := ⟨w.heap.size, o, none⟩) (by simp)
    cases hN : tokenOkB ⟨4, t, 0⟩
    · go_wp2_with fail
      go_ret
      exact ⟨ret_bool (by rw [hN]; rfl), ((Below.refl _ _).alloc (Nat.le_refl _) _).trans (hb1.mono (by simp))⟩
    · go_wp2_with fail
      go_ret
      exact ⟨ret_bool (by rw [hN]; rfl), ((Below.refl _ _).alloc (Nat.le_refl _) _).trans (hb1.mono (by simp))⟩
  · show Calls _ _ _ _ (RetBool w (tokenOkB ⟨5, t, 0⟩ && emptyB u))
    go_enter Tryz.func45, Tryz.ntmps45
    go_wp2_with fail
    refine (s_tokenOk _ _ _ _ (by unfold okI64; omega) ht).mono ?_
    rintro e w1 ⟨rfl, hb1⟩
    have hc := fun o => hb1.cell (p := ⟨w.heap.size, o, none⟩) (by simp)
    cases hN : tokenOkB ⟨5, t, 0⟩
    · go_wp2_with fail
      go_ret
      exact ⟨ret_bool (by rw [hN]; rfl), ((Below.refl _ _).alloc (Nat.le_refl _) _).trans (hb1.mono (by simp))⟩
    · go_wp2_with fail
      go_ret
      exact ⟨ret_bool (by rw [hN]; rfl), ((Below.refl _ _).alloc (Nat.le_refl _) _).trans (hb1.mono (by simp))⟩
  · show Calls _ _ _ _ (RetBool w (tokenOkB ⟨2, t, 0⟩ && emptyB u))
    go_enter Tryz.func45, Tryz.ntmps45
    go_wp2_with fail
    refine (s_tokenOk _ _ _ _ (by unfold okI64; omega) ht).mono ?_
    rintro e w1 ⟨rfl, hb1⟩
    have hc := fun o => hb1.cell (p := ⟨w.heap.size, o, none⟩) (by simp)
    cases hN : tokenOkB ⟨2, t, 0⟩
    · go_wp2_with fail
      go_ret
      exact ⟨ret_bool (by rw [hN]; rfl), ((Below.refl _ _).alloc (Nat.le_refl _) _).trans (hb1.mono (by simp))⟩
    · go_wp2_with fail
      go_ret
      exact ⟨ret_bool (by rw [hN]; rfl), ((Below.refl _ _).alloc (Nat.le_refl _) _).trans (hb1.mono (by simp))⟩
  · show Calls _ _ _ _ (RetBool w (isBuiltinB t && emptyB u))
    go_enter Tryz.func45, Tryz.ntmps45
    go_wp2_with fail
    refine (s_isBuiltin _ _).mono ?_
    rintro e w1 ⟨rfl, hb1⟩
    have hc := fun o => hb1.cell (p := ⟨w.heap.size, o, none⟩) (by simp)
    cases hN : isBuiltinB t
    · go_wp2_with fail
      go_ret
      exact ⟨ret_bool (by rw [hN]; rfl), ((Below.refl _ _).alloc (Nat.le_refl _) _).trans (hb1.mono (by simp))⟩
    · go_wp2_with fail
      go_ret
      exact ⟨ret_bool (by rw [hN]; rfl), ((Below.refl _ _).alloc (Nat.le_refl _) _).trans (hb1.mono (by simp))⟩
  · show Calls _ _ _ _ (RetBool w (nameOkB t && nameOkB u))
    go_enter Tryz.func45, Tryz.ntmps45
    go_wp2_with fail
    refine (s_nameOk _ _ ht).mono ?_
    rintro e w1 ⟨rfl, hb1⟩
    have hc := fun o => hb1.cell (p := ⟨w.heap.size, o, none⟩) (by simp)
    cases hN : nameOkB t
    · go_wp2_with fail
      go_ret
      exact ⟨ret_bool (by rw [hN]; rfl), ((Below.refl _ _).alloc (Nat.le_refl _) _).trans (hb1.mono (by simp))⟩
    · go_wp2_with fail
      refine (s_nameOk _ _ hu).mono ?_
      rintro e w2 ⟨rfl, hb2⟩
      go_wp2_with fail
      go_ret
      exact ⟨ret_bool (by rw [hN]; rfl), (((Below.refl _ _).alloc (Nat.le_refl _) _).trans (hb1.mono (by simp))).trans (hb2.mono (by have := hb1.size; simp at this; omega))⟩
  · show Calls _ _ _ _ (RetBool w (emptyB t && tgtB u))
    go_enter Tryz.func45, Tryz.ntmps45
    go_wp2_with fail
    all_goals (go_ret; refine ⟨ret_bool ?_, (Below.refl _ _).alloc (Nat.le_refl _) _⟩; simp_all [emptyB, tgtB])
  · intro x q1 q5 q7 q13 q27 q44 q2 q3 q4 q34 q8 q32 q21
    rw [text_other t u q1 q5 q7 q13 q27 q44 q2 q3 q4 q34 q8 q32 q21]
    go_enter Tryz.func45, Tryz.ntmps45
    go_wp2_with fail
    all_goals (go_ret; refine ⟨ret_bool ?_, (Below.refl _ _).alloc (Nat.le_refl _) _⟩; simp_all [emptyB])
set_option maxRecDepth 100000 in
set_option maxHeartbeats 1000000 in
theorem s_fieldsOk (k o : Int) (t u : ByteArray) (A : Option Addr) (n c : Nat) (w : World) (ho : okInt o) (ht : t.size ≤ 16777216) (hu : u.size ≤ 16777216) (hn : n ≤ c) (hc : c ≤ maxLen) : Calls Tryz.prog 23 #[.agg #[.int .i64 k, .int .i64 o, .string t, .string u, .slice A n c]] w (RetBool w (fieldsB k o t u n)) := by
  have hoH := Lib.hid ho
  clear ho
  have htH := Lib.hid ht
  have huH := Lib.hid hu
  clear ht hu
  have hmn : n ≤ maxLen := by omega
  unfold maxLen at hmn
  cases h1 : inB k 1 16
  · cases h2 : inB k 20 34
    · cases h3 : inB k 40 45
      · go_enter Tryz.func23, Tryz.ntmps23
        go_wp2_with fail
        refine (s_l7Many _ _ _ _ _ _ _ _ hoH.out).mono ?_
        rintro e w1 ⟨⟨x, y, rfl, hxy⟩, hb1⟩
        have hc1 := fun o => hb1.cell (p := ⟨w.heap.size, o, none⟩) (by simp)
        have hB1 := Lib.hid (((Below.refl w.heap.size w).alloc (Nat.le_refl _) _).trans (hb1.mono (by simp)))
        clear hxy hb1
        go_wp2_with (go_at_call 30; refine (s_l1In _ _ _ _).mono ?_; rintro e w' ⟨rfl, rfl⟩; first | rw [h1] | rw [h2] | rw [h3])
        go_ret
        exact ⟨ret_bool (by simp [fieldsB, knownB, h1, h2, h3]), hB1.out⟩
      · go_enter Tryz.func23, Tryz.ntmps23
        go_wp2_with fail
        refine (s_l7Many _ _ _ _ _ _ _ _ hoH.out).mono ?_
        rintro e w1 ⟨⟨x, y, rfl, hxy⟩, hb1⟩
        have hc1 := fun o => hb1.cell (p := ⟨w.heap.size, o, none⟩) (by simp)
        have hs1 : w.heap.size < w1.heap.size := by have := hb1.size; simp at this; omega
        have hB1 := Lib.hid (((Below.refl w.heap.size w).alloc (Nat.le_refl _) _).trans (hb1.mono (by simp)))
        have hxyH := Lib.hid hxy
        clear hxy hb1
        go_wp2_with (go_at_call 30; refine (s_l1In _ _ _ _).mono ?_; rintro e w' ⟨rfl, rfl⟩; first | rw [h1] | rw [h2] | rw [h3] | skip)
        refine (s_l7Op _ _ _ _ _ _ _ _).mono ?_
        rintro e w2 ⟨rfl, hb2⟩
        have hc2 := fun o => (hb2.cell (p := ⟨w.heap.size, o, none⟩) hs1).trans (hc1 o)
        have hs2 : w.heap.size < w2.heap.size := by have := hb2.size; omega
        have hB2 := Lib.hid (hB1.out.trans (hb2.mono (by omega)))
        clear hc1 hb2 hs1
        cases hO : opOkB k o
        · have hOH := Lib.hid hO
          clear hO
          go_wp2_with fail
          go_ret
          exact ⟨ret_bool (by simp [fieldsB, hOH.out]), hB2.out⟩
        · have hOH := Lib.hid hO
          clear hO
          go_wp2_with fail
          refine (s_l7Text _ _ _ _ _ _ _ _ htH.out huH.out).mono ?_
          rintro e w3 ⟨rfl, hb3⟩
          have hc3 := fun o => (hb3.cell (p := ⟨w.heap.size, o, none⟩) hs2).trans (hc2 o)
          have hB3 := Lib.hid (hB2.out.trans (hb3.mono (by omega)))
          clear hc2 hb3
          cases hT : textOkB k t u
          · have hTH := Lib.hid hT
            clear hT
            go_wp2_with fail
            go_ret
            exact ⟨ret_bool (by simp [fieldsB, hTH.out]), hB3.out⟩
          · have hTH := Lib.hid hT
            clear hT
            go_wp2_with (go_at_call 30; refine (s_l1In _ _ _ _).mono ?_; rintro e w' ⟨rfl, rfl⟩; first | rw [h1] | rw [h2] | rw [h3] | skip)
            go_ret
            exact ⟨ret_bool (by rw [(hxyH.out hOH.out).1, (hxyH.out hOH.out).2]; simp [fieldsB, knownB, hOH.out, hTH.out, h1, h2, h3]), hB3.out⟩
    · go_enter Tryz.func23, Tryz.ntmps23
      go_wp2_with fail
      refine (s_l7Many _ _ _ _ _ _ _ _ hoH.out).mono ?_
      rintro e w1 ⟨⟨x, y, rfl, hxy⟩, hb1⟩
      have hc1 := fun o => hb1.cell (p := ⟨w.heap.size, o, none⟩) (by simp)
      have hs1 : w.heap.size < w1.heap.size := by have := hb1.size; simp at this; omega
      have hB1 := Lib.hid (((Below.refl w.heap.size w).alloc (Nat.le_refl _) _).trans (hb1.mono (by simp)))
      have hxyH := Lib.hid hxy
      clear hxy hb1
      go_wp2_with (go_at_call 30; refine (s_l1In _ _ _ _).mono ?_; rintro e w' ⟨rfl, rfl⟩; first | rw [h1] | rw [h2] | skip)
      refine (s_l7Op _ _ _ _ _ _ _ _).mono ?_
      rintro e w2 ⟨rfl, hb2⟩
      have hc2 := fun o => (hb2.cell (p := ⟨w.heap.size, o, none⟩) hs1).trans (hc1 o)
      have hs2 : w.heap.size < w2.heap.size := by have := hb2.size; omega
      have hB2 := Lib.hid (hB1.out.trans (hb2.mono (by omega)))
      clear hc1 hb2 hs1
      cases hO : opOkB k o
      · have hOH := Lib.hid hO
        clear hO
        go_wp2_with fail
        go_ret
        exact ⟨ret_bool (by simp [fieldsB, hOH.out]), hB2.out⟩
      · have hOH := Lib.hid hO
        clear hO
        go_wp2_with fail
        refine (s_l7Text _ _ _ _ _ _ _ _ htH.out huH.out).mono ?_
        rintro e w3 ⟨rfl, hb3⟩
        have hc3 := fun o => (hb3.cell (p := ⟨w.heap.size, o, none⟩) hs2).trans (hc2 o)
        have hB3 := Lib.hid (hB2.out.trans (hb3.mono (by omega)))
        clear hc2 hb3
        cases hT : textOkB k t u
        · have hTH := Lib.hid hT
          clear hT
          go_wp2_with fail
          go_ret
          exact ⟨ret_bool (by simp [fieldsB, hTH.out]), hB3.out⟩
        · have hTH := Lib.hid hT
          clear hT
          go_wp2_with (go_at_call 30; refine (s_l1In _ _ _ _).mono ?_; rintro e w' ⟨rfl, rfl⟩; first | rw [h1] | rw [h2] | skip)
          go_ret
          exact ⟨ret_bool (by rw [(hxyH.out hOH.out).1, (hxyH.out hOH.out).2]; simp [fieldsB, knownB, hOH.out, hTH.out, h1, h2]), hB3.out⟩
  · go_enter Tryz.func23, Tryz.ntmps23
    go_wp2_with fail
    refine (s_l7Many _ _ _ _ _ _ _ _ hoH.out).mono ?_
    rintro e w1 ⟨⟨x, y, rfl, hxy⟩, hb1⟩
    have hc1 := fun o => hb1.cell (p := ⟨w.heap.size, o, none⟩) (by simp)
    have hs1 : w.heap.size < w1.heap.size := by have := hb1.size; simp at this; omega
    have hB1 := Lib.hid (((Below.refl w.heap.size w).alloc (Nat.le_refl _) _).trans (hb1.mono (by simp)))
    have hxyH := Lib.hid hxy
    clear hxy hb1
    go_wp2_with (go_at_call 30; refine (s_l1In _ _ _ _).mono ?_; rintro e w' ⟨rfl, rfl⟩; first | rw [h1] | skip)
    refine (s_l7Op _ _ _ _ _ _ _ _).mono ?_
    rintro e w2 ⟨rfl, hb2⟩
    have hc2 := fun o => (hb2.cell (p := ⟨w.heap.size, o, none⟩) hs1).trans (hc1 o)
    have hs2 : w.heap.size < w2.heap.size := by have := hb2.size; omega
    have hB2 := Lib.hid (hB1.out.trans (hb2.mono (by omega)))
    clear hc1 hb2 hs1
    cases hO : opOkB k o
    · have hOH := Lib.hid hO
      clear hO
      go_wp2_with fail
      go_ret
      exact ⟨ret_bool (by simp [fieldsB, hOH.out]), hB2.out⟩
    · have hOH := Lib.hid hO
      clear hO
      go_wp2_with fail
      refine (s_l7Text _ _ _ _ _ _ _ _ htH.out huH.out).mono ?_
      rintro e w3 ⟨rfl, hb3⟩
      have hc3 := fun o => (hb3.cell (p := ⟨w.heap.size, o, none⟩) hs2).trans (hc2 o)
      have hB3 := Lib.hid (hB2.out.trans (hb3.mono (by omega)))
      clear hc2 hb3
      cases hT : textOkB k t u
      · have hTH := Lib.hid hT
        clear hT
        go_wp2_with fail
        go_ret
        exact ⟨ret_bool (by simp [fieldsB, hTH.out]), hB3.out⟩
      · have hTH := Lib.hid hT
        clear hT
        go_wp2_with (go_at_call 30; refine (s_l1In _ _ _ _).mono ?_; rintro e w' ⟨rfl, rfl⟩; first | rw [h1] | skip)
        go_ret
        exact ⟨ret_bool (by rw [(hxyH.out hOH.out).1, (hxyH.out hOH.out).2]; simp [fieldsB, knownB, hOH.out, hTH.out, h1]), hB3.out⟩
end Go.Proofs.YtlabmboedjnpmaaGreatDoor
