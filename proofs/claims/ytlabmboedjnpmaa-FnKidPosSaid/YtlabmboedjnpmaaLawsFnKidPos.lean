/- The walk of the law that kid positions are valid, and restrictions are inherited except inside brackets. -/
import Derived.Test.YtlabmboedjnpmaaDrawKidPos
import Derived.Test.YtlabmboedjnpmaaKidPosJ
import Derived.Test.YtlabmboedjnpmaaFits
import Derived.Deep.RegionHeld3
import Derived.Deep.RegionLaw
import Derived.Test.YtlabmboedjnpmaaKidPosS
import Derived.Deep.QuietTactic
import Derived.BigQuiet
namespace Go.Proofs.Ytlabmboedjnpmaa
open Go.RowKit
set_option linter.unusedVariables false
theorem kid_opLevel (o : Int) : opLevel o = 0 ∨ opLevel o = 3 ∨ opLevel o = 4 ∨ opLevel o = 6 ∨ opLevel o = 7 ∨ opLevel o = 8 ∨ opLevel o = 9 ∨ opLevel o = 10 ∨ opLevel o = 12 := by
  unfold opLevel
  repeat' split
  all_goals omega
theorem sideA_in (L : Int) : 1 ≤ sideA L ∧ sideA L ≤ 15 := by
  unfold sideA
  repeat' split
  all_goals omega
theorem sideB_in (L : Int) : 1 ≤ sideB L ∧ sideB L ≤ 15 := by
  unfold sideB
  repeat' split
  all_goals omega
theorem kidLevel_in (kd o : Int) (k : Nat) : 1 ≤ kidLevelP kd o k ∧ kidLevelP kd o k ≤ 15 := by
  have h1 := sideA_in (opLevel o)
  have h2 := sideB_in (opLevel o)
  unfold kidLevelP
  repeat' split
  all_goals omega
theorem kidQ_ok (kd o : Int) (n k : Nat) (p : PPos) : posOk (kidQ kd o n k p).level (kidQ kd o n k p).dollar = true ∧ (kidQ kd o n k p = topP ∨ (kidQ kd o n k p).noIn = p.noIn ∧ (kidQ kd o n k p).noGt = p.noGt) := by
  unfold kidQ
  split
  · exact ⟨by decide, .inl rfl⟩
  · refine ⟨?_, .inr ⟨rfl, rfl⟩⟩
    have h := kidLevel_in kd o k
    show posOk (kidLevelP kd o k) (decide (kd = 6)) = true
    unfold posOk inB
    by_cases h6 : kd = 6
    · subst h6
      have e : kidLevelP 6 o k = 14 := by unfold kidLevelP; simp
      rw [e]
      decide
    · simp [h6]
      exact h
theorem cmp_top (ql : Int) (qd qi qg qn : Bool) (h : ¬ (⟨ql, qd, qi, qg, qn⟩ : PPos) = topP) (W : World) : (binOp BinOp.eql 28 (.agg #[.int .i64 ql, .bool qd, .bool qi, .bool qg, .bool qn]) (.agg #[.int .i64 1, .bool false, .bool false, .bool false, .bool false])).run Try.prog W = .ok (.bool false) W := by
  by_cases h1 : ql = 1
  · subst h1
    cases qd <;> cases qi <;> cases qg <;> cases qn
    all_goals first
      | exact absurd rfl h
      | (clear h; go_simp)
  · have h2 : (ql == 1) = false := by simpa using h1
    clear h
    go_simp
theorem l_big3 (v : Value) (l : List UInt8) (w : World) (h : BytesIn w w.heap.size v l) : Calls Try.prog 5 #[v] w fun e w' => e = .returned (.bool (decide (1048576 < l.length))) ∧ w = w' := by
  obtain ⟨A, c, rfl, hlc, hcm, _⟩ := h
  unfold maxLen at hcm
  go_enter Try.func5, Try.ntmps5
  go_wp2_with fail
  go_ret
  exact ⟨ret_bool (by first | rfl | (rw [decide_eq_decide]; omega)), rfl⟩
set_option maxRecDepth 100000 in
set_option maxHeartbeats 4000000 in
theorem l_FnKidPos (v0 : Value) (a0 : List UInt8) (w : World) (h0 : BytesIn w w.heap.size v0 a0) : Calls Try.prog 4 #[v0] w fun e w' => e = .returned (.bool true) ∧ Below w.heap.size w w' := by
  have hB := Lib.hid h0
  obtain ⟨A, c, rfl, r⟩ := h0
  clear r
  by_cases hbig : 1048576 < a0.length
  · have hd := Lib.hid (show decide (1048576 < a0.length) = true by simpa using hbig)
    clear hbig
    go_enter Try.func4, Try.ntmps4
    go_wp2_with fail
    refine (l_big3 _ a0 _ hB.out).mono ?_
    rintro e w' ⟨rfl, rfl⟩
    rw [hd.out]
    go_wp2_with fail
    go_ret
    exact ⟨rfl, Below.refl _ _⟩
  · have hd := Lib.hid (show decide (1048576 < a0.length) = false by simpa using hbig)
    have hl := Lib.hid (show a0.length ≤ 1048576 by omega)
    clear hbig
    go_enter Try.func4, Try.ntmps4
    go_wp2_with fail
    refine (l_big3 _ a0 _ hB.out).mono ?_
    rintro e w' ⟨rfl, rfl⟩
    rw [hd.out]
    go_wp2_with fail
    refine (d_drawKidPos _ a0 _ hl.out hB.out).mono ?_
    rintro e w1 ⟨⟨kd, o, t, u, ks⟩, K, kc, k, ⟨l, d, i, g, n⟩, rfl, _, hgood, hkn, hp, hb1⟩
    have h2 := hgood.two
    have h8 := hgood.few
    dsimp only at h2 h8 hkn ⊢
    obtain ⟨m, hm⟩ : ∃ m, ks.length = m := ⟨_, rfl⟩
    rw [hm] at h2 h8 hkn ⊢
    have h2 := Lib.hid h2
    clear hm hgood hp
    obtain ⟨f2, p2, b2, hs2⟩ := two_made w1 (.int .i64 kd) (.int .i64 o) (.string t) (.string u) (.slice K m kc) 26 (.int .i64 l) (.bool d) (.bool i) (.bool g) (.bool n) 28
    have f2 := Lib.hid f2
    have p2 := Lib.hid p2
    have b2 := Lib.hid (hb1.trans (b2.mono hb1.size))
    obtain ⟨⟨ql, qd, qi, qg, qn⟩, hq⟩ : ∃ q, kidP kd o m k ⟨l, d, i, g, n⟩ = q := ⟨_, rfl⟩
    have hiF := Lib.hid (fun W => i_kidPos kd o t u K m kc k l d i g n W h8 h2.out)
    have hsF := Lib.hid (fun W => s_kidPos kd o t u K m kc k l d i g n W h8 h2.out)
    rw [hq] at hiF hsF
    have hqH := Lib.hid hq
    clear hq hs2
    go_wp2_with fail
    refine (hiF.out _).mono ?_
    rintro e x3 ⟨rfl, hb3⟩
    have f3 := Lib.hid (f2.out.keep hb3 (by first | (simp; done) | (simp; omega)))
    have p3 := Lib.hid (p2.out.keep hb3 (by first | (simp; done) | (simp; omega)))
    have b3 := Lib.hid (b2.out.trans (hb3.mono b2.out.size))
    have hs3 : w1.heap.size + 1 < x3.heap.size := by have := hb3.size; simp at this; omega
    clear hb3
    have bal : Below x3.heap.size x3 (x3.alloc (.cells #[.int .i64 ql, .bool qd, .bool qi, .bool qg, .bool qn] 28)) := (Below.refl _ _).alloc (Nat.le_refl _) _
    have f4 := Lib.hid (f3.out.keep bal (by omega))
    have p4 := Lib.hid (p3.out.keep bal (by omega))
    have q4 := Lib.hid (Five.made x3 (.int .i64 ql) (.bool qd) (.bool qi) (.bool qg) (.bool qn) 28)
    have b4 := Lib.hid (b3.out.trans (bal.mono b3.out.size))
    have hs4 : w1.heap.size + 1 < (x3.alloc (.cells #[.int .i64 ql, .bool qd, .bool qi, .bool qg, .bool qn] 28)).heap.size ∧ x3.heap.size < (x3.alloc (.cells #[.int .i64 ql, .bool qd, .bool qi, .bool qg, .bool qn] 28)).heap.size := by simp; omega
    clear bal
    dsimp only [posV]
    go_wp2_with fail
    obtain ⟨W4, hW4⟩ : ∃ W, x3.alloc (.cells #[.int .i64 ql, .bool qd, .bool qi, .bool qg, .bool qn] 28) = W := ⟨_, rfl⟩
    rw [hW4] at f4 p4 q4 b4 hs4 ⊢
    clear hW4
    have hkH := Lib.hid (show ∀ W', Below W4.drew.heap.size W4.drew W' → W'.cell? ⟨w1.heap.size, 0, none⟩ = some (.int .i64 kd) ∧ W'.cell? ⟨w1.heap.size, 1, none⟩ = some (.int .i64 o) ∧ W'.cell? ⟨w1.heap.size, 2, none⟩ = some (.string t) ∧ W'.cell? ⟨w1.heap.size, 3, none⟩ = some (.string u) ∧ W'.cell? ⟨w1.heap.size, 4, none⟩ = some (.slice K m kc) ∧ W'.cell? ⟨w1.heap.size + 1, 0, none⟩ = some (.int .i64 l) ∧ W'.cell? ⟨w1.heap.size + 1, 1, none⟩ = some (.bool d) ∧ W'.cell? ⟨w1.heap.size + 1, 2, none⟩ = some (.bool i) ∧ W'.cell? ⟨w1.heap.size + 1, 3, none⟩ = some (.bool g) ∧ W'.cell? ⟨w1.heap.size + 1, 4, none⟩ = some (.bool n) ∧ W'.cell? ⟨x3.heap.size, 0, none⟩ = some (.int .i64 ql) ∧ W'.cell? ⟨x3.heap.size, 1, none⟩ = some (.bool qd) ∧ W'.cell? ⟨x3.heap.size, 2, none⟩ = some (.bool qi) ∧ W'.cell? ⟨x3.heap.size, 3, none⟩ = some (.bool qg) ∧ W'.cell? ⟨x3.heap.size, 4, none⟩ = some (.bool qn) from fun W' hb => by
      obtain ⟨a0, a1, a2, a3, a4⟩ := (show Five W4.drew _ _ _ _ _ _ from f4.out).keep hb (show _ < W4.heap.size by omega)
      obtain ⟨e0, e1, e2, e3, e4⟩ := (show Five W4.drew _ _ _ _ _ _ from p4.out).keep hb (show _ < W4.heap.size by omega)
      obtain ⟨j0, j1, j2, j3, j4⟩ := (show Five W4.drew _ _ _ _ _ _ from q4.out).keep hb (show _ < W4.heap.size by omega)
      exact ⟨a0, a1, a2, a3, a4, e0, e1, e2, e3, e4, j0, j1, j2, j3, j4⟩)
    have bacc : Below W4.drew.heap.size W4.drew W4.drew := Below.refl _ _
    go_region_held3 (fun W => W.cell? ⟨w1.heap.size, 0, none⟩ = some (.int .i64 kd) ∧ W.cell? ⟨w1.heap.size, 1, none⟩ = some (.int .i64 o) ∧ W.cell? ⟨w1.heap.size, 2, none⟩ = some (.string t) ∧ W.cell? ⟨w1.heap.size, 3, none⟩ = some (.string u) ∧ W.cell? ⟨w1.heap.size, 4, none⟩ = some (.slice K m kc) ∧ W.cell? ⟨w1.heap.size + 1, 0, none⟩ = some (.int .i64 l) ∧ W.cell? ⟨w1.heap.size + 1, 1, none⟩ = some (.bool d) ∧ W.cell? ⟨w1.heap.size + 1, 2, none⟩ = some (.bool i) ∧ W.cell? ⟨w1.heap.size + 1, 3, none⟩ = some (.bool g) ∧ W.cell? ⟨w1.heap.size + 1, 4, none⟩ = some (.bool n) ∧ W.cell? ⟨x3.heap.size, 0, none⟩ = some (.int .i64 ql) ∧ W.cell? ⟨x3.heap.size, 1, none⟩ = some (.bool qd) ∧ W.cell? ⟨x3.heap.size, 2, none⟩ = some (.bool qi) ∧ W.cell? ⟨x3.heap.size, 3, none⟩ = some (.bool qg) ∧ W.cell? ⟨x3.heap.size, 4, none⟩ = some (.bool qn)) (exact hkH.out _ bacc) (first
      | ((go_at_call 15; refine (hsF.out _).mono ?_; rintro e x5 ⟨rfl, ba⟩; have bacc := Below.trans bacc (ba.mono bacc.size); clear ba; dsimp only [posV])))
    have F := Lib.hid ((show Five W4.drew _ _ _ _ _ _ from f4.out).keep bacc (show _ < W4.heap.size by omega))
    have P := Lib.hid ((show Five W4.drew _ _ _ _ _ _ from p4.out).keep bacc (show _ < W4.heap.size by omega))
    have Q := Lib.hid ((show Five W4.drew _ _ _ _ _ _ from q4.out).keep bacc (show _ < W4.heap.size by omega))
    have B := Lib.hid (show Below w.heap.size w x5 from b4.out.trans ((show Below W4.heap.size W4 x5 from ⟨bacc.os, bacc.tape, bacc.output, bacc.size, bacc.block⟩).mono b4.out.size))
    have z := Lib.hid (show w1.heap.size + 1 < x5.heap.size ∧ x3.heap.size < x5.heap.size by have := show W4.heap.size ≤ x5.heap.size from bacc.size; omega)
    clear bacc hkH f4 p4 q4 b4 hs4 hiF hsF f2 p2 b2 f3 p3 b3
    obtain ⟨c0, c1, c2, c3, c4⟩ := F.out
    obtain ⟨e0, e1, e2, e3, e4⟩ := P.out
    obtain ⟨j0, j1, j2, j3, j4⟩ := Q.out
    have hz := z.out
    have hneg : decide ((k : Int) < 0) = false := by simp
    cases hb0 : kidPosB kd o m k ⟨l, d, i, g, n⟩
    · have hq0 := hqH.out
      unfold kidP at hq0
      rw [hb0, if_neg (by decide)] at hq0
      injection hq0 with h1 h2 h3 h4 h5
      subst h1 h2 h3 h4 h5
      unfold kidPosB at hb0
      dsimp only at hb0
      cases hpo1 : posOk l d
      · have hpo := Lib.hid hpo1
        clear hpo1 hb0
        have hL := Lib.hid (show (0 : Int) = 0 from rfl)
        have hqo := hL
        go_wp2_with (go_at_call 16; refine (s_posOk l d i g n _).mono ?_; rintro e xw ⟨rfl, hb⟩; rw [hpo.out]; clear c0 c1 c2 c3 c4 e0 e1 e2 e3 e4 j0 j1 j2 j3 j4; have F := Lib.hid (F.out.keep hb (by have := z.out; omega)); have P := Lib.hid (P.out.keep hb (by have := z.out; omega)); have Q := Lib.hid (Q.out.keep hb (by have := z.out; omega)); have B := Lib.hid (B.out.trans (hb.mono B.out.size)); have z := Lib.hid (show w1.heap.size + 1 < xw.heap.size ∧ x3.heap.size < xw.heap.size by have := z.out; have := hb.size; omega); clear hb; obtain ⟨c0, c1, c2, c3, c4⟩ := F.out; obtain ⟨e0, e1, e2, e3, e4⟩ := P.out; obtain ⟨j0, j1, j2, j3, j4⟩ := Q.out; have hz := z.out)
        go_ret
        exact ⟨rfl, B.out⟩
      · have hpo := Lib.hid hpo1
        rw [hpo1, Bool.true_and] at hb0
        clear hpo1
        by_cases hkm : k < m
        · have hL := Lib.hid (show levelOf kd o = 0 by simpa [hkm] using hb0)
          clear hb0
          have hge : decide ((k : Int) ≥ (m : Int)) = false := by simp; omega
          go_wp2_with (first
            | (go_at_call 16; refine (s_posOk l d i g n _).mono ?_; rintro e xw ⟨rfl, hb⟩; rw [hpo.out]; clear c0 c1 c2 c3 c4 e0 e1 e2 e3 e4 j0 j1 j2 j3 j4; have F := Lib.hid (F.out.keep hb (by have := z.out; omega)); have P := Lib.hid (P.out.keep hb (by have := z.out; omega)); have Q := Lib.hid (Q.out.keep hb (by have := z.out; omega)); have B := Lib.hid (B.out.trans (hb.mono B.out.size)); have z := Lib.hid (show w1.heap.size + 1 < xw.heap.size ∧ x3.heap.size < xw.heap.size by have := z.out; have := hb.size; omega); clear hb; obtain ⟨c0, c1, c2, c3, c4⟩ := F.out; obtain ⟨e0, e1, e2, e3, e4⟩ := P.out; obtain ⟨j0, j1, j2, j3, j4⟩ := Q.out; have hz := z.out)
            | (go_at_call 17; refine (s_levelOf kd o t u K m kc _).mono ?_; rintro e xw ⟨rfl, hb⟩; rw [hL.out]; clear c0 c1 c2 c3 c4 e0 e1 e2 e3 e4 j0 j1 j2 j3 j4; have F := Lib.hid (F.out.keep hb (by have := z.out; omega)); have P := Lib.hid (P.out.keep hb (by have := z.out; omega)); have Q := Lib.hid (Q.out.keep hb (by have := z.out; omega)); have B := Lib.hid (B.out.trans (hb.mono B.out.size)); have z := Lib.hid (show w1.heap.size + 1 < xw.heap.size ∧ x3.heap.size < xw.heap.size by have := z.out; have := hb.size; omega); clear hb; obtain ⟨c0, c1, c2, c3, c4⟩ := F.out; obtain ⟨e0, e1, e2, e3, e4⟩ := P.out; obtain ⟨j0, j1, j2, j3, j4⟩ := Q.out; have hz := z.out))
          go_ret
          exact ⟨rfl, B.out⟩
        · clear hb0
          have hge : decide ((k : Int) ≥ (m : Int)) = true := by simp; omega
          go_wp2_with (go_at_call 16; refine (s_posOk l d i g n _).mono ?_; rintro e xw ⟨rfl, hb⟩; rw [hpo.out]; clear c0 c1 c2 c3 c4 e0 e1 e2 e3 e4 j0 j1 j2 j3 j4; have F := Lib.hid (F.out.keep hb (by have := z.out; omega)); have P := Lib.hid (P.out.keep hb (by have := z.out; omega)); have Q := Lib.hid (Q.out.keep hb (by have := z.out; omega)); have B := Lib.hid (B.out.trans (hb.mono B.out.size)); have z := Lib.hid (show w1.heap.size + 1 < xw.heap.size ∧ x3.heap.size < xw.heap.size by have := z.out; have := hb.size; omega); clear hb; obtain ⟨c0, c1, c2, c3, c4⟩ := F.out; obtain ⟨e0, e1, e2, e3, e4⟩ := P.out; obtain ⟨j0, j1, j2, j3, j4⟩ := Q.out; have hz := z.out)
          go_ret
          exact ⟨rfl, B.out⟩
    · have hq0 := hqH.out
      unfold kidP at hq0
      rw [hb0, if_pos rfl] at hq0
      have hok := kidQ_ok kd o m k ⟨l, d, i, g, n⟩
      rw [hq0] at hok
      unfold kidPosB at hb0
      simp only [Bool.and_eq_true, decide_eq_true_eq, Bool.not_eq_true', beq_eq_false_iff_ne] at hb0
      obtain ⟨⟨hpo1, hkm⟩, hlv⟩ := hb0
      have hpo := Lib.hid hpo1
      obtain ⟨hqo1, hor⟩ := hok
      have hqo := Lib.hid hqo1
      dsimp only at hqo hor
      obtain ⟨L, hLL⟩ : ∃ L, levelOf kd o = L := ⟨_, rfl⟩
      rw [hLL] at hlv
      have hL := Lib.hid hLL
      have hlv0 : (L == 0) = false := by simpa using hlv
      have hge : decide ((k : Int) ≥ (m : Int)) = false := by simp; omega
      have hqH2 := Lib.hid hq0
      clear hpo1 hLL hlv hqo1 hq0
      by_cases hT : (⟨ql, qd, qi, qg, qn⟩ : PPos) = topP
      · clear hor
        have hor := hT
        clear hT
        unfold topP at hor
        injection hor with h1 h2 h3 h4 h5
        subst h1 h2 h3 h4 h5
        have hun : undef = Value.tuple #[] := rfl
        go_wp2_with (first
        | (go_at_call 16; refine (s_posOk l d i g n _).mono ?_; rintro e xw ⟨rfl, hb⟩; rw [hpo.out]; clear c0 c1 c2 c3 c4 e0 e1 e2 e3 e4 j0 j1 j2 j3 j4; have F := Lib.hid (F.out.keep hb (by have := z.out; omega)); have P := Lib.hid (P.out.keep hb (by have := z.out; omega)); have Q := Lib.hid (Q.out.keep hb (by have := z.out; omega)); have B := Lib.hid (B.out.trans (hb.mono B.out.size)); have z := Lib.hid (show w1.heap.size + 1 < xw.heap.size ∧ x3.heap.size < xw.heap.size by have := z.out; have := hb.size; omega); clear hb; obtain ⟨c0, c1, c2, c3, c4⟩ := F.out; obtain ⟨e0, e1, e2, e3, e4⟩ := P.out; obtain ⟨j0, j1, j2, j3, j4⟩ := Q.out; have hz := z.out)
        | (go_at_call 17; refine (s_levelOf kd o t u K m kc _).mono ?_; rintro e xw ⟨rfl, hb⟩; rw [hL.out]; clear c0 c1 c2 c3 c4 e0 e1 e2 e3 e4 j0 j1 j2 j3 j4; have F := Lib.hid (F.out.keep hb (by have := z.out; omega)); have P := Lib.hid (P.out.keep hb (by have := z.out; omega)); have Q := Lib.hid (Q.out.keep hb (by have := z.out; omega)); have B := Lib.hid (B.out.trans (hb.mono B.out.size)); have z := Lib.hid (show w1.heap.size + 1 < xw.heap.size ∧ x3.heap.size < xw.heap.size by have := z.out; have := hb.size; omega); clear hb; obtain ⟨c0, c1, c2, c3, c4⟩ := F.out; obtain ⟨e0, e1, e2, e3, e4⟩ := P.out; obtain ⟨j0, j1, j2, j3, j4⟩ := Q.out; have hz := z.out)
        | (go_at_call 9; refine (i_top _).mono ?_; rintro e xw ⟨rfl, hb⟩; clear c0 c1 c2 c3 c4 e0 e1 e2 e3 e4 j0 j1 j2 j3 j4; have F := Lib.hid (F.out.keep hb (by have := z.out; omega)); have P := Lib.hid (P.out.keep hb (by have := z.out; omega)); have Q := Lib.hid (Q.out.keep hb (by have := z.out; omega)); have B := Lib.hid (B.out.trans (hb.mono B.out.size)); have z := Lib.hid (show w1.heap.size + 1 < xw.heap.size ∧ x3.heap.size < xw.heap.size by have := z.out; have := hb.size; omega); clear hb; obtain ⟨c0, c1, c2, c3, c4⟩ := F.out; obtain ⟨e0, e1, e2, e3, e4⟩ := P.out; obtain ⟨j0, j1, j2, j3, j4⟩ := Q.out; have hz := z.out)
        | (go_at_call 12; refine (i_posOk _ _ _ _ _ _).mono ?_; rintro e xw ⟨rfl, hb⟩; rw [hqo.out]; clear c0 c1 c2 c3 c4 e0 e1 e2 e3 e4 j0 j1 j2 j3 j4; have F := Lib.hid (F.out.keep hb (by have := z.out; omega)); have P := Lib.hid (P.out.keep hb (by have := z.out; omega)); have Q := Lib.hid (Q.out.keep hb (by have := z.out; omega)); have B := Lib.hid (B.out.trans (hb.mono B.out.size)); have z := Lib.hid (show w1.heap.size + 1 < xw.heap.size ∧ x3.heap.size < xw.heap.size by have := z.out; have := hb.size; omega); clear hb; obtain ⟨c0, c1, c2, c3, c4⟩ := F.out; obtain ⟨e0, e1, e2, e3, e4⟩ := P.out; obtain ⟨j0, j1, j2, j3, j4⟩ := Q.out; have hz := z.out))
        have hkH := Lib.hid (show ∀ W', Below xw.drew.heap.size xw.drew W' → W'.cell? ⟨w1.heap.size + 1, 0, none⟩ = some (.int .i64 l) ∧ W'.cell? ⟨w1.heap.size + 1, 1, none⟩ = some (.bool d) ∧ W'.cell? ⟨w1.heap.size + 1, 2, none⟩ = some (.bool i) ∧ W'.cell? ⟨w1.heap.size + 1, 3, none⟩ = some (.bool g) ∧ W'.cell? ⟨w1.heap.size + 1, 4, none⟩ = some (.bool n) ∧ W'.cell? ⟨x3.heap.size, 0, none⟩ = some (.int .i64 1) ∧ W'.cell? ⟨x3.heap.size, 1, none⟩ = some (.bool false) ∧ W'.cell? ⟨x3.heap.size, 2, none⟩ = some (.bool false) ∧ W'.cell? ⟨x3.heap.size, 3, none⟩ = some (.bool false) ∧ W'.cell? ⟨x3.heap.size, 4, none⟩ = some (.bool false) from fun W' hb => by
          obtain ⟨e0, e1, e2, e3, e4⟩ := (show Five xw.drew _ _ _ _ _ _ from P.out).keep hb (show _ < xw.heap.size by have := z.out; omega)
          obtain ⟨j0, j1, j2, j3, j4⟩ := (show Five xw.drew _ _ _ _ _ _ from Q.out).keep hb (show _ < xw.heap.size by have := z.out; omega)
          exact ⟨e0, e1, e2, e3, e4, j0, j1, j2, j3, j4⟩)
        have bacc : Below xw.drew.heap.size xw.drew xw.drew := Below.refl _ _
        clear c0 c1 c2 c3 c4 e0 e1 e2 e3 e4 j0 j1 j2 j3 j4
        refine wp_region_held_drew (S := (fun W => W.cell? ⟨w1.heap.size + 1, 0, none⟩ = some (.int .i64 l) ∧ W.cell? ⟨w1.heap.size + 1, 1, none⟩ = some (.bool d) ∧ W.cell? ⟨w1.heap.size + 1, 2, none⟩ = some (.bool i) ∧ W.cell? ⟨w1.heap.size + 1, 3, none⟩ = some (.bool g) ∧ W.cell? ⟨w1.heap.size + 1, 4, none⟩ = some (.bool n) ∧ W.cell? ⟨x3.heap.size, 0, none⟩ = some (.int .i64 1) ∧ W.cell? ⟨x3.heap.size, 1, none⟩ = some (.bool false) ∧ W.cell? ⟨x3.heap.size, 2, none⟩ = some (.bool false) ∧ W.cell? ⟨x3.heap.size, 3, none⟩ = some (.bool false) ∧ W.cell? ⟨x3.heap.size, 4, none⟩ = some (.bool false))) (by kernel_rfl) (by exact hkH.out _ bacc) (fun hHeld => ?_)
        refine wpAnyH_take (i := 0) (oi := { dst := some 47, op := Op.load 28 (Operand.tmp 6), type := 28, pos := "laws.go:410", after := #[], guard := none }) (v := ?_) rfl (by kernel_rfl) (by kernel_rfl) (by kernel_rfl) (fun _ _ _ h => h) (Or.inl ⟨by rfl, ?_⟩) (by assumption) ?_
        rotate_left
        · intro w hSw
          (try dsimp only at hSw)
          first | (go_simp; done) | (go_simp; with_reducible rfl)
        try simp only [Act.put, List.setIfInBounds_toArray, List.set_cons_zero, List.set_cons_succ]
        refine wpAnyH_ready (rs := [1]) (by kernel_rfl) (by simp) ?_
        refine AllReadyH.cons (o := { dst := some 48, op := Op.call { callee := Callee.value (Operand.func 12), args := #[Operand.tmp 47], argTypes := #[28] }, type := 4, pos := "laws.go:410", after := #[{ on := 0, ground := Ground.data }], guard := none }) rfl (fun K hK => ?_) AllReadyH.nil
        go_simp
        (go_at_call 12; refine (i_posOk 1 false false false false _).mono ?_; rintro e x7 ⟨rfl, ba⟩; rw [hqo.out]; have bacc := Below.trans bacc (ba.mono bacc.size); clear ba)
        try go_wp2_with fail
        refine hK.out _ _ (by exact hkH.out _ bacc) (fun hHeld => ?_)
        clear hK K
        try simp only [Act.put, List.setIfInBounds_toArray, List.set_cons_zero, List.set_cons_succ]
        refine wpAnyH_take (i := 2) (oi := { dst := some 49, op := Op.move (Operand.tmp 48), type := 4, pos := "laws.go:410", after := #[{ on := 1, ground := Ground.data }, { on := 1, ground := Ground.chain }], guard := none }) (v := ?_) rfl (by kernel_rfl) (by kernel_rfl) (by kernel_rfl) (fun _ _ _ h => h) (Or.inl ⟨by rfl, ?_⟩) (by assumption) ?_
        rotate_left
        · intro w hSw
          (try dsimp only at hSw)
          first | (go_simp; done) | (go_simp; with_reducible rfl)
        try simp only [Act.put, List.setIfInBounds_toArray, List.set_cons_zero, List.set_cons_succ]
        refine wpAnyH_take (i := 3) (oi := { dst := some 50, op := Op.load 28 (Operand.tmp 6), type := 28, pos := "laws.go:410", after := #[{ on := 2, ground := Ground.guard }], guard := some (2, true) }) (v := ?_) rfl (by kernel_rfl) (by kernel_rfl) (by kernel_rfl) (fun _ _ _ h => h) (Or.inl ⟨by rfl, ?_⟩) (by assumption) ?_
        rotate_left
        · intro w hSw
          (try dsimp only at hSw)
          first | (go_simp; done) | (go_simp; with_reducible rfl)
        try simp only [Act.put, List.setIfInBounds_toArray, List.set_cons_zero, List.set_cons_succ]
        refine wpAnyH_ready (rs := [4]) (by kernel_rfl) (by simp) ?_
        refine AllReadyH.cons (o := { dst := some 51, op := Op.call { callee := Callee.value (Operand.func 9), args := #[], argTypes := #[] }, type := 28, pos := "laws.go:410", after := #[{ on := 2, ground := Ground.chain }, { on := 2, ground := Ground.guard }], guard := some (2, true) }) rfl (fun K hK => ?_) AllReadyH.nil
        go_simp
        (go_at_call 9; refine (i_top _).mono ?_; rintro e x8 ⟨rfl, ba⟩; have bacc := Below.trans bacc (ba.mono bacc.size); clear ba)
        try go_wp2_with fail
        refine hK.out _ _ (by exact hkH.out _ bacc) (fun hHeld => ?_)
        clear hK K
        try simp only [Act.put, List.setIfInBounds_toArray, List.set_cons_zero, List.set_cons_succ]
        refine wpAnyH_take (i := 5) (oi := { dst := some 52, op := Op.binOp BinOp.eql 28 (Operand.tmp 50) (Operand.tmp 51) 28, type := 4, pos := "laws.go:410", after := #[{ on := 3, ground := Ground.data }, { on := 4, ground := Ground.data }, { on := 2, ground := Ground.guard }], guard := some (2, true) }) (v := ?_) rfl (by kernel_rfl) (by kernel_rfl) (by kernel_rfl) (fun _ _ _ h => h) (Or.inl ⟨by rfl, ?_⟩) (by assumption) ?_
        rotate_left
        · intro w hSw
          (try dsimp only at hSw)
          first | (go_simp; done) | (go_simp; with_reducible rfl)
        try simp only [Act.put, List.setIfInBounds_toArray, List.set_cons_zero, List.set_cons_succ]
        refine wpAnyH_take (i := 6) (oi := { dst := some 53, op := Op.move (Operand.tmp 52), type := 4, pos := "laws.go:410", after := #[{ on := 5, ground := Ground.data }, { on := 4, ground := Ground.chain }, { on := 2, ground := Ground.guard }], guard := some (2, true) }) (v := ?_) rfl (by kernel_rfl) (by kernel_rfl) (by kernel_rfl) (fun _ _ _ h => h) (Or.inl ⟨by rfl, ?_⟩) (by assumption) ?_
        rotate_left
        · intro w hSw
          (try dsimp only at hSw)
          first | (go_simp; done) | (go_simp; with_reducible rfl)
        try simp only [Act.put, List.setIfInBounds_toArray, List.set_cons_zero, List.set_cons_succ]
        refine wpAnyH_take (i := 7) (oi := { dst := some 54, op := Op.fieldAddr 28 (Operand.tmp 6) 2, type := 0, pos := "laws.go:410", after := #[{ on := 6, ground := Ground.guard }], guard := some (6, false) }) (v := undef) rfl (by kernel_rfl) (by kernel_rfl) (by kernel_rfl) (fun _ _ _ h => h) (Or.inr ⟨by rfl, rfl⟩) (by assumption) ?_
        try simp only [Act.put, List.setIfInBounds_toArray, List.set_cons_zero, List.set_cons_succ]
        refine wpAnyH_take (i := 8) (oi := { dst := some 55, op := Op.load 4 (Operand.tmp 54), type := 4, pos := "laws.go:410", after := #[{ on := 7, ground := Ground.data }, { on := 6, ground := Ground.guard }], guard := some (6, false) }) (v := undef) rfl (by kernel_rfl) (by kernel_rfl) (by kernel_rfl) (fun _ _ _ h => h) (Or.inr ⟨by rfl, rfl⟩) (by assumption) ?_
        try simp only [Act.put, List.setIfInBounds_toArray, List.set_cons_zero, List.set_cons_succ]
        refine wpAnyH_take (i := 9) (oi := { dst := some 56, op := Op.fieldAddr 28 (Operand.tmp 5) 2, type := 0, pos := "laws.go:410", after := #[{ on := 6, ground := Ground.guard }], guard := some (6, false) }) (v := undef) rfl (by kernel_rfl) (by kernel_rfl) (by kernel_rfl) (fun _ _ _ h => h) (Or.inr ⟨by rfl, rfl⟩) (by assumption) ?_
        try simp only [Act.put, List.setIfInBounds_toArray, List.set_cons_zero, List.set_cons_succ]
        refine wpAnyH_take (i := 10) (oi := { dst := some 57, op := Op.load 4 (Operand.tmp 56), type := 4, pos := "laws.go:410", after := #[{ on := 9, ground := Ground.data }, { on := 6, ground := Ground.guard }], guard := some (6, false) }) (v := undef) rfl (by kernel_rfl) (by kernel_rfl) (by kernel_rfl) (fun _ _ _ h => h) (Or.inr ⟨by rfl, rfl⟩) (by assumption) ?_
        try simp only [Act.put, List.setIfInBounds_toArray, List.set_cons_zero, List.set_cons_succ]
        refine wpAnyH_take (i := 11) (oi := { dst := some 58, op := Op.binOp BinOp.eql 4 (Operand.tmp 55) (Operand.tmp 57) 4, type := 4, pos := "laws.go:410", after := #[{ on := 8, ground := Ground.data }, { on := 10, ground := Ground.data }, { on := 6, ground := Ground.guard }], guard := some (6, false) }) (v := undef) rfl (by kernel_rfl) (by kernel_rfl) (by kernel_rfl) (fun _ _ _ h => h) (Or.inr ⟨by rfl, rfl⟩) (by assumption) ?_
        try simp only [Act.put, List.setIfInBounds_toArray, List.set_cons_zero, List.set_cons_succ]
        refine wpAnyH_take (i := 12) (oi := { dst := some 59, op := Op.move (Operand.tmp 58), type := 4, pos := "laws.go:410", after := #[{ on := 11, ground := Ground.data }, { on := 6, ground := Ground.chain }, { on := 6, ground := Ground.guard }], guard := some (6, false) }) (v := undef) rfl (by kernel_rfl) (by kernel_rfl) (by kernel_rfl) (fun _ _ _ h => h) (Or.inr ⟨by rfl, rfl⟩) (by assumption) ?_
        try simp only [Act.put, List.setIfInBounds_toArray, List.set_cons_zero, List.set_cons_succ]
        refine wpAnyH_take (i := 13) (oi := { dst := some 60, op := Op.fieldAddr 28 (Operand.tmp 6) 3, type := 0, pos := "laws.go:410", after := #[{ on := 12, ground := Ground.guard }], guard := some (12, true) }) (v := undef) rfl (by kernel_rfl) (by kernel_rfl) (by kernel_rfl) (fun _ _ _ h => h) (Or.inr ⟨by rfl, rfl⟩) (by assumption) ?_
        try simp only [Act.put, List.setIfInBounds_toArray, List.set_cons_zero, List.set_cons_succ]
        refine wpAnyH_take (i := 14) (oi := { dst := some 61, op := Op.load 4 (Operand.tmp 60), type := 4, pos := "laws.go:410", after := #[{ on := 13, ground := Ground.data }, { on := 12, ground := Ground.guard }], guard := some (12, true) }) (v := undef) rfl (by kernel_rfl) (by kernel_rfl) (by kernel_rfl) (fun _ _ _ h => h) (Or.inr ⟨by rfl, rfl⟩) (by assumption) ?_
        try simp only [Act.put, List.setIfInBounds_toArray, List.set_cons_zero, List.set_cons_succ]
        refine wpAnyH_take (i := 15) (oi := { dst := some 62, op := Op.fieldAddr 28 (Operand.tmp 5) 3, type := 0, pos := "laws.go:410", after := #[{ on := 12, ground := Ground.guard }], guard := some (12, true) }) (v := undef) rfl (by kernel_rfl) (by kernel_rfl) (by kernel_rfl) (fun _ _ _ h => h) (Or.inr ⟨by rfl, rfl⟩) (by assumption) ?_
        try simp only [Act.put, List.setIfInBounds_toArray, List.set_cons_zero, List.set_cons_succ]
        refine wpAnyH_take (i := 16) (oi := { dst := some 63, op := Op.load 4 (Operand.tmp 62), type := 4, pos := "laws.go:410", after := #[{ on := 15, ground := Ground.data }, { on := 12, ground := Ground.guard }], guard := some (12, true) }) (v := undef) rfl (by kernel_rfl) (by kernel_rfl) (by kernel_rfl) (fun _ _ _ h => h) (Or.inr ⟨by rfl, rfl⟩) (by assumption) ?_
        try simp only [Act.put, List.setIfInBounds_toArray, List.set_cons_zero, List.set_cons_succ]
        refine wpAnyH_take (i := 17) (oi := { dst := some 64, op := Op.binOp BinOp.eql 4 (Operand.tmp 61) (Operand.tmp 63) 4, type := 4, pos := "laws.go:410", after := #[{ on := 14, ground := Ground.data }, { on := 16, ground := Ground.data }, { on := 12, ground := Ground.guard }], guard := some (12, true) }) (v := undef) rfl (by kernel_rfl) (by kernel_rfl) (by kernel_rfl) (fun _ _ _ h => h) (Or.inr ⟨by rfl, rfl⟩) (by assumption) ?_
        try simp only [Act.put, List.setIfInBounds_toArray, List.set_cons_zero, List.set_cons_succ]
        refine wpAnyH_take (i := 18) (oi := { dst := some 65, op := Op.pick (Operand.tmp 59) (Operand.tmp 64) (Operand.const (Value.bool false)), type := 4, pos := "laws.go:410", after := #[{ on := 12, ground := Ground.data }, { on := 17, ground := Ground.data }, { on := 6, ground := Ground.guard }], guard := some (6, false) }) (v := undef) rfl (by kernel_rfl) (by kernel_rfl) (by kernel_rfl) (fun _ _ _ h => h) (Or.inr ⟨by rfl, rfl⟩) (by assumption) ?_
        try simp only [Act.put, List.setIfInBounds_toArray, List.set_cons_zero, List.set_cons_succ]
        refine wpAnyH_take (i := 19) (oi := { dst := some 66, op := Op.pick (Operand.tmp 53) (Operand.const (Value.bool true)) (Operand.tmp 65), type := 4, pos := "laws.go:410", after := #[{ on := 6, ground := Ground.data }, { on := 18, ground := Ground.data }, { on := 2, ground := Ground.guard }], guard := some (2, true) }) (v := ?_) rfl (by kernel_rfl) (by kernel_rfl) (by kernel_rfl) (fun _ _ _ h => h) (Or.inl ⟨by rfl, ?_⟩) (by assumption) ?_
        rotate_left
        · intro w hSw
          (try dsimp only at hSw)
          first | (go_simp; done) | (go_simp; with_reducible rfl)
        try simp only [Act.put, List.setIfInBounds_toArray, List.set_cons_zero, List.set_cons_succ]
        refine wpAnyH_take (i := 20) (oi := { dst := some 67, op := Op.pick (Operand.tmp 49) (Operand.tmp 66) (Operand.const (Value.bool false)), type := 4, pos := "laws.go:410", after := #[{ on := 2, ground := Ground.data }, { on := 19, ground := Ground.data }], guard := none }) (v := ?_) rfl (by kernel_rfl) (by kernel_rfl) (by kernel_rfl) (fun _ _ _ h => h) (Or.inl ⟨by rfl, ?_⟩) (by assumption) ?_
        rotate_left
        · intro w hSw
          (try dsimp only at hSw)
          first | (go_simp; done) | (go_simp; with_reducible rfl)
        try simp only [Act.put, List.setIfInBounds_toArray, List.set_cons_zero, List.set_cons_succ]
        refine wpAnyH_take (i := 21) (oi := { dst := some 2, op := Op.assign (Operand.tmp 67), type := 4, pos := "laws.go:410", after := #[{ on := 20, ground := Ground.data }, { on := 12, ground := Ground.chain }, { on := 0, ground := Ground.phase }, { on := 1, ground := Ground.phase }, { on := 2, ground := Ground.phase }, { on := 3, ground := Ground.phase }, { on := 4, ground := Ground.phase }, { on := 5, ground := Ground.phase }, { on := 6, ground := Ground.phase }, { on := 7, ground := Ground.phase }, { on := 8, ground := Ground.phase }, { on := 9, ground := Ground.phase }, { on := 10, ground := Ground.phase }, { on := 11, ground := Ground.phase }, { on := 12, ground := Ground.phase }, { on := 13, ground := Ground.phase }, { on := 14, ground := Ground.phase }, { on := 15, ground := Ground.phase }, { on := 16, ground := Ground.phase }, { on := 17, ground := Ground.phase }, { on := 18, ground := Ground.phase }, { on := 19, ground := Ground.phase }, { on := 20, ground := Ground.phase }], guard := none }) (v := ?_) rfl (by kernel_rfl) (by kernel_rfl) (by kernel_rfl) (fun _ _ _ h => h) (Or.inl ⟨by rfl, ?_⟩) (by assumption) ?_
        rotate_left
        · intro w hSw
          (try dsimp only at hSw)
          first | (go_simp; done) | (go_simp; with_reducible rfl)
        try simp only [Act.put, List.setIfInBounds_toArray, List.set_cons_zero, List.set_cons_succ]
        refine wpAnyH_done (by kernel_rfl) ?_ _
        all_goals (go_wp2_with fail; go_ret; exact ⟨rfl, B.out.trans ((show Below xw.heap.size xw _ from ⟨bacc.os, bacc.tape, bacc.output, bacc.size, bacc.block⟩).mono B.out.size)⟩)
      · obtain ⟨h3, h4⟩ := hor.resolve_left hT
        clear hor
        have hcmp := cmp_top ql qd qi qg qn hT
        clear hT
        subst h3 h4
        go_wp2_with (first
        | (go_at_call 16; refine (s_posOk l d _ _ n _).mono ?_; rintro e xw ⟨rfl, hb⟩; rw [hpo.out]; clear c0 c1 c2 c3 c4 e0 e1 e2 e3 e4 j0 j1 j2 j3 j4; have F := Lib.hid (F.out.keep hb (by have := z.out; omega)); have P := Lib.hid (P.out.keep hb (by have := z.out; omega)); have Q := Lib.hid (Q.out.keep hb (by have := z.out; omega)); have B := Lib.hid (B.out.trans (hb.mono B.out.size)); have z := Lib.hid (show w1.heap.size + 1 < xw.heap.size ∧ x3.heap.size < xw.heap.size by have := z.out; have := hb.size; omega); clear hb; obtain ⟨c0, c1, c2, c3, c4⟩ := F.out; obtain ⟨e0, e1, e2, e3, e4⟩ := P.out; obtain ⟨j0, j1, j2, j3, j4⟩ := Q.out; have hz := z.out)
        | (go_at_call 17; refine (s_levelOf kd o t u K m kc _).mono ?_; rintro e xw ⟨rfl, hb⟩; rw [hL.out]; clear c0 c1 c2 c3 c4 e0 e1 e2 e3 e4 j0 j1 j2 j3 j4; have F := Lib.hid (F.out.keep hb (by have := z.out; omega)); have P := Lib.hid (P.out.keep hb (by have := z.out; omega)); have Q := Lib.hid (Q.out.keep hb (by have := z.out; omega)); have B := Lib.hid (B.out.trans (hb.mono B.out.size)); have z := Lib.hid (show w1.heap.size + 1 < xw.heap.size ∧ x3.heap.size < xw.heap.size by have := z.out; have := hb.size; omega); clear hb; obtain ⟨c0, c1, c2, c3, c4⟩ := F.out; obtain ⟨e0, e1, e2, e3, e4⟩ := P.out; obtain ⟨j0, j1, j2, j3, j4⟩ := Q.out; have hz := z.out)
        | (go_at_call 9; refine (i_top _).mono ?_; rintro e xw ⟨rfl, hb⟩; clear c0 c1 c2 c3 c4 e0 e1 e2 e3 e4 j0 j1 j2 j3 j4; have F := Lib.hid (F.out.keep hb (by have := z.out; omega)); have P := Lib.hid (P.out.keep hb (by have := z.out; omega)); have Q := Lib.hid (Q.out.keep hb (by have := z.out; omega)); have B := Lib.hid (B.out.trans (hb.mono B.out.size)); have z := Lib.hid (show w1.heap.size + 1 < xw.heap.size ∧ x3.heap.size < xw.heap.size by have := z.out; have := hb.size; omega); clear hb; obtain ⟨c0, c1, c2, c3, c4⟩ := F.out; obtain ⟨e0, e1, e2, e3, e4⟩ := P.out; obtain ⟨j0, j1, j2, j3, j4⟩ := Q.out; have hz := z.out)
        | (go_at_call 12; refine (i_posOk ql qd qi qg qn _).mono ?_; rintro e xw ⟨rfl, hb⟩; rw [hqo.out]; clear c0 c1 c2 c3 c4 e0 e1 e2 e3 e4 j0 j1 j2 j3 j4; have F := Lib.hid (F.out.keep hb (by have := z.out; omega)); have P := Lib.hid (P.out.keep hb (by have := z.out; omega)); have Q := Lib.hid (Q.out.keep hb (by have := z.out; omega)); have B := Lib.hid (B.out.trans (hb.mono B.out.size)); have z := Lib.hid (show w1.heap.size + 1 < xw.heap.size ∧ x3.heap.size < xw.heap.size by have := z.out; have := hb.size; omega); clear hb; obtain ⟨c0, c1, c2, c3, c4⟩ := F.out; obtain ⟨e0, e1, e2, e3, e4⟩ := P.out; obtain ⟨j0, j1, j2, j3, j4⟩ := Q.out; have hz := z.out))
        have hkH := Lib.hid (show ∀ W', Below xw.drew.heap.size xw.drew W' → W'.cell? ⟨w1.heap.size + 1, 0, none⟩ = some (.int .i64 l) ∧ W'.cell? ⟨w1.heap.size + 1, 1, none⟩ = some (.bool d) ∧ W'.cell? ⟨w1.heap.size + 1, 2, none⟩ = some (.bool qi) ∧ W'.cell? ⟨w1.heap.size + 1, 3, none⟩ = some (.bool qg) ∧ W'.cell? ⟨w1.heap.size + 1, 4, none⟩ = some (.bool n) ∧ W'.cell? ⟨x3.heap.size, 0, none⟩ = some (.int .i64 ql) ∧ W'.cell? ⟨x3.heap.size, 1, none⟩ = some (.bool qd) ∧ W'.cell? ⟨x3.heap.size, 2, none⟩ = some (.bool qi) ∧ W'.cell? ⟨x3.heap.size, 3, none⟩ = some (.bool qg) ∧ W'.cell? ⟨x3.heap.size, 4, none⟩ = some (.bool qn) from fun W' hb => by
          obtain ⟨e0, e1, e2, e3, e4⟩ := (show Five xw.drew _ _ _ _ _ _ from P.out).keep hb (show _ < xw.heap.size by have := z.out; omega)
          obtain ⟨j0, j1, j2, j3, j4⟩ := (show Five xw.drew _ _ _ _ _ _ from Q.out).keep hb (show _ < xw.heap.size by have := z.out; omega)
          exact ⟨e0, e1, e2, e3, e4, j0, j1, j2, j3, j4⟩)
        have bacc : Below xw.drew.heap.size xw.drew xw.drew := Below.refl _ _
        clear c0 c1 c2 c3 c4 e0 e1 e2 e3 e4 j0 j1 j2 j3 j4
        (go_region_held3 (fun W => W.cell? ⟨w1.heap.size + 1, 0, none⟩ = some (.int .i64 l) ∧ W.cell? ⟨w1.heap.size + 1, 1, none⟩ = some (.bool d) ∧ W.cell? ⟨w1.heap.size + 1, 2, none⟩ = some (.bool qi) ∧ W.cell? ⟨w1.heap.size + 1, 3, none⟩ = some (.bool qg) ∧ W.cell? ⟨w1.heap.size + 1, 4, none⟩ = some (.bool n) ∧ W.cell? ⟨x3.heap.size, 0, none⟩ = some (.int .i64 ql) ∧ W.cell? ⟨x3.heap.size, 1, none⟩ = some (.bool qd) ∧ W.cell? ⟨x3.heap.size, 2, none⟩ = some (.bool qi) ∧ W.cell? ⟨x3.heap.size, 3, none⟩ = some (.bool qg) ∧ W.cell? ⟨x3.heap.size, 4, none⟩ = some (.bool qn)) (exact hkH.out _ bacc) (first
          | (go_at_call 12; refine (i_posOk ql qd qi qg qn _).mono ?_; rintro e x7 ⟨rfl, ba⟩; rw [hqo.out]; have bacc := Below.trans bacc (ba.mono bacc.size); clear ba)
          | (go_at_call 9; refine (i_top _).mono ?_; rintro e x8 ⟨rfl, ba⟩; have bacc := Below.trans bacc (ba.mono bacc.size); clear ba)))
        all_goals (go_wp2_with fail; go_ret; exact ⟨rfl, B.out.trans ((show Below xw.heap.size xw _ from ⟨bacc.os, bacc.tape, bacc.output, bacc.size, bacc.block⟩).mono B.out.size)⟩)
end Go.Proofs.Ytlabmboedjnpmaa
