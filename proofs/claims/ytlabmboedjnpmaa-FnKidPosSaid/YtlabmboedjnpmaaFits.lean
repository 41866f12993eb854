/- Fits (walks; written by gen_fits.py). -/
import Derived.Test.YtlabmboedjnpmaaLawsLevel
import Derived.Test.YtlabmboedjnpmaaPos
namespace Go.Proofs.Ytlabmboedjnpmaa
open Go.RowKit
set_option linter.unusedVariables false
set_option linter.unusedSimpArgs false

def fitsB (k o l : Int) (d i g n : Bool) : Bool :=
  if (!posOk l d || levelOf k o == 0) = true then false else if (i && k == 13) = true then false else if ((g && k == 12) && o == 62) = true then false
  else if (n && ((k == 11 || k == 9) || k == 4)) = true then false else if (d && k == 9) = true then true else decide (levelOf k o ≥ l)
theorem two_made (w : World) (a b c d e : Value) (t : TypeId) (a' b' c' d' e' : Value) (t' : TypeId) :
    Five ((w.alloc (.cells #[a, b, c, d, e] t)).alloc (.cells #[a', b', c', d', e'] t')) w.heap.size a b c d e ∧ Five ((w.alloc (.cells #[a, b, c, d, e] t)).alloc (.cells #[a', b', c', d', e'] t')) (w.heap.size + 1) a' b' c' d' e' ∧
      Below w.heap.size w ((w.alloc (.cells #[a, b, c, d, e] t)).alloc (.cells #[a', b', c', d', e'] t')) ∧ w.heap.size + 1 < ((w.alloc (.cells #[a, b, c, d, e] t)).alloc (.cells #[a', b', c', d', e'] t')).heap.size := by
  have eh : (w.alloc (.cells #[a, b, c, d, e] t)).heap.size = w.heap.size + 1 := by simp
  refine ⟨(Five.made w a b c d e t).keep ((Below.refl _ _).alloc (Nat.le_refl _) _) (by simp), ?_, ((Below.refl _ _).alloc (Nat.le_refl _) _).alloc (by simp) _, by simp⟩
  rw [← eh]
  exact Five.made _ a' b' c' d' e' t'
set_option maxRecDepth 100000 in
set_option maxHeartbeats 4000000 in
theorem i_fits (k o : Int) (t u : ByteArray) (A : Option Addr) (m c : Nat) (l : Int) (d i g n : Bool) (w : World) : Calls Try.prog 7 #[.agg #[.int .i64 k, .int .i64 o, .string t, .string u, .slice A m c], .agg #[.int .i64 l, .bool d, .bool i, .bool g, .bool n]] w (RetBool w (fitsB k o l d i g n)) := by
  obtain ⟨R, hR⟩ : ∃ R, fitsB k o l d i g n = R := ⟨_, rfl⟩
  rw [hR]
  have hRH := Lib.hid hR
  clear hR
  have hpo := fun W => i_posOk l d i g n W
  have hlv := fun W => i_levelOf k o t u A m c W
  obtain ⟨L, hL⟩ : ∃ L, levelOf k o = L := ⟨_, rfl⟩
  rw [hL] at hlv
  have hLH := Lib.hid hL
  clear hL
  have F0 := two_made w (.int .i64 k) (.int .i64 o) (.string t) (.string u) (.slice A m c) 26 (.int .i64 l) (.bool d) (.bool i) (.bool g) (.bool n) 28
  obtain ⟨F0, G0, hb0, hs0⟩ := F0
  go_enter Try.func7, Try.ntmps7
  go_wp2_with fail
  refine (hlv _).mono ?_
  rintro e x1 ⟨rfl, b1⟩
  have F1 := F0.keep b1 (by omega)
  have G1 := G0.keep b1 (by omega)
  have hb1 := hb0.trans (b1.mono hb0.size)
  have hs1 : w.heap.size + 1 < x1.heap.size := by have := b1.size; omega
  obtain ⟨y0, y1, y2, y3, y4⟩ := G1
  have G1H : Hid (Five _ _ _ _ _ _ _) := ⟨y0, y1, y2, y3, y4⟩
  go_wp2_with fail
  refine (hpo _).mono ?_
  rintro e x2 ⟨rfl, b2⟩
  have G1 := G1H.out
  clear y0 y1 y2 y3 y4 G1H
  have F2 := F1.keep b2 (by omega)
  have G2 := G1.keep b2 (by omega)
  have hb2 := hb1.trans (b2.mono hb1.size)
  have hs2 : w.heap.size + 1 < x2.heap.size := by have := b2.size; omega
  have F2H := Lib.hid F2
  have G2H := Lib.hid G2
  obtain ⟨y0, y1, y2, y3, y4⟩ := F2
  obtain ⟨z0, z1, z2, z3, z4⟩ := G2
  clear hlv hpo
  cases hP : posOk l d
  · have hRF : R = false := by rw [← hRH.out]; simp [fitsB, hLH.out, hP]
    subst hRF
    go_wp2_with fail
    go_ret
    exact ⟨rfl, hb2⟩
  · cases h0 : L == 0
    · cases i
      · cases g
        · cases n
          · cases d
            · have hRF : R = decide (L ≥ l) := by rw [← hRH.out]; simp [fitsB, hLH.out, hP, h0]
              subst hRF
              go_wp2_with fail
              go_ret
              exact ⟨rfl, hb2⟩
            · cases h9 : k == 9
              · have hRF : R = decide (L ≥ l) := by rw [← hRH.out]; simp [fitsB, hLH.out, hP, h0, h9]
                subst hRF
                go_wp2_with fail
                go_ret
                exact ⟨rfl, hb2⟩
              · obtain rfl := eq_of_beq h9
                clear h9
                have hRF : R = true := by rw [← hRH.out]; simp [fitsB, hLH.out, hP, h0]
                subst hRF
                go_wp2_with fail
                go_ret
                exact ⟨rfl, hb2⟩
          · cases h11 : k == 11
            · cases h9 : k == 9
              · cases h4 : k == 4
                · cases d
                  · have hRF : R = decide (L ≥ l) := by rw [← hRH.out]; simp [fitsB, hLH.out, hP, h0, h11, h9, h4]
                    subst hRF
                    go_wp2_with fail
                    go_ret
                    exact ⟨rfl, hb2⟩
                  · have hRF : R = decide (L ≥ l) := by rw [← hRH.out]; simp [fitsB, hLH.out, hP, h0, h11, h9, h4]
                    subst hRF
                    go_wp2_with fail
                    go_ret
                    exact ⟨rfl, hb2⟩
                · obtain rfl := eq_of_beq h4
                  clear h4
                  have hRF : R = false := by rw [← hRH.out]; simp [fitsB, hLH.out, hP, h0, h11, h9]
                  subst hRF
                  go_wp2_with fail
                  go_ret
                  exact ⟨rfl, hb2⟩
              · obtain rfl := eq_of_beq h9
                clear h9
                have hRF : R = false := by rw [← hRH.out]; simp [fitsB, hLH.out, hP, h0, h11]
                subst hRF
                go_wp2_with fail
                go_ret
                exact ⟨rfl, hb2⟩
            · obtain rfl := eq_of_beq h11
              clear h11
              have hRF : R = false := by rw [← hRH.out]; simp [fitsB, hLH.out, hP, h0]
              subst hRF
              go_wp2_with fail
              go_ret
              exact ⟨rfl, hb2⟩
        · cases h12 : k == 12
          · cases n
            · cases d
              · have hRF : R = decide (L ≥ l) := by rw [← hRH.out]; simp [fitsB, hLH.out, hP, h0, h12]
                subst hRF
                go_wp2_with fail
                go_ret
                exact ⟨rfl, hb2⟩
              · cases h9 : k == 9
                · have hRF : R = decide (L ≥ l) := by rw [← hRH.out]; simp [fitsB, hLH.out, hP, h0, h12, h9]
                  subst hRF
                  go_wp2_with fail
                  go_ret
                  exact ⟨rfl, hb2⟩
                · obtain rfl := eq_of_beq h9
                  clear h9
                  have hRF : R = true := by rw [← hRH.out]; simp [fitsB, hLH.out, hP, h0, h12]
                  subst hRF
                  go_wp2_with fail
                  go_ret
                  exact ⟨rfl, hb2⟩
            · cases h11 : k == 11
              · cases h9 : k == 9
                · cases h4 : k == 4
                  · cases d
                    · have hRF : R = decide (L ≥ l) := by rw [← hRH.out]; simp [fitsB, hLH.out, hP, h0, h12, h11, h9, h4]
                      subst hRF
                      go_wp2_with fail
                      go_ret
                      exact ⟨rfl, hb2⟩
                    · have hRF : R = decide (L ≥ l) := by rw [← hRH.out]; simp [fitsB, hLH.out, hP, h0, h12, h11, h9, h4]
                      subst hRF
                      go_wp2_with fail
                      go_ret
                      exact ⟨rfl, hb2⟩
                  · obtain rfl := eq_of_beq h4
                    clear h4
                    have hRF : R = false := by rw [← hRH.out]; simp [fitsB, hLH.out, hP, h0, h12, h11, h9]
                    subst hRF
                    go_wp2_with fail
                    go_ret
                    exact ⟨rfl, hb2⟩
                · obtain rfl := eq_of_beq h9
                  clear h9
                  have hRF : R = false := by rw [← hRH.out]; simp [fitsB, hLH.out, hP, h0, h12, h11]
                  subst hRF
                  go_wp2_with fail
                  go_ret
                  exact ⟨rfl, hb2⟩
              · obtain rfl := eq_of_beq h11
                clear h11
                have hRF : R = false := by rw [← hRH.out]; simp [fitsB, hLH.out, hP, h0, h12]
                subst hRF
                go_wp2_with fail
                go_ret
                exact ⟨rfl, hb2⟩
          · obtain rfl := eq_of_beq h12
            clear h12
            cases h62 : o == 62
            · cases n
              · cases d
                · have hRF : R = decide (L ≥ l) := by rw [← hRH.out]; simp [fitsB, hLH.out, hP, h0, h62]
                  subst hRF
                  go_wp2_with fail
                  go_ret
                  exact ⟨rfl, hb2⟩
                · have hRF : R = decide (L ≥ l) := by rw [← hRH.out]; simp [fitsB, hLH.out, hP, h0, h62]
                  subst hRF
                  go_wp2_with fail
                  go_ret
                  exact ⟨rfl, hb2⟩
              · cases d
                · have hRF : R = decide (L ≥ l) := by rw [← hRH.out]; simp [fitsB, hLH.out, hP, h0, h62]
                  subst hRF
                  go_wp2_with fail
                  go_ret
                  exact ⟨rfl, hb2⟩
                · have hRF : R = decide (L ≥ l) := by rw [← hRH.out]; simp [fitsB, hLH.out, hP, h0, h62]
                  subst hRF
                  go_wp2_with fail
                  go_ret
                  exact ⟨rfl, hb2⟩
            · obtain rfl := eq_of_beq h62
              clear h62
              have hRF : R = false := by rw [← hRH.out]; simp [fitsB, hLH.out, hP, h0]
              subst hRF
              go_wp2_with fail
              go_ret
              exact ⟨rfl, hb2⟩
      · cases h13 : k == 13
        · cases g
          · cases n
            · cases d
              · have hRF : R = decide (L ≥ l) := by rw [← hRH.out]; simp [fitsB, hLH.out, hP, h0, h13]
                subst hRF
                go_wp2_with fail
                go_ret
                exact ⟨rfl, hb2⟩
              · cases h9 : k == 9
                · have hRF : R = decide (L ≥ l) := by rw [← hRH.out]; simp [fitsB, hLH.out, hP, h0, h13, h9]
                  subst hRF
                  go_wp2_with fail
                  go_ret
                  exact ⟨rfl, hb2⟩
                · obtain rfl := eq_of_beq h9
                  clear h9
                  have hRF : R = true := by rw [← hRH.out]; simp [fitsB, hLH.out, hP, h0, h13]
                  subst hRF
                  go_wp2_with fail
                  go_ret
                  exact ⟨rfl, hb2⟩
            · cases h11 : k == 11
              · cases h9 : k == 9
                · cases h4 : k == 4
                  · cases d
                    · have hRF : R = decide (L ≥ l) := by rw [← hRH.out]; simp [fitsB, hLH.out, hP, h0, h13, h11, h9, h4]
                      subst hRF
                      go_wp2_with fail
                      go_ret
                      exact ⟨rfl, hb2⟩
                    · have hRF : R = decide (L ≥ l) := by rw [← hRH.out]; simp [fitsB, hLH.out, hP, h0, h13, h11, h9, h4]
                      subst hRF
                      go_wp2_with fail
                      go_ret
                      exact ⟨rfl, hb2⟩
                  · obtain rfl := eq_of_beq h4
                    clear h4
                    have hRF : R = false := by rw [← hRH.out]; simp [fitsB, hLH.out, hP, h0, h13, h11, h9]
                    subst hRF
                    go_wp2_with fail
                    go_ret
                    exact ⟨rfl, hb2⟩
                · obtain rfl := eq_of_beq h9
                  clear h9
                  have hRF : R = false := by rw [← hRH.out]; simp [fitsB, hLH.out, hP, h0, h13, h11]
                  subst hRF
                  go_wp2_with fail
                  go_ret
                  exact ⟨rfl, hb2⟩
              · obtain rfl := eq_of_beq h11
                clear h11
                have hRF : R = false := by rw [← hRH.out]; simp [fitsB, hLH.out, hP, h0, h13]
                subst hRF
                go_wp2_with fail
                go_ret
                exact ⟨rfl, hb2⟩
          · cases h12 : k == 12
            · cases n
              · cases d
                · have hRF : R = decide (L ≥ l) := by rw [← hRH.out]; simp [fitsB, hLH.out, hP, h0, h13, h12]
                  subst hRF
                  go_wp2_with fail
                  go_ret
                  exact ⟨rfl, hb2⟩
                · cases h9 : k == 9
                  · have hRF : R = decide (L ≥ l) := by rw [← hRH.out]; simp [fitsB, hLH.out, hP, h0, h13, h12, h9]
                    subst hRF
                    go_wp2_with fail
                    go_ret
                    exact ⟨rfl, hb2⟩
                  · obtain rfl := eq_of_beq h9
                    clear h9
                    have hRF : R = true := by rw [← hRH.out]; simp [fitsB, hLH.out, hP, h0, h13, h12]
                    subst hRF
                    go_wp2_with fail
                    go_ret
                    exact ⟨rfl, hb2⟩
              · cases h11 : k == 11
                · cases h9 : k == 9
                  · cases h4 : k == 4
                    · cases d
                      · have hRF : R = decide (L ≥ l) := by rw [← hRH.out]; simp [fitsB, hLH.out, hP, h0, h13, h12, h11, h9, h4]
                        subst hRF
                        go_wp2_with fail
                        go_ret
                        exact ⟨rfl, hb2⟩
                      · have hRF : R = decide (L ≥ l) := by rw [← hRH.out]; simp [fitsB, hLH.out, hP, h0, h13, h12, h11, h9, h4]
                        subst hRF
                        go_wp2_with fail
                        go_ret
                        exact ⟨rfl, hb2⟩
                    · obtain rfl := eq_of_beq h4
                      clear h4
                      have hRF : R = false := by rw [← hRH.out]; simp [fitsB, hLH.out, hP, h0, h13, h12, h11, h9]
                      subst hRF
                      go_wp2_with fail
                      go_ret
                      exact ⟨rfl, hb2⟩
                  · obtain rfl := eq_of_beq h9
                    clear h9
                    have hRF : R = false := by rw [← hRH.out]; simp [fitsB, hLH.out, hP, h0, h13, h12, h11]
                    subst hRF
                    go_wp2_with fail
                    go_ret
                    exact ⟨rfl, hb2⟩
                · obtain rfl := eq_of_beq h11
                  clear h11
                  have hRF : R = false := by rw [← hRH.out]; simp [fitsB, hLH.out, hP, h0, h13, h12]
                  subst hRF
                  go_wp2_with fail
                  go_ret
                  exact ⟨rfl, hb2⟩
            · obtain rfl := eq_of_beq h12
              clear h12
              cases h62 : o == 62
              · cases n
                · cases d
                  · have hRF : R = decide (L ≥ l) := by rw [← hRH.out]; simp [fitsB, hLH.out, hP, h0, h13, h62]
                    subst hRF
                    go_wp2_with fail
                    go_ret
                    exact ⟨rfl, hb2⟩
                  · have hRF : R = decide (L ≥ l) := by rw [← hRH.out]; simp [fitsB, hLH.out, hP, h0, h13, h62]
                    subst hRF
                    go_wp2_with fail
                    go_ret
                    exact ⟨rfl, hb2⟩
                · cases d
                  · have hRF : R = decide (L ≥ l) := by rw [← hRH.out]; simp [fitsB, hLH.out, hP, h0, h13, h62]
                    subst hRF
                    go_wp2_with fail
                    go_ret
                    exact ⟨rfl, hb2⟩
                  · have hRF : R = decide (L ≥ l) := by rw [← hRH.out]; simp [fitsB, hLH.out, hP, h0, h13, h62]
                    subst hRF
                    go_wp2_with fail
                    go_ret
                    exact ⟨rfl, hb2⟩
              · obtain rfl := eq_of_beq h62
                clear h62
                have hRF : R = false := by rw [← hRH.out]; simp [fitsB, hLH.out, hP, h0, h13]
                subst hRF
                go_wp2_with fail
                go_ret
                exact ⟨rfl, hb2⟩
        · obtain rfl := eq_of_beq h13
          clear h13
          have hRF : R = false := by rw [← hRH.out]; simp [fitsB, hLH.out, hP, h0]
          subst hRF
          go_wp2_with fail
          go_ret
          exact ⟨rfl, hb2⟩
    · obtain rfl := eq_of_beq h0
      clear h0
      have hRF : R = false := by rw [← hRH.out]; simp [fitsB, hLH.out, hP]
      subst hRF
      go_wp2_with fail
      go_ret
      exact ⟨rfl, hb2⟩
end Go.Proofs.Ytlabmboedjnpmaa
