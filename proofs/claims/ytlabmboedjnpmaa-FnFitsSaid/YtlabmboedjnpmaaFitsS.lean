/- Fits of the reference (walk; written by gen_fits.py). -/
import Derived.Test.YtlabmboedjnpmaaFits
import Derived.Deep.RegionHeld3
namespace Go.Proofs.Ytlabmboedjnpmaa
open Go.RowKit
set_option linter.unusedVariables false
set_option linter.unusedSimpArgs false
set_option maxRecDepth 100000 in
set_option maxHeartbeats 4000000 in
theorem s_fits (k o : Int) (t u : ByteArray) (A : Option Addr) (m c : Nat) (l : Int) (d i g n : Bool) (w : World) : Calls Try.prog 8 #[.agg #[.int .i64 k, .int .i64 o, .string t, .string u, .slice A m c], .agg #[.int .i64 l, .bool d, .bool i, .bool g, .bool n]] w (RetBool w (fitsB k o l d i g n)) := by
  obtain ⟨R, hR⟩ : ∃ R, fitsB k o l d i g n = R := ⟨_, rfl⟩
  rw [hR]
  have hRH := Lib.hid hR
  clear hR
  have hpo := fun W => s_posOk l d i g n W
  have hlv := fun W => s_levelOf k o t u A m c W
  obtain ⟨L, hL⟩ : ∃ L, levelOf k o = L := ⟨_, rfl⟩
  rw [hL] at hlv
  have hLH := Lib.hid hL
  clear hL
  have F0 := two_made w (.int .i64 k) (.int .i64 o) (.string t) (.string u) (.slice A m c) 26 (.int .i64 l) (.bool d) (.bool i) (.bool g) (.bool n) 28
  obtain ⟨F0, G0, hb0, hs0⟩ := F0
  cases hP : posOk l d
  · rw [hP] at hpo
    go_enter Try.func8, Try.ntmps8
    go_wp2_with fail
    refine (hpo _).mono ?_
    rintro e x1 ⟨rfl, b1⟩
    have F1 := F0.keep b1 (by omega)
    have G1 := G0.keep b1 (by omega)
    have hb1 := hb0.trans (b1.mono hb0.size)
    have hs1 : w.heap.size + 1 < x1.heap.size := by have := b1.size; omega
    have F1H := Lib.hid F1
    have G1H := Lib.hid G1
    obtain ⟨y0, y1, y2, y3, y4⟩ := F1
    obtain ⟨z0, z1, z2, z3, z4⟩ := G1
    have hRF : R = false := by rw [← hRH.out]; simp [fitsB, hLH.out, hP]
    subst hRF
    go_wp2_with fail
    go_ret
    exact ⟨rfl, hb1⟩
  · rw [hP] at hpo
    go_enter Try.func8, Try.ntmps8
    go_wp2_with fail
    refine (hpo _).mono ?_
    rintro e x1 ⟨rfl, b1⟩
    have F1 := F0.keep b1 (by omega)
    have G1 := G0.keep b1 (by omega)
    have hb1 := hb0.trans (b1.mono hb0.size)
    have hs1 : w.heap.size + 1 < x1.heap.size := by have := b1.size; omega
    obtain ⟨y0, y1, y2, y3, y4⟩ := F1
    have F1 : Five _ _ _ _ _ _ _ := ⟨y0, y1, y2, y3, y4⟩
    have F1H := Lib.hid F1
    clear F1
    go_wp2_with fail
    refine (hlv _).mono ?_
    rintro e x2 ⟨rfl, b2⟩
    have F1 := F1H.out
    clear y0 y1 y2 y3 y4 F1H
    have F2 := F1.keep b2 (by omega)
    have G2 := G1.keep b2 (by omega)
    have hb2 := hb1.trans (b2.mono hb1.size)
    have hs2 : w.heap.size + 1 < x2.heap.size := by have := b2.size; omega
    have F2H := Lib.hid F2
    have G2H := Lib.hid G2
    obtain ⟨y0, y1, y2, y3, y4⟩ := F2
    obtain ⟨z0, z1, z2, z3, z4⟩ := G2
    clear hpo
    cases h0 : L == 0
    · cases i
      · cases g
        · cases n
          · cases d
            · have hRF : R = decide (L ≥ l) := by rw [← hRH.out]; simp [fitsB, hLH.out, hP, h0]
              subst hRF
              have hkeep : ∀ W', Below x2.drew.heap.size x2.drew W' → W'.cell? ⟨w.heap.size, 0, none⟩ = some (.int .i64 k) ∧ W'.cell? ⟨w.heap.size, 1, none⟩ = some (.int .i64 o) ∧ W'.cell? ⟨w.heap.size, 2, none⟩ = some (.string t) ∧ W'.cell? ⟨w.heap.size, 3, none⟩ = some (.string u) ∧ W'.cell? ⟨w.heap.size, 4, none⟩ = some (.slice A m c) ∧ W'.cell? ⟨w.heap.size + 1, 0, none⟩ = some (.int .i64 l) := fun W' hb => by
                obtain ⟨p0, p1, p2, p3, p4⟩ := (show Five x2.drew _ _ _ _ _ _ from F2H.out).keep hb (show w.heap.size < x2.heap.size by omega)
                obtain ⟨q0, _⟩ := (show Five x2.drew _ _ _ _ _ _ from G2H.out).keep hb hs2
                exact ⟨p0, p1, p2, p3, p4, q0⟩
              have hbd : Below w.heap.size w x2.drew := below_drewN hb2 1
              go_wp2_with fail
              go_region_held3 (fun W => W.cell? ⟨w.heap.size, 0, none⟩ = some (.int .i64 k) ∧ W.cell? ⟨w.heap.size, 1, none⟩ = some (.int .i64 o) ∧ W.cell? ⟨w.heap.size, 2, none⟩ = some (.string t) ∧ W.cell? ⟨w.heap.size, 3, none⟩ = some (.string u) ∧ W.cell? ⟨w.heap.size, 4, none⟩ = some (.slice A m c) ∧ W.cell? ⟨w.heap.size + 1, 0, none⟩ = some (.int .i64 l)) (first | exact hkeep _ b3 | exact hkeep _ (Below.refl _ _)) (((go_at_call 17; refine (hlv _).mono ?_; rintro e x3 ⟨rfl, b3⟩)))
              have hb3 := hbd.trans (b3.mono hbd.size)
              go_wp2_with fail
              go_ret
              exact ⟨rfl, hb3⟩
            · cases h9 : k == 9
              · have hRF : R = decide (L ≥ l) := by rw [← hRH.out]; simp [fitsB, hLH.out, hP, h0, h9]
                subst hRF
                have hkeep : ∀ W', Below x2.drew.heap.size x2.drew W' → W'.cell? ⟨w.heap.size, 0, none⟩ = some (.int .i64 k) ∧ W'.cell? ⟨w.heap.size, 1, none⟩ = some (.int .i64 o) ∧ W'.cell? ⟨w.heap.size, 2, none⟩ = some (.string t) ∧ W'.cell? ⟨w.heap.size, 3, none⟩ = some (.string u) ∧ W'.cell? ⟨w.heap.size, 4, none⟩ = some (.slice A m c) ∧ W'.cell? ⟨w.heap.size + 1, 0, none⟩ = some (.int .i64 l) := fun W' hb => by
                  obtain ⟨p0, p1, p2, p3, p4⟩ := (show Five x2.drew _ _ _ _ _ _ from F2H.out).keep hb (show w.heap.size < x2.heap.size by omega)
                  obtain ⟨q0, _⟩ := (show Five x2.drew _ _ _ _ _ _ from G2H.out).keep hb hs2
                  exact ⟨p0, p1, p2, p3, p4, q0⟩
                have hbd : Below w.heap.size w x2.drew := below_drewN hb2 1
                go_wp2_with fail
                go_region_held3 (fun W => W.cell? ⟨w.heap.size, 0, none⟩ = some (.int .i64 k) ∧ W.cell? ⟨w.heap.size, 1, none⟩ = some (.int .i64 o) ∧ W.cell? ⟨w.heap.size, 2, none⟩ = some (.string t) ∧ W.cell? ⟨w.heap.size, 3, none⟩ = some (.string u) ∧ W.cell? ⟨w.heap.size, 4, none⟩ = some (.slice A m c) ∧ W.cell? ⟨w.heap.size + 1, 0, none⟩ = some (.int .i64 l)) (first | exact hkeep _ b3 | exact hkeep _ (Below.refl _ _)) (((go_at_call 17; refine (hlv _).mono ?_; rintro e x3 ⟨rfl, b3⟩)))
                have hb3 := hbd.trans (b3.mono hbd.size)
                go_wp2_with fail
                go_ret
                exact ⟨rfl, hb3⟩
              · obtain rfl := eq_of_beq h9
                clear h9
                have hRF : R = true := by rw [← hRH.out]; simp [fitsB, hLH.out, hP, h0]
                subst hRF
                go_wp2_with fail
                go_ret
                exact ⟨rfl, hb2⟩
          · cases h11 : k == 11
            · cases h9 : k == 9
              · cases h4 : k == 4
                · cases d
                  · have hRF : R = decide (L ≥ l) := by rw [← hRH.out]; simp [fitsB, hLH.out, hP, h0, h11, h9, h4]
                    subst hRF
                    have hkeep : ∀ W', Below x2.drew.heap.size x2.drew W' → W'.cell? ⟨w.heap.size, 0, none⟩ = some (.int .i64 k) ∧ W'.cell? ⟨w.heap.size, 1, none⟩ = some (.int .i64 o) ∧ W'.cell? ⟨w.heap.size, 2, none⟩ = some (.string t) ∧ W'.cell? ⟨w.heap.size, 3, none⟩ = some (.string u) ∧ W'.cell? ⟨w.heap.size, 4, none⟩ = some (.slice A m c) ∧ W'.cell? ⟨w.heap.size + 1, 0, none⟩ = some (.int .i64 l) := fun W' hb => by
                      obtain ⟨p0, p1, p2, p3, p4⟩ := (show Five x2.drew _ _ _ _ _ _ from F2H.out).keep hb (show w.heap.size < x2.heap.size by omega)
                      obtain ⟨q0, _⟩ := (show Five x2.drew _ _ _ _ _ _ from G2H.out).keep hb hs2
                      exact ⟨p0, p1, p2, p3, p4, q0⟩
                    have hbd : Below w.heap.size w x2.drew := below_drewN hb2 1
                    go_wp2_with fail
                    go_region_held3 (fun W => W.cell? ⟨w.heap.size, 0, none⟩ = some (.int .i64 k) ∧ W.cell? ⟨w.heap.size, 1, none⟩ = some (.int .i64 o) ∧ W.cell? ⟨w.heap.size, 2, none⟩ = some (.string t) ∧ W.cell? ⟨w.heap.size, 3, none⟩ = some (.string u) ∧ W.cell? ⟨w.heap.size, 4, none⟩ = some (.slice A m c) ∧ W.cell? ⟨w.heap.size + 1, 0, none⟩ = some (.int .i64 l)) (first | exact hkeep _ b3 | exact hkeep _ (Below.refl _ _)) (((go_at_call 17; refine (hlv _).mono ?_; rintro e x3 ⟨rfl, b3⟩)))
                    have hb3 := hbd.trans (b3.mono hbd.size)
                    go_wp2_with fail
                    go_ret
                    exact ⟨rfl, hb3⟩
                  · have hRF : R = decide (L ≥ l) := by rw [← hRH.out]; simp [fitsB, hLH.out, hP, h0, h11, h9, h4]
                    subst hRF
                    have hkeep : ∀ W', Below x2.drew.heap.size x2.drew W' → W'.cell? ⟨w.heap.size, 0, none⟩ = some (.int .i64 k) ∧ W'.cell? ⟨w.heap.size, 1, none⟩ = some (.int .i64 o) ∧ W'.cell? ⟨w.heap.size, 2, none⟩ = some (.string t) ∧ W'.cell? ⟨w.heap.size, 3, none⟩ = some (.string u) ∧ W'.cell? ⟨w.heap.size, 4, none⟩ = some (.slice A m c) ∧ W'.cell? ⟨w.heap.size + 1, 0, none⟩ = some (.int .i64 l) := fun W' hb => by
                      obtain ⟨p0, p1, p2, p3, p4⟩ := (show Five x2.drew _ _ _ _ _ _ from F2H.out).keep hb (show w.heap.size < x2.heap.size by omega)
                      obtain ⟨q0, _⟩ := (show Five x2.drew _ _ _ _ _ _ from G2H.out).keep hb hs2
                      exact ⟨p0, p1, p2, p3, p4, q0⟩
                    have hbd : Below w.heap.size w x2.drew := below_drewN hb2 1
                    go_wp2_with fail
                    go_region_held3 (fun W => W.cell? ⟨w.heap.size, 0, none⟩ = some (.int .i64 k) ∧ W.cell? ⟨w.heap.size, 1, none⟩ = some (.int .i64 o) ∧ W.cell? ⟨w.heap.size, 2, none⟩ = some (.string t) ∧ W.cell? ⟨w.heap.size, 3, none⟩ = some (.string u) ∧ W.cell? ⟨w.heap.size, 4, none⟩ = some (.slice A m c) ∧ W.cell? ⟨w.heap.size + 1, 0, none⟩ = some (.int .i64 l)) (first | exact hkeep _ b3 | exact hkeep _ (Below.refl _ _)) (((go_at_call 17; refine (hlv _).mono ?_; rintro e x3 ⟨rfl, b3⟩)))
                    have hb3 := hbd.trans (b3.mono hbd.size)
                    go_wp2_with fail
                    go_ret
                    exact ⟨rfl, hb3⟩
                · obtain rfl := eq_of_beq h4
                  clear h4
                  have hRF : R = false := by rw [← hRH.out]; simp [fitsB, hLH.out, hP, h0, h11, h9]
                  subst hRF
                  go_wp2_with fail
                  go_ret
                  exact ⟨rfl, hb2⟩
              · obtain rfl := eq_of_beq h9
                clear h9
                have hRF : R = false := by rw [← hRH.out]; simp [fitsB, hLH.out, hP, h0, h11]
                subst hRF
                go_wp2_with fail
                go_ret
                exact ⟨rfl, hb2⟩
            · obtain rfl := eq_of_beq h11
              clear h11
              have hRF : R = false := by rw [← hRH.out]; simp [fitsB, hLH.out, hP, h0]
              subst hRF
              go_wp2_with fail
              go_ret
              exact ⟨rfl, hb2⟩
        · cases h12 : k == 12
          · cases n
            · cases d
              · have hRF : R = decide (L ≥ l) := by rw [← hRH.out]; simp [fitsB, hLH.out, hP, h0, h12]
                subst hRF
                have hkeep : ∀ W', Below x2.drew.heap.size x2.drew W' → W'.cell? ⟨w.heap.size, 0, none⟩ = some (.int .i64 k) ∧ W'.cell? ⟨w.heap.size, 1, none⟩ = some (.int .i64 o) ∧ W'.cell? ⟨w.heap.size, 2, none⟩ = some (.string t) ∧ W'.cell? ⟨w.heap.size, 3, none⟩ = some (.string u) ∧ W'.cell? ⟨w.heap.size, 4, none⟩ = some (.slice A m c) ∧ W'.cell? ⟨w.heap.size + 1, 0, none⟩ = some (.int .i64 l) := fun W' hb => by
                  obtain ⟨p0, p1, p2, p3, p4⟩ := (show Five x2.drew _ _ _ _ _ _ from F2H.out).keep hb (show w.heap.size < x2.heap.size by omega)
                  obtain ⟨q0, _⟩ := (show Five x2.drew _ _ _ _ _ _ from G2H.out).keep hb hs2
                  exact ⟨p0, p1, p2, p3, p4, q0⟩
                have hbd : Below w.heap.size w x2.drew := below_drewN hb2 1
                go_wp2_with fail
                go_region_held3 (fun W => W.cell? ⟨w.heap.size, 0, none⟩ = some (.int .i64 k) ∧ W.cell? ⟨w.heap.size, 1, none⟩ = some (.int .i64 o) ∧ W.cell? ⟨w.heap.size, 2, none⟩ = some (.string t) ∧ W.cell? ⟨w.heap.size, 3, none⟩ = some (.string u) ∧ W.cell? ⟨w.heap.size, 4, none⟩ = some (.slice A m c) ∧ W.cell? ⟨w.heap.size + 1, 0, none⟩ = some (.int .i64 l)) (first | exact hkeep _ b3 | exact hkeep _ (Below.refl _ _)) (((go_at_call 17; refine (hlv _).mono ?_; rintro e x3 ⟨rfl, b3⟩)))
                have hb3 := hbd.trans (b3.mono hbd.size)
                go_wp2_with fail
                go_ret
                exact ⟨rfl, hb3⟩
              · cases h9 : k == 9
                · have hRF : R = decide (L ≥ l) := by rw [← hRH.out]; simp [fitsB, hLH.out, hP, h0, h12, h9]
                  subst hRF
                  have hkeep : ∀ W', Below x2.drew.heap.size x2.drew W' → W'.cell? ⟨w.heap.size, 0, none⟩ = some (.int .i64 k) ∧ W'.cell? ⟨w.heap.size, 1, none⟩ = some (.int .i64 o) ∧ W'.cell? ⟨w.heap.size, 2, none⟩ = some (.string t) ∧ W'.cell? ⟨w.heap.size, 3, none⟩ = some (.string u) ∧ W'.cell? ⟨w.heap.size, 4, none⟩ = some (.slice A m c) ∧ W'.cell? ⟨w.heap.size + 1, 0, none⟩ = some (.int .i64 l) := fun W' hb => by
                    obtain ⟨p0, p1, p2, p3, p4⟩ := (show Five x2.drew _ _ _ _ _ _ from F2H.out).keep hb (show w.heap.size < x2.heap.size by omega)
                    obtain ⟨q0, _⟩ := (show Five x2.drew _ _ _ _ _ _ from G2H.out).keep hb hs2
                    exact ⟨p0, p1, p2, p3, p4, q0⟩
                  have hbd : Below w.heap.size w x2.drew := below_drewN hb2 1
                  go_wp2_with fail
                  go_region_held3 (fun W => W.cell? ⟨w.heap.size, 0, none⟩ = some (.int .i64 k) ∧ W.cell? ⟨w.heap.size, 1, none⟩ = some (.int .i64 o) ∧ W.cell? ⟨w.heap.size, 2, none⟩ = some (.string t) ∧ W.cell? ⟨w.heap.size, 3, none⟩ = some (.string u) ∧ W.cell? ⟨w.heap.size, 4, none⟩ = some (.slice A m c) ∧ W.cell? ⟨w.heap.size + 1, 0, none⟩ = some (.int .i64 l)) (first | exact hkeep _ b3 | exact hkeep _ (Below.refl _ _)) (((go_at_call 17; refine (hlv _).mono ?_; rintro e x3 ⟨rfl, b3⟩)))
                  have hb3 := hbd.trans (b3.mono hbd.size)
                  go_wp2_with fail
                  go_ret
                  exact ⟨rfl, hb3⟩
                · obtain rfl := eq_of_beq h9
                  clear h9
                  have hRF : R = true := by rw [← hRH.out]; simp [fitsB, hLH.out, hP, h0, h12]
                  subst hRF
                  go_wp2_with fail
                  go_ret
                  exact ⟨rfl, hb2⟩
            · cases h11 : k == 11
              · cases h9 : k == 9
                · cases h4 : k == 4
                  · cases d
                    · have hRF : R = decide (L ≥ l) := by rw [← hRH.out]; simp [fitsB, hLH.out, hP, h0, h12, h11, h9, h4]
                      subst hRF
                      have hkeep : ∀ W', Below x2.drew.heap.size x2.drew W' → W'.cell? ⟨w.heap.size, 0, none⟩ = some (.int .i64 k) ∧ W'.cell? ⟨w.heap.size, 1, none⟩ = some (.int .i64 o) ∧ W'.cell? ⟨w.heap.size, 2, none⟩ = some (.string t) ∧ W'.cell? ⟨w.heap.size, 3, none⟩ = some (.string u) ∧ W'.cell? ⟨w.heap.size, 4, none⟩ = some (.slice A m c) ∧ W'.cell? ⟨w.heap.size + 1, 0, none⟩ = some (.int .i64 l) := fun W' hb => by
                        obtain ⟨p0, p1, p2, p3, p4⟩ := (show Five x2.drew _ _ _ _ _ _ from F2H.out).keep hb (show w.heap.size < x2.heap.size by omega)
                        obtain ⟨q0, _⟩ := (show Five x2.drew _ _ _ _ _ _ from G2H.out).keep hb hs2
                        exact ⟨p0, p1, p2, p3, p4, q0⟩
                      have hbd : Below w.heap.size w x2.drew := below_drewN hb2 1
                      go_wp2_with fail
                      go_region_held3 (fun W => W.cell? ⟨w.heap.size, 0, none⟩ = some (.int .i64 k) ∧ W.cell? ⟨w.heap.size, 1, none⟩ = some (.int .i64 o) ∧ W.cell? ⟨w.heap.size, 2, none⟩ = some (.string t) ∧ W.cell? ⟨w.heap.size, 3, none⟩ = some (.string u) ∧ W.cell? ⟨w.heap.size, 4, none⟩ = some (.slice A m c) ∧ W.cell? ⟨w.heap.size + 1, 0, none⟩ = some (.int .i64 l)) (first | exact hkeep _ b3 | exact hkeep _ (Below.refl _ _)) (((go_at_call 17; refine (hlv _).mono ?_; rintro e x3 ⟨rfl, b3⟩)))
                      have hb3 := hbd.trans (b3.mono hbd.size)
                      go_wp2_with fail
                      go_ret
                      exact ⟨rfl, hb3⟩
                    · have hRF : R = decide (L ≥ l) := by rw [← hRH.out]; simp [fitsB, hLH.out, hP, h0, h12, h11, h9, h4]
                      subst hRF
                      have hkeep : ∀ W', Below x2.drew.heap.size x2.drew W' → W'.cell? ⟨w.heap.size, 0, none⟩ = some (.int .i64 k) ∧ W'.cell? ⟨w.heap.size, 1, none⟩ = some (.int .i64 o) ∧ W'.cell? ⟨w.heap.size, 2, none⟩ = some (.string t) ∧ W'.cell? ⟨w.heap.size, 3, none⟩ = some (.string u) ∧ W'.cell? ⟨w.heap.size, 4, none⟩ = some (.slice A m c) ∧ W'.cell? ⟨w.heap.size + 1, 0, none⟩ = some (.int .i64 l) := fun W' hb => by
                        obtain ⟨p0, p1, p2, p3, p4⟩ := (show Five x2.drew _ _ _ _ _ _ from F2H.out).keep hb (show w.heap.size < x2.heap.size by omega)
                        obtain ⟨q0, _⟩ := (show Five x2.drew _ _ _ _ _ _ from G2H.out).keep hb hs2
                        exact ⟨p0, p1, p2, p3, p4, q0⟩
                      have hbd : Below w.heap.size w x2.drew := below_drewN hb2 1
                      go_wp2_with fail
                      go_region_held3 (fun W => W.cell? ⟨w.heap.size, 0, none⟩ = some (.int .i64 k) ∧ W.cell? ⟨w.heap.size, 1, none⟩ = some (.int .i64 o) ∧ W.cell? ⟨w.heap.size, 2, none⟩ = some (.string t) ∧ W.cell? ⟨w.heap.size, 3, none⟩ = some (.string u) ∧ W.cell? ⟨w.heap.size, 4, none⟩ = some (.slice A m c) ∧ W.cell? ⟨w.heap.size + 1, 0, none⟩ = some (.int .i64 l)) (first | exact hkeep _ b3 | exact hkeep _ (Below.refl _ _)) (((go_at_call 17; refine (hlv _).mono ?_; rintro e x3 ⟨rfl, b3⟩)))
                      have hb3 := hbd.trans (b3.mono hbd.size)
                      go_wp2_with fail
                      go_ret
                      exact ⟨rfl, hb3⟩
                  · obtain rfl := eq_of_beq h4
                    clear h4
                    have hRF : R = false := by rw [← hRH.out]; simp [fitsB, hLH.out, hP, h0, h12, h11, h9]
                    subst hRF
                    go_wp2_with fail
                    go_ret
                    exact ⟨rfl, hb2⟩
                · obtain rfl := eq_of_beq h9
                  clear h9
                  have hRF : R = false := by rw [← hRH.out]; simp [fitsB, hLH.out, hP, h0, h12, h11]
                  subst hRF
                  go_wp2_with fail
                  go_ret
                  exact ⟨rfl, hb2⟩
              · obtain rfl := eq_of_beq h11
                clear h11
                have hRF : R = false := by rw [← hRH.out]; simp [fitsB, hLH.out, hP, h0, h12]
                subst hRF
                go_wp2_with fail
                go_ret
                exact ⟨rfl, hb2⟩
          · obtain rfl := eq_of_beq h12
            clear h12
            cases h62 : o == 62
            · cases n
              · cases d
                · have hRF : R = decide (L ≥ l) := by rw [← hRH.out]; simp [fitsB, hLH.out, hP, h0, h62]
                  subst hRF
                  have hkeep : ∀ W', Below x2.drew.heap.size x2.drew W' → W'.cell? ⟨w.heap.size, 0, none⟩ = some (.int .i64 12) ∧ W'.cell? ⟨w.heap.size, 1, none⟩ = some (.int .i64 o) ∧ W'.cell? ⟨w.heap.size, 2, none⟩ = some (.string t) ∧ W'.cell? ⟨w.heap.size, 3, none⟩ = some (.string u) ∧ W'.cell? ⟨w.heap.size, 4, none⟩ = some (.slice A m c) ∧ W'.cell? ⟨w.heap.size + 1, 0, none⟩ = some (.int .i64 l) := fun W' hb => by
                    obtain ⟨p0, p1, p2, p3, p4⟩ := (show Five x2.drew _ _ _ _ _ _ from F2H.out).keep hb (show w.heap.size < x2.heap.size by omega)
                    obtain ⟨q0, _⟩ := (show Five x2.drew _ _ _ _ _ _ from G2H.out).keep hb hs2
                    exact ⟨p0, p1, p2, p3, p4, q0⟩
                  have hbd : Below w.heap.size w x2.drew := below_drewN hb2 1
                  go_wp2_with fail
                  go_region_held3 (fun W => W.cell? ⟨w.heap.size, 0, none⟩ = some (.int .i64 12) ∧ W.cell? ⟨w.heap.size, 1, none⟩ = some (.int .i64 o) ∧ W.cell? ⟨w.heap.size, 2, none⟩ = some (.string t) ∧ W.cell? ⟨w.heap.size, 3, none⟩ = some (.string u) ∧ W.cell? ⟨w.heap.size, 4, none⟩ = some (.slice A m c) ∧ W.cell? ⟨w.heap.size + 1, 0, none⟩ = some (.int .i64 l)) (first | exact hkeep _ b3 | exact hkeep _ (Below.refl _ _)) (((go_at_call 17; refine (hlv _).mono ?_; rintro e x3 ⟨rfl, b3⟩)))
                  have hb3 := hbd.trans (b3.mono hbd.size)
                  go_wp2_with fail
                  go_ret
                  exact ⟨rfl, hb3⟩
                · have hRF : R = decide (L ≥ l) := by rw [← hRH.out]; simp [fitsB, hLH.out, hP, h0, h62]
                  subst hRF
                  have hkeep : ∀ W', Below x2.drew.heap.size x2.drew W' → W'.cell? ⟨w.heap.size, 0, none⟩ = some (.int .i64 12) ∧ W'.cell? ⟨w.heap.size, 1, none⟩ = some (.int .i64 o) ∧ W'.cell? ⟨w.heap.size, 2, none⟩ = some (.string t) ∧ W'.cell? ⟨w.heap.size, 3, none⟩ = some (.string u) ∧ W'.cell? ⟨w.heap.size, 4, none⟩ = some (.slice A m c) ∧ W'.cell? ⟨w.heap.size + 1, 0, none⟩ = some (.int .i64 l) := fun W' hb => by
                    obtain ⟨p0, p1, p2, p3, p4⟩ := (show Five x2.drew _ _ _ _ _ _ from F2H.out).keep hb (show w.heap.size < x2.heap.size by omega)
                    obtain ⟨q0, _⟩ := (show Five x2.drew _ _ _ _ _ _ from G2H.out).keep hb hs2
                    exact ⟨p0, p1, p2, p3, p4, q0⟩
                  have hbd : Below w.heap.size w x2.drew := below_drewN hb2 1
                  go_wp2_with fail
                  go_region_held3 (fun W => W.cell? ⟨w.heap.size, 0, none⟩ = some (.int .i64 12) ∧ W.cell? ⟨w.heap.size, 1, none⟩ = some (.int .i64 o) ∧ W.cell? ⟨w.heap.size, 2, none⟩ = some (.string t) ∧ W.cell? ⟨w.heap.size, 3, none⟩ = some (.string u) ∧ W.cell? ⟨w.heap.size, 4, none⟩ = some (.slice A m c) ∧ W.cell? ⟨w.heap.size + 1, 0, none⟩ = some (.int .i64 l)) (first | exact hkeep _ b3 | exact hkeep _ (Below.refl _ _)) (((go_at_call 17; refine (hlv _).mono ?_; rintro e x3 ⟨rfl, b3⟩)))
                  have hb3 := hbd.trans (b3.mono hbd.size)
                  go_wp2_with fail
                  go_ret
                  exact ⟨rfl, hb3⟩
              · cases d
                · have hRF : R = decide (L ≥ l) := by rw [← hRH.out]; simp [fitsB, hLH.out, hP, h0, h62]
                  subst hRF
                  have hkeep : ∀ W', Below x2.drew.heap.size x2.drew W' → W'.cell? ⟨w.heap.size, 0, none⟩ = some (.int .i64 12) ∧ W'.cell? ⟨w.heap.size, 1, none⟩ = some (.int .i64 o) ∧ W'.cell? ⟨w.heap.size, 2, none⟩ = some (.string t) ∧ W'.cell? ⟨w.heap.size, 3, none⟩ = some (.string u) ∧ W'.cell? ⟨w.heap.size, 4, none⟩ = some (.slice A m c) ∧ W'.cell? ⟨w.heap.size + 1, 0, none⟩ = some (.int .i64 l) := fun W' hb => by
                    obtain ⟨p0, p1, p2, p3, p4⟩ := (show Five x2.drew _ _ _ _ _ _ from F2H.out).keep hb (show w.heap.size < x2.heap.size by omega)
                    obtain ⟨q0, _⟩ := (show Five x2.drew _ _ _ _ _ _ from G2H.out).keep hb hs2
                    exact ⟨p0, p1, p2, p3, p4, q0⟩
                  have hbd : Below w.heap.size w x2.drew := below_drewN hb2 1
                  go_wp2_with fail
                  go_region_held3 (fun W => W.cell? ⟨w.heap.size, 0, none⟩ = some (.int .i64 12) ∧ W.cell? ⟨w.heap.size, 1, none⟩ = some (.int .i64 o) ∧ W.cell? ⟨w.heap.size, 2, none⟩ = some (.string t) ∧ W.cell? ⟨w.heap.size, 3, none⟩ = some (.string u) ∧ W.cell? ⟨w.heap.size, 4, none⟩ = some (.slice A m c) ∧ W.cell? ⟨w.heap.size + 1, 0, none⟩ = some (.int .i64 l)) (first | exact hkeep _ b3 | exact hkeep _ (Below.refl _ _)) (((go_at_call 17; refine (hlv _).mono ?_; rintro e x3 ⟨rfl, b3⟩)))
                  have hb3 := hbd.trans (b3.mono hbd.size)
                  go_wp2_with fail
                  go_ret
                  exact ⟨rfl, hb3⟩
                · have hRF : R = decide (L ≥ l) := by rw [← hRH.out]; simp [fitsB, hLH.out, hP, h0, h62]
                  subst hRF
                  have hkeep : ∀ W', Below x2.drew.heap.size x2.drew W' → W'.cell? ⟨w.heap.size, 0, none⟩ = some (.int .i64 12) ∧ W'.cell? ⟨w.heap.size, 1, none⟩ = some (.int .i64 o) ∧ W'.cell? ⟨w.heap.size, 2, none⟩ = some (.string t) ∧ W'.cell? ⟨w.heap.size, 3, none⟩ = some (.string u) ∧ W'.cell? ⟨w.heap.size, 4, none⟩ = some (.slice A m c) ∧ W'.cell? ⟨w.heap.size + 1, 0, none⟩ = some (.int .i64 l) := fun W' hb => by
                    obtain ⟨p0, p1, p2, p3, p4⟩ := (show Five x2.drew _ _ _ _ _ _ from F2H.out).keep hb (show w.heap.size < x2.heap.size by omega)
                    obtain ⟨q0, _⟩ := (show Five x2.drew _ _ _ _ _ _ from G2H.out).keep hb hs2
                    exact ⟨p0, p1, p2, p3, p4, q0⟩
                  have hbd : Below w.heap.size w x2.drew := below_drewN hb2 1
                  go_wp2_with fail
                  go_region_held3 (fun W => W.cell? ⟨w.heap.size, 0, none⟩ = some (.int .i64 12) ∧ W.cell? ⟨w.heap.size, 1, none⟩ = some (.int .i64 o) ∧ W.cell? ⟨w.heap.size, 2, none⟩ = some (.string t) ∧ W.cell? ⟨w.heap.size, 3, none⟩ = some (.string u) ∧ W.cell? ⟨w.heap.size, 4, none⟩ = some (.slice A m c) ∧ W.cell? ⟨w.heap.size + 1, 0, none⟩ = some (.int .i64 l)) (first | exact hkeep _ b3 | exact hkeep _ (Below.refl _ _)) (((go_at_call 17; refine (hlv _).mono ?_; rintro e x3 ⟨rfl, b3⟩)))
                  have hb3 := hbd.trans (b3.mono hbd.size)
                  go_wp2_with fail
                  go_ret
                  exact ⟨rfl, hb3⟩
            · obtain rfl := eq_of_beq h62
              clear h62
              have hRF : R = false := by rw [← hRH.out]; simp [fitsB, hLH.out, hP, h0]
              subst hRF
              go_wp2_with fail
              go_ret
              exact ⟨rfl, hb2⟩
      · cases h13 : k == 13
        · cases g
          · cases n
            · cases d
              · have hRF : R = decide (L ≥ l) := by rw [← hRH.out]; simp [fitsB, hLH.out, hP, h0, h13]
                subst hRF
                have hkeep : ∀ W', Below x2.drew.heap.size x2.drew W' → W'.cell? ⟨w.heap.size, 0, none⟩ = some (.int .i64 k) ∧ W'.cell? ⟨w.heap.size, 1, none⟩ = some (.int .i64 o) ∧ W'.cell? ⟨w.heap.size, 2, none⟩ = some (.string t) ∧ W'.cell? ⟨w.heap.size, 3, none⟩ = some (.string u) ∧ W'.cell? ⟨w.heap.size, 4, none⟩ = some (.slice A m c) ∧ W'.cell? ⟨w.heap.size + 1, 0, none⟩ = some (.int .i64 l) := fun W' hb => by
                  obtain ⟨p0, p1, p2, p3, p4⟩ := (show Five x2.drew _ _ _ _ _ _ from F2H.out).keep hb (show w.heap.size < x2.heap.size by omega)
                  obtain ⟨q0, _⟩ := (show Five x2.drew _ _ _ _ _ _ from G2H.out).keep hb hs2
                  exact ⟨p0, p1, p2, p3, p4, q0⟩
                have hbd : Below w.heap.size w x2.drew := below_drewN hb2 1
                go_wp2_with fail
                go_region_held3 (fun W => W.cell? ⟨w.heap.size, 0, none⟩ = some (.int .i64 k) ∧ W.cell? ⟨w.heap.size, 1, none⟩ = some (.int .i64 o) ∧ W.cell? ⟨w.heap.size, 2, none⟩ = some (.string t) ∧ W.cell? ⟨w.heap.size, 3, none⟩ = some (.string u) ∧ W.cell? ⟨w.heap.size, 4, none⟩ = some (.slice A m c) ∧ W.cell? ⟨w.heap.size + 1, 0, none⟩ = some (.int .i64 l)) (first | exact hkeep _ b3 | exact hkeep _ (Below.refl _ _)) (((go_at_call 17; refine (hlv _).mono ?_; rintro e x3 ⟨rfl, b3⟩)))
                have hb3 := hbd.trans (b3.mono hbd.size)
                go_wp2_with fail
                go_ret
                exact ⟨rfl, hb3⟩
              · cases h9 : k == 9
                · have hRF : R = decide (L ≥ l) := by rw [← hRH.out]; simp [fitsB, hLH.out, hP, h0, h13, h9]
                  subst hRF
                  have hkeep : ∀ W', Below x2.drew.heap.size x2.drew W' → W'.cell? ⟨w.heap.size, 0, none⟩ = some (.int .i64 k) ∧ W'.cell? ⟨w.heap.size, 1, none⟩ = some (.int .i64 o) ∧ W'.cell? ⟨w.heap.size, 2, none⟩ = some (.string t) ∧ W'.cell? ⟨w.heap.size, 3, none⟩ = some (.string u) ∧ W'.cell? ⟨w.heap.size, 4, none⟩ = some (.slice A m c) ∧ W'.cell? ⟨w.heap.size + 1, 0, none⟩ = some (.int .i64 l) := fun W' hb => by
                    obtain ⟨p0, p1, p2, p3, p4⟩ := (show Five x2.drew _ _ _ _ _ _ from F2H.out).keep hb (show w.heap.size < x2.heap.size by omega)
                    obtain ⟨q0, _⟩ := (show Five x2.drew _ _ _ _ _ _ from G2H.out).keep hb hs2
                    exact ⟨p0, p1, p2, p3, p4, q0⟩
                  have hbd : Below w.heap.size w x2.drew := below_drewN hb2 1
                  go_wp2_with fail
                  go_region_held3 (fun W => W.cell? ⟨w.heap.size, 0, none⟩ = some (.int .i64 k) ∧ W.cell? ⟨w.heap.size, 1, none⟩ = some (.int .i64 o) ∧ W.cell? ⟨w.heap.size, 2, none⟩ = some (.string t) ∧ W.cell? ⟨w.heap.size, 3, none⟩ = some (.string u) ∧ W.cell? ⟨w.heap.size, 4, none⟩ = some (.slice A m c) ∧ W.cell? ⟨w.heap.size + 1, 0, none⟩ = some (.int .i64 l)) (first | exact hkeep _ b3 | exact hkeep _ (Below.refl _ _)) (((go_at_call 17; refine (hlv _).mono ?_; rintro e x3 ⟨rfl, b3⟩)))
                  have hb3 := hbd.trans (b3.mono hbd.size)
                  go_wp2_with fail
                  go_ret
                  exact ⟨rfl, hb3⟩
                · obtain rfl := eq_of_beq h9
                  clear h9
                  have hRF : R = true := by rw [← hRH.out]; simp [fitsB, hLH.out, hP, h0, h13]
                  subst hRF
                  go_wp2_with fail
                  go_ret
                  exact ⟨rfl, hb2⟩
            · cases h11 : k == 11
              · cases h9 : k == 9
                · cases h4 : k == 4
                  · cases d
                    · have hRF : R = decide (L ≥ l) := by rw [← hRH.out]; simp [fitsB, hLH.out, hP, h0, h13, h11, h9, h4]
                      subst hRF
                      have hkeep : ∀ W', Below x2.drew.heap.size x2.drew W' → W'.cell? ⟨w.heap.size, 0, none⟩ = some (.int .i64 k) ∧ W'.cell? ⟨w.heap.size, 1, none⟩ = some (.int .i64 o) ∧ W'.cell? ⟨w.heap.size, 2, none⟩ = some (.string t) ∧ W'.cell? ⟨w.heap.size, 3, none⟩ = some (.string u) ∧ W'.cell? ⟨w.heap.size, 4, none⟩ = some (.slice A m c) ∧ W'.cell? ⟨w.heap.size + 1, 0, none⟩ = some (.int .i64 l) := fun W' hb => by
                        obtain ⟨p0, p1, p2, p3, p4⟩ := (show Five x2.drew _ _ _ _ _ _ from F2H.out).keep hb (show w.heap.size < x2.heap.size by omega)
                        obtain ⟨q0, _⟩ := (show Five x2.drew _ _ _ _ _ _ from G2H.out).keep hb hs2
                        exact ⟨p0, p1, p2, p3, p4, q0⟩
                      have hbd : Below w.heap.size w x2.drew := below_drewN hb2 1
                      go_wp2_with fail
                      go_region_held3 (fun W => W.cell? ⟨w.heap.size, 0, none⟩ = some (.int .i64 k) ∧ W.cell? ⟨w.heap.size, 1, none⟩ = some (.int .i64 o) ∧ W.cell? ⟨w.heap.size, 2, none⟩ = some (.string t) ∧ W.cell? ⟨w.heap.size, 3, none⟩ = some (.string u) ∧ W.cell? ⟨w.heap.size, 4, none⟩ = some (.slice A m c) ∧ W.cell? ⟨w.heap.size + 1, 0, none⟩ = some (.int .i64 l)) (first | exact hkeep _ b3 | exact hkeep _ (Below.refl _ _)) (((go_at_call 17; refine (hlv _).mono ?_; rintro e x3 ⟨rfl, b3⟩)))
                      have hb3 := hbd.trans (b3.mono hbd.size)
                      go_wp2_with fail
                      go_ret
                      exact ⟨rfl, hb3⟩
                    · have hRF : R = decide (L ≥ l) := by rw [← hRH.out]; simp [fitsB, hLH.out, hP, h0, h13, h11, h9, h4]
                      subst hRF
                      have hkeep : ∀ W', Below x2.drew.heap.size x2.drew W' → W'.cell? ⟨w.heap.size, 0, none⟩ = some (.int .i64 k) ∧ W'.cell? ⟨w.heap.size, 1, none⟩ = some (.int .i64 o) ∧ W'.cell? ⟨w.heap.size, 2, none⟩ = some (.string t) ∧ W'.cell? ⟨w.heap.size, 3, none⟩ = some (.string u) ∧ W'.cell? ⟨w.heap.size, 4, none⟩ = some (.slice A m c) ∧ W'.cell? ⟨w.heap.size + 1, 0, none⟩ = some (.int .i64 l) := fun W' hb => by
                        obtain ⟨p0, p1, p2, p3, p4⟩ := (show Five x2.drew _ _ _ _ _ _ from F2H.out).keep hb (show w.heap.size < x2.heap.size by omega)
                        obtain ⟨q0, _⟩ := (show Five x2.drew _ _ _ _ _ _ from G2H.out).keep hb hs2
                        exact ⟨p0, p1, p2, p3, p4, q0⟩
                      have hbd : Below w.heap.size w x2.drew := below_drewN hb2 1
                      go_wp2_with fail
                      go_region_held3 (fun W => W.cell? ⟨w.heap.size, 0, none⟩ = some (.int .i64 k) ∧ W.cell? ⟨w.heap.size, 1, none⟩ = some (.int .i64 o) ∧ W.cell? ⟨w.heap.size, 2, none⟩ = some (.string t) ∧ W.cell? ⟨w.heap.size, 3, none⟩ = some (.string u) ∧ W.cell? ⟨w.heap.size, 4, none⟩ = some (.slice A m c) ∧ W.cell? ⟨w.heap.size + 1, 0, none⟩ = some (.int .i64 l)) (first | exact hkeep _ b3 | exact hkeep _ (Below.refl _ _)) (((go_at_call 17; refine (hlv _).mono ?_; rintro e x3 ⟨rfl, b3⟩)))
                      have hb3 := hbd.trans (b3.mono hbd.size)
                      go_wp2_with fail
                      go_ret
                      exact ⟨rfl, hb3⟩
                  · obtain rfl := eq_of_beq h4
                    clear h4
                    have hRF : R = false := by rw [← hRH.out]; simp [fitsB, hLH.out, hP, h0, h13, h11, h9]
                    subst hRF
                    go_wp2_with fail
                    go_ret
                    exact ⟨rfl, hb2⟩
                · obtain rfl := eq_of_beq h9
                  clear h9
                  have hRF : R = false := by rw [← hRH.out]; simp [fitsB, hLH.out, hP, h0, h13, h11]
                  subst hRF
                  go_wp2_with fail
                  go_ret
                  exact ⟨rfl, hb2⟩
              · obtain rfl := eq_of_beq h11
                clear h11
                have hRF : R = false := by rw [← hRH.out]; simp [fitsB, hLH.out, hP, h0, h13]
                subst hRF
                go_wp2_with fail
                go_ret
                exact ⟨rfl, hb2⟩
          · cases h12 : k == 12
            · cases n
              · cases d
                · have hRF : R = decide (L ≥ l) := by rw [← hRH.out]; simp [fitsB, hLH.out, hP, h0, h13, h12]
                  subst hRF
                  have hkeep : ∀ W', Below x2.drew.heap.size x2.drew W' → W'.cell? ⟨w.heap.size, 0, none⟩ = some (.int .i64 k) ∧ W'.cell? ⟨w.heap.size, 1, none⟩ = some (.int .i64 o) ∧ W'.cell? ⟨w.heap.size, 2, none⟩ = some (.string t) ∧ W'.cell? ⟨w.heap.size, 3, none⟩ = some (.string u) ∧ W'.cell? ⟨w.heap.size, 4, none⟩ = some (.slice A m c) ∧ W'.cell? ⟨w.heap.size + 1, 0, none⟩ = some (.int .i64 l) := fun W' hb => by
                    obtain ⟨p0, p1, p2, p3, p4⟩ := (show Five x2.drew _ _ _ _ _ _ from F2H.out).keep hb (show w.heap.size < x2.heap.size by omega)
                    obtain ⟨q0, _⟩ := (show Five x2.drew _ _ _ _ _ _ from G2H.out).keep hb hs2
                    exact ⟨p0, p1, p2, p3, p4, q0⟩
                  have hbd : Below w.heap.size w x2.drew := below_drewN hb2 1
                  go_wp2_with fail
                  go_region_held3 (fun W => W.cell? ⟨w.heap.size, 0, none⟩ = some (.int .i64 k) ∧ W.cell? ⟨w.heap.size, 1, none⟩ = some (.int .i64 o) ∧ W.cell? ⟨w.heap.size, 2, none⟩ = some (.string t) ∧ W.cell? ⟨w.heap.size, 3, none⟩ = some (.string u) ∧ W.cell? ⟨w.heap.size, 4, none⟩ = some (.slice A m c) ∧ W.cell? ⟨w.heap.size + 1, 0, none⟩ = some (.int .i64 l)) (first | exact hkeep _ b3 | exact hkeep _ (Below.refl _ _)) (((go_at_call 17; refine (hlv _).mono ?_; rintro e x3 ⟨rfl, b3⟩)))
                  have hb3 := hbd.trans (b3.mono hbd.size)
                  go_wp2_with fail
                  go_ret
                  exact ⟨rfl, hb3⟩
                · cases h9 : k == 9
                  · have hRF : R = decide (L ≥ l) := by rw [← hRH.out]; simp [fitsB, hLH.out, hP, h0, h13, h12, h9]
                    subst hRF
                    have hkeep : ∀ W', Below x2.drew.heap.size x2.drew W' → W'.cell? ⟨w.heap.size, 0, none⟩ = some (.int .i64 k) ∧ W'.cell? ⟨w.heap.size, 1, none⟩ = some (.int .i64 o) ∧ W'.cell? ⟨w.heap.size, 2, none⟩ = some (.string t) ∧ W'.cell? ⟨w.heap.size, 3, none⟩ = some (.string u) ∧ W'.cell? ⟨w.heap.size, 4, none⟩ = some (.slice A m c) ∧ W'.cell? ⟨w.heap.size + 1, 0, none⟩ = some (.int .i64 l) := fun W' hb => by
                      obtain ⟨p0, p1, p2, p3, p4⟩ := (show Five x2.drew _ _ _ _ _ _ from F2H.out).keep hb (show w.heap.size < x2.heap.size by omega)
                      obtain ⟨q0, _⟩ := (show Five x2.drew _ _ _ _ _ _ from G2H.out).keep hb hs2
                      exact ⟨p0, p1, p2, p3, p4, q0⟩
                    have hbd : Below w.heap.size w x2.drew := below_drewN hb2 1
                    go_wp2_with fail
                    go_region_held3 (fun W => W.cell? ⟨w.heap.size, 0, none⟩ = some (.int .i64 k) ∧ W.cell? ⟨w.heap.size, 1, none⟩ = some (.int .i64 o) ∧ W.cell? ⟨w.heap.size, 2, none⟩ = some (.string t) ∧ W.cell? ⟨w.heap.size, 3, none⟩ = some (.string u) ∧ W.cell? ⟨w.heap.size, 4, none⟩ = some (.slice A m c) ∧ W.cell? ⟨w.heap.size + 1, 0, none⟩ = some (.int .i64 l)) (first | exact hkeep _ b3 | exact hkeep _ (Below.refl _ _)) (((go_at_call 17; refine (hlv _).mono ?_; rintro e x3 ⟨rfl, b3⟩)))
                    have hb3 := hbd.trans (b3.mono hbd.size)
                    go_wp2_with fail
                    go_ret
                    exact ⟨rfl, hb3⟩
                  · obtain rfl := eq_of_beq h9
                    clear h9
                    have hRF : R = true := by rw [← hRH.out]; simp [fitsB, hLH.out, hP, h0, h13, h12]
                    subst hRF
                    go_wp2_with fail
                    go_ret
                    exact ⟨rfl, hb2⟩
              · cases h11 : k == 11
                · cases h9 : k == 9
                  · cases h4 : k == 4
                    · cases d
                      · have hRF : R = decide (L ≥ l) := by rw [← hRH.out]; simp [fitsB, hLH.out, hP, h0, h13, h12, h11, h9, h4]
                        subst hRF
                        have hkeep : ∀ W', Below x2.drew.heap.size x2.drew W' → W'.cell? ⟨w.heap.size, 0, none⟩ = some (.int .i64 k) ∧ W'.cell? ⟨w.heap.size, 1, none⟩ = some (.int .i64 o) ∧ W'.cell? ⟨w.heap.size, 2, none⟩ = some (.string t) ∧ W'.cell? ⟨w.heap.size, 3, none⟩ = some (.string u) ∧ W'.cell? ⟨w.heap.size, 4, none⟩ = some (.slice A m c) ∧ W'.cell? ⟨w.heap.size + 1, 0, none⟩ = some (.int .i64 l) := fun W' hb => by
                          obtain ⟨p0, p1, p2, p3, p4⟩ := (show Five x2.drew _ _ _ _ _ _ from F2H.out).keep hb (show w.heap.size < x2.heap.size by omega)
                          obtain ⟨q0, _⟩ := (show Five x2.drew _ _ _ _ _ _ from G2H.out).keep hb hs2
                          exact ⟨p0, p1, p2, p3, p4, q0⟩
                        have hbd : Below w.heap.size w x2.drew := below_drewN hb2 1
                        go_wp2_with fail
                        go_region_held3 (fun W => W.cell? ⟨w.heap.size, 0, none⟩ = some (.int .i64 k) ∧ W.cell? ⟨w.heap.size, 1, none⟩ = some (.int .i64 o) ∧ W.cell? ⟨w.heap.size, 2, none⟩ = some (.string t) ∧ W.cell? ⟨w.heap.size, 3, none⟩ = some (.string u) ∧ W.cell? ⟨w.heap.size, 4, none⟩ = some (.slice A m c) ∧ W.cell? ⟨w.heap.size + 1, 0, none⟩ = some (.int .i64 l)) (first | exact hkeep _ b3 | exact hkeep _ (Below.refl _ _)) (((go_at_call 17; refine (hlv _).mono ?_; rintro e x3 ⟨rfl, b3⟩)))
                        have hb3 := hbd.trans (b3.mono hbd.size)
                        go_wp2_with fail
                        go_ret
                        exact ⟨rfl, hb3⟩
                      · have hRF : R = decide (L ≥ l) := by rw [← hRH.out]; simp [fitsB, hLH.out, hP, h0, h13, h12, h11, h9, h4]
                        subst hRF
                        have hkeep : ∀ W', Below x2.drew.heap.size x2.drew W' → W'.cell? ⟨w.heap.size, 0, none⟩ = some (.int .i64 k) ∧ W'.cell? ⟨w.heap.size, 1, none⟩ = some (.int .i64 o) ∧ W'.cell? ⟨w.heap.size, 2, none⟩ = some (.string t) ∧ W'.cell? ⟨w.heap.size, 3, none⟩ = some (.string u) ∧ W'.cell? ⟨w.heap.size, 4, none⟩ = some (.slice A m c) ∧ W'.cell? ⟨w.heap.size + 1, 0, none⟩ = some (.int .i64 l) := fun W' hb => by
                          obtain ⟨p0, p1, p2, p3, p4⟩ := (show Five x2.drew _ _ _ _ _ _ from F2H.out).keep hb (show w.heap.size < x2.heap.size by omega)
                          obtain ⟨q0, _⟩ := (show Five x2.drew _ _ _ _ _ _ from G2H.out).keep hb hs2
                          exact ⟨p0, p1, p2, p3, p4, q0⟩
                        have hbd : Below w.heap.size w x2.drew := below_drewN hb2 1
                        go_wp2_with fail
                        go_region_held3 (fun W => W.cell? ⟨w.heap.size, 0, none⟩ = some (.int .i64 k) ∧ W.cell? ⟨w.heap.size, 1, none⟩ = some (.int .i64 o) ∧ W.cell? ⟨w.heap.size, 2, none⟩ = some (.string t) ∧ W.cell? ⟨w.heap.size, 3, none⟩ = some (.string u) ∧ W.cell? ⟨w.heap.size, 4, none⟩ = some (.slice A m c) ∧ W.cell? ⟨w.heap.size + 1, 0, none⟩ = some (.int .i64 l)) (first | exact hkeep _ b3 | exact hkeep _ (Below.refl _ _)) (((go_at_call 17; refine (hlv _).mono ?_; rintro e x3 ⟨rfl, b3⟩)))
                        have hb3 := hbd.trans (b3.mono hbd.size)
                        go_wp2_with fail
                        go_ret
                        exact ⟨rfl, hb3⟩
                    · obtain rfl := eq_of_beq h4
                      clear h4
                      have hRF : R = false := by rw [← hRH.out]; simp [fitsB, hLH.out, hP, h0, h13, h12, h11, h9]
                      subst hRF
                      go_wp2_with fail
                      go_ret
                      exact ⟨rfl, hb2⟩
                  · obtain rfl := eq_of_beq h9
                    clear h9
                    have hRF : R = false := by rw [← hRH.out]; simp [fitsB, hLH.out, hP, h0, h13, h12, h11]
                    subst hRF
                    go_wp2_with fail
                    go_ret
                    exact ⟨rfl, hb2⟩
                · obtain rfl := eq_of_beq h11
                  clear h11
                  have hRF : R = false := by rw [← hRH.out]; simp [fitsB, hLH.out, hP, h0, h13, h12]
                  subst hRF
                  go_wp2_with fail
                  go_ret
                  exact ⟨rfl, hb2⟩
            · obtain rfl := eq_of_beq h12
              clear h12
              cases h62 : o == 62
              · cases n
                · cases d
                  · have hRF : R = decide (L ≥ l) := by rw [← hRH.out]; simp [fitsB, hLH.out, hP, h0, h13, h62]
                    subst hRF
                    have hkeep : ∀ W', Below x2.drew.heap.size x2.drew W' → W'.cell? ⟨w.heap.size, 0, none⟩ = some (.int .i64 12) ∧ W'.cell? ⟨w.heap.size, 1, none⟩ = some (.int .i64 o) ∧ W'.cell? ⟨w.heap.size, 2, none⟩ = some (.string t) ∧ W'.cell? ⟨w.heap.size, 3, none⟩ = some (.string u) ∧ W'.cell? ⟨w.heap.size, 4, none⟩ = some (.slice A m c) ∧ W'.cell? ⟨w.heap.size + 1, 0, none⟩ = some (.int .i64 l) := fun W' hb => by
                      obtain ⟨p0, p1, p2, p3, p4⟩ := (show Five x2.drew _ _ _ _ _ _ from F2H.out).keep hb (show w.heap.size < x2.heap.size by omega)
                      obtain ⟨q0, _⟩ := (show Five x2.drew _ _ _ _ _ _ from G2H.out).keep hb hs2
                      exact ⟨p0, p1, p2, p3, p4, q0⟩
                    have hbd : Below w.heap.size w x2.drew := below_drewN hb2 1
                    go_wp2_with fail
                    go_region_held3 (fun W => W.cell? ⟨w.heap.size, 0, none⟩ = some (.int .i64 12) ∧ W.cell? ⟨w.heap.size, 1, none⟩ = some (.int .i64 o) ∧ W.cell? ⟨w.heap.size, 2, none⟩ = some (.string t) ∧ W.cell? ⟨w.heap.size, 3, none⟩ = some (.string u) ∧ W.cell? ⟨w.heap.size, 4, none⟩ = some (.slice A m c) ∧ W.cell? ⟨w.heap.size + 1, 0, none⟩ = some (.int .i64 l)) (first | exact hkeep _ b3 | exact hkeep _ (Below.refl _ _)) (((go_at_call 17; refine (hlv _).mono ?_; rintro e x3 ⟨rfl, b3⟩)))
                    have hb3 := hbd.trans (b3.mono hbd.size)
                    go_wp2_with fail
                    go_ret
                    exact ⟨rfl, hb3⟩
                  · have hRF : R = decide (L ≥ l) := by rw [← hRH.out]; simp [fitsB, hLH.out, hP, h0, h13, h62]
                    subst hRF
                    have hkeep : ∀ W', Below x2.drew.heap.size x2.drew W' → W'.cell? ⟨w.heap.size, 0, none⟩ = some (.int .i64 12) ∧ W'.cell? ⟨w.heap.size, 1, none⟩ = some (.int .i64 o) ∧ W'.cell? ⟨w.heap.size, 2, none⟩ = some (.string t) ∧ W'.cell? ⟨w.heap.size, 3, none⟩ = some (.string u) ∧ W'.cell? ⟨w.heap.size, 4, none⟩ = some (.slice A m c) ∧ W'.cell? ⟨w.heap.size + 1, 0, none⟩ = some (.int .i64 l) := fun W' hb => by
                      obtain ⟨p0, p1, p2, p3, p4⟩ := (show Five x2.drew _ _ _ _ _ _ from F2H.out).keep hb (show w.heap.size < x2.heap.size by omega)
                      obtain ⟨q0, _⟩ := (show Five x2.drew _ _ _ _ _ _ from G2H.out).keep hb hs2
                      exact ⟨p0, p1, p2, p3, p4, q0⟩
                    have hbd : Below w.heap.size w x2.drew := below_drewN hb2 1
                    go_wp2_with fail
                    go_region_held3 (fun W => W.cell? ⟨w.heap.size, 0, none⟩ = some (.int .i64 12) ∧ W.cell? ⟨w.heap.size, 1, none⟩ = some (.int .i64 o) ∧ W.cell? ⟨w.heap.size, 2, none⟩ = some (.string t) ∧ W.cell? ⟨w.heap.size, 3, none⟩ = some (.string u) ∧ W.cell? ⟨w.heap.size, 4, none⟩ = some (.slice A m c) ∧ W.cell? ⟨w.heap.size + 1, 0, none⟩ = some (.int .i64 l)) (first | exact hkeep _ b3 | exact hkeep _ (Below.refl _ _)) (((go_at_call 17; refine (hlv _).mono ?_; rintro e x3 ⟨rfl, b3⟩)))
                    have hb3 := hbd.trans (b3.mono hbd.size)
                    go_wp2_with fail
                    go_ret
                    exact ⟨rfl, hb3⟩
                · cases d
                  · have hRF : R = decide (L ≥ l) := by rw [← hRH.out]; simp [fitsB, hLH.out, hP, h0, h13, h62]
                    subst hRF
                    have hkeep : ∀ W', Below x2.drew.heap.size x2.drew W' → W'.cell? ⟨w.heap.size, 0, none⟩ = some (.int .i64 12) ∧ W'.cell? ⟨w.heap.size, 1, none⟩ = some (.int .i64 o) ∧ W'.cell? ⟨w.heap.size, 2, none⟩ = some (.string t) ∧ W'.cell? ⟨w.heap.size, 3, none⟩ = some (.string u) ∧ W'.cell? ⟨w.heap.size, 4, none⟩ = some (.slice A m c) ∧ W'.cell? ⟨w.heap.size + 1, 0, none⟩ = some (.int .i64 l) := fun W' hb => by
                      obtain ⟨p0, p1, p2, p3, p4⟩ := (show Five x2.drew _ _ _ _ _ _ from F2H.out).keep hb (show w.heap.size < x2.heap.size by omega)
                      obtain ⟨q0, _⟩ := (show Five x2.drew _ _ _ _ _ _ from G2H.out).keep hb hs2
                      exact ⟨p0, p1, p2, p3, p4, q0⟩
                    have hbd : Below w.heap.size w x2.drew := below_drewN hb2 1
                    go_wp2_with fail
                    go_region_held3 (fun W => W.cell? ⟨w.heap.size, 0, none⟩ = some (.int .i64 12) ∧ W.cell? ⟨w.heap.size, 1, none⟩ = some (.int .i64 o) ∧ W.cell? ⟨w.heap.size, 2, none⟩ = some (.string t) ∧ W.cell? ⟨w.heap.size, 3, none⟩ = some (.string u) ∧ W.cell? ⟨w.heap.size, 4, none⟩ = some (.slice A m c) ∧ W.cell? ⟨w.heap.size + 1, 0, none⟩ = some (.int .i64 l)) (first | exact hkeep _ b3 | exact hkeep _ (Below.refl _ _)) (((go_at_call 17; refine (hlv _).mono ?_; rintro e x3 ⟨rfl, b3⟩)))
                    have hb3 := hbd.trans (b3.mono hbd.size)
                    go_wp2_with fail
                    go_ret
                    exact ⟨rfl, hb3⟩
                  · have hRF : R = decide (L ≥ l) := by rw [← hRH.out]; simp [fitsB, hLH.out, hP, h0, h13, h62]
                    subst hRF
                    have hkeep : ∀ W', Below x2.drew.heap.size x2.drew W' → W'.cell? ⟨w.heap.size, 0, none⟩ = some (.int .i64 12) ∧ W'.cell? ⟨w.heap.size, 1, none⟩ = some (.int .i64 o) ∧ W'.cell? ⟨w.heap.size, 2, none⟩ = some (.string t) ∧ W'.cell? ⟨w.heap.size, 3, none⟩ = some (.string u) ∧ W'.cell? ⟨w.heap.size, 4, none⟩ = some (.slice A m c) ∧ W'.cell? ⟨w.heap.size + 1, 0, none⟩ = some (.int .i64 l) := fun W' hb => by
                      obtain ⟨p0, p1, p2, p3, p4⟩ := (show Five x2.drew _ _ _ _ _ _ from F2H.out).keep hb (show w.heap.size < x2.heap.size by omega)
                      obtain ⟨q0, _⟩ := (show Five x2.drew _ _ _ _ _ _ from G2H.out).keep hb hs2
                      exact ⟨p0, p1, p2, p3, p4, q0⟩
                    have hbd : Below w.heap.size w x2.drew := below_drewN hb2 1
                    go_wp2_with fail
                    go_region_held3 (fun W => W.cell? ⟨w.heap.size, 0, none⟩ = some (.int .i64 12) ∧ W.cell? ⟨w.heap.size, 1, none⟩ = some (.int .i64 o) ∧ W.cell? ⟨w.heap.size, 2, none⟩ = some (.string t) ∧ W.cell? ⟨w.heap.size, 3, none⟩ = some (.string u) ∧ W.cell? ⟨w.heap.size, 4, none⟩ = some (.slice A m c) ∧ W.cell? ⟨w.heap.size + 1, 0, none⟩ = some (.int .i64 l)) (first | exact hkeep _ b3 | exact hkeep _ (Below.refl _ _)) (((go_at_call 17; refine (hlv _).mono ?_; rintro e x3 ⟨rfl, b3⟩)))
                    have hb3 := hbd.trans (b3.mono hbd.size)
                    go_wp2_with fail
                    go_ret
                    exact ⟨rfl, hb3⟩
              · obtain rfl := eq_of_beq h62
                clear h62
                have hRF : R = false := by rw [← hRH.out]; simp [fitsB, hLH.out, hP, h0, h13]
                subst hRF
                go_wp2_with fail
                go_ret
                exact ⟨rfl, hb2⟩
        · obtain rfl := eq_of_beq h13
          clear h13
          have hRF : R = false := by rw [← hRH.out]; simp [fitsB, hLH.out, hP, h0]
          subst hRF
          go_wp2_with fail
          go_ret
          exact ⟨rfl, hb2⟩
    · obtain rfl := eq_of_beq h0
      clear h0
      have hRF : R = false := by rw [← hRH.out]; simp [fitsB, hLH.out, hP]
      subst hRF
      go_wp2_with fail
      go_ret
      exact ⟨rfl, hb2⟩
end Go.Proofs.Ytlabmboedjnpmaa
