/- The walk of the law on Fits (written by gen_lawfits.py). -/
import Derived.Test.YtgbpnnokhdkciaaFits
import Derived.Test.YtgbpnnokhdkciaaFitsS
namespace Go.Proofs.Ytgbpnnokhdkciaa
open Go.RowKit
set_option linter.unusedVariables false

set_option maxRecDepth 100000 in
set_option maxHeartbeats 4000000 in
theorem l_Fits (v0 : Value) (a0 : PNode) (v1 : Value) (a1 : PPos) (w : World) (h : NodeIs w w.heap.size v0 a0) (h1 : PosIs v1 a1) : Calls Try.prog 27 #[v0, v1] w fun e w' => e = .returned (.bool true) ∧ Below w.heap.size w w' := by
  obtain ⟨kv, rfl, hK, hk, ho, ht, hu⟩ := h
  obtain ⟨k, o, t, u, l⟩ := a0
  obtain ⟨pl, pd, pi, pg, pn⟩ := a1
  obtain ⟨rfl, hpl⟩ := h1
  have hKH := Lib.hid hK
  obtain ⟨K, kc, rfl, hl1, hl2, r⟩ := hK
  clear r
  dsimp only at hKH hl1 hl2 hk ho ht hu hpl ⊢
  have hln : l.length ≤ maxLen := by omega
  obtain ⟨f0, p0, b0, hs0⟩ := two_made w (.int .i64 k) (.int .i64 o) (.string t) (.string u) (.slice K l.length kc) 64 (.int .i64 pl) (.bool pd) (.bool pi) (.bool pg) (.bool pn) 27
  by_cases hs : t.size + u.size + l.length ≤ 1048576
  · obtain ⟨q, hq⟩ : ∃ q : Int, subB 1048576 (t.size + u.size + l.length) = q := ⟨_, rfl⟩
    have hq0 : 0 ≤ q ∧ q ≤ 1048576 := by rw [← hq, subB_ge (by omega)]; omega
    have hlb : l.length ≤ 1048576 := by omega
    have hsz := Lib.hid hs
    clear hs
    obtain ⟨R, hR⟩ : ∃ R, fitsB k o pl pd pi pg pn = R := ⟨_, rfl⟩
    have hsf := fun A n c W => s_fits k o t u A n c pl pd pi pg pn W
    have hif := fun A n c W => i_fits k o t u A n c pl pd pi pg pn W
    rw [hR] at hsf hif
    clear hR
    go_enter Try.func27, Try.ntmps27
    go_wp2_with fail
    refine (l_szNode _ _ _ _ _ _ _ _ _ (by omega) (by omega) ht hu hln).mono ?_
    rintro e x1 ⟨rfl, b1⟩
    rw [hq]
    have f1 := Lib.hid (f0.keep b1 (by omega))
    have p1 := Lib.hid (p0.keep b1 (by omega))
    have c1 : Below w.heap.size w x1 := b0.trans (b1.mono b0.size)
    have hs1 : w.heap.size + 1 < x1.heap.size := by have := b1.size; omega
    clear b1 f0 p0 b0 hs0
    obtain ⟨y0, y1, y2, y3, y4⟩ := f1.out
    obtain ⟨z0, z1, z2, z3, z4⟩ := p1.out
    have kd : Hid (IntsIn x1.drew x1.drew.heap.size (.slice K l.length kc) l) := Lib.hid ((hKH.out.keep c1 (Nat.le_refl _)).more c1.size)
    have cd : Below w.heap.size w x1.drew := below_drew c1
    have hkeep : ∀ W', Below x1.drew.heap.size x1.drew W' → W'.cell? ⟨w.heap.size, 0, none⟩ = some (.int .i64 k) ∧ W'.cell? ⟨w.heap.size, 1, none⟩ = some (.int .i64 o) ∧ W'.cell? ⟨w.heap.size, 2, none⟩ = some (.string t) ∧ W'.cell? ⟨w.heap.size, 3, none⟩ = some (.string u) ∧ W'.cell? ⟨w.heap.size, 4, none⟩ = some (.slice K l.length kc) ∧ W'.cell? ⟨w.heap.size + 1, 0, none⟩ = some (.int .i64 pl) ∧ W'.cell? ⟨w.heap.size + 1, 1, none⟩ = some (.bool pd) ∧ W'.cell? ⟨w.heap.size + 1, 2, none⟩ = some (.bool pi) ∧ W'.cell? ⟨w.heap.size + 1, 3, none⟩ = some (.bool pg) ∧ W'.cell? ⟨w.heap.size + 1, 4, none⟩ = some (.bool pn) := fun W' hb => by
      obtain ⟨n0, n1, n2, n3, n4⟩ := (show Five x1.drew _ _ _ _ _ _ from f1.out).keep hb (show _ < x1.heap.size from by omega)
      obtain ⟨p0, p1, p2, p3, p4⟩ := (show Five x1.drew _ _ _ _ _ _ from p1.out).keep hb (show _ < x1.heap.size from hs1)
      exact ⟨n0, n1, n2, n3, n4, p0, p1, p2, p3, p4⟩
    go_wp2_with fail
    go_region_held3 (fun W => W.cell? ⟨w.heap.size, 0, none⟩ = some (.int .i64 k) ∧ W.cell? ⟨w.heap.size, 1, none⟩ = some (.int .i64 o) ∧ W.cell? ⟨w.heap.size, 2, none⟩ = some (.string t) ∧ W.cell? ⟨w.heap.size, 3, none⟩ = some (.string u) ∧ W.cell? ⟨w.heap.size, 4, none⟩ = some (.slice K l.length kc) ∧ W.cell? ⟨w.heap.size + 1, 0, none⟩ = some (.int .i64 pl) ∧ W.cell? ⟨w.heap.size + 1, 1, none⟩ = some (.bool pd) ∧ W.cell? ⟨w.heap.size + 1, 2, none⟩ = some (.bool pi) ∧ W.cell? ⟨w.heap.size + 1, 3, none⟩ = some (.bool pg) ∧ W.cell? ⟨w.heap.size + 1, 4, none⟩ = some (.bool pn)) (first | exact hkeep _ ((b2.trans (b3.mono b2.size)).trans (b4.mono (Nat.le_trans b2.size b3.size))) | exact hkeep _ (b2.trans (b3.mono b2.size)) | exact hkeep _ b2 | exact hkeep _ (Below.refl _ _)) (first | ((go_at_call 77; refine (l_toNode _ _ _ _ _ _ _ l _ hlb kd.out).mono ?_; rintro e x2 ⟨A2, n2, rfl, i2, _, b2⟩)) | ((go_at_call 34; refine (l_toPos _ _ _ _ _ _).mono ?_; rintro e x3 ⟨rfl, b3⟩)) | ((go_at_call 88; refine (hsf _ _ _ _).mono ?_; rintro e x4 ⟨rfl, b4⟩)))
    have e4 := (b2.trans (b3.mono b2.size)).trans (b4.mono (Nat.le_trans b2.size b3.size))
    have c4 := cd.trans (e4.mono cd.size)
    have f4 := Lib.hid ((show Five x1.drew _ _ _ _ _ _ from f1.out).keep e4 (show _ < x1.heap.size by omega))
    have p4 := Lib.hid ((show Five x1.drew _ _ _ _ _ _ from p1.out).keep e4 (show _ < x1.heap.size from hs1))
    have hs4 : w.heap.size + 1 < x4.heap.size := Nat.lt_of_lt_of_le hs1 (show x1.heap.size ≤ _ from e4.size)
    clear y0 y1 y2 y3 y4 z0 z1 z2 z3 z4 hkeep i2 b2 b3 b4 e4 cd kd f1 p1 c1 hs1
    obtain ⟨y0, y1, y2, y3, y4⟩ := f4.out
    obtain ⟨z0, z1, z2, z3, z4⟩ := p4.out
    go_wp2_with fail
    refine (l_toNode _ _ _ _ _ _ _ l _ hlb ((hKH.out.keep c4 (Nat.le_refl _)).more c4.size)).mono ?_
    rintro e x5 ⟨A5, n5, rfl, i5, _, b5⟩
    have c5 : Below w.heap.size w x5 := c4.trans (b5.mono c4.size)
    have f5 := Lib.hid (f4.out.keep b5 (by omega))
    have p5 := Lib.hid (p4.out.keep b5 hs4)
    have hs5 : w.heap.size + 1 < x5.heap.size := by have := b5.size; omega
    clear y0 y1 y2 y3 y4 z0 z1 z2 z3 z4 f4 p4 b5 c4 hs4
    have m5 := Five.made x5 (.int .i64 k) (.int .i64 o) (.string t) (.string u) (.slice A5 l.length n5) 67
    have d5 : Below x5.heap.size x5 (x5.alloc (.cells #[.int .i64 k, .int .i64 o, .string t, .string u, .slice A5 l.length n5] 67)) := (Below.refl _ _).alloc (Nat.le_refl _) _
    have fa := Lib.hid (f5.out.keep d5 (by omega))
    have pa := Lib.hid (p5.out.keep d5 hs5)
    have ia := Lib.hid ((i5.keep d5 (Nat.le_refl _)).more d5.size)
    have ca := c5.trans (d5.mono c5.size)
    have hga : x5.heap.size < (x5.alloc (.cells #[.int .i64 k, .int .i64 o, .string t, .string u, .slice A5 l.length n5] 67)).heap.size := by simp
    have hsa : w.heap.size + 1 < (x5.alloc (.cells #[.int .i64 k, .int .i64 o, .string t, .string u, .slice A5 l.length n5] 67)).heap.size := by omega
    have mH := Lib.hid m5
    clear m5 d5 f5 p5 i5 c5 hs5
    go_wp2_with fail
    generalize x5.alloc (.cells #[.int .i64 k, .int .i64 o, .string t, .string u, .slice A5 l.length n5] 67) = xa at *
    generalize x5.heap.size = g at *
    obtain ⟨y0, y1, y2, y3, y4⟩ := mH.out
    obtain ⟨z0, z1, z2, z3, z4⟩ := pa.out
    have cd : Below w.heap.size w xa.drew := below_drew ca
    have hkeep : ∀ W', Below xa.drew.heap.size xa.drew W' → W'.cell? ⟨g, 0, none⟩ = some (.int .i64 k) ∧ W'.cell? ⟨g, 1, none⟩ = some (.int .i64 o) ∧ W'.cell? ⟨g, 2, none⟩ = some (.string t) ∧ W'.cell? ⟨g, 3, none⟩ = some (.string u) ∧ W'.cell? ⟨g, 4, none⟩ = some (.slice A5 l.length n5) ∧ W'.cell? ⟨w.heap.size + 1, 0, none⟩ = some (.int .i64 pl) ∧ W'.cell? ⟨w.heap.size + 1, 1, none⟩ = some (.bool pd) ∧ W'.cell? ⟨w.heap.size + 1, 2, none⟩ = some (.bool pi) ∧ W'.cell? ⟨w.heap.size + 1, 3, none⟩ = some (.bool pg) ∧ W'.cell? ⟨w.heap.size + 1, 4, none⟩ = some (.bool pn) := fun W' hb => by
      obtain ⟨x0, x1, x2, x3, x4⟩ := (show Five xa.drew _ _ _ _ _ _ from mH.out).keep hb (show _ < xa.heap.size from hga)
      obtain ⟨p0, p1, p2, p3, p4⟩ := (show Five xa.drew _ _ _ _ _ _ from pa.out).keep hb (show _ < xa.heap.size from hsa)
      exact ⟨x0, x1, x2, x3, x4, p0, p1, p2, p3, p4⟩
    go_region_held3 (fun W => W.cell? ⟨g, 0, none⟩ = some (.int .i64 k) ∧ W.cell? ⟨g, 1, none⟩ = some (.int .i64 o) ∧ W.cell? ⟨g, 2, none⟩ = some (.string t) ∧ W.cell? ⟨g, 3, none⟩ = some (.string u) ∧ W.cell? ⟨g, 4, none⟩ = some (.slice A5 l.length n5) ∧ W.cell? ⟨w.heap.size + 1, 0, none⟩ = some (.int .i64 pl) ∧ W.cell? ⟨w.heap.size + 1, 1, none⟩ = some (.bool pd) ∧ W.cell? ⟨w.heap.size + 1, 2, none⟩ = some (.bool pi) ∧ W.cell? ⟨w.heap.size + 1, 3, none⟩ = some (.bool pg) ∧ W.cell? ⟨w.heap.size + 1, 4, none⟩ = some (.bool pn)) (first | exact hkeep _ (b6.trans (b7.mono b6.size)) | exact hkeep _ b6 | exact hkeep _ (Below.refl _ _)) (first | ((go_at_call 34; refine (l_toPos _ _ _ _ _ _).mono ?_; rintro e x6 ⟨rfl, b6⟩)) | ((go_at_call 89; refine (hif _ _ _ _).mono ?_; rintro e x7 ⟨rfl, b7⟩)))
    have e7 := b6.trans (b7.mono b6.size)
    have c7 := cd.trans (e7.mono cd.size)
    have f7 := Lib.hid ((show Five xa.drew _ _ _ _ _ _ from fa.out).keep e7 (show _ < xa.heap.size by omega))
    have m7 := Lib.hid ((show Five xa.drew _ _ _ _ _ _ from mH.out).keep e7 (show _ < xa.heap.size from hga))
    have i7 := Lib.hid (((show IntsIn xa.drew xa.drew.heap.size _ _ from ia.out).keep e7 (Nat.le_refl _)).more e7.size)
    have hg7 : g < x7.heap.size := Nat.lt_of_lt_of_le hga (show xa.heap.size ≤ _ from e7.size)
    have hs7 : w.heap.size + 1 < x7.heap.size := Nat.lt_of_lt_of_le hsa (show xa.heap.size ≤ _ from e7.size)
    clear y0 y1 y2 y3 y4 z0 z1 z2 z3 z4 hkeep b6 b7 e7 cd ca fa pa ia mH hga hsa hsf hif
    obtain ⟨y0, y1, y2, y3, y4⟩ := f7.out
    obtain ⟨z0, z1, z2, z3, z4⟩ := m7.out
    have kd : Hid (IntsIn x7.drew x7.drew.heap.size (.slice K l.length kc) l) := Lib.hid ((hKH.out.keep c7 (Nat.le_refl _)).more c7.size)
    have id : Hid (IntsIn x7.drew x7.drew.heap.size (.slice A5 l.length n5) l) := i7
    have cd : Below w.heap.size w x7.drew := below_drew c7
    have hkeep : ∀ W', Below x7.drew.heap.size x7.drew W' → W'.cell? ⟨g, 0, none⟩ = some (.int .i64 k) ∧ W'.cell? ⟨g, 1, none⟩ = some (.int .i64 o) ∧ W'.cell? ⟨g, 2, none⟩ = some (.string t) ∧ W'.cell? ⟨g, 3, none⟩ = some (.string u) ∧ W'.cell? ⟨g, 4, none⟩ = some (.slice A5 l.length n5) ∧ W'.cell? ⟨w.heap.size, 0, none⟩ = some (.int .i64 k) ∧ W'.cell? ⟨w.heap.size, 1, none⟩ = some (.int .i64 o) ∧ W'.cell? ⟨w.heap.size, 2, none⟩ = some (.string t) ∧ W'.cell? ⟨w.heap.size, 3, none⟩ = some (.string u) ∧ W'.cell? ⟨w.heap.size, 4, none⟩ = some (.slice K l.length kc) := fun W' hb => by
      obtain ⟨x0, x1, x2, x3, x4⟩ := (show Five x7.drew _ _ _ _ _ _ from m7.out).keep hb (show _ < x7.heap.size from hg7)
      obtain ⟨n0, n1, n2, n3, n4⟩ := (show Five x7.drew _ _ _ _ _ _ from f7.out).keep hb (show _ < x7.heap.size from by omega)
      exact ⟨x0, x1, x2, x3, x4, n0, n1, n2, n3, n4⟩
    go_wp2_with fail
    go_region_held3 (fun W => W.cell? ⟨g, 0, none⟩ = some (.int .i64 k) ∧ W.cell? ⟨g, 1, none⟩ = some (.int .i64 o) ∧ W.cell? ⟨g, 2, none⟩ = some (.string t) ∧ W.cell? ⟨g, 3, none⟩ = some (.string u) ∧ W.cell? ⟨g, 4, none⟩ = some (.slice A5 l.length n5) ∧ W.cell? ⟨w.heap.size, 0, none⟩ = some (.int .i64 k) ∧ W.cell? ⟨w.heap.size, 1, none⟩ = some (.int .i64 o) ∧ W.cell? ⟨w.heap.size, 2, none⟩ = some (.string t) ∧ W.cell? ⟨w.heap.size, 3, none⟩ = some (.string u) ∧ W.cell? ⟨w.heap.size, 4, none⟩ = some (.slice K l.length kc)) (first | exact hkeep _ (b8.trans (b9.mono b8.size)) | exact hkeep _ b8 | exact hkeep _ (Below.refl _ _)) (first | ((go_at_call 77; refine (l_toNode _ _ _ _ _ _ _ l _ hlb kd.out).mono ?_; rintro e x8 ⟨A8, n8, rfl, i8, _, b8⟩)) | ((go_at_call 79; refine (l_eqNode _ _ _ _ _ _ l _ ht hu ((id.out.keep b8 (Nat.le_refl _)).more b8.size) i8).mono ?_; rintro e x9 ⟨rfl, b9⟩)))
    have c9 := (cd.trans (b8.mono cd.size)).trans (b9.mono (by have := cd.size; have := b8.size; omega))
    go_wp2_with fail
    go_ret
    exact ⟨rfl, c9⟩
  · go_enter Try.func27, Try.ntmps27
    go_wp2_with fail
    refine (l_szNode _ _ _ _ _ _ _ _ _ (by omega) (by omega) ht hu hln).mono ?_
    rintro e x1 ⟨rfl, b1⟩
    rw [subB_lt (by omega)]
    have c1 : Below w.heap.size w x1 := b0.trans (b1.mono b0.size)
    go_wp2_with fail
    go_ret
    exact ⟨rfl, c1⟩
end Go.Proofs.Ytgbpnnokhdkciaa
