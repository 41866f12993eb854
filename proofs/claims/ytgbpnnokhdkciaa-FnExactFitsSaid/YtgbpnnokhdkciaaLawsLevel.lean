/- The walk of the law on LevelOf. -/
import Derived.Test.YtgbpnnokhdkciaaLevelOf
import Derived.Deep.RegionHeld3
namespace Go.Proofs.Ytgbpnnokhdkciaa
open Go.RowKit
set_option linter.unusedVariables false

def Five (W : World) (g : Nat) (a b c d e : Value) : Prop := W.cell? ⟨g, 0, none⟩ = some a ∧ W.cell? ⟨g, 1, none⟩ = some b ∧ W.cell? ⟨g, 2, none⟩ = some c ∧ W.cell? ⟨g, 3, none⟩ = some d ∧ W.cell? ⟨g, 4, none⟩ = some e
theorem Five.keep {W W' : World} {B g : Nat} {a b c d e : Value} (h : Five W g a b c d e) (hb : Below B W W') (hg : g < B) : Five W' g a b c d e := by
  have k : ∀ o, W'.cell? ⟨g, o, none⟩ = W.cell? ⟨g, o, none⟩ := fun o => hb.cell (p := ⟨g, o, none⟩) hg
  unfold Five
  simp only [k]
  exact h
theorem Five.made (W : World) (a b c d e : Value) (t : TypeId) : Five (W.alloc (.cells #[a, b, c, d, e] t)) W.heap.size a b c d e :=
  ⟨(Has.made W t _).get rfl, (Has.made W t _).get rfl, (Has.made W t _).get rfl, (Has.made W t _).get rfl, (Has.made W t _).get rfl⟩
set_option maxRecDepth 100000 in
set_option maxHeartbeats 1000000 in
theorem l_LevelOf (v0 : Value) (a0 : PNode) (w : World) (h : NodeIs w w.heap.size v0 a0) : Calls Try.prog 22 #[v0] w fun e w' => e = .returned (.bool true) ∧ Below w.heap.size w w' := by
  obtain ⟨kv, rfl, hK, hk, ho, ht, hu⟩ := h
  obtain ⟨k, o, t, u, l⟩ := a0
  have hKH := Lib.hid hK
  obtain ⟨K, kc, rfl, hl1, hl2, r⟩ := hK
  clear r
  dsimp only at hKH hl1 hl2 hk ho ht hu ⊢
  have hln : l.length ≤ maxLen := by omega
  have f0 := Five.made w (.int .i64 k) (.int .i64 o) (.string t) (.string u) (.slice K l.length kc) 64
  have b0 : Below w.heap.size w (w.alloc (.cells #[.int .i64 k, .int .i64 o, .string t, .string u, .slice K l.length kc] 64)) := (Below.refl _ _).alloc (Nat.le_refl _) _
  by_cases hs : t.size + u.size + l.length ≤ 1048576
  · obtain ⟨q, hq⟩ : ∃ q : Int, subB 1048576 (t.size + u.size + l.length) = q := ⟨_, rfl⟩
    have hq0 : 0 ≤ q ∧ q ≤ 1048576 := by rw [← hq, subB_ge (by omega)]; omega
    have hlb : l.length ≤ 1048576 := by omega
    have hsz := Lib.hid hs
    clear hs
    go_enter Try.func22, Try.ntmps22
    go_wp2_with fail
    refine (l_szNode _ _ _ _ _ _ _ _ _ (by omega) (by omega) ht hu hln).mono ?_
    rintro e x1 ⟨rfl, b1⟩
    rw [hq]
    have f1 := f0.keep b1 (by simp)
    have hx1 : w.heap.size < x1.heap.size := by have := b1.size; simp at this; omega
    have c1 : Below w.heap.size w x1 := b0.trans (b1.mono b0.size)
    have e1 := (show Five x1 _ _ _ _ _ _ from f1)
    clear b1 f0 b0
    obtain ⟨y0, y1, y2, y3, y4⟩ := f1
    have e1 := Lib.hid e1
    go_wp2_with fail
    refine (l_toNode _ _ _ _ _ _ _ l _ hlb ((hKH.out.keep c1 (Nat.le_refl _)).more c1.size)).mono ?_
    rintro e x2 ⟨A2, n2, rfl, i2, _, b2⟩
    have c2 : Below w.heap.size w x2 := c1.trans (b2.mono c1.size)
    clear i2
    go_wp2_with fail
    refine (s_levelOf _ _ _ _ _ _ _ _).mono ?_
    rintro e x3 ⟨rfl, b3⟩
    have c3 : Below w.heap.size w x3 := c2.trans (b3.mono c2.size)
    have e3 := ((e1.out.keep b2 hx1).keep b3 (Nat.lt_of_lt_of_le hx1 b2.size))
    clear y0 y1 y2 y3 y4 e1
    have e3' := Lib.hid e3
    obtain ⟨y0, y1, y2, y3, y4⟩ := e3
    go_wp2_with fail
    refine (l_toNode _ _ _ _ _ _ _ l _ hlb ((hKH.out.keep c3 (Nat.le_refl _)).more c3.size)).mono ?_
    rintro e x4 ⟨A4, n4, rfl, i4, _, b4⟩
    have c4 : Below w.heap.size w x4 := c3.trans (b4.mono c3.size)
    have hx4 : w.heap.size < x4.heap.size := by have := b2.size; have := b3.size; have := b4.size; omega
    have e4 := Lib.hid (e3'.out.keep b4 (by have := b2.size; have := b3.size; omega))
    clear y0 y1 y2 y3 y4 e3'
    go_wp2_with fail
    have m4 := Five.made x4 (.int .i64 k) (.int .i64 o) (.string t) (.string u) (.slice A4 l.length n4) 67
    have d4 : Below x4.heap.size x4 (x4.alloc (.cells #[.int .i64 k, .int .i64 o, .string t, .string u, .slice A4 l.length n4] 67)) := (Below.refl _ _).alloc (Nat.le_refl _) _
    have e4' := e4.out.keep d4 hx4
    have i4' := (i4.keep d4 (Nat.le_refl _)).more d4.size
    have c4' := c4.trans (d4.mono c4.size)
    have hs4 : x4.heap.size < (x4.alloc (.cells #[.int .i64 k, .int .i64 o, .string t, .string u, .slice A4 l.length n4] 67)).heap.size := by simp
    refine (i_levelOf _ _ _ _ _ _ _ _).mono ?_
    rintro e x5 ⟨rfl, b5⟩
    have m5 := m4.keep b5 hs4
    have e5 := e4'.keep b5 (by omega)
    have i5 := Lib.hid ((i4'.keep b5 (Nat.le_refl _)).more b5.size)
    have c5 := c4'.trans (b5.mono c4'.size)
    have hx5 : w.heap.size < x5.heap.size := by have := b5.size; omega
    have hx5' : x4.heap.size < x5.heap.size := by have := b5.size; omega
    have k5 := Lib.hid ((hKH.out.keep c5 (Nat.le_refl _)).more c5.size)
    generalize x4.heap.size = g at *
    clear m4 d4 e4' i4' c4' hs4 b4 b3 b2 hx1 e4 i4 hx4 b5
    have mH := Lib.hid m5
    have eH := Lib.hid e5
    obtain ⟨y0, y1, y2, y3, y4⟩ := e5
    obtain ⟨z0, z1, z2, z3, z4⟩ := m5
    go_wp2_with fail
    have kd : Hid (IntsIn x5.drew x5.drew.heap.size (.slice K l.length kc) l) := k5
    have id : Hid (IntsIn x5.drew x5.drew.heap.size (.slice A4 l.length n4) l) := i5
    have cd : Below w.heap.size w x5.drew := below_drewN c5 1
    have hkeep : ∀ W', Below x5.drew.heap.size x5.drew W' → W'.cell? ⟨w.heap.size, 0, none⟩ = some (.int .i64 k) ∧ W'.cell? ⟨w.heap.size, 1, none⟩ = some (.int .i64 o) ∧ W'.cell? ⟨w.heap.size, 2, none⟩ = some (.string t) ∧ W'.cell? ⟨w.heap.size, 3, none⟩ = some (.string u) ∧ W'.cell? ⟨w.heap.size, 4, none⟩ = some (.slice K l.length kc) ∧ W'.cell? ⟨g, 0, none⟩ = some (.int .i64 k) ∧ W'.cell? ⟨g, 1, none⟩ = some (.int .i64 o) ∧ W'.cell? ⟨g, 2, none⟩ = some (.string t) ∧ W'.cell? ⟨g, 3, none⟩ = some (.string u) ∧ W'.cell? ⟨g, 4, none⟩ = some (.slice A4 l.length n4) := fun W' hb => by
      obtain ⟨p0, p1, p2, p3, p4⟩ := (show Five x5.drew _ _ _ _ _ _ from eH.out).keep hb hx5
      exact ⟨p0, p1, p2, p3, p4, (show Five x5.drew _ _ _ _ _ _ from mH.out).keep hb hx5'⟩
    go_region_held3 (fun W => W.cell? ⟨w.heap.size, 0, none⟩ = some (.int .i64 k) ∧ W.cell? ⟨w.heap.size, 1, none⟩ = some (.int .i64 o) ∧ W.cell? ⟨w.heap.size, 2, none⟩ = some (.string t) ∧ W.cell? ⟨w.heap.size, 3, none⟩ = some (.string u) ∧ W.cell? ⟨w.heap.size, 4, none⟩ = some (.slice K l.length kc) ∧ W.cell? ⟨g, 0, none⟩ = some (.int .i64 k) ∧ W.cell? ⟨g, 1, none⟩ = some (.int .i64 o) ∧ W.cell? ⟨g, 2, none⟩ = some (.string t) ∧ W.cell? ⟨g, 3, none⟩ = some (.string u) ∧ W.cell? ⟨g, 4, none⟩ = some (.slice A4 l.length n4)) (first | exact hkeep _ (b6.trans (b7.mono b6.size)) | exact hkeep _ b6 | exact hkeep _ (Below.refl _ _)) (first | ((go_at_call 77; refine (l_toNode _ _ _ _ _ _ _ l _ hlb kd.out).mono ?_; rintro e x6 ⟨A6, n6, rfl, i6, _, b6⟩)) | ((go_at_call 79; refine (l_eqNode _ _ _ _ _ _ l _ ht hu ((id.out.keep b6 (Nat.le_refl _)).more b6.size) i6).mono ?_; rintro e x7 ⟨rfl, b7⟩)))
    have c7 := (cd.trans (b6.mono cd.size)).trans (b7.mono (by have := cd.size; have := b6.size; omega))
    go_wp2_with fail
    go_ret
    exact ⟨rfl, c7⟩
  · go_enter Try.func22, Try.ntmps22
    go_wp2_with fail
    refine (l_szNode _ _ _ _ _ _ _ _ _ (by omega) (by omega) ht hu hln).mono ?_
    rintro e x1 ⟨rfl, b1⟩
    rw [subB_lt (by omega)]
    have c1 : Below w.heap.size w x1 := b0.trans (b1.mono b0.size)
    go_wp2_with fail
    go_ret
    exact ⟨rfl, c1⟩
end Go.Proofs.Ytgbpnnokhdkciaa
