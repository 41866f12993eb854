/- The draw of a position (walk). -/
import Derived.Test.YtlabmboedjnpmaaDraw3
import Derived.Test.YtlabmboedjnpmaaData
namespace Go.Proofs.Ytlabmboedjnpmaa
open Go.RowKit
set_option linter.unusedVariables false
/-- a position such as is drawn -/
def drawnPos (p : PPos) : Prop := -1 ≤ p.level ∧ p.level ≤ 16
def RetPosD (w : World) (g : Nat) (cs : List UInt8) (e : Ending) (w' : World) : Prop := ∃ (p : PPos) (s' : Nat × Int), drawnPos p ∧ e = .returned (.agg #[.int .i64 p.level, .bool p.dollar, .bool p.noIn, .bool p.noGt, .bool p.noSign]) ∧ Cur w' g cs s' ∧ Away g w w'
def levS : List Int := [0, 16, -1]
theorem levS_in : ∀ x ∈ levS, -1 ≤ x ∧ x ≤ 16 := by decide
theorem pos_end {w w2 : World} {g : Nat} {cs : List UInt8} {s2 : Nat × Int} {p : PPos} (hlt : g < w.heap.size) (hp : drawnPos p) (hc : Cur w2 g cs s2) (ha : Away g w w2) :
    RetPosD w g cs (.returned (.agg #[.int .i64 p.level, .bool p.dollar, .bool p.noIn, .bool p.noGt, .bool p.noSign])) (((((w2.setCell ⟨w.heap.size, 0, none⟩ (.int .i64 p.level)).setCell ⟨w.heap.size, 1, none⟩ (.bool p.dollar)).setCell ⟨w.heap.size, 2, none⟩ (.bool p.noIn)).setCell ⟨w.heap.size, 3, none⟩ (.bool p.noGt)).setCell ⟨w.heap.size, 4, none⟩ (.bool p.noSign)) := by
  have hb : Below w.heap.size w2 (((((w2.setCell ⟨w.heap.size, 0, none⟩ (.int .i64 p.level)).setCell ⟨w.heap.size, 1, none⟩ (.bool p.dollar)).setCell ⟨w.heap.size, 2, none⟩ (.bool p.noIn)).setCell ⟨w.heap.size, 3, none⟩ (.bool p.noGt)).setCell ⟨w.heap.size, 4, none⟩ (.bool p.noSign)) :=
    (((((Below.refl _ _).setCell (p := ⟨w.heap.size, 0, none⟩) (Nat.le_refl _) _).setCell (p := ⟨w.heap.size, 1, none⟩) (Nat.le_refl _) _).setCell (p := ⟨w.heap.size, 2, none⟩) (Nat.le_refl _) _).setCell (p := ⟨w.heap.size, 3, none⟩) (Nat.le_refl _) _).setCell (p := ⟨w.heap.size, 4, none⟩) (Nat.le_refl _) _
  exact ⟨p, s2, hp, rfl, hc.keep hb hlt, ha.then_below hb⟩
set_option maxRecDepth 100000 in
set_option maxHeartbeats 4000000 in
theorem d_pos (g : Nat) (cs : List UInt8) (s : Nat × Int) (w : World) (hc : Cur w g cs s) : Calls Try.prog 20 #[.pointer (some ⟨g, 0, none⟩)] w (RetPosD w g cs) := by
  have hlt := hc.lt
  have z0 := Lib.hid (Has.made w 28 #[.int .i64 0, .bool false, .bool false, .bool false, .bool false])
  have hc0 := Lib.hid (hc.alloc (.cells #[.int .i64 0, .bool false, .bool false, .bool false, .bool false] 28))
  have ha0 := Lib.hid ((Away.refl g w).alloc (.cells #[.int .i64 0, .bool false, .bool false, .bool false, .bool false] 28))
  clear hc
  go_enter Try.func20, Try.ntmps20
  go_wp2_with fail
  refine (d_below _ _ _ _ _ (by omega) hc0.out).mono ?_
  rintro e w1 ⟨rfl, hc1, ha1⟩
  have hq := belowD_lt cs (show (0 : Int) < 15 by omega) s
  obtain ⟨q, hqq⟩ : ∃ q, belowD cs 15 s = q := ⟨_, rfl⟩
  rw [hqq] at hq ⊢
  clear hqq
  have z1 := Lib.hid (ha1.has z0.out (by omega))
  have hc1 := Lib.hid hc1
  have ha1 := Lib.hid (ha0.out.trans ha1)
  go_wp2_with fail
  refine (d_once _ _ _ _ _ (by omega) hc1.out).mono ?_
  rintro e w2 ⟨rfl, hc2, ha2⟩
  obtain ⟨B1, hB1⟩ : ∃ B, (belowD cs 4 (belowS cs 15 s) == 0) = B := ⟨_, rfl⟩
  rw [hB1]
  clear hB1
  have z2 := Lib.hid (ha2.has z1.out (by omega))
  have hc2 := Lib.hid hc2
  have ha2 := Lib.hid (ha1.out.trans ha2)
  go_wp2_with fail
  refine (d_once _ _ _ _ _ (by omega) hc2.out).mono ?_
  rintro e w3 ⟨rfl, hc3, ha3⟩
  obtain ⟨B2, hB2⟩ : ∃ B, (belowD cs 4 (belowS cs 4 (belowS cs 15 s)) == 0) = B := ⟨_, rfl⟩
  rw [hB2]
  clear hB2
  have z3 := Lib.hid (ha3.has z2.out (by omega))
  have hc3 := Lib.hid hc3
  have ha3 := Lib.hid (ha2.out.trans ha3)
  go_wp2_with fail
  refine (d_once _ _ _ _ _ (by omega) hc3.out).mono ?_
  rintro e w4 ⟨rfl, hc4, ha4⟩
  obtain ⟨B3, hB3⟩ : ∃ B, (belowD cs 4 (belowS cs 4 (belowS cs 4 (belowS cs 15 s))) == 0) = B := ⟨_, rfl⟩
  rw [hB3]
  clear hB3
  have z4 := ha4.has z3.out (by omega)
  have hs4 : w.heap.size < w4.heap.size := z4.lt
  have z4 := Lib.hid (z4.alloc (.cells #[.int .i64 (1 + q), .bool false, .bool B1, .bool B2, .bool B3] 28))
  have y4 := Lib.hid (Has.made w4 28 #[.int .i64 (1 + q), .bool false, .bool B1, .bool B2, .bool B3])
  have hc4 := Lib.hid (hc4.alloc (.cells #[.int .i64 (1 + q), .bool false, .bool B1, .bool B2, .bool B3] 28))
  have ha4 := Lib.hid ((ha3.out.trans ha4).alloc (.cells #[.int .i64 (1 + q), .bool false, .bool B1, .bool B2, .bool B3] 28))
  go_wp2_with fail
  refine (d_below _ _ _ _ _ (by omega) hc4.out).mono ?_
  rintro e w5 ⟨rfl, hc5, ha5⟩
  obtain ⟨q2, hq2⟩ : ∃ q2, belowD cs 12 (belowS cs 4 (belowS cs 4 (belowS cs 4 (belowS cs 15 s)))) = q2 := ⟨_, rfl⟩
  rw [hq2]
  clear hq2
  have z5 := ha5.has z4.out (by omega)
  have y5 := ha5.has y4.out (by omega)
  have hs5 : w.heap.size < w5.heap.size := z5.lt
  have hs6 : w4.heap.size < w5.heap.size := y5.lt
  have hc5 := Lib.hid hc5
  have ha5 := Lib.hid (ha4.out.trans ha5)
  have hle : w.heap.size ≤ w4.heap.size := by omega
  have c0 : w5.cell? ⟨w.heap.size, 0, none⟩ = _ := z5.get (i := 0) rfl
  have c1 : w5.cell? ⟨w.heap.size, 1, none⟩ = _ := z5.get (i := 1) rfl
  have c2 : w5.cell? ⟨w.heap.size, 2, none⟩ = _ := z5.get (i := 2) rfl
  have c3 : w5.cell? ⟨w.heap.size, 3, none⟩ = _ := z5.get (i := 3) rfl
  have c4 : w5.cell? ⟨w.heap.size, 4, none⟩ = _ := z5.get (i := 4) rfl
  have d0 : w5.cell? ⟨w4.heap.size, 0, none⟩ = _ := y5.get (i := 0) rfl
  have d1 : w5.cell? ⟨w4.heap.size, 1, none⟩ = _ := y5.get (i := 1) rfl
  have d2 : w5.cell? ⟨w4.heap.size, 2, none⟩ = _ := y5.get (i := 2) rfl
  have d3 : w5.cell? ⟨w4.heap.size, 3, none⟩ = _ := y5.get (i := 3) rfl
  have d4 : w5.cell? ⟨w4.heap.size, 4, none⟩ = _ := y5.get (i := 4) rfl
  have f0 : w5.frozen? ⟨w.heap.size, 0, none⟩ = _ := z5.free 0
  have f1 : w5.frozen? ⟨w.heap.size, 1, none⟩ = _ := z5.free 1
  have f2 : w5.frozen? ⟨w.heap.size, 2, none⟩ = _ := z5.free 2
  have f3 : w5.frozen? ⟨w.heap.size, 3, none⟩ = _ := z5.free 3
  have f4 : w5.frozen? ⟨w.heap.size, 4, none⟩ = _ := z5.free 4
  have k0 : w5.frozen? ⟨w4.heap.size, 0, none⟩ = _ := y5.free 0
  have k1 : w5.frozen? ⟨w4.heap.size, 1, none⟩ = _ := y5.free 1
  have k2 : w5.frozen? ⟨w4.heap.size, 2, none⟩ = _ := y5.free 2
  have k3 : w5.frozen? ⟨w4.heap.size, 3, none⟩ = _ := y5.free 3
  have k4 : w5.frozen? ⟨w4.heap.size, 4, none⟩ = _ := y5.free 4
  by_cases q0 : q2 = 0
  · subst q0
    clear c0 c1 c2 c3 c4 d0 d1 d2 d3 d4 f0 f1 f2 f3 f4 k0 k1 k2 k3 k4
    have z5 := Lib.hid (z5.alloc (.cells (levS.map fun x => Value.int .i64 x).toArray 3))
    have y5 := Lib.hid (y5.alloc (.cells (levS.map fun x => Value.int .i64 x).toArray 3))
    have hN := Lib.hid (NumsAt.made w5 levS 3)
    have hgl := hc5.out.lt
    have hc6 := Lib.hid (hc5.out.alloc (.cells (levS.map fun x => Value.int .i64 x).toArray 3))
    have ha6 := Lib.hid (ha5.out.alloc (.cells (levS.map fun x => Value.int .i64 x).toArray 3))
    go_wp2_with fail
    refine (d_pickInt g cs _ _ _ _ levS _ rfl (by decide) (by decide) (by omega) hN.out hc6.out).mono ?_
    rintro e w6 ⟨v, hv, rfl, hc7, ha7⟩
    have hv := levS_in v (List.mem_of_getElem? hv)
    have z5 := ha7.has z5.out (by omega)
    have y5 := ha7.has y5.out (by omega)
    have hs5 : w.heap.size < w6.heap.size := z5.lt
    have hs6 : w4.heap.size < w6.heap.size := y5.lt
    have hc5 := Lib.hid hc7
    have ha5 := Lib.hid (ha6.out.trans ha7)
    clear hgl
    have c0 : w6.cell? ⟨w.heap.size, 0, none⟩ = _ := z5.get (i := 0) rfl
    have c1 : w6.cell? ⟨w.heap.size, 1, none⟩ = _ := z5.get (i := 1) rfl
    have c2 : w6.cell? ⟨w.heap.size, 2, none⟩ = _ := z5.get (i := 2) rfl
    have c3 : w6.cell? ⟨w.heap.size, 3, none⟩ = _ := z5.get (i := 3) rfl
    have c4 : w6.cell? ⟨w.heap.size, 4, none⟩ = _ := z5.get (i := 4) rfl
    have d0 : w6.cell? ⟨w4.heap.size, 0, none⟩ = _ := y5.get (i := 0) rfl
    have d1 : w6.cell? ⟨w4.heap.size, 1, none⟩ = _ := y5.get (i := 1) rfl
    have d2 : w6.cell? ⟨w4.heap.size, 2, none⟩ = _ := y5.get (i := 2) rfl
    have d3 : w6.cell? ⟨w4.heap.size, 3, none⟩ = _ := y5.get (i := 3) rfl
    have d4 : w6.cell? ⟨w4.heap.size, 4, none⟩ = _ := y5.get (i := 4) rfl
    have f0 : w6.frozen? ⟨w.heap.size, 0, none⟩ = _ := z5.free 0
    have f1 : w6.frozen? ⟨w.heap.size, 1, none⟩ = _ := z5.free 1
    have f2 : w6.frozen? ⟨w.heap.size, 2, none⟩ = _ := z5.free 2
    have f3 : w6.frozen? ⟨w.heap.size, 3, none⟩ = _ := z5.free 3
    have f4 : w6.frozen? ⟨w.heap.size, 4, none⟩ = _ := z5.free 4
    have k0 : w6.frozen? ⟨w4.heap.size, 0, none⟩ = _ := y5.free 0
    have k1 : w6.frozen? ⟨w4.heap.size, 1, none⟩ = _ := y5.free 1
    have k2 : w6.frozen? ⟨w4.heap.size, 2, none⟩ = _ := y5.free 2
    have k3 : w6.frozen? ⟨w4.heap.size, 3, none⟩ = _ := y5.free 3
    have k4 : w6.frozen? ⟨w4.heap.size, 4, none⟩ = _ := y5.free 4
    go_wp2_with fail
    exact bodyPost_ret (v := .agg #[.int .i64 (v), .bool false, .bool B1, .bool B2, .bool B3]) (by simp [results, Try.results20, go_sem, c0, c1, c2, c3, c4]) rfl (pos_end (p := ⟨v, false, B1, B2, B3⟩) hlt (by unfold drawnPos; dsimp only; omega) (hc5.out.keep (((Below.refl w.heap.size w6).setCell (p := ⟨w4.heap.size, 0, none⟩) hle _)) hlt) (ha5.out.then_below (((Below.refl w.heap.size w6).setCell (p := ⟨w4.heap.size, 0, none⟩) hle _))))
  by_cases q1 : q2 = 1
  · subst q1
    go_wp2_with fail
    exact bodyPost_ret (v := .agg #[.int .i64 (1 + q), .bool true, .bool B1, .bool B2, .bool B3]) (by simp [results, Try.results20, go_sem, c0, c1, c2, c3, c4]) rfl (pos_end (p := ⟨1 + q, true, B1, B2, B3⟩) hlt (by unfold drawnPos; dsimp only; omega) (hc5.out.keep (((Below.refl w.heap.size w5).setCell (p := ⟨w4.heap.size, 1, none⟩) hle _)) hlt) (ha5.out.then_below (((Below.refl w.heap.size w5).setCell (p := ⟨w4.heap.size, 1, none⟩) hle _))))
  by_cases q22 : q2 = 2
  · subst q22
    go_wp2_with fail
    exact bodyPost_ret (v := .agg #[.int .i64 (14), .bool true, .bool B1, .bool B2, .bool B3]) (by simp [results, Try.results20, go_sem, c0, c1, c2, c3, c4]) rfl (pos_end (p := ⟨14, true, B1, B2, B3⟩) hlt (by unfold drawnPos; dsimp only; omega) (hc5.out.keep ((((Below.refl w.heap.size w5).setCell (p := ⟨w4.heap.size, 0, none⟩) hle _).setCell (p := ⟨w4.heap.size, 1, none⟩) hle _)) hlt) (ha5.out.then_below ((((Below.refl w.heap.size w5).setCell (p := ⟨w4.heap.size, 0, none⟩) hle _).setCell (p := ⟨w4.heap.size, 1, none⟩) hle _))))
  by_cases q33 : q2 = 3
  · subst q33
    go_wp2_with fail
    exact bodyPost_ret (v := .agg #[.int .i64 (1), .bool false, .bool B1, .bool B2, .bool B3]) (by simp [results, Try.results20, go_sem, c0, c1, c2, c3, c4]) rfl (pos_end (p := ⟨1, false, B1, B2, B3⟩) hlt (by unfold drawnPos; dsimp only; omega) (hc5.out.keep (((Below.refl w.heap.size w5).setCell (p := ⟨w4.heap.size, 0, none⟩) hle _)) hlt) (ha5.out.then_below (((Below.refl w.heap.size w5).setCell (p := ⟨w4.heap.size, 0, none⟩) hle _))))
  by_cases q44 : q2 = 4
  · subst q44
    go_wp2_with fail
    exact bodyPost_ret (v := .agg #[.int .i64 (1), .bool false, .bool B1, .bool B2, .bool B3]) (by simp [results, Try.results20, go_sem, c0, c1, c2, c3, c4]) rfl (pos_end (p := ⟨1, false, B1, B2, B3⟩) hlt (by unfold drawnPos; dsimp only; omega) (hc5.out.keep (((Below.refl w.heap.size w5).setCell (p := ⟨w4.heap.size, 0, none⟩) hle _)) hlt) (ha5.out.then_below (((Below.refl w.heap.size w5).setCell (p := ⟨w4.heap.size, 0, none⟩) hle _))))
  by_cases q55 : q2 = 5
  · subst q55
    go_wp2_with fail
    exact bodyPost_ret (v := .agg #[.int .i64 (1), .bool false, .bool B1, .bool B2, .bool B3]) (by simp [results, Try.results20, go_sem, c0, c1, c2, c3, c4]) rfl (pos_end (p := ⟨1, false, B1, B2, B3⟩) hlt (by unfold drawnPos; dsimp only; omega) (hc5.out.keep (((Below.refl w.heap.size w5).setCell (p := ⟨w4.heap.size, 0, none⟩) hle _)) hlt) (ha5.out.then_below (((Below.refl w.heap.size w5).setCell (p := ⟨w4.heap.size, 0, none⟩) hle _))))
  have r0 : (q2 == 0) = false := by simpa using q0
  have r1 : (q2 == 1) = false := by simpa using q1
  have r2 : (q2 == 2) = false := by simpa using q22
  have r3 : (q2 == 3) = false := by simpa using q33
  have r4 : (q2 == 4) = false := by simpa using q44
  have r5 : (q2 == 5) = false := by simpa using q55
  clear q0 q1 q22 q33 q44 q55
  go_wp2_with fail
  exact bodyPost_ret (v := .agg #[.int .i64 (1 + q), .bool false, .bool B1, .bool B2, .bool B3]) (by simp [results, Try.results20, go_sem, c0, c1, c2, c3, c4]) rfl (pos_end (p := ⟨1 + q, false, B1, B2, B3⟩) hlt (by unfold drawnPos; dsimp only; omega) hc5.out ha5.out)
end Go.Proofs.Ytlabmboedjnpmaa
