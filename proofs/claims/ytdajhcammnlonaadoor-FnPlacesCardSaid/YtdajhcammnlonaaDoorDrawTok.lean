/- The draw of a token (walk). -/
import Derived.Test.YtdajhcammnlonaaDoorDrawWords
import Derived.Test.YtdajhcammnlonaaDoorDrawScan
import Derived.Test.YtdajhcammnlonaaDoorData
namespace Go.Proofs.YtdajhcammnlonaaDoor
open Go.RowKit
set_option linter.unusedVariables false
/-- a token that may have been drawn -/
def drawnTok (t : PTok) : Prop := (0 ≤ t.kind ∧ t.kind ≤ 70) ∧ t.text.size ≤ 16 ∧ t.at_ = 0
def RetTokD (w : World) (g : Nat) (cs : List UInt8) (e : Ending) (w' : World) : Prop := ∃ (t : PTok) (s' : Nat × Int), drawnTok t ∧ RetD w g cs s' (.agg #[.int .i64 t.kind, .string t.text, .int .i64 t.at_]) e w'
theorem kinds_size (k : Int) : (spellOf k).size ≤ 16 := by
  unfold spellOf
  have e : ∀ l : List (List UInt8), (∀ x ∈ l, (bs x).size ≤ 16) → ∀ i, (bs (l.getD i [])).size ≤ 16 := fun l hl i => by
    rw [List.getD_eq_getElem?_getD]
    cases hx : l[i]? with
    | none => decide
    | some x => exact hl x (List.mem_of_getElem? hx)
  split
  · decide
  · split
    · exact e _ (by decide) _
    · split
      · exact e _ (by decide) _
      · decide
theorem tok_end {w w2 : World} {g : Nat} {cs : List UInt8} {s2 : Nat × Int} {k : Int} {x : ByteArray} (hlt : g < w.heap.size) (hk : 0 ≤ k ∧ k ≤ 70) (hx : x.size ≤ 16) (hc : Cur w2 g cs s2) (ha : Away g w w2) (hs : w.heap.size < w2.heap.size) :
    RetTokD w g cs (.returned (.agg #[.int .i64 k, .string x, .int .i64 0])) (((w2.setCell ⟨w.heap.size, 0, none⟩ (.int .i64 k)).setCell ⟨w.heap.size, 1, none⟩ (.string x)).setCell ⟨w.heap.size, 2, none⟩ (.int .i64 0)) := by
  have hb : Below w.heap.size w2 (((w2.setCell ⟨w.heap.size, 0, none⟩ (.int .i64 k)).setCell ⟨w.heap.size, 1, none⟩ (.string x)).setCell ⟨w.heap.size, 2, none⟩ (.int .i64 0)) :=
    (((Below.refl _ _).setCell (p := ⟨w.heap.size, 0, none⟩) (Nat.le_refl _) _).setCell (p := ⟨w.heap.size, 1, none⟩) (Nat.le_refl _) _).setCell (p := ⟨w.heap.size, 2, none⟩) (Nat.le_refl _) _
  exact ⟨⟨k, x, 0⟩, s2, ⟨hk, hx, rfl⟩, rfl, hc.keep hb hlt, ha.then_below hb⟩
set_option maxRecDepth 100000 in
set_option maxHeartbeats 4000000 in
theorem d_token (g : Nat) (cs : List UInt8) (s : Nat × Int) (w : World) (hc : Cur w g cs s) : Calls Tryd.prog 125 #[.pointer (some ⟨g, 0, none⟩)] w (RetTokD w g cs) := by
  have hlt := hc.lt
  have hc0 := Lib.hid (hc.alloc (.cells #[.int .i64 0, .string ⟨#[]⟩, .int .i64 0] 36))
  have hX0 := Lib.hid (Has.made w 36 #[.int .i64 0, .string ⟨#[]⟩, .int .i64 0])
  have hA0 := Lib.hid ((Away.refl g w).alloc (.cells #[.int .i64 0, .string ⟨#[]⟩, .int .i64 0] 36))
  have hne : w.heap.size ≠ g := by omega
  have hneH := Lib.hid hne
  clear hc hne
  have hy := belowD_lt cs (show (0 : Int) < 10 by omega) s
  obtain ⟨y, hyy⟩ : ∃ y, belowD cs 10 s = y := ⟨_, rfl⟩
  rw [hyy] at hy
  have hyH := Lib.hid hyy
  clear hyy
  by_cases y0 : y = 0
  · subst y0
    go_enter Tryd.func125, Tryd.ntmps125
    go_wp2_with fail
    refine (d_below _ _ _ _ _ (by omega) hc0.out).mono ?_
    rintro e w1 ⟨rfl, hc1, ha1⟩
    rw [hyH.out]
    have hX1 := Lib.hid (ha1.has hX0.out hneH.out)
    have hA1 := Lib.hid (hA0.out.trans ha1)
    have hc1 := Lib.hid hc1
    clear ha1
    go_wp2_with fail
    refine (d_num _ _ _ _ hc1.out).mono ?_
    rintro e w2 ⟨x, hx, rfl, hc2, ha2⟩
    have hx := Lib.hid (show x.size ≤ 16 by have := numS_size x (List.mem_of_getElem? hx); omega)
    have hX2 := Lib.hid (ha2.has hX1.out hneH.out)
    have hA2 := Lib.hid (hA1.out.trans ha2)
    have hc2 := Lib.hid hc2
    clear ha2
    have c0 : w2.cell? ⟨w.heap.size, 0, none⟩ = _ := hX2.out.get (i := 0) rfl
    have c1 : w2.cell? ⟨w.heap.size, 1, none⟩ = _ := hX2.out.get (i := 1) rfl
    have c2 : w2.cell? ⟨w.heap.size, 2, none⟩ = _ := hX2.out.get (i := 2) rfl
    have f0 : w2.frozen? ⟨w.heap.size, 0, none⟩ = _ := hX2.out.free 0
    have f1 : w2.frozen? ⟨w.heap.size, 1, none⟩ = _ := hX2.out.free 1
    have f2 : w2.frozen? ⟨w.heap.size, 2, none⟩ = _ := hX2.out.free 2
    have hsz : w.heap.size < w2.heap.size := hX2.out.lt
    go_wp2_with fail
    exact bodyPost_ret (v := .agg #[.int .i64 (3), .string x, .int .i64 0]) (by simp [results, Tryd.results125, go_sem, c0, c1, c2]) rfl (tok_end hlt (by omega) hx.out hc2.out hA2.out hsz)
  by_cases y1 : y = 1
  · subst y1
    go_enter Tryd.func125, Tryd.ntmps125
    go_wp2_with fail
    refine (d_below _ _ _ _ _ (by omega) hc0.out).mono ?_
    rintro e w1 ⟨rfl, hc1, ha1⟩
    rw [hyH.out]
    have hX1 := Lib.hid (ha1.has hX0.out hneH.out)
    have hA1 := Lib.hid (hA0.out.trans ha1)
    have hc1 := Lib.hid hc1
    clear ha1
    go_wp2_with fail
    refine (d_str _ _ _ _ hc1.out).mono ?_
    rintro e w2 ⟨x, hx, rfl, hc2, ha2⟩
    have hx := Lib.hid (show x.size ≤ 16 by have := strS_size x (List.mem_of_getElem? hx); omega)
    have hX2 := Lib.hid (ha2.has hX1.out hneH.out)
    have hA2 := Lib.hid (hA1.out.trans ha2)
    have hc2 := Lib.hid hc2
    clear ha2
    have c0 : w2.cell? ⟨w.heap.size, 0, none⟩ = _ := hX2.out.get (i := 0) rfl
    have c1 : w2.cell? ⟨w.heap.size, 1, none⟩ = _ := hX2.out.get (i := 1) rfl
    have c2 : w2.cell? ⟨w.heap.size, 2, none⟩ = _ := hX2.out.get (i := 2) rfl
    have f0 : w2.frozen? ⟨w.heap.size, 0, none⟩ = _ := hX2.out.free 0
    have f1 : w2.frozen? ⟨w.heap.size, 1, none⟩ = _ := hX2.out.free 1
    have f2 : w2.frozen? ⟨w.heap.size, 2, none⟩ = _ := hX2.out.free 2
    have hsz : w.heap.size < w2.heap.size := hX2.out.lt
    go_wp2_with fail
    exact bodyPost_ret (v := .agg #[.int .i64 (4), .string x, .int .i64 0]) (by simp [results, Tryd.results125, go_sem, c0, c1, c2]) rfl (tok_end hlt (by omega) hx.out hc2.out hA2.out hsz)
  by_cases y2 : y = 2
  · subst y2
    go_enter Tryd.func125, Tryd.ntmps125
    go_wp2_with fail
    refine (d_below _ _ _ _ _ (by omega) hc0.out).mono ?_
    rintro e w1 ⟨rfl, hc1, ha1⟩
    rw [hyH.out]
    have hX1 := Lib.hid (ha1.has hX0.out hneH.out)
    have hA1 := Lib.hid (hA0.out.trans ha1)
    have hc1 := Lib.hid hc1
    clear ha1
    go_wp2_with fail
    refine (d_ere _ _ _ _ hc1.out).mono ?_
    rintro e w2 ⟨x, hx, rfl, hc2, ha2⟩
    have hx := Lib.hid (show x.size ≤ 16 by have := ereS_size x (List.mem_of_getElem? hx); omega)
    have hX2 := Lib.hid (ha2.has hX1.out hneH.out)
    have hA2 := Lib.hid (hA1.out.trans ha2)
    have hc2 := Lib.hid hc2
    clear ha2
    have c0 : w2.cell? ⟨w.heap.size, 0, none⟩ = _ := hX2.out.get (i := 0) rfl
    have c1 : w2.cell? ⟨w.heap.size, 1, none⟩ = _ := hX2.out.get (i := 1) rfl
    have c2 : w2.cell? ⟨w.heap.size, 2, none⟩ = _ := hX2.out.get (i := 2) rfl
    have f0 : w2.frozen? ⟨w.heap.size, 0, none⟩ = _ := hX2.out.free 0
    have f1 : w2.frozen? ⟨w.heap.size, 1, none⟩ = _ := hX2.out.free 1
    have f2 : w2.frozen? ⟨w.heap.size, 2, none⟩ = _ := hX2.out.free 2
    have hsz : w.heap.size < w2.heap.size := hX2.out.lt
    go_wp2_with fail
    exact bodyPost_ret (v := .agg #[.int .i64 (5), .string x, .int .i64 0]) (by simp [results, Tryd.results125, go_sem, c0, c1, c2]) rfl (tok_end hlt (by omega) hx.out hc2.out hA2.out hsz)
  by_cases y3 : y = 3
  · subst y3
    go_enter Tryd.func125, Tryd.ntmps125
    go_wp2_with fail
    refine (d_below _ _ _ _ _ (by omega) hc0.out).mono ?_
    rintro e w1 ⟨rfl, hc1, ha1⟩
    rw [hyH.out]
    have hX1 := Lib.hid (ha1.has hX0.out hneH.out)
    have hA1 := Lib.hid (hA0.out.trans ha1)
    have hc1 := Lib.hid hc1
    clear ha1
    go_wp2_with fail
    refine (d_word _ _ _ _ hc1.out).mono ?_
    rintro e w2 ⟨x, hx, rfl, hc2, ha2⟩
    have hx := Lib.hid (show x.size ≤ 16 by have := word_size2 x (List.mem_of_getElem? hx); omega)
    have hX2 := Lib.hid (ha2.has hX1.out hneH.out)
    have hA2 := Lib.hid (hA1.out.trans ha2)
    have hc2 := Lib.hid hc2
    clear ha2
    have c0 : w2.cell? ⟨w.heap.size, 0, none⟩ = _ := hX2.out.get (i := 0) rfl
    have c1 : w2.cell? ⟨w.heap.size, 1, none⟩ = _ := hX2.out.get (i := 1) rfl
    have c2 : w2.cell? ⟨w.heap.size, 2, none⟩ = _ := hX2.out.get (i := 2) rfl
    have f0 : w2.frozen? ⟨w.heap.size, 0, none⟩ = _ := hX2.out.free 0
    have f1 : w2.frozen? ⟨w.heap.size, 1, none⟩ = _ := hX2.out.free 1
    have f2 : w2.frozen? ⟨w.heap.size, 2, none⟩ = _ := hX2.out.free 2
    have hsz : w.heap.size < w2.heap.size := hX2.out.lt
    go_wp2_with fail
    exact bodyPost_ret (v := .agg #[.int .i64 (6), .string x, .int .i64 0]) (by simp [results, Tryd.results125, go_sem, c0, c1, c2]) rfl (tok_end hlt (by omega) hx.out hc2.out hA2.out hsz)
  by_cases y4 : y = 4
  · subst y4
    go_enter Tryd.func125, Tryd.ntmps125
    go_wp2_with fail
    refine (d_below _ _ _ _ _ (by omega) hc0.out).mono ?_
    rintro e w1 ⟨rfl, hc1, ha1⟩
    rw [hyH.out]
    have hX1 := Lib.hid (ha1.has hX0.out hneH.out)
    have hA1 := Lib.hid (hA0.out.trans ha1)
    have hc1 := Lib.hid hc1
    clear ha1
    go_wp2_with fail
    refine (d_word _ _ _ _ hc1.out).mono ?_
    rintro e w2 ⟨x, hx, rfl, hc2, ha2⟩
    have hx := Lib.hid (show x.size ≤ 16 by have := word_size2 x (List.mem_of_getElem? hx); omega)
    have hX2 := Lib.hid (ha2.has hX1.out hneH.out)
    have hA2 := Lib.hid (hA1.out.trans ha2)
    have hc2 := Lib.hid hc2
    clear ha2
    have c0 : w2.cell? ⟨w.heap.size, 0, none⟩ = _ := hX2.out.get (i := 0) rfl
    have c1 : w2.cell? ⟨w.heap.size, 1, none⟩ = _ := hX2.out.get (i := 1) rfl
    have c2 : w2.cell? ⟨w.heap.size, 2, none⟩ = _ := hX2.out.get (i := 2) rfl
    have f0 : w2.frozen? ⟨w.heap.size, 0, none⟩ = _ := hX2.out.free 0
    have f1 : w2.frozen? ⟨w.heap.size, 1, none⟩ = _ := hX2.out.free 1
    have f2 : w2.frozen? ⟨w.heap.size, 2, none⟩ = _ := hX2.out.free 2
    have hsz : w.heap.size < w2.heap.size := hX2.out.lt
    go_wp2_with fail
    exact bodyPost_ret (v := .agg #[.int .i64 (6), .string x, .int .i64 0]) (by simp [results, Tryd.results125, go_sem, c0, c1, c2]) rfl (tok_end hlt (by omega) hx.out hc2.out hA2.out hsz)
  by_cases y5 : y = 5
  · subst y5
    go_enter Tryd.func125, Tryd.ntmps125
    go_wp2_with fail
    refine (d_below _ _ _ _ _ (by omega) hc0.out).mono ?_
    rintro e w1 ⟨rfl, hc1, ha1⟩
    rw [hyH.out]
    have hX1 := Lib.hid (ha1.has hX0.out hneH.out)
    have hA1 := Lib.hid (hA0.out.trans ha1)
    have hc1 := Lib.hid hc1
    clear ha1
    go_wp2_with fail
    refine (s_builtins _).mono ?_
    rintro e w1b ⟨rfl, ht1, hk1⟩
    have hgl := hc1.out.lt
    have hX1b := Lib.hid (hX1.out.below hk1 hX1.out.lt)
    have hA1b := Lib.hid (hA1.out.trans (Away.of_below hk1))
    have hc1b := Lib.hid (hc1.out.later hk1)
    have ht1 := Lib.hid ht1
    clear hk1
    go_wp2_with fail
    refine (d_pick g cs _ _ _ _ (biL.map bs) _ (by decide) (by decide) (by decide) (by omega) (StrsAt.of_tab ht1.out) hc1b.out).mono ?_
    rintro e w2 ⟨x, hx, rfl, hc2, ha2⟩
    have hx := Lib.hid (bi_size x (List.mem_of_getElem? hx))
    have hX2 := Lib.hid (ha2.has hX1b.out hneH.out)
    have hA2 := Lib.hid (hA1b.out.trans ha2)
    have hc2 := Lib.hid hc2
    clear ha2 hgl
    have c0 : w2.cell? ⟨w.heap.size, 0, none⟩ = _ := hX2.out.get (i := 0) rfl
    have c1 : w2.cell? ⟨w.heap.size, 1, none⟩ = _ := hX2.out.get (i := 1) rfl
    have c2 : w2.cell? ⟨w.heap.size, 2, none⟩ = _ := hX2.out.get (i := 2) rfl
    have f0 : w2.frozen? ⟨w.heap.size, 0, none⟩ = _ := hX2.out.free 0
    have f1 : w2.frozen? ⟨w.heap.size, 1, none⟩ = _ := hX2.out.free 1
    have f2 : w2.frozen? ⟨w.heap.size, 2, none⟩ = _ := hX2.out.free 2
    have hsz : w.heap.size < w2.heap.size := hX2.out.lt
    go_wp2_with fail
    exact bodyPost_ret (v := .agg #[.int .i64 (8), .string x, .int .i64 0]) (by simp [results, Tryd.results125, go_sem, c0, c1, c2]) rfl (tok_end hlt (by omega) hx.out hc2.out hA2.out hsz)
  by_cases y6 : y = 6
  · subst y6
    have hz := belowD_lt cs (show (0 : Int) < 17 by omega) (belowS cs 10 s)
    obtain ⟨z, hzz⟩ : ∃ z, belowD cs 17 (belowS cs 10 s) = z := ⟨_, rfl⟩
    rw [hzz] at hz
    have hzH := Lib.hid hzz
    clear hzz
    go_enter Tryd.func125, Tryd.ntmps125
    go_wp2_with fail
    refine (d_below _ _ _ _ _ (by omega) hc0.out).mono ?_
    rintro e w1 ⟨rfl, hc1, ha1⟩
    rw [hyH.out]
    have hX1 := Lib.hid (ha1.has hX0.out hneH.out)
    have hA1 := Lib.hid (hA0.out.trans ha1)
    have hc1 := Lib.hid hc1
    clear ha1
    go_wp2_with fail
    refine (d_below _ _ _ _ _ (by omega) hc1.out).mono ?_
    rintro e w1b ⟨rfl, hc1b, ha1b⟩
    rw [hzH.out]
    have hX1b := Lib.hid (ha1b.has hX1.out hneH.out)
    have hA1b := Lib.hid (hA1.out.trans ha1b)
    have hc1b := Lib.hid hc1b
    clear ha1b
    go_wp2_with fail
    refine (s_spellOf (10 + z) _ (by unfold okI64; omega)).mono ?_
    rintro e w2 ⟨rfl, hb2⟩
    have hx := Lib.hid (kinds_size (10 + z))
    have hX2 := Lib.hid (hX1b.out.below hb2 hX1b.out.lt)
    have hA2 := Lib.hid (hA1b.out.trans (Away.of_below hb2))
    have hc2 := Lib.hid (hc1b.out.later hb2)
    clear hb2
    have c0 : w2.cell? ⟨w.heap.size, 0, none⟩ = _ := hX2.out.get (i := 0) rfl
    have c1 : w2.cell? ⟨w.heap.size, 1, none⟩ = _ := hX2.out.get (i := 1) rfl
    have c2 : w2.cell? ⟨w.heap.size, 2, none⟩ = _ := hX2.out.get (i := 2) rfl
    have f0 : w2.frozen? ⟨w.heap.size, 0, none⟩ = _ := hX2.out.free 0
    have f1 : w2.frozen? ⟨w.heap.size, 1, none⟩ = _ := hX2.out.free 1
    have f2 : w2.frozen? ⟨w.heap.size, 2, none⟩ = _ := hX2.out.free 2
    have hsz : w.heap.size < w2.heap.size := hX2.out.lt
    go_wp2_with fail
    exact bodyPost_ret (v := .agg #[.int .i64 (10 + z), .string (spellOf (10 + z)), .int .i64 0]) (by simp [results, Tryd.results125, go_sem, c0, c1, c2]) rfl (tok_end hlt (by omega) hx.out hc2.out hA2.out hsz)
  · have e0 : (y == 0) = false := by simpa using y0
    have e1 : (y == 1) = false := by simpa using y1
    have e2 : (y == 2) = false := by simpa using y2
    have e3 : (y == 3) = false := by simpa using y3
    have e4 : (y == 4) = false := by simpa using y4
    have e5 : (y == 5) = false := by simpa using y5
    have e6 : (y == 6) = false := by simpa using y6
    clear y0 y1 y2 y3 y4 y5 y6
    have hz := belowD_lt cs (show (0 : Int) < 39 by omega) (belowS cs 10 s)
    obtain ⟨z, hzz⟩ : ∃ z, belowD cs 39 (belowS cs 10 s) = z := ⟨_, rfl⟩
    rw [hzz] at hz
    have hzH := Lib.hid hzz
    clear hzz
    go_enter Tryd.func125, Tryd.ntmps125
    go_wp2_with fail
    refine (d_below _ _ _ _ _ (by omega) hc0.out).mono ?_
    rintro e w1 ⟨rfl, hc1, ha1⟩
    rw [hyH.out]
    have hX1 := Lib.hid (ha1.has hX0.out hneH.out)
    have hA1 := Lib.hid (hA0.out.trans ha1)
    have hc1 := Lib.hid hc1
    clear ha1
    go_wp2_with fail
    refine (d_below _ _ _ _ _ (by omega) hc1.out).mono ?_
    rintro e w1b ⟨rfl, hc1b, ha1b⟩
    rw [hzH.out]
    have hX1b := Lib.hid (ha1b.has hX1.out hneH.out)
    have hA1b := Lib.hid (hA1.out.trans ha1b)
    have hc1b := Lib.hid hc1b
    clear ha1b
    go_wp2_with fail
    refine (s_spellOf (30 + z) _ (by unfold okI64; omega)).mono ?_
    rintro e w2 ⟨rfl, hb2⟩
    have hx := Lib.hid (kinds_size (30 + z))
    have hX2 := Lib.hid (hX1b.out.below hb2 hX1b.out.lt)
    have hA2 := Lib.hid (hA1b.out.trans (Away.of_below hb2))
    have hc2 := Lib.hid (hc1b.out.later hb2)
    clear hb2
    have c0 : w2.cell? ⟨w.heap.size, 0, none⟩ = _ := hX2.out.get (i := 0) rfl
    have c1 : w2.cell? ⟨w.heap.size, 1, none⟩ = _ := hX2.out.get (i := 1) rfl
    have c2 : w2.cell? ⟨w.heap.size, 2, none⟩ = _ := hX2.out.get (i := 2) rfl
    have f0 : w2.frozen? ⟨w.heap.size, 0, none⟩ = _ := hX2.out.free 0
    have f1 : w2.frozen? ⟨w.heap.size, 1, none⟩ = _ := hX2.out.free 1
    have f2 : w2.frozen? ⟨w.heap.size, 2, none⟩ = _ := hX2.out.free 2
    have hsz : w.heap.size < w2.heap.size := hX2.out.lt
    go_wp2_with fail
    exact bodyPost_ret (v := .agg #[.int .i64 (30 + z), .string (spellOf (30 + z)), .int .i64 0]) (by simp [results, Tryd.results125, go_sem, c0, c1, c2]) rfl (tok_end hlt (by omega) hx.out hc2.out hA2.out hsz)
end Go.Proofs.YtdajhcammnlonaaDoor
