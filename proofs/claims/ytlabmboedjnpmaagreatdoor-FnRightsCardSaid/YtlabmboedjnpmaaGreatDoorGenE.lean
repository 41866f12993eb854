/- The draw of an expression (walk; printed by gen_draws.py). -/
import Derived.Test.YtlabmboedjnpmaaGreatDoorGenL
namespace Go.Proofs.YtlabmboedjnpmaaGreatDoor
open Go.RowKit
set_option linter.unusedVariables false

theorem RetG.via {w w1 w2 : World} {g : Nat} {cs : List UInt8} {G G1 : Gen} {s s1 : Nat × Int} {e : Ending} (h : RetG w1 g cs G1 s1 e w2) (hr : runD cs G s = runD cs G1 s1) (ha : Away g w w1) : RetG w g cs G s e w2 := by
  obtain ⟨b, n, c, l, s', rfl, hn, hl, ho, hg, hr1, hc, ha1⟩ := h
  exact ⟨b, n, c, l, s', rfl, hn, hl, ho.lower ha.size, hg, hr.trans hr1, hc, ha.trans ha1⟩
def biS : List ByteArray := [⟨#[108, 101, 110, 103, 116, 104]⟩, ⟨#[115, 117, 98, 115, 116, 114]⟩, ⟨#[105, 110, 100, 101, 120]⟩, ⟨#[105, 110, 116]⟩, ⟨#[116, 111, 117, 112, 112, 101, 114]⟩]
theorem biS_16 : ∀ x ∈ biS, x.size ≤ 16 := by decide
def unL : List Int := [56, 55, 61]
theorem unL_100 : ∀ x ∈ unL, 0 ≤ x ∧ x ≤ 100 := by decide
def asL : List Int := [54, 38, 43]
theorem asL_100 : ∀ x ∈ asL, 0 ≤ x ∧ x ≤ 100 := by decide
def binL : List Int := [60, 57, 58, 59, 55, 56, 56, 99, 99, 99, 63, 48, 47, 50, 62, 62, 49, 67, 46, 45, 44]
theorem binL_100 : ∀ x ∈ binL, 0 ≤ x ∧ x ≤ 100 := by decide
set_option maxRecDepth 100000 in
theorem g_binop (g : Nat) (cs : List UInt8) (s : Nat × Int) (w : World) (hc : Cur w g cs s) : Calls Tryz.prog 102 #[.pointer (some ⟨g, 0, none⟩)] w (RetB w g cs 21 s fun x v => ∃ z : Int, v = .int .i64 z ∧ (0 ≤ z ∧ z ≤ 100) ∧ z ∈ binL) := by
  have hlt := hc.lt
  have hcH := Lib.hid (hc.alloc (.cells (binL.map fun x => Value.int .i64 x).toArray 3))
  have hA0 := Lib.hid ((Away.refl g w).alloc (.cells (binL.map fun x => Value.int .i64 x).toArray 3))
  clear hc
  go_enter Tryz.func102, Tryz.ntmps102
  go_wp2_with fail
  refine (g_pickInt g cs s _ _ _ binL _ rfl (by decide) (by decide) (by omega) (NumsAt.made _ binL 3) binL_100 hcH.out).mono ?_
  rintro e w1 ⟨v, x, s1, rfl, ⟨z, rfl, hz, hzm⟩, hx, hr, hc1, ha1⟩
  have hfin := Lib.hid (show RetB w g cs 21 s (fun x v => ∃ z : Int, v = .int .i64 z ∧ (0 ≤ z ∧ z ≤ 100) ∧ z ∈ binL) (.returned (.int .i64 z)) w1 from ⟨_, x, s1, rfl, ⟨z, rfl, hz, hzm⟩, hx, hr, hc1, hA0.out.trans ha1⟩)
  clear hr hc1 ha1 hzm
  go_wp2_with fail
  go_ret
  exact hfin.out
set_option maxRecDepth 100000 in
set_option maxHeartbeats 1000000 in
theorem d_expr0 : ExprAt 0 := by
  intro deep g cs s w hd hd1 hd2 hc
  have hcH := Lib.hid hc
  clear hc
  go_enter Tryz.func73, Tryz.ntmps73
  go_wp2_with fail
  refine (d_leaf g cs s _ hcH.out).mono ?_
  rintro e w1 hm
  have hfin := Lib.hid (show RetG w g cs (exprG 0) s e w1 from hm)
  obtain ⟨bm, nm, cm, lm, sm, rfl, _⟩ := hm
  go_wp2_with fail
  go_ret
  exact hfin.out
set_option maxRecDepth 100000 in
set_option maxHeartbeats 8000000 in
theorem d_exprS (d : Nat) (hd4 : d < 4) (h1 : ExprAt d) (h2 : ExprAt (d - 1)) (h3 : ExprAt (d - 2)) : ExprAt (d + 1) := by
  intro deep g cs s w hd hd1 hd2 hc
  have hlt := hc.lt
  have hc0 := Lib.hid hc
  have h1 := Lib.hid h1
  have h2 := Lib.hid h2
  have h3 := Lib.hid h3
  have hin := Lib.hid (expr_in (d + 1))
  have hr0 := Lib.hid (show runD cs (exprG (d + 1)) s = runD cs (stepG (exprG d) (exprG (d - 1)) (exprG (d - 2))) s by rw [exprG_step d hd4])
  have ha0 := Lib.hid (Away.refl g w)
  have hdp : 1 ≤ deep := by omega
  clear hc
  go_enter Tryz.func73, Tryz.ntmps73
  go_wp2_with fail
  refine (g_below g cs s 2 _ (by decide) (by decide) hc0.out).mono ?_
  rintro e w1 ⟨v, y1, s1, rfl, rfl, hy1, hrr, hcc, haa⟩
  have d1 := Lib.hid haa
  have hr1 := Lib.hid (hr0.out.trans (show _ = runD cs (.draw 16 (stepK (exprG d) (exprG (d - 1)) (exprG (d - 2)))) s1 from hrr _))
  have hc1 := Lib.hid hcc
  have ha1 := Lib.hid (ha0.out.trans d1.out)
  clear hrr hcc haa
  go_wp2_with fail
  refine (g_below g cs s1 16 _ (by decide) (by decide) hc1.out).mono ?_
  rintro e w2 ⟨v, y2, s2, rfl, rfl, hy2, hrr, hcc, haa⟩
  have d2 := Lib.hid haa
  have hr2 := Lib.hid (hr1.out.trans (show _ = runD cs (stepK (exprG d) (exprG (d - 1)) (exprG (d - 2)) y2) s2 from hrr _))
  have hc2 := Lib.hid hcc
  have ha2 := Lib.hid (ha1.out.trans d2.out)
  clear hrr hcc haa
  match y2, hy2, hr2 with
  | 0, _, hr2 =>
    have hr2 := Lib.hid (show runD cs (exprG (d + 1)) s = runD cs (leafG) s2 from hr2.out)
    go_wp2_with fail
    refine (d_leaf g cs s2 _ hc2.out).mono ?_
    rintro e w3 hm
    have hfin := Lib.hid (RetG.via hm hr2.out ha2.out)
    obtain ⟨bm, nm, cm, lm, sm, rfl, _⟩ := hm
    go_wp2_with fail
    go_ret
    exact hfin.out
  | 1, _, hr2 =>
    have hr2 := Lib.hid (show runD cs (exprG (d + 1)) s = runD cs (lvalueG (exprG d) (exprG (d - 1))) s2 from hr2.out)
    go_wp2_with fail
    refine (d_lvalue (d + 1) h1.out h2.out g cs s2 _ _ (by omega) (by omega) (by omega) hc2.out).mono ?_
    rintro e w3 hm
    have hfin := Lib.hid (RetG.via hm hr2.out ha2.out)
    obtain ⟨bm, nm, cm, lm, sm, rfl, _⟩ := hm
    go_wp2_with fail
    go_ret
    exact hfin.out
  | 2, _, hr2 =>
    have hr2 := Lib.hid (show runD cs (exprG (d + 1)) s = runD cs ((exprG d).up) s2 from hr2.out)
    go_wp2_with fail
    refine (h1.out (deep - 1) g cs s2 _ (by omega) (by omega) (by omega) hc2.out).mono ?_
    rintro e w3 ⟨b3, n3, c3, l3, s3, rfl, hn3, hll, hoo, hgg, hrr, hcc, haa⟩
    have d3 := Lib.hid haa
    have o3 := Lib.hid (hoo.lower ha2.out.size)
    have q3 := Lib.hid hrr
    have g3 := Lib.hid hgg
    have hl3 := Lib.hid hll
    have hc3 := Lib.hid hcc
    have ha3 := Lib.hid (ha2.out.trans d3.out)
    clear hrr hcc haa hll hoo hgg
    go_wp2_with fail
    refine (d_make _ 6 0 ⟨#[]⟩ ⟨#[]⟩ [(.slice (some ⟨b3, 0, none⟩) n3 c3, l3)] _ (by first | decide | omega) (by decide) (by decide) (by decide) (PartsIn.one o3.out g3.out (by rw [hl3.out]; omega)) (fun p hp => by obtain rfl := List.mem_singleton.1 hp; exact g3.out) (by simp only [sumLen, hl3.out]; omega) (fun h => by first | exact absurd h (by decide) | (show 1 ≤ 2; decide)) (by show 1 ≤ 8; decide)).mono ?_
    rintro e w4 hm
    have hfin := Lib.hid (RetG.over hm (show sumLen [(.slice (some ⟨b3, 0, none⟩) n3 c3, l3)] + 1 = _ by simp only [sumLen, hl3.out]; try omega) (hr2.out.trans (runD_up q3.out)) hin.out (by decide) (hc3.out.alloc _) (ha3.out.alloc _))
    obtain ⟨vm, lm, rfl, _⟩ := hm
    go_wp2_with fail
    go_ret
    exact hfin.out
  | 3, _, hr2 =>
    have hr2 := Lib.hid (show runD cs (exprG (d + 1)) s = runD cs (.draw 11 fun _ => (listG (exprG d) 0 4).up) s2 from hr2.out)
    go_wp2_with fail
    refine (g_word g cs s2 _ hc2.out).mono ?_
    rintro e w3 ⟨v, y3, s3, rfl, ⟨t3, rfl, ht3⟩, hy3, hrr, hcc, haa⟩
    have d3 := Lib.hid haa
    have hr3 := Lib.hid (hr2.out.trans (show _ = runD cs ((listG (exprG d) 0 4).up) s3 from hrr _))
    have hc3 := Lib.hid hcc
    have ha3 := Lib.hid (ha2.out.trans d3.out)
    clear hrr hcc haa
    go_wp2_with fail
    refine (d_list d h1.out g cs s3 _ _ _ 0 4 _ rfl rfl (by decide) (by decide) (by omega) (by omega) (by omega) hc3.out).mono ?_
    rintro e w4 ⟨b4, m4, c4, ps4, s4, rfl, hmm, hmb4, hoo, hgg, hss, hrr, hcc, haa⟩
    have d4 := Lib.hid haa
    have o4 := Lib.hid (hoo.lower ha3.out.size)
    have q4 := Lib.hid hrr
    have g4 := Lib.hid hgg
    have hm4 := Lib.hid hmm
    have hs4 := Lib.hid hss
    have hc4 := Lib.hid hcc
    have ha4 := Lib.hid (ha3.out.trans d4.out)
    clear hrr hcc haa hmm hoo hgg hss
    go_wp2_with fail
    refine (d_make _ 7 0 t3 ⟨#[]⟩ ps4 _ (by first | decide | omega) (by decide) ht3 (by decide) (o4.out.parts g4.out (by have := hs4.out; omega)) g4.out (by have := hs4.out; omega) (fun h => by first | exact absurd h (by decide) | (rw [hm4.out]; omega)) (by rw [hm4.out]; omega)).mono ?_
    rintro e w5 hm
    have hfin := Lib.hid (RetG.over hm rfl (hr3.out.trans (runD_up q4.out)) hin.out (by decide) (hc4.out) (ha4.out))
    obtain ⟨vm, lm, rfl, _⟩ := hm
    go_wp2_with fail
    go_ret
    exact hfin.out
  | 4, _, hr2 =>
    have hr2 := Lib.hid (show runD cs (exprG (d + 1)) s = runD cs (.draw 5 fun _ => (listG (exprG (d - 1)) 0 4).up) s2 from hr2.out)
    go_wp2_with fail
    go_wp2_with fail
    refine (g_pick g cs s2 _ _ _ biS _ rfl (by decide) (by decide) (by have := ha2.out.size; omega) (StrsAt.made _ biS 9) biS_16 (hc2.out.alloc _)).mono ?_
    rintro e w3 ⟨v, y3, s3, rfl, ⟨t3, rfl, ht3⟩, hy3, hrr, hcc, haa⟩
    have d3 := Lib.hid haa
    have hr3 := Lib.hid (hr2.out.trans (show _ = runD cs ((listG (exprG (d - 1)) 0 4).up) s3 from hrr _))
    have hc3 := Lib.hid hcc
    have ha3 := Lib.hid ((ha2.out.alloc _).trans d3.out)
    clear hrr hcc haa
    go_wp2_with fail
    refine (d_list (d - 1) h2.out g cs s3 _ _ _ 0 4 _ rfl rfl (by decide) (by decide) (by omega) (by omega) (by omega) hc3.out).mono ?_
    rintro e w4 ⟨b4, m4, c4, ps4, s4, rfl, hmm, hmb4, hoo, hgg, hss, hrr, hcc, haa⟩
    have d4 := Lib.hid haa
    have o4 := Lib.hid (hoo.lower ha3.out.size)
    have q4 := Lib.hid hrr
    have g4 := Lib.hid hgg
    have hm4 := Lib.hid hmm
    have hs4 := Lib.hid hss
    have hc4 := Lib.hid hcc
    have ha4 := Lib.hid (ha3.out.trans d4.out)
    clear hrr hcc haa hmm hoo hgg hss
    go_wp2_with fail
    refine (d_make _ 8 0 t3 ⟨#[]⟩ ps4 _ (by first | decide | omega) (by decide) ht3 (by decide) (o4.out.parts g4.out (by have := hs4.out; omega)) g4.out (by have := hs4.out; omega) (fun h => by first | exact absurd h (by decide) | (rw [hm4.out]; omega)) (by rw [hm4.out]; omega)).mono ?_
    rintro e w5 hm
    have hfin := Lib.hid (RetG.over hm rfl (hr3.out.trans (runD_up q4.out)) hin.out (by decide) (hc4.out) (ha4.out))
    obtain ⟨vm, lm, rfl, _⟩ := hm
    go_wp2_with fail
    go_ret
    exact hfin.out
  | 5, _, hr2 =>
    have hr2 := Lib.hid (show runD cs (exprG (d + 1)) s = runD cs ((lvalueG (exprG (d - 1)) (exprG (d - 2))).up) s2 from hr2.out)
    go_wp2_with fail
    refine (d_lvalue d h2.out h3.out g cs s2 _ _ (by omega) (by omega) (by omega) hc2.out).mono ?_
    rintro e w3 ⟨b3, n3, c3, l3, s3, rfl, hn3, hll, hoo, hgg, hrr, hcc, haa⟩
    have d3 := Lib.hid haa
    have o3 := Lib.hid (hoo.lower ha2.out.size)
    have q3 := Lib.hid hrr
    have g3 := Lib.hid hgg
    have hl3 := Lib.hid hll
    have hc3 := Lib.hid hcc
    have ha3 := Lib.hid (ha2.out.trans d3.out)
    clear hrr hcc haa hll hoo hgg
    go_wp2_with fail
    refine (d_make _ 9 _ ⟨#[]⟩ ⟨#[]⟩ [(.slice (some ⟨b3, 0, none⟩) n3 c3, l3)] _ (by first | decide | omega) (by omega) (by decide) (by decide) (PartsIn.one o3.out g3.out (by rw [hl3.out]; omega)) (fun p hp => by obtain rfl := List.mem_singleton.1 hp; exact g3.out) (by simp only [sumLen, hl3.out]; omega) (fun h => by first | exact absurd h (by decide) | (show 1 ≤ 2; decide)) (by show 1 ≤ 8; decide)).mono ?_
    rintro e w4 hm
    have hfin := Lib.hid (RetG.over hm (show sumLen [(.slice (some ⟨b3, 0, none⟩) n3 c3, l3)] + 1 = _ by simp only [sumLen, hl3.out]; try omega) (hr2.out.trans (runD_up q3.out)) hin.out (by decide) (hc3.out.alloc _) (ha3.out.alloc _))
    obtain ⟨vm, lm, rfl, _⟩ := hm
    go_wp2_with fail
    go_ret
    exact hfin.out
  | 6, _, hr2 =>
    have hr2 := Lib.hid (show runD cs (exprG (d + 1)) s = runD cs ((lvalueG (exprG (d - 1)) (exprG (d - 2))).up) s2 from hr2.out)
    go_wp2_with fail
    refine (d_lvalue d h2.out h3.out g cs s2 _ _ (by omega) (by omega) (by omega) hc2.out).mono ?_
    rintro e w3 ⟨b3, n3, c3, l3, s3, rfl, hn3, hll, hoo, hgg, hrr, hcc, haa⟩
    have d3 := Lib.hid haa
    have o3 := Lib.hid (hoo.lower ha2.out.size)
    have q3 := Lib.hid hrr
    have g3 := Lib.hid hgg
    have hl3 := Lib.hid hll
    have hc3 := Lib.hid hcc
    have ha3 := Lib.hid (ha2.out.trans d3.out)
    clear hrr hcc haa hll hoo hgg
    go_wp2_with fail
    refine (d_make _ 10 _ ⟨#[]⟩ ⟨#[]⟩ [(.slice (some ⟨b3, 0, none⟩) n3 c3, l3)] _ (by first | decide | omega) (by omega) (by decide) (by decide) (PartsIn.one o3.out g3.out (by rw [hl3.out]; omega)) (fun p hp => by obtain rfl := List.mem_singleton.1 hp; exact g3.out) (by simp only [sumLen, hl3.out]; omega) (fun h => by first | exact absurd h (by decide) | (show 1 ≤ 2; decide)) (by show 1 ≤ 8; decide)).mono ?_
    rintro e w4 hm
    have hfin := Lib.hid (RetG.over hm (show sumLen [(.slice (some ⟨b3, 0, none⟩) n3 c3, l3)] + 1 = _ by simp only [sumLen, hl3.out]; try omega) (hr2.out.trans (runD_up q3.out)) hin.out (by decide) (hc3.out.alloc _) (ha3.out.alloc _))
    obtain ⟨vm, lm, rfl, _⟩ := hm
    go_wp2_with fail
    go_ret
    exact hfin.out
  | 7, _, hr2 =>
    have hr2 := Lib.hid (show runD cs (exprG (d + 1)) s = runD cs (.draw 3 fun _ => (exprG d).up) s2 from hr2.out)
    go_wp2_with fail
    go_wp2_with fail
    refine (g_pickInt g cs s2 _ _ _ unL _ rfl (by decide) (by decide) (by have := ha2.out.size; omega) (NumsAt.made _ unL 3) unL_100 (hc2.out.alloc _)).mono ?_
    rintro e w3 ⟨v, y3, s3, rfl, ⟨z3, rfl, hz3, hzm3⟩, hy3, hrr, hcc, haa⟩
    have d3 := Lib.hid haa
    have hr3 := Lib.hid (hr2.out.trans (show _ = runD cs ((exprG d).up) s3 from hrr _))
    have hc3 := Lib.hid hcc
    have ha3 := Lib.hid ((ha2.out.alloc _).trans d3.out)
    clear hrr hcc haa
    go_wp2_with fail
    refine (h1.out (deep - 1) g cs s3 _ (by omega) (by omega) (by omega) hc3.out).mono ?_
    rintro e w4 ⟨b4, n4, c4, l4, s4, rfl, hn4, hll, hoo, hgg, hrr, hcc, haa⟩
    have d4 := Lib.hid haa
    have o4 := Lib.hid (hoo.lower ha3.out.size)
    have q4 := Lib.hid hrr
    have g4 := Lib.hid hgg
    have hl4 := Lib.hid hll
    have hc4 := Lib.hid hcc
    have ha4 := Lib.hid (ha3.out.trans d4.out)
    clear hrr hcc haa hll hoo hgg
    go_wp2_with fail
    refine (d_make _ 11 _ ⟨#[]⟩ ⟨#[]⟩ [(.slice (some ⟨b4, 0, none⟩) n4 c4, l4)] _ (by first | decide | omega) (by omega) (by decide) (by decide) (PartsIn.one o4.out g4.out (by rw [hl4.out]; omega)) (fun p hp => by obtain rfl := List.mem_singleton.1 hp; exact g4.out) (by simp only [sumLen, hl4.out]; omega) (fun h => by first | exact absurd h (by decide) | (show 1 ≤ 2; decide)) (by show 1 ≤ 8; decide)).mono ?_
    rintro e w5 hm
    have hfin := Lib.hid (RetG.over hm (show sumLen [(.slice (some ⟨b4, 0, none⟩) n4 c4, l4)] + 1 = _ by simp only [sumLen, hl4.out]; try omega) (hr3.out.trans (runD_up q4.out)) hin.out (by decide) (hc4.out.alloc _) (ha4.out.alloc _))
    obtain ⟨vm, lm, rfl, _⟩ := hm
    go_wp2_with fail
    go_ret
    exact hfin.out
  | 8, _, hr2 =>
    have hr2 := Lib.hid (show runD cs (exprG (d + 1)) s = runD cs (.draw 3 fun _ => (exprG d).up) s2 from hr2.out)
    go_wp2_with fail
    go_wp2_with fail
    refine (g_pickInt g cs s2 _ _ _ unL _ rfl (by decide) (by decide) (by have := ha2.out.size; omega) (NumsAt.made _ unL 3) unL_100 (hc2.out.alloc _)).mono ?_
    rintro e w3 ⟨v, y3, s3, rfl, ⟨z3, rfl, hz3, hzm3⟩, hy3, hrr, hcc, haa⟩
    have d3 := Lib.hid haa
    have hr3 := Lib.hid (hr2.out.trans (show _ = runD cs ((exprG d).up) s3 from hrr _))
    have hc3 := Lib.hid hcc
    have ha3 := Lib.hid ((ha2.out.alloc _).trans d3.out)
    clear hrr hcc haa
    go_wp2_with fail
    refine (h1.out (deep - 1) g cs s3 _ (by omega) (by omega) (by omega) hc3.out).mono ?_
    rintro e w4 ⟨b4, n4, c4, l4, s4, rfl, hn4, hll, hoo, hgg, hrr, hcc, haa⟩
    have d4 := Lib.hid haa
    have o4 := Lib.hid (hoo.lower ha3.out.size)
    have q4 := Lib.hid hrr
    have g4 := Lib.hid hgg
    have hl4 := Lib.hid hll
    have hc4 := Lib.hid hcc
    have ha4 := Lib.hid (ha3.out.trans d4.out)
    clear hrr hcc haa hll hoo hgg
    go_wp2_with fail
    refine (d_make _ 11 _ ⟨#[]⟩ ⟨#[]⟩ [(.slice (some ⟨b4, 0, none⟩) n4 c4, l4)] _ (by first | decide | omega) (by omega) (by decide) (by decide) (PartsIn.one o4.out g4.out (by rw [hl4.out]; omega)) (fun p hp => by obtain rfl := List.mem_singleton.1 hp; exact g4.out) (by simp only [sumLen, hl4.out]; omega) (fun h => by first | exact absurd h (by decide) | (show 1 ≤ 2; decide)) (by show 1 ≤ 8; decide)).mono ?_
    rintro e w5 hm
    have hfin := Lib.hid (RetG.over hm (show sumLen [(.slice (some ⟨b4, 0, none⟩) n4 c4, l4)] + 1 = _ by simp only [sumLen, hl4.out]; try omega) (hr3.out.trans (runD_up q4.out)) hin.out (by decide) (hc4.out.alloc _) (ha4.out.alloc _))
    obtain ⟨vm, lm, rfl, _⟩ := hm
    go_wp2_with fail
    go_ret
    exact hfin.out
  | 9, _, hr2 =>
    have hr2 := Lib.hid (show runD cs (exprG (d + 1)) s = runD cs (.draw 11 fun _ => (listG (exprG d) 1 2).up) s2 from hr2.out)
    go_wp2_with fail
    refine (g_word g cs s2 _ hc2.out).mono ?_
    rintro e w3 ⟨v, y3, s3, rfl, ⟨t3, rfl, ht3⟩, hy3, hrr, hcc, haa⟩
    have d3 := Lib.hid haa
    have hr3 := Lib.hid (hr2.out.trans (show _ = runD cs ((listG (exprG d) 1 2).up) s3 from hrr _))
    have hc3 := Lib.hid hcc
    have ha3 := Lib.hid (ha2.out.trans d3.out)
    clear hrr hcc haa
    go_wp2_with fail
    refine (d_list d h1.out g cs s3 _ _ _ 1 2 _ rfl rfl (by decide) (by decide) (by omega) (by omega) (by omega) hc3.out).mono ?_
    rintro e w4 ⟨b4, m4, c4, ps4, s4, rfl, hmm, hmb4, hoo, hgg, hss, hrr, hcc, haa⟩
    have d4 := Lib.hid haa
    have o4 := Lib.hid (hoo.lower ha3.out.size)
    have q4 := Lib.hid hrr
    have g4 := Lib.hid hgg
    have hm4 := Lib.hid hmm
    have hs4 := Lib.hid hss
    have hc4 := Lib.hid hcc
    have ha4 := Lib.hid (ha3.out.trans d4.out)
    clear hrr hcc haa hmm hoo hgg hss
    go_wp2_with fail
    refine (d_make _ 13 0 t3 ⟨#[]⟩ ps4 _ (by first | decide | omega) (by decide) ht3 (by decide) (o4.out.parts g4.out (by have := hs4.out; omega)) g4.out (by have := hs4.out; omega) (fun h => by first | exact absurd h (by decide) | (rw [hm4.out]; omega)) (by rw [hm4.out]; omega)).mono ?_
    rintro e w5 hm
    have hfin := Lib.hid (RetG.over hm rfl (hr3.out.trans (runD_up q4.out)) hin.out (by decide) (hc4.out) (ha4.out))
    obtain ⟨vm, lm, rfl, _⟩ := hm
    go_wp2_with fail
    go_ret
    exact hfin.out
  | 10, _, hr2 =>
    have hr2 := Lib.hid (show runD cs (exprG (d + 1)) s = runD cs ((((exprG d).plus (exprG d)).plus (exprG d)).up) s2 from hr2.out)
    go_wp2_with fail
    refine (h1.out (deep - 1) g cs s2 _ (by omega) (by omega) (by omega) hc2.out).mono ?_
    rintro e w3 ⟨b3, n3, c3, l3, s3, rfl, hn3, hll, hoo, hgg, hrr, hcc, haa⟩
    have d3 := Lib.hid haa
    have o3 := Lib.hid (hoo.lower ha2.out.size)
    have q3 := Lib.hid hrr
    have g3 := Lib.hid hgg
    have hl3 := Lib.hid hll
    have hc3 := Lib.hid hcc
    have ha3 := Lib.hid (ha2.out.trans d3.out)
    clear hrr hcc haa hll hoo hgg
    go_wp2_with fail
    refine (h1.out (deep - 1) g cs s3 _ (by omega) (by omega) (by omega) hc3.out).mono ?_
    rintro e w4 ⟨b4, n4, c4, l4, s4, rfl, hn4, hll, hoo, hgg, hrr, hcc, haa⟩
    have d4 := Lib.hid haa
    have o3 := Lib.hid (o3.out.away d4.out hlt)
    have o4 := Lib.hid (hoo.lower ha3.out.size)
    have q4 := Lib.hid hrr
    have g4 := Lib.hid hgg
    have hl4 := Lib.hid hll
    have hc4 := Lib.hid hcc
    have ha4 := Lib.hid (ha3.out.trans d4.out)
    clear hrr hcc haa hll hoo hgg
    go_wp2_with fail
    refine (h1.out (deep - 1) g cs s4 _ (by omega) (by omega) (by omega) hc4.out).mono ?_
    rintro e w5 ⟨b5, n5, c5, l5, s5, rfl, hn5, hll, hoo, hgg, hrr, hcc, haa⟩
    have d5 := Lib.hid haa
    have o3 := Lib.hid (o3.out.away d5.out hlt)
    have o4 := Lib.hid (o4.out.away d5.out hlt)
    have o5 := Lib.hid (hoo.lower ha4.out.size)
    have q5 := Lib.hid hrr
    have g5 := Lib.hid hgg
    have hl5 := Lib.hid hll
    have hc5 := Lib.hid hcc
    have ha5 := Lib.hid (ha4.out.trans d5.out)
    clear hrr hcc haa hll hoo hgg
    go_wp2_with fail
    refine (d_make _ 14 0 ⟨#[]⟩ ⟨#[]⟩ [(.slice (some ⟨b3, 0, none⟩) n3 c3, l3), (.slice (some ⟨b4, 0, none⟩) n4 c4, l4), (.slice (some ⟨b5, 0, none⟩) n5 c5, l5)] _ (by first | decide | omega) (by decide) (by decide) (by decide) (PartsIn.three o3.out o4.out o5.out g3.out g4.out g5.out (by rw [hl3.out]; omega) (by rw [hl4.out]; omega) (by rw [hl5.out]; omega)) (fun p hp => by simp only [List.mem_cons, List.not_mem_nil, or_false] at hp; rcases hp with rfl | rfl | rfl; exact g3.out; exact g4.out; exact g5.out) (by simp only [sumLen, hl3.out, hl4.out, hl5.out]; omega) (fun h => by first | exact absurd h (by decide) | (show 3 ≤ 2; decide)) (by show 3 ≤ 8; decide)).mono ?_
    rintro e w6 hm
    have hfin := Lib.hid (RetG.over hm (show sumLen [(.slice (some ⟨b3, 0, none⟩) n3 c3, l3), (.slice (some ⟨b4, 0, none⟩) n4 c4, l4), (.slice (some ⟨b5, 0, none⟩) n5 c5, l5)] + 1 = _ by simp only [sumLen, hl3.out, hl4.out, hl5.out]; try omega) (hr2.out.trans (runD_up (runD_plus (runD_plus q3.out q4.out) q5.out))) hin.out (by decide) (hc5.out.alloc _) (ha5.out.alloc _))
    obtain ⟨vm, lm, rfl, _⟩ := hm
    go_wp2_with fail
    go_ret
    exact hfin.out
  | 11, _, hr2 =>
    have hr2 := Lib.hid (show runD cs (exprG (d + 1)) s = runD cs (.draw 3 fun _ => ((lvalueG (exprG (d - 1)) (exprG (d - 2))).plus (exprG d)).up) s2 from hr2.out)
    go_wp2_with fail
    go_wp2_with fail
    refine (g_pickInt g cs s2 _ _ _ asL _ rfl (by decide) (by decide) (by have := ha2.out.size; omega) (NumsAt.made _ asL 3) asL_100 (hc2.out.alloc _)).mono ?_
    rintro e w3 ⟨v, y3, s3, rfl, ⟨z3, rfl, hz3, hzm3⟩, hy3, hrr, hcc, haa⟩
    have d3 := Lib.hid haa
    have hr3 := Lib.hid (hr2.out.trans (show _ = runD cs (((lvalueG (exprG (d - 1)) (exprG (d - 2))).plus (exprG d)).up) s3 from hrr _))
    have hc3 := Lib.hid hcc
    have ha3 := Lib.hid ((ha2.out.alloc _).trans d3.out)
    clear hrr hcc haa
    go_wp2_with fail
    refine (d_lvalue d h2.out h3.out g cs s3 _ _ (by omega) (by omega) (by omega) hc3.out).mono ?_
    rintro e w4 ⟨b4, n4, c4, l4, s4, rfl, hn4, hll, hoo, hgg, hrr, hcc, haa⟩
    have d4 := Lib.hid haa
    have o4 := Lib.hid (hoo.lower ha3.out.size)
    have q4 := Lib.hid hrr
    have g4 := Lib.hid hgg
    have hl4 := Lib.hid hll
    have hc4 := Lib.hid hcc
    have ha4 := Lib.hid (ha3.out.trans d4.out)
    clear hrr hcc haa hll hoo hgg
    go_wp2_with fail
    refine (h1.out (deep - 1) g cs s4 _ (by omega) (by omega) (by omega) hc4.out).mono ?_
    rintro e w5 ⟨b5, n5, c5, l5, s5, rfl, hn5, hll, hoo, hgg, hrr, hcc, haa⟩
    have d5 := Lib.hid haa
    have o4 := Lib.hid (o4.out.away d5.out hlt)
    have o5 := Lib.hid (hoo.lower ha4.out.size)
    have q5 := Lib.hid hrr
    have g5 := Lib.hid hgg
    have hl5 := Lib.hid hll
    have hc5 := Lib.hid hcc
    have ha5 := Lib.hid (ha4.out.trans d5.out)
    clear hrr hcc haa hll hoo hgg
    go_wp2_with fail
    refine (d_make _ 15 _ ⟨#[]⟩ ⟨#[]⟩ [(.slice (some ⟨b4, 0, none⟩) n4 c4, l4), (.slice (some ⟨b5, 0, none⟩) n5 c5, l5)] _ (by first | decide | omega) (by omega) (by decide) (by decide) (PartsIn.two o4.out o5.out g4.out g5.out (by rw [hl4.out]; omega) (by rw [hl5.out]; omega)) (fun p hp => by simp only [List.mem_cons, List.not_mem_nil, or_false] at hp; rcases hp with rfl | rfl; exact g4.out; exact g5.out) (by simp only [sumLen, hl4.out, hl5.out]; omega) (fun h => by first | exact absurd h (by decide) | (show 2 ≤ 2; decide)) (by show 2 ≤ 8; decide)).mono ?_
    rintro e w6 hm
    have hfin := Lib.hid (RetG.over hm (show sumLen [(.slice (some ⟨b4, 0, none⟩) n4 c4, l4), (.slice (some ⟨b5, 0, none⟩) n5 c5, l5)] + 1 = _ by simp only [sumLen, hl4.out, hl5.out]; try omega) (hr3.out.trans (runD_up (runD_plus q4.out q5.out))) hin.out (by decide) (hc5.out.alloc _) (ha5.out.alloc _))
    obtain ⟨vm, lm, rfl, _⟩ := hm
    go_wp2_with fail
    go_ret
    exact hfin.out
  | x + 12, _, hr2 =>
    have hr2 := Lib.hid (show runD cs (exprG (d + 1)) s = runD cs (.draw 21 fun _ => ((exprG d).plus (exprG d)).up) s2 from hr2.out)
    go_wp2_with fail
    refine (g_binop g cs s2 _ hc2.out).mono ?_
    rintro e w3 ⟨v, y3, s3, rfl, ⟨z3, rfl, hz3, hzm3⟩, hy3, hrr, hcc, haa⟩
    have d3 := Lib.hid haa
    have hr3 := Lib.hid (hr2.out.trans (show _ = runD cs (((exprG d).plus (exprG d)).up) s3 from hrr _))
    have hc3 := Lib.hid hcc
    have ha3 := Lib.hid (ha2.out.trans d3.out)
    clear hrr hcc haa
    go_wp2_with fail
    refine (h1.out (deep - 1) g cs s3 _ (by omega) (by omega) (by omega) hc3.out).mono ?_
    rintro e w4 ⟨b4, n4, c4, l4, s4, rfl, hn4, hll, hoo, hgg, hrr, hcc, haa⟩
    have d4 := Lib.hid haa
    have o4 := Lib.hid (hoo.lower ha3.out.size)
    have q4 := Lib.hid hrr
    have g4 := Lib.hid hgg
    have hl4 := Lib.hid hll
    have hc4 := Lib.hid hcc
    have ha4 := Lib.hid (ha3.out.trans d4.out)
    clear hrr hcc haa hll hoo hgg
    go_wp2_with fail
    refine (h1.out (deep - 1) g cs s4 _ (by omega) (by omega) (by omega) hc4.out).mono ?_
    rintro e w5 ⟨b5, n5, c5, l5, s5, rfl, hn5, hll, hoo, hgg, hrr, hcc, haa⟩
    have d5 := Lib.hid haa
    have o4 := Lib.hid (o4.out.away d5.out hlt)
    have o5 := Lib.hid (hoo.lower ha4.out.size)
    have q5 := Lib.hid hrr
    have g5 := Lib.hid hgg
    have hl5 := Lib.hid hll
    have hc5 := Lib.hid hcc
    have ha5 := Lib.hid (ha4.out.trans d5.out)
    clear hrr hcc haa hll hoo hgg
    go_wp2_with fail
    refine (d_make _ 12 _ ⟨#[]⟩ ⟨#[]⟩ [(.slice (some ⟨b4, 0, none⟩) n4 c4, l4), (.slice (some ⟨b5, 0, none⟩) n5 c5, l5)] _ (by first | decide | omega) (by omega) (by decide) (by decide) (PartsIn.two o4.out o5.out g4.out g5.out (by rw [hl4.out]; omega) (by rw [hl5.out]; omega)) (fun p hp => by simp only [List.mem_cons, List.not_mem_nil, or_false] at hp; rcases hp with rfl | rfl; exact g4.out; exact g5.out) (by simp only [sumLen, hl4.out, hl5.out]; omega) (fun h => by first | exact absurd h (by decide) | (show 2 ≤ 2; decide)) (by show 2 ≤ 8; decide)).mono ?_
    rintro e w6 hm
    have hfin := Lib.hid (RetG.over hm (show sumLen [(.slice (some ⟨b4, 0, none⟩) n4 c4, l4), (.slice (some ⟨b5, 0, none⟩) n5 c5, l5)] + 1 = _ by simp only [sumLen, hl4.out, hl5.out]; try omega) (hr3.out.trans (runD_up (runD_plus q4.out q5.out))) hin.out (by decide) (hc5.out.alloc _) (ha5.out.alloc _))
    obtain ⟨vm, lm, rfl, _⟩ := hm
    go_wp2_with fail
    go_ret
    exact hfin.out
theorem d_expr : ∀ d, d ≤ 4 → ExprAt d
  | 0, _ => d_expr0
  | 1, _ => d_exprS 0 (by decide) d_expr0 d_expr0 d_expr0
  | 2, _ => d_exprS 1 (by decide) (d_expr 1 (by decide)) d_expr0 d_expr0
  | 3, _ => d_exprS 2 (by decide) (d_expr 2 (by decide)) (d_expr 1 (by decide)) d_expr0
  | 4, _ => d_exprS 3 (by decide) (d_expr 3 (by decide)) (d_expr 2 (by decide)) (d_expr 1 (by decide))
  | d + 5, h => by omega
end Go.Proofs.YtlabmboedjnpmaaGreatDoor
