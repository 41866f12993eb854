/- Draws of blocks and statements (walks; printed by gen_draws.py). -/
import Derived.Test.YtlabmboedjnpmaaGreatDoorGenS
namespace Go.Proofs.YtlabmboedjnpmaaGreatDoor
open Go.RowKit
set_option linter.unusedVariables false

set_option maxRecDepth 100000 in
set_option maxHeartbeats 4000000 in
theorem d_maybe (d : Nat) (h1 : ExprAt d) (deep : Int) (g : Nat) (cs : List UInt8) (s : Nat × Int) (w : World) (hd : deep.toNat = d) (hd1 : -10 ≤ deep) (hd2 : deep ≤ 10) (hc : Cur w g cs s) : Calls Tryz.prog 78 #[.pointer (some ⟨g, 0, none⟩), .int .i64 deep] w (RetG w g cs (maybeG (exprG d)) s) := by
  have hlt := hc.lt
  have hc0 := Lib.hid hc
  have ha0 := Lib.hid (Away.refl g w)
  have h1 := Lib.hid h1
  clear hc
  go_enter Tryz.func78, Tryz.ntmps78
  go_wp2_with fail
  refine (g_once g cs s 3 _ (by decide) (by decide) hc0.out).mono ?_
  rintro e w1 ⟨v, y1, s1, rfl, rfl, hy1, hrr, hcc, haa⟩
  have d1 := Lib.hid haa
  have hr1 := Lib.hid (show runD cs (maybeG (exprG d)) s = runD cs (maybeK (exprG d) y1) s1 from hrr _)
  have hc1 := Lib.hid hcc
  have ha1 := Lib.hid (ha0.out.trans d1.out)
  clear hrr hcc haa
  match y1, hy1, hr1 with
  | 0, _, hr1 =>
    have hr1 := Lib.hid (show runD cs (maybeG (exprG d)) s = runD cs (.ret 1) s1 from hr1.out)
    have hfin := Lib.hid (RetG.one (k := 16) (o := 0) (t := ⟨#[]⟩) (u := ⟨#[]⟩) (by first | decide | omega) (by decide) (by decide) (by decide) hr1.out hc1.out ha1.out)
    go_wp2_with fail
    go_ret
    exact hfin.out
  | y1 + 1, _, hr1 =>
    have hr1 := Lib.hid (show runD cs (maybeG (exprG d)) s = runD cs (exprG d) s1 from hr1.out)
    go_wp2_with fail
    refine (h1.out deep g cs s1 _ (by omega) (by omega) (by omega) hc1.out).mono ?_
    rintro e w2 hm
    have hfin := Lib.hid (RetG.via hm hr1.out ha1.out)
    obtain ⟨bm, nm, cm, lm, sm, rfl, _⟩ := hm
    go_wp2_with fail
    go_ret
    exact hfin.out
/-- statements of this depth are drawn as the plain draw says -/
def StmtAt (d : Nat) : Prop := ∀ (deep : Int) (g : Nat) (cs : List UInt8) (s : Nat × Int) (w : World), deep.toNat = d → -8 ≤ deep → deep ≤ 2 → Cur w g cs s → Calls Tryz.prog 56 #[.pointer (some ⟨g, 0, none⟩), .int .i64 deep] w (RetG w g cs (stmtsG d) s)
set_option maxRecDepth 100000 in
set_option maxHeartbeats 4000000 in
theorem d_block (d : Nat) (hS : StmtAt d) (deep : Int) (g : Nat) (cs : List UInt8) (s : Nat × Int) (w : World) (hd : deep.toNat = d) (hd1 : -8 ≤ deep) (hd2 : deep ≤ 2) (hc : Cur w g cs s) : Calls Tryz.prog 77 #[.pointer (some ⟨g, 0, none⟩), .int .i64 deep] w (RetG w g cs (blockG (stmtsG d)) s) := by
  have hlt := hc.lt
  have hcH := Lib.hid (hc.alloc (.cells #[] 24))
  have hO0 := Lib.hid (OwnP.start w (Nat.le_refl w.heap.size))
  have hA0 := Lib.hid ((Away.refl g w).alloc (.cells #[] 24))
  have hSH := Lib.hid hS
  have hin := Lib.hid (block_in (stmts_in d))
  clear hc hS
  go_enter Tryz.func77, Tryz.ntmps77
  go_wp2_with fail
  refine (g_below g cs s 3 _ (by decide) (by decide) hcH.out).mono ?_
  rintro e w1 ⟨v, x, s1, rfl, rfl, hx, hrr, hc1, ha1⟩
  have hr1 := Lib.hid (show runD cs (blockG (stmtsG d)) s = runD cs (((stmtsG d).many x).up) s1 from hrr _)
  have hO1 := Lib.hid (hO0.out.away ha1 hlt)
  have hA1 := Lib.hid (hA0.out.trans ha1)
  have hc1 := Lib.hid hc1
  obtain ⟨N0, hN0⟩ : ∃ N0, x = N0 := ⟨_, rfl⟩
  subst hN0
  clear ha1 hrr
  go_wp2_with fail
  go_loopw [5, 6] (fun v xv wr => ∃ (b m cap q : Nat) (ps : List (Value × List PNode)) (s' : Nat × Int), v = .slice (some ⟨b, 0, none⟩) m cap ∧ xv = .int .i64 (q : Int) ∧ m + q = x ∧ Hid (ps.length = m) ∧ Hid (∀ p ∈ ps, GoodT p.2 ∧ p.2.length ≤ 1000) ∧ Hid (OwnP wr w.heap.size (.slice (some ⟨b, 0, none⟩) m cap) ps) ∧ Hid (runD cs ((stmtsG d).many x) s1 = (sumLen ps + (runD cs ((stmtsG d).many q) s').1, (runD cs ((stmtsG d).many q) s').2)) ∧ Hid (Cur wr g cs s') ∧ Hid (Away g w wr)) (fun _ x _ => (intOf x).toNat)
  case atStart => exact ⟨_, 0, 0, x, [], s1, rfl, rfl, by omega, rfl, (fun p h => (List.not_mem_nil h).elim), hO1, by show _ = _; simp [sumLen], hc1, hA1⟩
  case round =>
    obtain ⟨b2, m, cap, q, ps, s3, rfl, rfl, hmq, hpm, hgood, hO, hrun, hc3, hA3⟩ := hrel
    by_cases h0 : q = 0
    · subst h0
      have hsum : Hid (sumLen ps ≤ 5000) := by
        have h1 := sum_all fun p hp => (hgood.out p hp).2
        have h2 := hpm.out
        show _ ≤ _
        omega
      have hgo := Lib.hid (fun (p : Value × List PNode) hp => (hgood.out p hp).1)
      have hmb : m ≤ 4 := by omega
      have hrunE := Lib.hid (hr1.out.trans (runD_up (show runD cs ((stmtsG d).many x) s1 = (sumLen ps, s3) from hrun.out)))
      go_wp2_with fail
      refine (d_make _ 33 0 ⟨#[]⟩ ⟨#[]⟩ ps _ (by decide) (by decide) (by decide) (by decide) (hO.out.parts hgo.out (by have := hsum.out; omega)) hgo.out (by have := hsum.out; omega) (fun h => absurd h (by decide)) (by rw [hpm.out]; omega)).mono ?_
      rintro e w9 hm
      have hfin := Lib.hid (RetG.over hm rfl hrunE.out hin.out (by decide) hc3.out hA3.out)
      obtain ⟨vm, lm, rfl, _⟩ := hm
      go_wp2_with fail
      go_ret
      exact hfin.out
    · obtain ⟨q, rfl⟩ : ∃ p, q = p + 1 := ⟨q - 1, by omega⟩
      go_wp2_with fail
      refine (hSH.out deep g cs s3 _ hd (by omega) (by omega) hc3.out).mono ?_
      rintro e w4 ⟨b4, n4, c4, l4, s4, rfl, hn4, hl4, ho4, hg4, hr4, hc4, ha4⟩
      have hO4 := Lib.hid (hO.out.away ha4 hlt)
      have ho4 := Lib.hid (ho4.lower hA3.out.size)
      have hA4 := Lib.hid (hA3.out.trans ha4)
      have hc4 := Lib.hid hc4
      have hrun4 := Lib.hid (list_next (v := .slice (some ⟨b4, 0, none⟩) n4 c4) hrun.out hl4 hr4)
      have hgood4 := Lib.hid (show ∀ p ∈ ps ++ [(Value.slice (some ⟨b4, 0, none⟩) n4 c4, l4)], GoodT p.2 ∧ p.2.length ≤ 1000 from fun p hp => by
        rcases List.mem_append.1 hp with hp | hp
        · exact hgood.out p hp
        · obtain rfl := List.mem_singleton.1 hp
          exact ⟨hg4, by show l4.length ≤ 1000; omega⟩)
      have hsz4 := hA4.out.size
      clear ha4 hr4 hg4 hl4 hO hrun hgood
      go_wp2_with (at_builtin; refine app_part (by rfl) _ _ (by rfl) w.heap.size _ ps (by rfl) (hO4.out.alloc _) _ 1 (.slice (some ⟨b4, 0, none⟩) n4 c4, l4) (by rfl) (Has.made _ _ _) (ho4.out.alloc _) (by have := hpm.out; omega) (by simp; omega) ?_; intro v' w5 hown hb5 hnn; obtain ⟨g5, cap5, rfl, _, _⟩ := OwnP.form hown hnn; have hown5 := Lib.hid hown; clear hown hnn; rw [List.length_append, hpm.out, show [((Value.slice (some ⟨b4, 0, none⟩) n4 c4), l4)].length = 1 from rfl] at hown5 ⊢)
      go_roundw
      case rel => exact ⟨g5, m + 1, cap5, q, _, s4, rfl, by go_num, by omega, by show _ = _; rw [List.length_append, hpm.out]; rfl, hgood4, hown5, hrun4, (hc4.out.alloc _).keep hb5 hlt, (hA4.out.alloc _).then_below hb5⟩
      case measure => simp [intOf]
set_option maxRecDepth 100000 in
set_option maxHeartbeats 4000000 in
theorem d_stmt0 : StmtAt 0 := by
  intro deep g cs s w hd hd1 hd2 hc
  have hle : deep ≤ 0 := by omega
  have hcH := Lib.hid hc
  clear hc
  go_enter Tryz.func56, Tryz.ntmps56
  go_wp2_with fail
  refine (d_simple 0 d_expr0 d_expr0 deep g cs s _ hd (by omega) (by omega) hcH.out).mono ?_
  rintro e w1 hm
  have hfin := Lib.hid (show RetG w g cs (stmtsG 0) s e w1 from hm)
  obtain ⟨bm, nm, cm, lm, sm, rfl, _⟩ := hm
  go_wp2_with fail
  go_ret
  exact hfin.out
set_option maxRecDepth 100000 in
set_option maxHeartbeats 8000000 in
theorem d_stmt1 : StmtAt 1 := by
  intro deep g cs s w hd hd1 hd2 hc
  obtain rfl : deep = 1 := by omega
  have hS := Lib.hid d_stmt0
  have hlt := hc.lt
  have hc0 := Lib.hid hc
  have ha0 := Lib.hid (Away.refl g w)
  have hin := Lib.hid (show (stmtsG 1).In 453 139 from stmts_in 1)
  clear hd hd1 hd2
  clear hc
  go_enter Tryz.func56, Tryz.ntmps56
  go_wp2_with fail
  refine (g_once g cs s 3 _ (by decide) (by decide) hc0.out).mono ?_
  rintro e w1 ⟨v, y1, s1, rfl, rfl, hy1, hrr, hcc, haa⟩
  have d1 := Lib.hid haa
  have hr1 := Lib.hid (show runD cs (stmtsG 1) s = runD cs (stmtY (simpleG (exprG 1) (exprG 0)) (stmtsG 0) y1) s1 from hrr _)
  have hc1 := Lib.hid hcc
  have ha1 := Lib.hid (ha0.out.trans d1.out)
  clear hrr hcc haa
  match y1, hy1, hr1 with
  | 0, _, hr1 =>
    have hr1 := Lib.hid (show runD cs (stmtsG 1) s = runD cs (.draw 6 (stmtK (stmtsG 0))) s1 from hr1.out)
    go_wp2_with fail
    refine (g_below g cs s1 6 _ (by decide) (by decide) hc1.out).mono ?_
    rintro e w2 ⟨v, y2, s2, rfl, rfl, hy2, hrr, hcc, haa⟩
    have d2 := Lib.hid haa
    have hr2 := Lib.hid (hr1.out.trans (show _ = runD cs (stmtK (stmtsG 0) y2) s2 from hrr _))
    have hc2 := Lib.hid hcc
    have ha2 := Lib.hid (ha1.out.trans d2.out)
    clear hrr hcc haa
    match y2, hy2, hr2 with
    | 0, _, hr2 =>
      have hr2 := Lib.hid (show runD cs (stmtsG 1) s = runD cs ((expr1G.plus (blockG (stmtsG 0))).up) s2 from hr2.out)
      go_wp2_with fail
      refine (d_expr 1 (by decide) 1 g cs s2 _ rfl (by decide) (by decide) hc2.out).mono ?_
      rintro e w3 ⟨b3, n3, c3, l3, s3, rfl, hn3, hll, hoo, hgg, hrr, hcc, haa⟩
      have d3 := Lib.hid haa
      have o3 := Lib.hid (hoo.lower ha2.out.size)
      have q3 := Lib.hid hrr
      have g3 := Lib.hid hgg
      have hl3 := Lib.hid hll
      have hc3 := Lib.hid hcc
      have ha3 := Lib.hid (ha2.out.trans d3.out)
      clear hrr hcc haa hll hoo hgg
      go_wp2_with fail
      refine (d_block 0 hS.out 0 g cs s3 _ rfl (by decide) (by decide) hc3.out).mono ?_
      rintro e w4 ⟨b4, n4, c4, l4, s4, rfl, hn4, hll, hoo, hgg, hrr, hcc, haa⟩
      have d4 := Lib.hid haa
      have o3 := Lib.hid (o3.out.away d4.out hlt)
      have o4 := Lib.hid (hoo.lower ha3.out.size)
      have q4 := Lib.hid hrr
      have g4 := Lib.hid hgg
      have hl4 := Lib.hid hll
      have hc4 := Lib.hid hcc
      have ha4 := Lib.hid (ha3.out.trans d4.out)
      clear hrr hcc haa hll hoo hgg
      go_wp2_with fail
      refine (d_make _ 28 0 ⟨#[]⟩ ⟨#[]⟩ [(.slice (some ⟨b3, 0, none⟩) n3 c3, l3), (.slice (some ⟨b4, 0, none⟩) n4 c4, l4)] _ (by first | decide | omega) (by decide) (by decide) (by decide) (PartsIn.two o3.out o4.out g3.out g4.out (by rw [hl3.out]; omega) (by rw [hl4.out]; omega)) (fun p hp => by simp only [List.mem_cons, List.not_mem_nil, or_false] at hp; rcases hp with rfl | rfl; exact g3.out; exact g4.out) (by simp only [sumLen, hl3.out, hl4.out]; omega) (fun h => by first | exact absurd h (by decide) | (show 2 ≤ 2; decide)) (by show 2 ≤ 8; decide)).mono ?_
      rintro e w5 hm
      have hfin := Lib.hid (RetG.over hm (show sumLen [(.slice (some ⟨b3, 0, none⟩) n3 c3, l3), (.slice (some ⟨b4, 0, none⟩) n4 c4, l4)] + 1 = _ by simp only [sumLen, hl3.out, hl4.out]; try omega) (hr2.out.trans (runD_up (runD_plus q3.out q4.out))) hin.out (by decide) (hc4.out.alloc _) (ha4.out.alloc _))
      obtain ⟨vm, lm, rfl, _⟩ := hm
      go_wp2_with fail
      go_ret
      exact hfin.out
    | 1, _, hr2 =>
      have hr2 := Lib.hid (show runD cs (stmtsG 1) s = runD cs (((expr1G.plus (blockG (stmtsG 0))).plus (blockG (stmtsG 0))).up) s2 from hr2.out)
      go_wp2_with fail
      refine (d_expr 1 (by decide) 1 g cs s2 _ rfl (by decide) (by decide) hc2.out).mono ?_
      rintro e w3 ⟨b3, n3, c3, l3, s3, rfl, hn3, hll, hoo, hgg, hrr, hcc, haa⟩
      have d3 := Lib.hid haa
      have o3 := Lib.hid (hoo.lower ha2.out.size)
      have q3 := Lib.hid hrr
      have g3 := Lib.hid hgg
      have hl3 := Lib.hid hll
      have hc3 := Lib.hid hcc
      have ha3 := Lib.hid (ha2.out.trans d3.out)
      clear hrr hcc haa hll hoo hgg
      go_wp2_with fail
      refine (d_block 0 hS.out 0 g cs s3 _ rfl (by decide) (by decide) hc3.out).mono ?_
      rintro e w4 ⟨b4, n4, c4, l4, s4, rfl, hn4, hll, hoo, hgg, hrr, hcc, haa⟩
      have d4 := Lib.hid haa
      have o3 := Lib.hid (o3.out.away d4.out hlt)
      have o4 := Lib.hid (hoo.lower ha3.out.size)
      have q4 := Lib.hid hrr
      have g4 := Lib.hid hgg
      have hl4 := Lib.hid hll
      have hc4 := Lib.hid hcc
      have ha4 := Lib.hid (ha3.out.trans d4.out)
      clear hrr hcc haa hll hoo hgg
      go_wp2_with fail
      refine (d_block 0 hS.out 0 g cs s4 _ rfl (by decide) (by decide) hc4.out).mono ?_
      rintro e w5 ⟨b5, n5, c5, l5, s5, rfl, hn5, hll, hoo, hgg, hrr, hcc, haa⟩
      have d5 := Lib.hid haa
      have o3 := Lib.hid (o3.out.away d5.out hlt)
      have o4 := Lib.hid (o4.out.away d5.out hlt)
      have o5 := Lib.hid (hoo.lower ha4.out.size)
      have q5 := Lib.hid hrr
      have g5 := Lib.hid hgg
      have hl5 := Lib.hid hll
      have hc5 := Lib.hid hcc
      have ha5 := Lib.hid (ha4.out.trans d5.out)
      clear hrr hcc haa hll hoo hgg
      go_wp2_with fail
      refine (d_make _ 28 0 ⟨#[]⟩ ⟨#[]⟩ [(.slice (some ⟨b3, 0, none⟩) n3 c3, l3), (.slice (some ⟨b4, 0, none⟩) n4 c4, l4), (.slice (some ⟨b5, 0, none⟩) n5 c5, l5)] _ (by first | decide | omega) (by decide) (by decide) (by decide) (PartsIn.three o3.out o4.out o5.out g3.out g4.out g5.out (by rw [hl3.out]; omega) (by rw [hl4.out]; omega) (by rw [hl5.out]; omega)) (fun p hp => by simp only [List.mem_cons, List.not_mem_nil, or_false] at hp; rcases hp with rfl | rfl | rfl; exact g3.out; exact g4.out; exact g5.out) (by simp only [sumLen, hl3.out, hl4.out, hl5.out]; omega) (fun h => by first | exact absurd h (by decide) | (show 3 ≤ 2; decide)) (by show 3 ≤ 8; decide)).mono ?_
      rintro e w6 hm
      have hfin := Lib.hid (RetG.over hm (show sumLen [(.slice (some ⟨b3, 0, none⟩) n3 c3, l3), (.slice (some ⟨b4, 0, none⟩) n4 c4, l4), (.slice (some ⟨b5, 0, none⟩) n5 c5, l5)] + 1 = _ by simp only [sumLen, hl3.out, hl4.out, hl5.out]; try omega) (hr2.out.trans (runD_up (runD_plus (runD_plus q3.out q4.out) q5.out))) hin.out (by decide) (hc5.out.alloc _) (ha5.out.alloc _))
      obtain ⟨vm, lm, rfl, _⟩ := hm
      go_wp2_with fail
      go_ret
      exact hfin.out
    | 2, _, hr2 =>
      have hr2 := Lib.hid (show runD cs (stmtsG 1) s = runD cs ((expr1G.plus (blockG (stmtsG 0))).up) s2 from hr2.out)
      go_wp2_with fail
      refine (d_expr 1 (by decide) 1 g cs s2 _ rfl (by decide) (by decide) hc2.out).mono ?_
      rintro e w3 ⟨b3, n3, c3, l3, s3, rfl, hn3, hll, hoo, hgg, hrr, hcc, haa⟩
      have d3 := Lib.hid haa
      have o3 := Lib.hid (hoo.lower ha2.out.size)
      have q3 := Lib.hid hrr
      have g3 := Lib.hid hgg
      have hl3 := Lib.hid hll
      have hc3 := Lib.hid hcc
      have ha3 := Lib.hid (ha2.out.trans d3.out)
      clear hrr hcc haa hll hoo hgg
      go_wp2_with fail
      refine (d_block 0 hS.out 0 g cs s3 _ rfl (by decide) (by decide) hc3.out).mono ?_
      rintro e w4 ⟨b4, n4, c4, l4, s4, rfl, hn4, hll, hoo, hgg, hrr, hcc, haa⟩
      have d4 := Lib.hid haa
      have o3 := Lib.hid (o3.out.away d4.out hlt)
      have o4 := Lib.hid (hoo.lower ha3.out.size)
      have q4 := Lib.hid hrr
      have g4 := Lib.hid hgg
      have hl4 := Lib.hid hll
      have hc4 := Lib.hid hcc
      have ha4 := Lib.hid (ha3.out.trans d4.out)
      clear hrr hcc haa hll hoo hgg
      go_wp2_with fail
      refine (d_make _ 29 0 ⟨#[]⟩ ⟨#[]⟩ [(.slice (some ⟨b3, 0, none⟩) n3 c3, l3), (.slice (some ⟨b4, 0, none⟩) n4 c4, l4)] _ (by first | decide | omega) (by decide) (by decide) (by decide) (PartsIn.two o3.out o4.out g3.out g4.out (by rw [hl3.out]; omega) (by rw [hl4.out]; omega)) (fun p hp => by simp only [List.mem_cons, List.not_mem_nil, or_false] at hp; rcases hp with rfl | rfl; exact g3.out; exact g4.out) (by simp only [sumLen, hl3.out, hl4.out]; omega) (fun h => by first | exact absurd h (by decide) | (show 2 ≤ 2; decide)) (by show 2 ≤ 8; decide)).mono ?_
      rintro e w5 hm
      have hfin := Lib.hid (RetG.over hm (show sumLen [(.slice (some ⟨b3, 0, none⟩) n3 c3, l3), (.slice (some ⟨b4, 0, none⟩) n4 c4, l4)] + 1 = _ by simp only [sumLen, hl3.out, hl4.out]; try omega) (hr2.out.trans (runD_up (runD_plus q3.out q4.out))) hin.out (by decide) (hc4.out.alloc _) (ha4.out.alloc _))
      obtain ⟨vm, lm, rfl, _⟩ := hm
      go_wp2_with fail
      go_ret
      exact hfin.out
    | 3, _, hr2 =>
      have hr2 := Lib.hid (show runD cs (stmtsG 1) s = runD cs (((blockG (stmtsG 0)).plus expr1G).up) s2 from hr2.out)
      go_wp2_with fail
      refine (d_block 0 hS.out 0 g cs s2 _ rfl (by decide) (by decide) hc2.out).mono ?_
      rintro e w3 ⟨b3, n3, c3, l3, s3, rfl, hn3, hll, hoo, hgg, hrr, hcc, haa⟩
      have d3 := Lib.hid haa
      have o3 := Lib.hid (hoo.lower ha2.out.size)
      have q3 := Lib.hid hrr
      have g3 := Lib.hid hgg
      have hl3 := Lib.hid hll
      have hc3 := Lib.hid hcc
      have ha3 := Lib.hid (ha2.out.trans d3.out)
      clear hrr hcc haa hll hoo hgg
      go_wp2_with fail
      refine (d_expr 1 (by decide) 1 g cs s3 _ rfl (by decide) (by decide) hc3.out).mono ?_
      rintro e w4 ⟨b4, n4, c4, l4, s4, rfl, hn4, hll, hoo, hgg, hrr, hcc, haa⟩
      have d4 := Lib.hid haa
      have o3 := Lib.hid (o3.out.away d4.out hlt)
      have o4 := Lib.hid (hoo.lower ha3.out.size)
      have q4 := Lib.hid hrr
      have g4 := Lib.hid hgg
      have hl4 := Lib.hid hll
      have hc4 := Lib.hid hcc
      have ha4 := Lib.hid (ha3.out.trans d4.out)
      clear hrr hcc haa hll hoo hgg
      go_wp2_with fail
      refine (d_make _ 30 0 ⟨#[]⟩ ⟨#[]⟩ [(.slice (some ⟨b3, 0, none⟩) n3 c3, l3), (.slice (some ⟨b4, 0, none⟩) n4 c4, l4)] _ (by first | decide | omega) (by decide) (by decide) (by decide) (PartsIn.two o3.out o4.out g3.out g4.out (by rw [hl3.out]; omega) (by rw [hl4.out]; omega)) (fun p hp => by simp only [List.mem_cons, List.not_mem_nil, or_false] at hp; rcases hp with rfl | rfl; exact g3.out; exact g4.out) (by simp only [sumLen, hl3.out, hl4.out]; omega) (fun h => by first | exact absurd h (by decide) | (show 2 ≤ 2; decide)) (by show 2 ≤ 8; decide)).mono ?_
      rintro e w5 hm
      have hfin := Lib.hid (RetG.over hm (show sumLen [(.slice (some ⟨b3, 0, none⟩) n3 c3, l3), (.slice (some ⟨b4, 0, none⟩) n4 c4, l4)] + 1 = _ by simp only [sumLen, hl3.out, hl4.out]; try omega) (hr2.out.trans (runD_up (runD_plus q3.out q4.out))) hin.out (by decide) (hc4.out.alloc _) (ha4.out.alloc _))
      obtain ⟨vm, lm, rfl, _⟩ := hm
      go_wp2_with fail
      go_ret
      exact hfin.out
    | 4, _, hr2 =>
      have hr2 := Lib.hid (show runD cs (stmtsG 1) s = runD cs (((((maybeG expr2G).plus (maybeG expr1G)).plus (maybeG expr1G)).plus (blockG (stmtsG 0))).up) s2 from hr2.out)
      go_wp2_with fail
      refine (d_maybe 2 (d_expr 2 (by decide)) 2 g cs s2 _ rfl (by decide) (by decide) hc2.out).mono ?_
      rintro e w3 ⟨b3, n3, c3, l3, s3, rfl, hn3, hll, hoo, hgg, hrr, hcc, haa⟩
      have d3 := Lib.hid haa
      have o3 := Lib.hid (hoo.lower ha2.out.size)
      have q3 := Lib.hid hrr
      have g3 := Lib.hid hgg
      have hl3 := Lib.hid hll
      have hc3 := Lib.hid hcc
      have ha3 := Lib.hid (ha2.out.trans d3.out)
      clear hrr hcc haa hll hoo hgg
      go_wp2_with fail
      refine (d_maybe 1 (d_expr 1 (by decide)) 1 g cs s3 _ rfl (by decide) (by decide) hc3.out).mono ?_
      rintro e w4 ⟨b4, n4, c4, l4, s4, rfl, hn4, hll, hoo, hgg, hrr, hcc, haa⟩
      have d4 := Lib.hid haa
      have o3 := Lib.hid (o3.out.away d4.out hlt)
      have o4 := Lib.hid (hoo.lower ha3.out.size)
      have q4 := Lib.hid hrr
      have g4 := Lib.hid hgg
      have hl4 := Lib.hid hll
      have hc4 := Lib.hid hcc
      have ha4 := Lib.hid (ha3.out.trans d4.out)
      clear hrr hcc haa hll hoo hgg
      go_wp2_with fail
      refine (d_maybe 1 (d_expr 1 (by decide)) 1 g cs s4 _ rfl (by decide) (by decide) hc4.out).mono ?_
      rintro e w5 ⟨b5, n5, c5, l5, s5, rfl, hn5, hll, hoo, hgg, hrr, hcc, haa⟩
      have d5 := Lib.hid haa
      have o3 := Lib.hid (o3.out.away d5.out hlt)
      have o4 := Lib.hid (o4.out.away d5.out hlt)
      have o5 := Lib.hid (hoo.lower ha4.out.size)
      have q5 := Lib.hid hrr
      have g5 := Lib.hid hgg
      have hl5 := Lib.hid hll
      have hc5 := Lib.hid hcc
      have ha5 := Lib.hid (ha4.out.trans d5.out)
      clear hrr hcc haa hll hoo hgg
      go_wp2_with fail
      refine (d_block 0 hS.out 0 g cs s5 _ rfl (by decide) (by decide) hc5.out).mono ?_
      rintro e w6 ⟨b6, n6, c6, l6, s6, rfl, hn6, hll, hoo, hgg, hrr, hcc, haa⟩
      have d6 := Lib.hid haa
      have o3 := Lib.hid (o3.out.away d6.out hlt)
      have o4 := Lib.hid (o4.out.away d6.out hlt)
      have o5 := Lib.hid (o5.out.away d6.out hlt)
      have o6 := Lib.hid (hoo.lower ha5.out.size)
      have q6 := Lib.hid hrr
      have g6 := Lib.hid hgg
      have hl6 := Lib.hid hll
      have hc6 := Lib.hid hcc
      have ha6 := Lib.hid (ha5.out.trans d6.out)
      clear hrr hcc haa hll hoo hgg
      go_wp2_with fail
      refine (d_make _ 31 0 ⟨#[]⟩ ⟨#[]⟩ [(.slice (some ⟨b3, 0, none⟩) n3 c3, l3), (.slice (some ⟨b4, 0, none⟩) n4 c4, l4), (.slice (some ⟨b5, 0, none⟩) n5 c5, l5), (.slice (some ⟨b6, 0, none⟩) n6 c6, l6)] _ (by first | decide | omega) (by decide) (by decide) (by decide) (PartsIn.four o3.out o4.out o5.out o6.out g3.out g4.out g5.out g6.out (by rw [hl3.out]; omega) (by rw [hl4.out]; omega) (by rw [hl5.out]; omega) (by rw [hl6.out]; omega)) (fun p hp => by simp only [List.mem_cons, List.not_mem_nil, or_false] at hp; rcases hp with rfl | rfl | rfl | rfl; exact g3.out; exact g4.out; exact g5.out; exact g6.out) (by simp only [sumLen, hl3.out, hl4.out, hl5.out, hl6.out]; omega) (fun h => by first | exact absurd h (by decide) | (show 4 ≤ 2; decide)) (by show 4 ≤ 8; decide)).mono ?_
      rintro e w7 hm
      have hfin := Lib.hid (RetG.over hm (show sumLen [(.slice (some ⟨b3, 0, none⟩) n3 c3, l3), (.slice (some ⟨b4, 0, none⟩) n4 c4, l4), (.slice (some ⟨b5, 0, none⟩) n5 c5, l5), (.slice (some ⟨b6, 0, none⟩) n6 c6, l6)] + 1 = _ by simp only [sumLen, hl3.out, hl4.out, hl5.out, hl6.out]; try omega) (hr2.out.trans (runD_up (runD_plus (runD_plus (runD_plus q3.out q4.out) q5.out) q6.out))) hin.out (by decide) (hc6.out.alloc _) (ha6.out.alloc _))
      obtain ⟨vm, lm, rfl, _⟩ := hm
      go_wp2_with fail
      go_ret
      exact hfin.out
    | y2 + 5, _, hr2 =>
      have hr2 := Lib.hid (show runD cs (stmtsG 1) s = runD cs (.draw 2 (forK (stmtsG 0))) s2 from hr2.out)
      go_wp2_with fail
      refine (g_once g cs s2 2 _ (by decide) (by decide) hc2.out).mono ?_
      rintro e w3 ⟨v, y3, s3, rfl, rfl, hy3, hrr, hcc, haa⟩
      have d3 := Lib.hid haa
      have hr3 := Lib.hid (hr2.out.trans (show _ = runD cs (forK (stmtsG 0) y3) s3 from hrr _))
      have hc3 := Lib.hid hcc
      have ha3 := Lib.hid (ha2.out.trans d3.out)
      clear hrr hcc haa
      match y3, hy3, hr3 with
      | 0, _, hr3 =>
        have hr3 := Lib.hid (show runD cs (stmtsG 1) s = runD cs (blockG (stmtsG 0)) s3 from hr3.out)
        go_wp2_with fail
        refine (d_block 0 hS.out 0 g cs s3 _ rfl (by decide) (by decide) hc3.out).mono ?_
        rintro e w4 hm
        have hfin := Lib.hid (RetG.via hm hr3.out ha3.out)
        obtain ⟨bm, nm, cm, lm, sm, rfl, _⟩ := hm
        go_wp2_with fail
        go_ret
        exact hfin.out
      | y3 + 1, _, hr3 =>
        have hr3 := Lib.hid (show runD cs (stmtsG 1) s = runD cs (.draw 11 fun _ => .draw 11 fun _ => (blockG (stmtsG 0)).up) s3 from hr3.out)
        go_wp2_with fail
        refine (g_word g cs s3 _ hc3.out).mono ?_
        rintro e w4 ⟨v, y4, s4, rfl, ⟨t4, rfl, ht4⟩, hy4, hrr, hcc, haa⟩
        have d4 := Lib.hid haa
        have hr4 := Lib.hid (hr3.out.trans (show _ = runD cs (.draw 11 fun _ => (blockG (stmtsG 0)).up) s4 from hrr _))
        have hc4 := Lib.hid hcc
        have ha4 := Lib.hid (ha3.out.trans d4.out)
        clear hrr hcc haa
        go_wp2_with fail
        refine (g_word g cs s4 _ hc4.out).mono ?_
        rintro e w5 ⟨v, y5, s5, rfl, ⟨t5, rfl, ht5⟩, hy5, hrr, hcc, haa⟩
        have d5 := Lib.hid haa
        have hr5 := Lib.hid (hr4.out.trans (show _ = runD cs ((blockG (stmtsG 0)).up) s5 from hrr _))
        have hc5 := Lib.hid hcc
        have ha5 := Lib.hid (ha4.out.trans d5.out)
        clear hrr hcc haa
        go_wp2_with fail
        refine (d_block 0 hS.out 0 g cs s5 _ rfl (by decide) (by decide) hc5.out).mono ?_
        rintro e w6 ⟨b6, n6, c6, l6, s6, rfl, hn6, hll, hoo, hgg, hrr, hcc, haa⟩
        have d6 := Lib.hid haa
        have o6 := Lib.hid (hoo.lower ha5.out.size)
        have q6 := Lib.hid hrr
        have g6 := Lib.hid hgg
        have hl6 := Lib.hid hll
        have hc6 := Lib.hid hcc
        have ha6 := Lib.hid (ha5.out.trans d6.out)
        clear hrr hcc haa hll hoo hgg
        go_wp2_with fail
        refine (d_make _ 32 0 t4 t5 [(.slice (some ⟨b6, 0, none⟩) n6 c6, l6)] _ (by first | decide | omega) (by decide) ht4 ht5 (PartsIn.one o6.out g6.out (by rw [hl6.out]; omega)) (fun p hp => by obtain rfl := List.mem_singleton.1 hp; exact g6.out) (by simp only [sumLen, hl6.out]; omega) (fun h => by first | exact absurd h (by decide) | (show 1 ≤ 2; decide)) (by show 1 ≤ 8; decide)).mono ?_
        rintro e w7 hm
        have hfin := Lib.hid (RetG.over hm (show sumLen [(.slice (some ⟨b6, 0, none⟩) n6 c6, l6)] + 1 = _ by simp only [sumLen, hl6.out]; try omega) (hr5.out.trans (runD_up q6.out)) hin.out (by decide) (hc6.out.alloc _) (ha6.out.alloc _))
        obtain ⟨vm, lm, rfl, _⟩ := hm
        go_wp2_with fail
        go_ret
        exact hfin.out
  | y1 + 1, _, hr1 =>
    have hr1 := Lib.hid (show runD cs (stmtsG 1) s = runD cs (simpleG (exprG 1) (exprG 0)) s1 from hr1.out)
    go_wp2_with fail
    refine (d_simple 1 (d_expr 1 (by decide)) (d_expr 0 (by decide)) 1 g cs s1 _ rfl (by decide) (by decide) hc1.out).mono ?_
    rintro e w2 hm
    have hfin := Lib.hid (RetG.via hm hr1.out ha1.out)
    obtain ⟨bm, nm, cm, lm, sm, rfl, _⟩ := hm
    go_wp2_with fail
    go_ret
    exact hfin.out
set_option maxRecDepth 100000 in
set_option maxHeartbeats 8000000 in
theorem d_stmt2 : StmtAt 2 := by
  intro deep g cs s w hd hd1 hd2 hc
  obtain rfl : deep = 2 := by omega
  have hS := Lib.hid d_stmt1
  have hlt := hc.lt
  have hc0 := Lib.hid hc
  have ha0 := Lib.hid (Away.refl g w)
  have hin := Lib.hid (show (stmtsG 2).In 453 139 from stmts_in 2)
  clear hd hd1 hd2
  clear hc
  go_enter Tryz.func56, Tryz.ntmps56
  go_wp2_with fail
  refine (g_once g cs s 3 _ (by decide) (by decide) hc0.out).mono ?_
  rintro e w1 ⟨v, y1, s1, rfl, rfl, hy1, hrr, hcc, haa⟩
  have d1 := Lib.hid haa
  have hr1 := Lib.hid (show runD cs (stmtsG 2) s = runD cs (stmtY (simpleG (exprG 2) (exprG 1)) (stmtsG 1) y1) s1 from hrr _)
  have hc1 := Lib.hid hcc
  have ha1 := Lib.hid (ha0.out.trans d1.out)
  clear hrr hcc haa
  match y1, hy1, hr1 with
  | 0, _, hr1 =>
    have hr1 := Lib.hid (show runD cs (stmtsG 2) s = runD cs (.draw 6 (stmtK (stmtsG 1))) s1 from hr1.out)
    go_wp2_with fail
    refine (g_below g cs s1 6 _ (by decide) (by decide) hc1.out).mono ?_
    rintro e w2 ⟨v, y2, s2, rfl, rfl, hy2, hrr, hcc, haa⟩
    have d2 := Lib.hid haa
    have hr2 := Lib.hid (hr1.out.trans (show _ = runD cs (stmtK (stmtsG 1) y2) s2 from hrr _))
    have hc2 := Lib.hid hcc
    have ha2 := Lib.hid (ha1.out.trans d2.out)
    clear hrr hcc haa
    match y2, hy2, hr2 with
    | 0, _, hr2 =>
      have hr2 := Lib.hid (show runD cs (stmtsG 2) s = runD cs ((expr1G.plus (blockG (stmtsG 1))).up) s2 from hr2.out)
      go_wp2_with fail
      refine (d_expr 1 (by decide) 1 g cs s2 _ rfl (by decide) (by decide) hc2.out).mono ?_
      rintro e w3 ⟨b3, n3, c3, l3, s3, rfl, hn3, hll, hoo, hgg, hrr, hcc, haa⟩
      have d3 := Lib.hid haa
      have o3 := Lib.hid (hoo.lower ha2.out.size)
      have q3 := Lib.hid hrr
      have g3 := Lib.hid hgg
      have hl3 := Lib.hid hll
      have hc3 := Lib.hid hcc
      have ha3 := Lib.hid (ha2.out.trans d3.out)
      clear hrr hcc haa hll hoo hgg
      go_wp2_with fail
      refine (d_block 1 hS.out 1 g cs s3 _ rfl (by decide) (by decide) hc3.out).mono ?_
      rintro e w4 ⟨b4, n4, c4, l4, s4, rfl, hn4, hll, hoo, hgg, hrr, hcc, haa⟩
      have d4 := Lib.hid haa
      have o3 := Lib.hid (o3.out.away d4.out hlt)
      have o4 := Lib.hid (hoo.lower ha3.out.size)
      have q4 := Lib.hid hrr
      have g4 := Lib.hid hgg
      have hl4 := Lib.hid hll
      have hc4 := Lib.hid hcc
      have ha4 := Lib.hid (ha3.out.trans d4.out)
      clear hrr hcc haa hll hoo hgg
      go_wp2_with fail
      refine (d_make _ 28 0 ⟨#[]⟩ ⟨#[]⟩ [(.slice (some ⟨b3, 0, none⟩) n3 c3, l3), (.slice (some ⟨b4, 0, none⟩) n4 c4, l4)] _ (by first | decide | omega) (by decide) (by decide) (by decide) (PartsIn.two o3.out o4.out g3.out g4.out (by rw [hl3.out]; omega) (by rw [hl4.out]; omega)) (fun p hp => by simp only [List.mem_cons, List.not_mem_nil, or_false] at hp; rcases hp with rfl | rfl; exact g3.out; exact g4.out) (by simp only [sumLen, hl3.out, hl4.out]; omega) (fun h => by first | exact absurd h (by decide) | (show 2 ≤ 2; decide)) (by show 2 ≤ 8; decide)).mono ?_
      rintro e w5 hm
      have hfin := Lib.hid (RetG.over hm (show sumLen [(.slice (some ⟨b3, 0, none⟩) n3 c3, l3), (.slice (some ⟨b4, 0, none⟩) n4 c4, l4)] + 1 = _ by simp only [sumLen, hl3.out, hl4.out]; try omega) (hr2.out.trans (runD_up (runD_plus q3.out q4.out))) hin.out (by decide) (hc4.out.alloc _) (ha4.out.alloc _))
      obtain ⟨vm, lm, rfl, _⟩ := hm
      go_wp2_with fail
      go_ret
      exact hfin.out
    | 1, _, hr2 =>
      have hr2 := Lib.hid (show runD cs (stmtsG 2) s = runD cs (((expr1G.plus (blockG (stmtsG 1))).plus (blockG (stmtsG 1))).up) s2 from hr2.out)
      go_wp2_with fail
      refine (d_expr 1 (by decide) 1 g cs s2 _ rfl (by decide) (by decide) hc2.out).mono ?_
      rintro e w3 ⟨b3, n3, c3, l3, s3, rfl, hn3, hll, hoo, hgg, hrr, hcc, haa⟩
      have d3 := Lib.hid haa
      have o3 := Lib.hid (hoo.lower ha2.out.size)
      have q3 := Lib.hid hrr
      have g3 := Lib.hid hgg
      have hl3 := Lib.hid hll
      have hc3 := Lib.hid hcc
      have ha3 := Lib.hid (ha2.out.trans d3.out)
      clear hrr hcc haa hll hoo hgg
      go_wp2_with fail
      refine (d_block 1 hS.out 1 g cs s3 _ rfl (by decide) (by decide) hc3.out).mono ?_
      rintro e w4 ⟨b4, n4, c4, l4, s4, rfl, hn4, hll, hoo, hgg, hrr, hcc, haa⟩
      have d4 := Lib.hid haa
      have o3 := Lib.hid (o3.out.away d4.out hlt)
      have o4 := Lib.hid (hoo.lower ha3.out.size)
      have q4 := Lib.hid hrr
      have g4 := Lib.hid hgg
      have hl4 := Lib.hid hll
      have hc4 := Lib.hid hcc
      have ha4 := Lib.hid (ha3.out.trans d4.out)
      clear hrr hcc haa hll hoo hgg
      go_wp2_with fail
      refine (d_block 1 hS.out 1 g cs s4 _ rfl (by decide) (by decide) hc4.out).mono ?_
      rintro e w5 ⟨b5, n5, c5, l5, s5, rfl, hn5, hll, hoo, hgg, hrr, hcc, haa⟩
      have d5 := Lib.hid haa
      have o3 := Lib.hid (o3.out.away d5.out hlt)
      have o4 := Lib.hid (o4.out.away d5.out hlt)
      have o5 := Lib.hid (hoo.lower ha4.out.size)
      have q5 := Lib.hid hrr
      have g5 := Lib.hid hgg
      have hl5 := Lib.hid hll
      have hc5 := Lib.hid hcc
      have ha5 := Lib.hid (ha4.out.trans d5.out)
      clear hrr hcc haa hll hoo hgg
      go_wp2_with fail
      refine (d_make _ 28 0 ⟨#[]⟩ ⟨#[]⟩ [(.slice (some ⟨b3, 0, none⟩) n3 c3, l3), (.slice (some ⟨b4, 0, none⟩) n4 c4, l4), (.slice (some ⟨b5, 0, none⟩) n5 c5, l5)] _ (by first | decide | omega) (by decide) (by decide) (by decide) (PartsIn.three o3.out o4.out o5.out g3.out g4.out g5.out (by rw [hl3.out]; omega) (by rw [hl4.out]; omega) (by rw [hl5.out]; omega)) (fun p hp => by simp only [List.mem_cons, List.not_mem_nil, or_false] at hp; rcases hp with rfl | rfl | rfl; exact g3.out; exact g4.out; exact g5.out) (by simp only [sumLen, hl3.out, hl4.out, hl5.out]; omega) (fun h => by first | exact absurd h (by decide) | (show 3 ≤ 2; decide)) (by show 3 ≤ 8; decide)).mono ?_
      rintro e w6 hm
      have hfin := Lib.hid (RetG.over hm (show sumLen [(.slice (some ⟨b3, 0, none⟩) n3 c3, l3), (.slice (some ⟨b4, 0, none⟩) n4 c4, l4), (.slice (some ⟨b5, 0, none⟩) n5 c5, l5)] + 1 = _ by simp only [sumLen, hl3.out, hl4.out, hl5.out]; try omega) (hr2.out.trans (runD_up (runD_plus (runD_plus q3.out q4.out) q5.out))) hin.out (by decide) (hc5.out.alloc _) (ha5.out.alloc _))
      obtain ⟨vm, lm, rfl, _⟩ := hm
      go_wp2_with fail
      go_ret
      exact hfin.out
    | 2, _, hr2 =>
      have hr2 := Lib.hid (show runD cs (stmtsG 2) s = runD cs ((expr1G.plus (blockG (stmtsG 1))).up) s2 from hr2.out)
      go_wp2_with fail
      refine (d_expr 1 (by decide) 1 g cs s2 _ rfl (by decide) (by decide) hc2.out).mono ?_
      rintro e w3 ⟨b3, n3, c3, l3, s3, rfl, hn3, hll, hoo, hgg, hrr, hcc, haa⟩
      have d3 := Lib.hid haa
      have o3 := Lib.hid (hoo.lower ha2.out.size)
      have q3 := Lib.hid hrr
      have g3 := Lib.hid hgg
      have hl3 := Lib.hid hll
      have hc3 := Lib.hid hcc
      have ha3 := Lib.hid (ha2.out.trans d3.out)
      clear hrr hcc haa hll hoo hgg
      go_wp2_with fail
      refine (d_block 1 hS.out 1 g cs s3 _ rfl (by decide) (by decide) hc3.out).mono ?_
      rintro e w4 ⟨b4, n4, c4, l4, s4, rfl, hn4, hll, hoo, hgg, hrr, hcc, haa⟩
      have d4 := Lib.hid haa
      have o3 := Lib.hid (o3.out.away d4.out hlt)
      have o4 := Lib.hid (hoo.lower ha3.out.size)
      have q4 := Lib.hid hrr
      have g4 := Lib.hid hgg
      have hl4 := Lib.hid hll
      have hc4 := Lib.hid hcc
      have ha4 := Lib.hid (ha3.out.trans d4.out)
      clear hrr hcc haa hll hoo hgg
      go_wp2_with fail
      refine (d_make _ 29 0 ⟨#[]⟩ ⟨#[]⟩ [(.slice (some ⟨b3, 0, none⟩) n3 c3, l3), (.slice (some ⟨b4, 0, none⟩) n4 c4, l4)] _ (by first | decide | omega) (by decide) (by decide) (by decide) (PartsIn.two o3.out o4.out g3.out g4.out (by rw [hl3.out]; omega) (by rw [hl4.out]; omega)) (fun p hp => by simp only [List.mem_cons, List.not_mem_nil, or_false] at hp; rcases hp with rfl | rfl; exact g3.out; exact g4.out) (by simp only [sumLen, hl3.out, hl4.out]; omega) (fun h => by first | exact absurd h (by decide) | (show 2 ≤ 2; decide)) (by show 2 ≤ 8; decide)).mono ?_
      rintro e w5 hm
      have hfin := Lib.hid (RetG.over hm (show sumLen [(.slice (some ⟨b3, 0, none⟩) n3 c3, l3), (.slice (some ⟨b4, 0, none⟩) n4 c4, l4)] + 1 = _ by simp only [sumLen, hl3.out, hl4.out]; try omega) (hr2.out.trans (runD_up (runD_plus q3.out q4.out))) hin.out (by decide) (hc4.out.alloc _) (ha4.out.alloc _))
      obtain ⟨vm, lm, rfl, _⟩ := hm
      go_wp2_with fail
      go_ret
      exact hfin.out
    | 3, _, hr2 =>
      have hr2 := Lib.hid (show runD cs (stmtsG 2) s = runD cs (((blockG (stmtsG 1)).plus expr1G).up) s2 from hr2.out)
      go_wp2_with fail
      refine (d_block 1 hS.out 1 g cs s2 _ rfl (by decide) (by decide) hc2.out).mono ?_
      rintro e w3 ⟨b3, n3, c3, l3, s3, rfl, hn3, hll, hoo, hgg, hrr, hcc, haa⟩
      have d3 := Lib.hid haa
      have o3 := Lib.hid (hoo.lower ha2.out.size)
      have q3 := Lib.hid hrr
      have g3 := Lib.hid hgg
      have hl3 := Lib.hid hll
      have hc3 := Lib.hid hcc
      have ha3 := Lib.hid (ha2.out.trans d3.out)
      clear hrr hcc haa hll hoo hgg
      go_wp2_with fail
      refine (d_expr 1 (by decide) 1 g cs s3 _ rfl (by decide) (by decide) hc3.out).mono ?_
      rintro e w4 ⟨b4, n4, c4, l4, s4, rfl, hn4, hll, hoo, hgg, hrr, hcc, haa⟩
      have d4 := Lib.hid haa
      have o3 := Lib.hid (o3.out.away d4.out hlt)
      have o4 := Lib.hid (hoo.lower ha3.out.size)
      have q4 := Lib.hid hrr
      have g4 := Lib.hid hgg
      have hl4 := Lib.hid hll
      have hc4 := Lib.hid hcc
      have ha4 := Lib.hid (ha3.out.trans d4.out)
      clear hrr hcc haa hll hoo hgg
      go_wp2_with fail
      refine (d_make _ 30 0 ⟨#[]⟩ ⟨#[]⟩ [(.slice (some ⟨b3, 0, none⟩) n3 c3, l3), (.slice (some ⟨b4, 0, none⟩) n4 c4, l4)] _ (by first | decide | omega) (by decide) (by decide) (by decide) (PartsIn.two o3.out o4.out g3.out g4.out (by rw [hl3.out]; omega) (by rw [hl4.out]; omega)) (fun p hp => by simp only [List.mem_cons, List.not_mem_nil, or_false] at hp; rcases hp with rfl | rfl; exact g3.out; exact g4.out) (by simp only [sumLen, hl3.out, hl4.out]; omega) (fun h => by first | exact absurd h (by decide) | (show 2 ≤ 2; decide)) (by show 2 ≤ 8; decide)).mono ?_
      rintro e w5 hm
      have hfin := Lib.hid (RetG.over hm (show sumLen [(.slice (some ⟨b3, 0, none⟩) n3 c3, l3), (.slice (some ⟨b4, 0, none⟩) n4 c4, l4)] + 1 = _ by simp only [sumLen, hl3.out, hl4.out]; try omega) (hr2.out.trans (runD_up (runD_plus q3.out q4.out))) hin.out (by decide) (hc4.out.alloc _) (ha4.out.alloc _))
      obtain ⟨vm, lm, rfl, _⟩ := hm
      go_wp2_with fail
      go_ret
      exact hfin.out
    | 4, _, hr2 =>
      have hr2 := Lib.hid (show runD cs (stmtsG 2) s = runD cs (((((maybeG expr2G).plus (maybeG expr1G)).plus (maybeG expr1G)).plus (blockG (stmtsG 1))).up) s2 from hr2.out)
      go_wp2_with fail
      refine (d_maybe 2 (d_expr 2 (by decide)) 2 g cs s2 _ rfl (by decide) (by decide) hc2.out).mono ?_
      rintro e w3 ⟨b3, n3, c3, l3, s3, rfl, hn3, hll, hoo, hgg, hrr, hcc, haa⟩
      have d3 := Lib.hid haa
      have o3 := Lib.hid (hoo.lower ha2.out.size)
      have q3 := Lib.hid hrr
      have g3 := Lib.hid hgg
      have hl3 := Lib.hid hll
      have hc3 := Lib.hid hcc
      have ha3 := Lib.hid (ha2.out.trans d3.out)
      clear hrr hcc haa hll hoo hgg
      go_wp2_with fail
      refine (d_maybe 1 (d_expr 1 (by decide)) 1 g cs s3 _ rfl (by decide) (by decide) hc3.out).mono ?_
      rintro e w4 ⟨b4, n4, c4, l4, s4, rfl, hn4, hll, hoo, hgg, hrr, hcc, haa⟩
      have d4 := Lib.hid haa
      have o3 := Lib.hid (o3.out.away d4.out hlt)
      have o4 := Lib.hid (hoo.lower ha3.out.size)
      have q4 := Lib.hid hrr
      have g4 := Lib.hid hgg
      have hl4 := Lib.hid hll
      have hc4 := Lib.hid hcc
      have ha4 := Lib.hid (ha3.out.trans d4.out)
      clear hrr hcc haa hll hoo hgg
      go_wp2_with fail
      refine (d_maybe 1 (d_expr 1 (by decide)) 1 g cs s4 _ rfl (by decide) (by decide) hc4.out).mono ?_
      rintro e w5 ⟨b5, n5, c5, l5, s5, rfl, hn5, hll, hoo, hgg, hrr, hcc, haa⟩
      have d5 := Lib.hid haa
      have o3 := Lib.hid (o3.out.away d5.out hlt)
      have o4 := Lib.hid (o4.out.away d5.out hlt)
      have o5 := Lib.hid (hoo.lower ha4.out.size)
      have q5 := Lib.hid hrr
      have g5 := Lib.hid hgg
      have hl5 := Lib.hid hll
      have hc5 := Lib.hid hcc
      have ha5 := Lib.hid (ha4.out.trans d5.out)
      clear hrr hcc haa hll hoo hgg
      go_wp2_with fail
      refine (d_block 1 hS.out 1 g cs s5 _ rfl (by decide) (by decide) hc5.out).mono ?_
      rintro e w6 ⟨b6, n6, c6, l6, s6, rfl, hn6, hll, hoo, hgg, hrr, hcc, haa⟩
      have d6 := Lib.hid haa
      have o3 := Lib.hid (o3.out.away d6.out hlt)
      have o4 := Lib.hid (o4.out.away d6.out hlt)
      have o5 := Lib.hid (o5.out.away d6.out hlt)
      have o6 := Lib.hid (hoo.lower ha5.out.size)
      have q6 := Lib.hid hrr
      have g6 := Lib.hid hgg
      have hl6 := Lib.hid hll
      have hc6 := Lib.hid hcc
      have ha6 := Lib.hid (ha5.out.trans d6.out)
      clear hrr hcc haa hll hoo hgg
      go_wp2_with fail
      refine (d_make _ 31 0 ⟨#[]⟩ ⟨#[]⟩ [(.slice (some ⟨b3, 0, none⟩) n3 c3, l3), (.slice (some ⟨b4, 0, none⟩) n4 c4, l4), (.slice (some ⟨b5, 0, none⟩) n5 c5, l5), (.slice (some ⟨b6, 0, none⟩) n6 c6, l6)] _ (by first | decide | omega) (by decide) (by decide) (by decide) (PartsIn.four o3.out o4.out o5.out o6.out g3.out g4.out g5.out g6.out (by rw [hl3.out]; omega) (by rw [hl4.out]; omega) (by rw [hl5.out]; omega) (by rw [hl6.out]; omega)) (fun p hp => by simp only [List.mem_cons, List.not_mem_nil, or_false] at hp; rcases hp with rfl | rfl | rfl | rfl; exact g3.out; exact g4.out; exact g5.out; exact g6.out) (by simp only [sumLen, hl3.out, hl4.out, hl5.out, hl6.out]; omega) (fun h => by first | exact absurd h (by decide) | (show 4 ≤ 2; decide)) (by show 4 ≤ 8; decide)).mono ?_
      rintro e w7 hm
      have hfin := Lib.hid (RetG.over hm (show sumLen [(.slice (some ⟨b3, 0, none⟩) n3 c3, l3), (.slice (some ⟨b4, 0, none⟩) n4 c4, l4), (.slice (some ⟨b5, 0, none⟩) n5 c5, l5), (.slice (some ⟨b6, 0, none⟩) n6 c6, l6)] + 1 = _ by simp only [sumLen, hl3.out, hl4.out, hl5.out, hl6.out]; try omega) (hr2.out.trans (runD_up (runD_plus (runD_plus (runD_plus q3.out q4.out) q5.out) q6.out))) hin.out (by decide) (hc6.out.alloc _) (ha6.out.alloc _))
      obtain ⟨vm, lm, rfl, _⟩ := hm
      go_wp2_with fail
      go_ret
      exact hfin.out
    | y2 + 5, _, hr2 =>
      have hr2 := Lib.hid (show runD cs (stmtsG 2) s = runD cs (.draw 2 (forK (stmtsG 1))) s2 from hr2.out)
      go_wp2_with fail
      refine (g_once g cs s2 2 _ (by decide) (by decide) hc2.out).mono ?_
      rintro e w3 ⟨v, y3, s3, rfl, rfl, hy3, hrr, hcc, haa⟩
      have d3 := Lib.hid haa
      have hr3 := Lib.hid (hr2.out.trans (show _ = runD cs (forK (stmtsG 1) y3) s3 from hrr _))
      have hc3 := Lib.hid hcc
      have ha3 := Lib.hid (ha2.out.trans d3.out)
      clear hrr hcc haa
      match y3, hy3, hr3 with
      | 0, _, hr3 =>
        have hr3 := Lib.hid (show runD cs (stmtsG 2) s = runD cs (blockG (stmtsG 1)) s3 from hr3.out)
        go_wp2_with fail
        refine (d_block 1 hS.out 1 g cs s3 _ rfl (by decide) (by decide) hc3.out).mono ?_
        rintro e w4 hm
        have hfin := Lib.hid (RetG.via hm hr3.out ha3.out)
        obtain ⟨bm, nm, cm, lm, sm, rfl, _⟩ := hm
        go_wp2_with fail
        go_ret
        exact hfin.out
      | y3 + 1, _, hr3 =>
        have hr3 := Lib.hid (show runD cs (stmtsG 2) s = runD cs (.draw 11 fun _ => .draw 11 fun _ => (blockG (stmtsG 1)).up) s3 from hr3.out)
        go_wp2_with fail
        refine (g_word g cs s3 _ hc3.out).mono ?_
        rintro e w4 ⟨v, y4, s4, rfl, ⟨t4, rfl, ht4⟩, hy4, hrr, hcc, haa⟩
        have d4 := Lib.hid haa
        have hr4 := Lib.hid (hr3.out.trans (show _ = runD cs (.draw 11 fun _ => (blockG (stmtsG 1)).up) s4 from hrr _))
        have hc4 := Lib.hid hcc
        have ha4 := Lib.hid (ha3.out.trans d4.out)
        clear hrr hcc haa
        go_wp2_with fail
        refine (g_word g cs s4 _ hc4.out).mono ?_
        rintro e w5 ⟨v, y5, s5, rfl, ⟨t5, rfl, ht5⟩, hy5, hrr, hcc, haa⟩
        have d5 := Lib.hid haa
        have hr5 := Lib.hid (hr4.out.trans (show _ = runD cs ((blockG (stmtsG 1)).up) s5 from hrr _))
        have hc5 := Lib.hid hcc
        have ha5 := Lib.hid (ha4.out.trans d5.out)
        clear hrr hcc haa
        go_wp2_with fail
        refine (d_block 1 hS.out 1 g cs s5 _ rfl (by decide) (by decide) hc5.out).mono ?_
        rintro e w6 ⟨b6, n6, c6, l6, s6, rfl, hn6, hll, hoo, hgg, hrr, hcc, haa⟩
        have d6 := Lib.hid haa
        have o6 := Lib.hid (hoo.lower ha5.out.size)
        have q6 := Lib.hid hrr
        have g6 := Lib.hid hgg
        have hl6 := Lib.hid hll
        have hc6 := Lib.hid hcc
        have ha6 := Lib.hid (ha5.out.trans d6.out)
        clear hrr hcc haa hll hoo hgg
        go_wp2_with fail
        refine (d_make _ 32 0 t4 t5 [(.slice (some ⟨b6, 0, none⟩) n6 c6, l6)] _ (by first | decide | omega) (by decide) ht4 ht5 (PartsIn.one o6.out g6.out (by rw [hl6.out]; omega)) (fun p hp => by obtain rfl := List.mem_singleton.1 hp; exact g6.out) (by simp only [sumLen, hl6.out]; omega) (fun h => by first | exact absurd h (by decide) | (show 1 ≤ 2; decide)) (by show 1 ≤ 8; decide)).mono ?_
        rintro e w7 hm
        have hfin := Lib.hid (RetG.over hm (show sumLen [(.slice (some ⟨b6, 0, none⟩) n6 c6, l6)] + 1 = _ by simp only [sumLen, hl6.out]; try omega) (hr5.out.trans (runD_up q6.out)) hin.out (by decide) (hc6.out.alloc _) (ha6.out.alloc _))
        obtain ⟨vm, lm, rfl, _⟩ := hm
        go_wp2_with fail
        go_ret
        exact hfin.out
  | y1 + 1, _, hr1 =>
    have hr1 := Lib.hid (show runD cs (stmtsG 2) s = runD cs (simpleG (exprG 2) (exprG 1)) s1 from hr1.out)
    go_wp2_with fail
    refine (d_simple 2 (d_expr 2 (by decide)) (d_expr 1 (by decide)) 2 g cs s1 _ rfl (by decide) (by decide) hc1.out).mono ?_
    rintro e w2 hm
    have hfin := Lib.hid (RetG.via hm hr1.out ha1.out)
    obtain ⟨bm, nm, cm, lm, sm, rfl, _⟩ := hm
    go_wp2_with fail
    go_ret
    exact hfin.out
theorem d_stmts : ∀ d, d ≤ 2 → StmtAt d
  | 0, _ => d_stmt0
  | 1, _ => d_stmt1
  | 2, _ => d_stmt2
  | d + 3, h => by omega
end Go.Proofs.YtlabmboedjnpmaaGreatDoor
