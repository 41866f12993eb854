/- The draw of an item of a program (walk; printed by gen_draws.py). -/
import Derived.Test.YtlabmboedjnpmaaGreatDoorGenT
namespace Go.Proofs.YtlabmboedjnpmaaGreatDoor
open Go.RowKit
set_option linter.unusedVariables false

def fnS : List ByteArray := [⟨#[102]⟩, ⟨#[103]⟩, ⟨#[109, 97, 120]⟩]
theorem fnS_16 : ∀ x ∈ fnS, x.size ≤ 16 := by decide
def toS : List ByteArray := [⟨#[35, 32, 116, 111, 112]⟩, ⟨#[35]⟩]
theorem toS_16 : ∀ x ∈ toS, x.size ≤ 16 := by decide
set_option maxRecDepth 100000 in
set_option maxHeartbeats 16000000 in
theorem d_item (g : Nat) (cs : List UInt8) (s : Nat × Int) (w : World) (hc : Cur w g cs s) : Calls Tryz.prog 80 #[.pointer (some ⟨g, 0, none⟩)] w (RetG w g cs itemG s) := by
  have hlt := hc.lt
  have hc0 := Lib.hid hc
  have ha0 := Lib.hid (Away.refl g w)
  have hin := Lib.hid item_in
  clear hc
  go_enter Tryz.func80, Tryz.ntmps80
  go_wp2_with fail
  refine (g_below g cs s 2 _ (by decide) (by decide) hc0.out).mono ?_
  rintro e w1 ⟨v, y1, s1, rfl, rfl, hy1, hrr, hcc, haa⟩
  have d1 := Lib.hid haa
  have hr1 := Lib.hid (show runD cs (itemG) s = runD cs (.draw 8 (itemK (exprG (1 + y1)) (blockG (stmtsG (1 + y1))))) s1 from hrr _)
  have hc1 := Lib.hid hcc
  have ha1 := Lib.hid (ha0.out.trans d1.out)
  clear hrr hcc haa
  go_wp2_with fail
  refine (g_below g cs s1 8 _ (by decide) (by decide) hc1.out).mono ?_
  rintro e w2 ⟨v, y2, s2, rfl, rfl, hy2, hrr, hcc, haa⟩
  have d2 := Lib.hid haa
  have hr2 := Lib.hid (hr1.out.trans (show _ = runD cs (itemK (exprG (1 + y1)) (blockG (stmtsG (1 + y1))) y2) s2 from hrr _))
  have hc2 := Lib.hid hcc
  have ha2 := Lib.hid (ha1.out.trans d2.out)
  clear hrr hcc haa
  match y2, hy2, hr2 with
  | 0, _, hr2 =>
    have hr2 := Lib.hid (show runD cs (itemG) s = runD cs (.draw 2 fun _ => (blockG (stmtsG (1 + y1))).up) s2 from hr2.out)
    go_wp2_with fail
    refine (g_below g cs s2 2 _ (by decide) (by decide) hc2.out).mono ?_
    rintro e w3 ⟨v, y3, s3, rfl, rfl, hy3, hrr, hcc, haa⟩
    have d3 := Lib.hid haa
    have hr3 := Lib.hid (hr2.out.trans (show _ = runD cs ((blockG (stmtsG (1 + y1))).up) s3 from hrr _))
    have hc3 := Lib.hid hcc
    have ha3 := Lib.hid (ha2.out.trans d3.out)
    clear hrr hcc haa
    go_wp2_with fail
    refine (d_block (1 + y1) (d_stmts (1 + y1) (by omega)) _ g cs s3 _ (by omega) (by omega) (by omega) hc3.out).mono ?_
    rintro e w4 ⟨b4, n4, c4, l4, s4, rfl, hn4, hll, hoo, hgg, hrr, hcc, haa⟩
    have d4 := Lib.hid haa
    have o4 := Lib.hid (hoo.lower ha3.out.size)
    have q4 := Lib.hid hrr
    have g4 := Lib.hid hgg
    have hl4 := Lib.hid hll
    have hc4 := Lib.hid hcc
    have ha4 := Lib.hid (ha3.out.trans d4.out)
    clear hrr hcc haa hll hoo hgg
    go_wp2_with fail
    refine (d_make _ _ 0 ⟨#[]⟩ ⟨#[]⟩ [(.slice (some ⟨b4, 0, none⟩) n4 c4, l4)] _ (by first | decide | omega) (by decide) (by decide) (by decide) (PartsIn.one o4.out g4.out (by rw [hl4.out]; omega)) (fun p hp => by obtain rfl := List.mem_singleton.1 hp; exact g4.out) (by simp only [sumLen, hl4.out]; omega) (fun h => by first | exact absurd h (by decide) | (show 1 ≤ 2; decide)) (by show 1 ≤ 8; decide)).mono ?_
    rintro e w5 hm
    have hfin := Lib.hid (RetG.over hm (show sumLen [(.slice (some ⟨b4, 0, none⟩) n4 c4, l4)] + 1 = _ by simp only [sumLen, hl4.out]; try omega) (hr3.out.trans (runD_up q4.out)) hin.out (by decide) (hc4.out.alloc _) (ha4.out.alloc _))
    obtain ⟨vm, lm, rfl, _⟩ := hm
    go_wp2_with fail
    go_ret
    exact hfin.out
  | 1, _, hr2 =>
    have hr2 := Lib.hid (show runD cs (itemG) s = runD cs ((exprG (1 + y1)).up) s2 from hr2.out)
    go_wp2_with fail
    refine (d_expr (1 + y1) (by omega) _ g cs s2 _ (by omega) (by omega) (by omega) hc2.out).mono ?_
    rintro e w3 ⟨b3, n3, c3, l3, s3, rfl, hn3, hll, hoo, hgg, hrr, hcc, haa⟩
    have d3 := Lib.hid haa
    have o3 := Lib.hid (hoo.lower ha2.out.size)
    have q3 := Lib.hid hrr
    have g3 := Lib.hid hgg
    have hl3 := Lib.hid hll
    have hc3 := Lib.hid hcc
    have ha3 := Lib.hid (ha2.out.trans d3.out)
    clear hrr hcc haa hll hoo hgg
    go_wp2_with fail
    refine (d_make _ 42 1 ⟨#[]⟩ ⟨#[]⟩ [(.slice (some ⟨b3, 0, none⟩) n3 c3, l3)] _ (by first | decide | omega) (by decide) (by decide) (by decide) (PartsIn.one o3.out g3.out (by rw [hl3.out]; omega)) (fun p hp => by obtain rfl := List.mem_singleton.1 hp; exact g3.out) (by simp only [sumLen, hl3.out]; omega) (fun h => by first | exact absurd h (by decide) | (show 1 ≤ 2; decide)) (by show 1 ≤ 8; decide)).mono ?_
    rintro e w4 hm
    have hfin := Lib.hid (RetG.over hm (show sumLen [(.slice (some ⟨b3, 0, none⟩) n3 c3, l3)] + 1 = _ by simp only [sumLen, hl3.out]; try omega) (hr2.out.trans (runD_up q3.out)) hin.out (by decide) (hc3.out.alloc _) (ha3.out.alloc _))
    obtain ⟨vm, lm, rfl, _⟩ := hm
    go_wp2_with fail
    go_ret
    exact hfin.out
  | 2, _, hr2 =>
    have hr2 := Lib.hid (show runD cs (itemG) s = runD cs ((blockG (stmtsG (1 + y1))).up) s2 from hr2.out)
    go_wp2_with fail
    refine (d_block (1 + y1) (d_stmts (1 + y1) (by omega)) _ g cs s2 _ (by omega) (by omega) (by omega) hc2.out).mono ?_
    rintro e w3 ⟨b3, n3, c3, l3, s3, rfl, hn3, hll, hoo, hgg, hrr, hcc, haa⟩
    have d3 := Lib.hid haa
    have o3 := Lib.hid (hoo.lower ha2.out.size)
    have q3 := Lib.hid hrr
    have g3 := Lib.hid hgg
    have hl3 := Lib.hid hll
    have hc3 := Lib.hid hcc
    have ha3 := Lib.hid (ha2.out.trans d3.out)
    clear hrr hcc haa hll hoo hgg
    go_wp2_with fail
    refine (d_make _ 42 2 ⟨#[]⟩ ⟨#[]⟩ [(.slice (some ⟨b3, 0, none⟩) n3 c3, l3)] _ (by first | decide | omega) (by decide) (by decide) (by decide) (PartsIn.one o3.out g3.out (by rw [hl3.out]; omega)) (fun p hp => by obtain rfl := List.mem_singleton.1 hp; exact g3.out) (by simp only [sumLen, hl3.out]; omega) (fun h => by first | exact absurd h (by decide) | (show 1 ≤ 2; decide)) (by show 1 ≤ 8; decide)).mono ?_
    rintro e w4 hm
    have hfin := Lib.hid (RetG.over hm (show sumLen [(.slice (some ⟨b3, 0, none⟩) n3 c3, l3)] + 1 = _ by simp only [sumLen, hl3.out]; try omega) (hr2.out.trans (runD_up q3.out)) hin.out (by decide) (hc3.out.alloc _) (ha3.out.alloc _))
    obtain ⟨vm, lm, rfl, _⟩ := hm
    go_wp2_with fail
    go_ret
    exact hfin.out
  | 3, _, hr2 =>
    have hr2 := Lib.hid (show runD cs (itemG) s = runD cs ((expr1G.plus expr1G).up) s2 from hr2.out)
    go_wp2_with fail
    refine (d_expr 1 (by decide) 1 g cs s2 _ rfl (by decide) (by decide) hc2.out).mono ?_
    rintro e w3 ⟨b3, n3, c3, l3, s3, rfl, hn3, hll, hoo, hgg, hrr, hcc, haa⟩
    have d3 := Lib.hid haa
    have o3 := Lib.hid (hoo.lower ha2.out.size)
    have q3 := Lib.hid hrr
    have g3 := Lib.hid hgg
    have hl3 := Lib.hid hll
    have hc3 := Lib.hid hcc
    have ha3 := Lib.hid (ha2.out.trans d3.out)
    clear hrr hcc haa hll hoo hgg
    go_wp2_with fail
    refine (d_expr 1 (by decide) 1 g cs s3 _ rfl (by decide) (by decide) hc3.out).mono ?_
    rintro e w4 ⟨b4, n4, c4, l4, s4, rfl, hn4, hll, hoo, hgg, hrr, hcc, haa⟩
    have d4 := Lib.hid haa
    have o3 := Lib.hid (o3.out.away d4.out hlt)
    have o4 := Lib.hid (hoo.lower ha3.out.size)
    have q4 := Lib.hid hrr
    have g4 := Lib.hid hgg
    have hl4 := Lib.hid hll
    have hc4 := Lib.hid hcc
    have ha4 := Lib.hid (ha3.out.trans d4.out)
    clear hrr hcc haa hll hoo hgg
    go_wp2_with fail
    refine (d_make _ 43 1 ⟨#[]⟩ ⟨#[]⟩ [(.slice (some ⟨b3, 0, none⟩) n3 c3, l3), (.slice (some ⟨b4, 0, none⟩) n4 c4, l4)] _ (by first | decide | omega) (by decide) (by decide) (by decide) (PartsIn.two o3.out o4.out g3.out g4.out (by rw [hl3.out]; omega) (by rw [hl4.out]; omega)) (fun p hp => by simp only [List.mem_cons, List.not_mem_nil, or_false] at hp; rcases hp with rfl | rfl; exact g3.out; exact g4.out) (by simp only [sumLen, hl3.out, hl4.out]; omega) (fun h => by first | exact absurd h (by decide) | (show 2 ≤ 2; decide)) (by show 2 ≤ 8; decide)).mono ?_
    rintro e w5 hm
    have hfin := Lib.hid (RetG.over hm (show sumLen [(.slice (some ⟨b3, 0, none⟩) n3 c3, l3), (.slice (some ⟨b4, 0, none⟩) n4 c4, l4)] + 1 = _ by simp only [sumLen, hl3.out, hl4.out]; try omega) (hr2.out.trans (runD_up (runD_plus q3.out q4.out))) hin.out (by decide) (hc4.out.alloc _) (ha4.out.alloc _))
    obtain ⟨vm, lm, rfl, _⟩ := hm
    go_wp2_with fail
    go_ret
    exact hfin.out
  | 4, _, hr2 =>
    have hr2 := Lib.hid (show runD cs (itemG) s = runD cs (((expr1G.plus expr1G).plus (blockG (stmtsG (1 + y1)))).up) s2 from hr2.out)
    go_wp2_with fail
    refine (d_expr 1 (by decide) 1 g cs s2 _ rfl (by decide) (by decide) hc2.out).mono ?_
    rintro e w3 ⟨b3, n3, c3, l3, s3, rfl, hn3, hll, hoo, hgg, hrr, hcc, haa⟩
    have d3 := Lib.hid haa
    have o3 := Lib.hid (hoo.lower ha2.out.size)
    have q3 := Lib.hid hrr
    have g3 := Lib.hid hgg
    have hl3 := Lib.hid hll
    have hc3 := Lib.hid hcc
    have ha3 := Lib.hid (ha2.out.trans d3.out)
    clear hrr hcc haa hll hoo hgg
    go_wp2_with fail
    refine (d_expr 1 (by decide) 1 g cs s3 _ rfl (by decide) (by decide) hc3.out).mono ?_
    rintro e w4 ⟨b4, n4, c4, l4, s4, rfl, hn4, hll, hoo, hgg, hrr, hcc, haa⟩
    have d4 := Lib.hid haa
    have o3 := Lib.hid (o3.out.away d4.out hlt)
    have o4 := Lib.hid (hoo.lower ha3.out.size)
    have q4 := Lib.hid hrr
    have g4 := Lib.hid hgg
    have hl4 := Lib.hid hll
    have hc4 := Lib.hid hcc
    have ha4 := Lib.hid (ha3.out.trans d4.out)
    clear hrr hcc haa hll hoo hgg
    go_wp2_with fail
    refine (d_block (1 + y1) (d_stmts (1 + y1) (by omega)) _ g cs s4 _ (by omega) (by omega) (by omega) hc4.out).mono ?_
    rintro e w5 ⟨b5, n5, c5, l5, s5, rfl, hn5, hll, hoo, hgg, hrr, hcc, haa⟩
    have d5 := Lib.hid haa
    have o3 := Lib.hid (o3.out.away d5.out hlt)
    have o4 := Lib.hid (o4.out.away d5.out hlt)
    have o5 := Lib.hid (hoo.lower ha4.out.size)
    have q5 := Lib.hid hrr
    have g5 := Lib.hid hgg
    have hl5 := Lib.hid hll
    have hc5 := Lib.hid hcc
    have ha5 := Lib.hid (ha4.out.trans d5.out)
    clear hrr hcc haa hll hoo hgg
    go_wp2_with fail
    refine (d_make _ 43 3 ⟨#[]⟩ ⟨#[]⟩ [(.slice (some ⟨b3, 0, none⟩) n3 c3, l3), (.slice (some ⟨b4, 0, none⟩) n4 c4, l4), (.slice (some ⟨b5, 0, none⟩) n5 c5, l5)] _ (by first | decide | omega) (by decide) (by decide) (by decide) (PartsIn.three o3.out o4.out o5.out g3.out g4.out g5.out (by rw [hl3.out]; omega) (by rw [hl4.out]; omega) (by rw [hl5.out]; omega)) (fun p hp => by simp only [List.mem_cons, List.not_mem_nil, or_false] at hp; rcases hp with rfl | rfl | rfl; exact g3.out; exact g4.out; exact g5.out) (by simp only [sumLen, hl3.out, hl4.out, hl5.out]; omega) (fun h => by first | exact absurd h (by decide) | (show 3 ≤ 2; decide)) (by show 3 ≤ 8; decide)).mono ?_
    rintro e w6 hm
    have hfin := Lib.hid (RetG.over hm (show sumLen [(.slice (some ⟨b3, 0, none⟩) n3 c3, l3), (.slice (some ⟨b4, 0, none⟩) n4 c4, l4), (.slice (some ⟨b5, 0, none⟩) n5 c5, l5)] + 1 = _ by simp only [sumLen, hl3.out, hl4.out, hl5.out]; try omega) (hr2.out.trans (runD_up (runD_plus (runD_plus q3.out q4.out) q5.out))) hin.out (by decide) (hc5.out.alloc _) (ha5.out.alloc _))
    obtain ⟨vm, lm, rfl, _⟩ := hm
    go_wp2_with fail
    go_ret
    exact hfin.out
  | 5, _, hr2 =>
    have hr2 := Lib.hid (show runD cs itemG s = runD cs (.draw 3 fun n => ((oneG 11).many n).bind fun a => .draw 3 fun _ => (blockG (stmtsG (1 + y1))).bind fun c => .ret (a + c + 1)) s2 from hr2.out)
    have hO2 := Lib.hid (OwnP.start w2 ha2.out.size)
    have hA2 := Lib.hid (ha2.out.alloc (.cells #[] 24))
    have hc2 := Lib.hid (hc2.out.alloc (.cells #[] 24))
    go_wp2_with fail
    refine (g_below g cs s2 3 _ (by decide) (by decide) hc2.out).mono ?_
    rintro e w3 ⟨v, y3, s3, rfl, rfl, hy3, hrr, hcc, haa⟩
    have hr3 := Lib.hid (hr2.out.trans (show _ = runD cs (((oneG 11).many y3).bind fun a => .draw 3 fun _ => (blockG (stmtsG (1 + y1))).bind fun c => .ret (a + c + 1)) s3 from hrr _))
    have hO3 := Lib.hid (hO2.out.away haa hlt)
    have hA3 := Lib.hid (hA2.out.trans haa)
    have hc3 := Lib.hid hcc
    clear hrr hcc haa
    go_wp2_with fail
    go_loopw [4, 5] (fun v xv wr => ∃ (b m cap q : Nat) (ps : List (Value × List PNode)) (s' : Nat × Int), v = .slice (some ⟨b, 0, none⟩) m cap ∧ xv = .int .i64 (q : Int) ∧ m + q = y3 ∧ Hid (ps.length = m) ∧ Hid (∀ p ∈ ps, GoodT p.2 ∧ p.2.length ≤ 1000) ∧ Hid (OwnP wr w.heap.size (.slice (some ⟨b, 0, none⟩) m cap) ps) ∧ Hid (runD cs ((oneG 11).many y3) s3 = (sumLen ps + (runD cs ((oneG 11).many q) s').1, (runD cs ((oneG 11).many q) s').2)) ∧ Hid (Cur wr g cs s') ∧ Hid (Away g w wr)) (fun _ xv _ => (intOf xv).toNat)
    case atStart => exact ⟨_, 0, 0, y3, [], s3, rfl, rfl, by omega, rfl, (fun p h => (List.not_mem_nil h).elim), hO3, by show _ = _; simp [sumLen], hc3, hA3⟩
    case round =>
      obtain ⟨b2, m, cap, q, ps, s4, rfl, rfl, hmq, hpm, hgood, hO, hrun, hc4, hA4⟩ := hrel
      by_cases h0 : q = 0
      · subst h0
        have hsum : Hid (sumLen ps ≤ 5000) := by
          have h1 := sum_all fun p hp => (hgood.out p hp).2
          have h2 := hpm.out
          show _ ≤ _
          omega
        have hr4 := Lib.hid (hr3.out.trans (runD_step (show runD cs ((oneG 11).many y3) s3 = (sumLen ps, s4) from hrun.out)))
        have hmb : m ≤ 2 := by omega
        go_wp2_with fail
        refine (g_pick g cs s4 _ _ _ fnS _ rfl (by decide) (by decide) (by have := hA4.out.size; omega) (StrsAt.made _ fnS 9) fnS_16 (hc4.out.alloc _)).mono ?_
        rintro e w5 ⟨v, y5, s5, rfl, ⟨t5, rfl, ht5⟩, hy5, hrr, hcc, haa⟩
        have hr5 := Lib.hid (hr4.out.trans (show _ = runD cs ((blockG (stmtsG (1 + y1))).bind fun c => .ret (sumLen ps + c + 1)) s5 from hrr _))
        have hO5 := Lib.hid ((hO.out.alloc (.cells (fnS.map fun x => Value.string x).toArray 9)).away haa hlt)
        have hA5 := Lib.hid ((hA4.out.alloc (.cells (fnS.map fun x => Value.string x).toArray 9)).trans haa)
        have hc5 := Lib.hid hcc
        clear hrr hcc haa
        go_wp2_with fail
        refine (d_block (1 + y1) (d_stmts (1 + y1) (by omega)) _ g cs s5 _ (by omega) (by omega) (by omega) hc5.out).mono ?_
        rintro e w7 ⟨b7, n7, c7, l7, s7, rfl, hn7, hll, hoo, hgg, hrr, hcc, haa⟩
        have hr7 := Lib.hid (hr5.out.trans (runD_step hrr))
        have hc7 := Lib.hid hcc
        have hA7 := Lib.hid (hA5.out.trans haa)
        have hO7 := Lib.hid (hO5.out.away haa hlt)
        have p7 := Lib.hid (hoo.lower hA5.out.size)
        have g7 := Lib.hid hgg
        have hl7 := Lib.hid hll
        have hsz7 := hA7.out.size
        clear hrr hcc haa hoo hgg hll
        go_wp2_with (at_builtin; refine app_part (by rfl) _ _ (by rfl) w.heap.size _ ps (by rfl) (hO7.out.alloc _) _ 1 (.slice (some ⟨b7, 0, none⟩) n7 c7, l7) (by rfl) (Has.made _ _ _) (p7.out.alloc _) (by have := hpm.out; omega) (by simp; omega) ?_; intro v8 w8 hown hb8 hnn; obtain ⟨b8, c8, rfl, _, _⟩ := OwnP.form hown hnn; rw [List.length_append, hpm.out, show [((Value.slice (some ⟨b7, 0, none⟩) n7 c7), l7)].length = 1 from rfl] at hown ⊢; have o8 := Lib.hid hown; have hc8 := Lib.hid ((hc7.out.alloc (.cells #[.slice (some ⟨b7, 0, none⟩) n7 c7] 24)).keep hb8 hlt); have hA8 := Lib.hid ((hA7.out.alloc (.cells #[.slice (some ⟨b7, 0, none⟩) n7 c7] 24)).then_below hb8); clear hown hb8 hnn)
        have hgo : Hid (∀ p ∈ ps ++ [(Value.slice (some ⟨b7, 0, none⟩) n7 c7, l7)], GoodT p.2) := fun p hp => by
          rcases List.mem_append.1 hp with hp | hp
          · exact (hgood.out p hp).1
          · obtain rfl := List.mem_singleton.1 hp
            exact g7.out
        have hsu : Hid (sumLen (ps ++ [(Value.slice (some ⟨b7, 0, none⟩) n7 c7, l7)]) = sumLen ps + n7) := by
          show _ = _
          rw [sumLen_append]
          simp only [sumLen, hl7.out]
          omega
        refine (d_make _ 44 0 t5 ⟨#[]⟩ (ps ++ [(Value.slice (some ⟨b7, 0, none⟩) n7 c7, l7)]) _ (by decide) (by decide) ht5 (by decide) (o8.out.parts hgo.out (by have := hsum.out; have := hsu.out; omega)) hgo.out (by have := hsum.out; have := hsu.out; omega) (fun h => absurd h (by decide)) (by rw [List.length_append, hpm.out]; show m + 1 ≤ 8; omega)).mono ?_
        rintro e w9 hm
        have hfin := Lib.hid (RetG.over hm (show _ = sumLen ps + n7 + 1 by rw [hsu.out]) (ret_in hr7.out) hin.out (by decide) hc8.out hA8.out)
        obtain ⟨vm, lm, rfl, _⟩ := hm
        go_wp2_with fail
        go_ret
        exact hfin.out
      · obtain ⟨q, rfl⟩ : ∃ p, q = p + 1 := ⟨q - 1, by omega⟩
        go_wp2_with fail
        refine (g_word g cs s4 _ hc4.out).mono ?_
        rintro e w5 ⟨v, y5, s5, rfl, ⟨t5, rfl, ht5⟩, hy5, hrr, hcc, haa⟩
        have hq5 := show runD cs (oneG 11) s4 = (1, s5) from hrr _
        have hO5 := Lib.hid ((hO.out.away haa hlt).alloc (.cells #[.int .i64 1, .int .i64 0, .string t5, .string ⟨#[]⟩, .slice none 0 0] 30))
        have hA5 := Lib.hid ((hA4.out.trans haa).alloc (.cells #[.int .i64 1, .int .i64 0, .string t5, .string ⟨#[]⟩, .slice none 0 0] 30))
        have hc5 := Lib.hid (hcc.alloc (.cells #[.int .i64 1, .int .i64 0, .string t5, .string ⟨#[]⟩, .slice none 0 0] 30))
        have ho5 := Lib.hid (OwnN.one w5 (hA4.out.trans haa).size 1 0 t5 ⟨#[]⟩)
        have hrun5 := Lib.hid (list_next (v := .slice (some ⟨w5.heap.size, 0, none⟩) 1 1) (l := [⟨1, 0, t5, ⟨#[]⟩, []⟩]) hrun.out rfl hq5)
        have hgood5 := Lib.hid (show ∀ p ∈ ps ++ [(Value.slice (some ⟨w5.heap.size, 0, none⟩) 1 1, [(⟨1, 0, t5, ⟨#[]⟩, []⟩ : PNode)])], GoodT p.2 ∧ p.2.length ≤ 1000 from fun p hp => by
          rcases List.mem_append.1 hp with hp | hp
          · exact hgood.out p hp
          · obtain rfl := List.mem_singleton.1 hp
            exact ⟨GoodT.one (by decide) (by decide) ht5 (by decide), by show 1 ≤ 1000; decide⟩)
        have hM5 := Lib.hid (Has.made (w5.alloc (.cells #[.int .i64 1, .int .i64 0, .string t5, .string ⟨#[]⟩, .slice none 0 0] 30)) 24 #[.slice (some ⟨w5.heap.size, 0, none⟩) 1 1])
        have hsz5 : w.heap.size ≤ w5.heap.size := (hA4.out.trans haa).size
        clear hrr hcc haa hq5 hO hrun hgood
        go_wp2_with (at_builtin; refine app_part (by rfl) _ _ (by rfl) w.heap.size _ ps (by rfl) (hO5.out.alloc _) _ 1 (.slice (some ⟨w5.heap.size, 0, none⟩) 1 1, [(⟨1, 0, t5, ⟨#[]⟩, []⟩ : PNode)]) (by rfl) (by simpa using hM5.out) (ho5.out.alloc _) (by have := hpm.out; omega) (by simp; omega) ?_; intro v' w6 hown hb6 hnn; obtain ⟨g6, cap6, rfl, _, _⟩ := OwnP.form hown hnn; have hown6 := Lib.hid hown; clear hown hnn; rw [List.length_append, hpm.out, show [((Value.slice (some ⟨w5.heap.size, 0, none⟩) 1 1), [(⟨1, 0, t5, ⟨#[]⟩, []⟩ : PNode)])].length = 1 from rfl] at hown6 ⊢)
        go_roundw
        case rel => exact ⟨g6, m + 1, cap6, q, _, s5, rfl, by go_num, by omega, by show _ = _; rw [List.length_append, hpm.out]; rfl, hgood5, hown6, hrun5, (hc5.out.alloc _).keep hb6 hlt, (hA5.out.alloc _).then_below hb6⟩
        case measure => simp [intOf]
  | 6, _, hr2 =>
    have hr2 := Lib.hid (show runD cs (itemG) s = runD cs (oneG 2) s2 from hr2.out)
    go_wp2_with fail
    go_wp2_with fail
    refine (g_pick g cs s2 _ _ _ toS _ rfl (by decide) (by decide) (by have := ha2.out.size; omega) (StrsAt.made _ toS 9) toS_16 (hc2.out.alloc _)).mono ?_
    rintro e w3 ⟨v, y3, s3, rfl, ⟨t3, rfl, ht3⟩, hy3, hrr, hcc, haa⟩
    have d3 := Lib.hid haa
    have hr3 := Lib.hid (hr2.out.trans (show _ = runD cs (.ret 1) s3 from hrr _))
    have hc3 := Lib.hid hcc
    have ha3 := Lib.hid ((ha2.out.alloc _).trans d3.out)
    clear hrr hcc haa
    have hfin := Lib.hid (RetG.one (k := 34) (o := 0) (t := t3) (u := ⟨#[]⟩) (by first | decide | omega) (by decide) ht3 (by decide) (hr3.out) hc3.out ha3.out)
    go_wp2_with fail
    go_ret
    exact hfin.out
  | y2 + 7, _, hr2 =>
    have hr2 := Lib.hid (show runD cs (itemG) s = runD cs (((exprG (1 + y1)).plus (blockG (stmtsG (1 + y1)))).up) s2 from hr2.out)
    go_wp2_with fail
    refine (d_expr (1 + y1) (by omega) _ g cs s2 _ (by omega) (by omega) (by omega) hc2.out).mono ?_
    rintro e w3 ⟨b3, n3, c3, l3, s3, rfl, hn3, hll, hoo, hgg, hrr, hcc, haa⟩
    have d3 := Lib.hid haa
    have o3 := Lib.hid (hoo.lower ha2.out.size)
    have q3 := Lib.hid hrr
    have g3 := Lib.hid hgg
    have hl3 := Lib.hid hll
    have hc3 := Lib.hid hcc
    have ha3 := Lib.hid (ha2.out.trans d3.out)
    clear hrr hcc haa hll hoo hgg
    go_wp2_with fail
    refine (d_block (1 + y1) (d_stmts (1 + y1) (by omega)) _ g cs s3 _ (by omega) (by omega) (by omega) hc3.out).mono ?_
    rintro e w4 ⟨b4, n4, c4, l4, s4, rfl, hn4, hll, hoo, hgg, hrr, hcc, haa⟩
    have d4 := Lib.hid haa
    have o3 := Lib.hid (o3.out.away d4.out hlt)
    have o4 := Lib.hid (hoo.lower ha3.out.size)
    have q4 := Lib.hid hrr
    have g4 := Lib.hid hgg
    have hl4 := Lib.hid hll
    have hc4 := Lib.hid hcc
    have ha4 := Lib.hid (ha3.out.trans d4.out)
    clear hrr hcc haa hll hoo hgg
    go_wp2_with fail
    refine (d_make _ 42 3 ⟨#[]⟩ ⟨#[]⟩ [(.slice (some ⟨b3, 0, none⟩) n3 c3, l3), (.slice (some ⟨b4, 0, none⟩) n4 c4, l4)] _ (by first | decide | omega) (by decide) (by decide) (by decide) (PartsIn.two o3.out o4.out g3.out g4.out (by rw [hl3.out]; omega) (by rw [hl4.out]; omega)) (fun p hp => by simp only [List.mem_cons, List.not_mem_nil, or_false] at hp; rcases hp with rfl | rfl; exact g3.out; exact g4.out) (by simp only [sumLen, hl3.out, hl4.out]; omega) (fun h => by first | exact absurd h (by decide) | (show 2 ≤ 2; decide)) (by show 2 ≤ 8; decide)).mono ?_
    rintro e w5 hm
    have hfin := Lib.hid (RetG.over hm (show sumLen [(.slice (some ⟨b3, 0, none⟩) n3 c3, l3), (.slice (some ⟨b4, 0, none⟩) n4 c4, l4)] + 1 = _ by simp only [sumLen, hl3.out, hl4.out]; try omega) (hr2.out.trans (runD_up (runD_plus q3.out q4.out))) hin.out (by decide) (hc4.out.alloc _) (ha4.out.alloc _))
    obtain ⟨vm, lm, rfl, _⟩ := hm
    go_wp2_with fail
    go_ret
    exact hfin.out
end Go.Proofs.YtlabmboedjnpmaaGreatDoor
