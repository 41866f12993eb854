/- Draws of trees: what can be assigned to, rows of expressions, an operator (walks; expressions less deep are given). -/
import Derived.Test.YtlabmboedjnpmaaGreatDoorGenD
namespace Go.Proofs.YtlabmboedjnpmaaGreatDoor
open Go.RowKit
set_option linter.unusedVariables false

/-- expressions of this depth are drawn as the plain draw says -/
def ExprAt (d : Nat) : Prop := ∀ (deep : Int) (g : Nat) (cs : List UInt8) (s : Nat × Int) (w : World), deep.toNat = d → -16 ≤ deep → deep ≤ 16 → Cur w g cs s → Calls Tryz.prog 73 #[.pointer (some ⟨g, 0, none⟩), .int .i64 deep] w (RetG w g cs (exprG d) s)
/-- a node over parts, with the numbers of nodes -/
theorem RetG.over {w w1 w2 : World} {g m n N M : Nat} {cs : List UInt8} {G : Gen} {s s' : Nat × Int} {e : Ending} (hm : RetMake w1 (m + 1) e w2) (hmn : m + 1 = n) (hr : runD cs G s = (n, s')) (hin : G.In N M) (hM : M ≤ 1000) (hc : Cur w1 g cs s') (ha : Away g w w1) : RetG w g cs G s e w2 := by
  subst hmn
  exact RetG.make hm ⟨Nat.succ_pos _, Nat.le_trans (runD_in hr hin) hM⟩ hr hc ha
/-- what a draw of a row of trees leaves -/
def RetL (w : World) (g : Nat) (cs : List UInt8) (G : Gen) (m0 : Nat) (s : Nat × Int) (e : Ending) (w' : World) : Prop :=
  ∃ b m c ps s', e = .returned (.slice (some ⟨b, 0, none⟩) m c) ∧ ps.length = m ∧ m ≤ m0 ∧ OwnP w' w.heap.size (.slice (some ⟨b, 0, none⟩) m c) ps ∧ (∀ p ∈ ps, GoodT p.2) ∧ sumLen ps ≤ 5000 ∧ runD cs G s = (sumLen ps, s') ∧ Cur w' g cs s' ∧ Away g w w'
theorem many_next {cs : List UInt8} {f : Gen} {q a : Nat} {s s' : Nat × Int} (h : runD cs f s = (a, s')) : runD cs (f.many (q + 1)) s = (a + (runD cs (f.many q) s').1, (runD cs (f.many q) s').2) := by
  show runD cs (f.plus (f.many q)) s = _
  exact runD_plus h rfl
theorem OwnP.lower {w : World} {base base' : Nat} {v : Value} {ps : List (Value × List PNode)} (h : OwnP w base v ps) (hb : base' ≤ base) : OwnP w base' v ps := ⟨row_lower h.1 hb, fun p hp => (h.2 p hp).lower hb⟩
theorem OwnP.form {w : World} {base : Nat} {v : Value} {ps : List (Value × List PNode)} (h : OwnP w base v ps) (hv : v ≠ .slice none 0 0) : ∃ g cap, v = .slice (some ⟨g, 0, none⟩) ps.length cap ∧ ps.length ≤ cap ∧ cap ≤ maxLen := by
  rcases row_open h.1 with ⟨e, _⟩ | ⟨g, cap, e, hb, hg, q1, q2, hc⟩
  · exact absurd e hv
  · exact ⟨g, cap, e, q1, q2⟩
theorem sum_all {ps : List (Value × List PNode)} (h : ∀ p ∈ ps, p.2.length ≤ 1000) : sumLen ps ≤ ps.length * 1000 := by
  induction ps with
  | nil => exact Nat.le_refl _
  | cons p ps ih =>
    have h1 := h p (List.mem_cons_self ..)
    have h2 := ih fun r hr => h r (List.mem_cons_of_mem _ hr)
    simp only [sumLen, List.length_cons]
    omega
/-- one more part: the run of those that are left -/
theorem list_next {cs : List UInt8} {f : Gen} {N0 q n : Nat} {ps : List (Value × List PNode)} {s1 s3 s4 : Nat × Int} {v : Value} {l : List PNode} (h : runD cs (f.many N0) s1 = (sumLen ps + (runD cs (f.many (q + 1)) s3).1, (runD cs (f.many (q + 1)) s3).2)) (hl : l.length = n) (hr : runD cs f s3 = (n, s4)) :
    runD cs (f.many N0) s1 = (sumLen (ps ++ [(v, l)]) + (runD cs (f.many q) s4).1, (runD cs (f.many q) s4).2) := by
  rw [h, many_next hr, sumLen_append]
  congr 1
  simp only [sumLen]
  omega
set_option maxRecDepth 100000 in
set_option maxHeartbeats 2000000 in
theorem d_list (d : Nat) (hE : ExprAt d) (g : Nat) (cs : List UInt8) (s : Nat × Int) (a b deep : Int) (least n : Nat) (w : World) (ha : a = (least : Int)) (hb : b - a + 1 = (n : Int)) (hn : 0 < n) (hl : least + n ≤ 5) (hd : deep.toNat = d) (hd1 : -16 ≤ deep) (hd2 : deep ≤ 16) (hc : Cur w g cs s) :
    Calls Tryz.prog 101 #[.pointer (some ⟨g, 0, none⟩), .int .i64 a, .int .i64 b, .int .i64 deep] w (RetL w g cs (listG (exprG d) least n) (least + n - 1) s) := by
  have hlt := hc.lt
  have hcH := Lib.hid (hc.alloc (.cells #[] 24))
  have hO0 := Lib.hid (OwnP.start w (Nat.le_refl w.heap.size))
  have hA0 := Lib.hid ((Away.refl g w).alloc (.cells #[] 24))
  have hEH := Lib.hid hE
  have haH := Lib.hid ha
  have hbH := Lib.hid hb
  have hab : 0 ≤ a ∧ a ≤ 5 ∧ a ≤ b + 1 ∧ b ≤ 10 := by omega
  clear hc hE ha hb
  go_enter Tryz.func101, Tryz.ntmps101
  go_wp2_with fail
  rw [hbH.out]
  refine (g_below g cs s n _ hn (by omega) hcH.out).mono ?_
  rintro e w1 ⟨v, x, s1, rfl, rfl, hx, hr1, hc1, ha1⟩
  have hr1 := Lib.hid (show runD cs (listG (exprG d) least n) s = runD cs ((exprG d).many (least + x)) s1 from hr1 _)
  have hO1 := Lib.hid (hO0.out.away ha1 hlt)
  have hA1 := Lib.hid (hA0.out.trans ha1)
  have hc1 := Lib.hid hc1
  have hax : a + (x : Int) = ((least + x : Nat) : Int) := by have := haH.out; omega
  obtain ⟨N0, hN0⟩ : ∃ N0, least + x = N0 := ⟨_, rfl⟩
  rw [hN0] at hax hr1
  have hN0b : N0 ≤ least + n - 1 ∧ N0 ≤ 4 := by omega
  clear ha1 hN0
  go_wp2_with fail
  clear hax
  go_loopw [9, 10] (fun v x wr => ∃ (b m cap q : Nat) (ps : List (Value × List PNode)) (s' : Nat × Int), v = .slice (some ⟨b, 0, none⟩) m cap ∧ x = .int .i64 (q : Int) ∧ m + q = N0 ∧ Hid (ps.length = m) ∧ Hid (∀ p ∈ ps, GoodT p.2 ∧ p.2.length ≤ 1000) ∧ Hid (OwnP wr w.heap.size (.slice (some ⟨b, 0, none⟩) m cap) ps) ∧ Hid (runD cs ((exprG d).many N0) s1 = (sumLen ps + (runD cs ((exprG d).many q) s').1, (runD cs ((exprG d).many q) s').2)) ∧ Hid (Cur wr g cs s') ∧ Hid (Away g w wr)) (fun _ x _ => (intOf x).toNat)
  case atStart => exact ⟨_, 0, 0, N0, [], s1, rfl, rfl, by omega, rfl, (fun p h => (List.not_mem_nil h).elim), hO1, by show _ = _; simp [sumLen], hc1, hA1⟩
  case round =>
    obtain ⟨b2, m, cap, q, ps, s3, rfl, rfl, hmq, hpm, hgood, hO, hrun, hc3, hA3⟩ := hrel
    by_cases h0 : q = 0
    · subst h0
      have hsum : Hid (sumLen ps ≤ 5000) := by
        have h1 := sum_all fun p hp => (hgood.out p hp).2
        have h2 := hpm.out
        show _ ≤ _
        omega
      go_wp2_with fail
      go_ret
      exact ⟨_, m, cap, ps, s3, rfl, hpm.out, by omega, hO.out, fun p hp => (hgood.out p hp).1, hsum.out, hr1.out.trans hrun.out, hc3.out, hA3.out⟩
    · obtain ⟨q, rfl⟩ : ∃ p, q = p + 1 := ⟨q - 1, by omega⟩
      go_wp2_with fail
      refine (hEH.out deep g cs s3 _ hd hd1 hd2 hc3.out).mono ?_
      rintro e w4 ⟨b4, n4, c4, l4, s4, rfl, hn4, hl4, ho4, hg4, hr4, hc4, ha4⟩
      have hO4 := Lib.hid (hO.out.away ha4 hlt)
      have ho4 := Lib.hid (ho4.lower hA3.out.size)
      have hA4 := Lib.hid (hA3.out.trans ha4)
      have hc4 := Lib.hid hc4
      have hrun4 := Lib.hid (list_next (v := .slice (some ⟨b4, 0, none⟩) n4 c4) hrun.out hl4 hr4)
      have hgood4 := Lib.hid (show ∀ p ∈ ps ++ [(Value.slice (some ⟨b4, 0, none⟩) n4 c4, l4)], GoodT p.2 ∧ p.2.length ≤ 1000 from fun p hp => by
        rcases List.mem_append.1 hp with hp | hp
        · exact hgood.out p hp
        · obtain rfl := List.mem_singleton.1 hp
          exact ⟨hg4, by show l4.length ≤ 1000; omega⟩)
      have hsz4 := hA4.out.size
      clear ha4 hr4 hg4 hl4 hO hrun hgood
      go_wp2_with (at_builtin; refine app_part (by rfl) _ _ (by rfl) w.heap.size _ ps (by rfl) (hO4.out.alloc _) _ 1 (.slice (some ⟨b4, 0, none⟩) n4 c4, l4) (by rfl) (Has.made _ _ _) (ho4.out.alloc _) (by have := hpm.out; omega) (by simp; omega) ?_; intro v' w5 hown hb5 hnn; obtain ⟨g5, cap5, rfl, _, _⟩ := OwnP.form hown hnn; have hown5 := Lib.hid hown; clear hown hnn; rw [List.length_append, hpm.out, show [((Value.slice (some ⟨b4, 0, none⟩) n4 c4), l4)].length = 1 from rfl] at hown5 ⊢)
      go_roundw
      case rel => exact ⟨g5, m + 1, cap5, q, _, s4, rfl, by go_num, by omega, by show _ = _; rw [List.length_append, hpm.out]; rfl, hgood4, hown5, hrun4, (hc4.out.alloc _).keep hb5 hlt, (hA4.out.alloc _).then_below hb5⟩
      case measure => simp [intOf]
set_option maxRecDepth 100000 in
set_option maxHeartbeats 2000000 in
theorem d_lvalue (d : Nat) (h1 : ExprAt (d - 1)) (h2 : ExprAt (d - 2)) (g : Nat) (cs : List UInt8) (s : Nat × Int) (deep : Int) (w : World) (hd : deep.toNat = d) (hd1 : -10 ≤ deep) (hd2 : deep ≤ 16) (hc : Cur w g cs s) :
    Calls Tryz.prog 100 #[.pointer (some ⟨g, 0, none⟩), .int .i64 deep] w (RetG w g cs (lvalueG (exprG (d - 1)) (exprG (d - 2))) s) := by
  have hlt := hc.lt
  have hcH := Lib.hid hc
  have h1 := Lib.hid h1
  have h2 := Lib.hid h2
  have hin := Lib.hid (lvalue_in (expr_in (d - 1)) (expr_in (d - 2)))
  clear hc
  go_enter Tryz.func100, Tryz.ntmps100
  go_wp2_with fail
  refine (g_below g cs s 4 _ (by decide) (by decide) hcH.out).mono ?_
  rintro e w1 ⟨v, x, s1, rfl, rfl, hx, hr1, hc1, ha1⟩
  have hc1 := Lib.hid hc1
  have ha1 := Lib.hid ha1
  match x, hx with
  | 0, _ =>
    have hr1 := Lib.hid (show runD cs (lvalueG (exprG (d - 1)) (exprG (d - 2))) s = runD cs (.draw 11 fun _ => (exprG (d - 1)).up) s1 from hr1 _)
    go_wp2_with fail
    refine (g_word g cs s1 _ hc1.out).mono ?_
    rintro e w2 ⟨v, y, s2, rfl, ⟨t, rfl, ht⟩, hy, hr2, hc2, ha2⟩
    have hr2 := Lib.hid (hr1.out.trans (hr2 _))
    have hc2 := Lib.hid hc2
    have ha2 := Lib.hid (ha1.out.trans ha2)
    go_wp2_with fail
    refine (h1.out (deep - 1) g cs s2 _ (by omega) (by omega) (by omega) hc2.out).mono ?_
    rintro e w3 ⟨b3, n3, c3, l3, s3, rfl, hn3, hl3, ho3, hg3, hr3, hc3, ha3⟩
    have ho3 := Lib.hid (ho3.lower ha2.out.size)
    have ha3 := Lib.hid (ha2.out.trans ha3)
    have hc3 := Lib.hid hc3
    have hr3 := Lib.hid (hr2.out.trans (runD_up hr3))
    have hg3 := Lib.hid hg3
    have hl3 := Lib.hid hl3
    go_wp2_with fail
    refine (d_make _ 5 0 t ⟨#[]⟩ [(.slice (some ⟨b3, 0, none⟩) n3 c3, l3)] _ (by decide) (by decide) ht (by decide) (PartsIn.one ho3.out hg3.out (by rw [hl3.out]; omega)) (fun p hp => by obtain rfl := List.mem_singleton.1 hp; exact hg3.out) (by simp only [sumLen]; rw [hl3.out]; omega) (fun h => absurd h (by decide)) (by show 1 ≤ 8; decide)).mono ?_
    rintro e w4 hm
    have hfin := Lib.hid (RetG.over hm (by simp only [sumLen]; rw [hl3.out]) hr3.out hin.out (by decide) (hc3.out.alloc _) (ha3.out.alloc _))
    obtain ⟨v4, l4, rfl, _⟩ := hm
    go_wp2_with fail
    go_ret
    exact hfin.out
  | 1, _ =>
    have hr1 := Lib.hid (show runD cs (lvalueG (exprG (d - 1)) (exprG (d - 2))) s = runD cs (exprG (d - 2)).up s1 from hr1 _)
    go_wp2_with fail
    refine (h2.out (deep - 2) g cs s1 _ (by omega) (by omega) (by omega) hc1.out).mono ?_
    rintro e w3 ⟨b3, n3, c3, l3, s3, rfl, hn3, hl3, ho3, hg3, hr3, hc3, ha3⟩
    have ho3 := Lib.hid (ho3.lower ha1.out.size)
    have ha3 := Lib.hid (ha1.out.trans ha3)
    have hc3 := Lib.hid hc3
    have hr3 := Lib.hid (hr1.out.trans (runD_up hr3))
    have hg3 := Lib.hid hg3
    have hl3 := Lib.hid hl3
    go_wp2_with fail
    refine (d_make _ 6 0 ⟨#[]⟩ ⟨#[]⟩ [(.slice (some ⟨b3, 0, none⟩) n3 c3, l3)] _ (by decide) (by decide) (by decide) (by decide) (PartsIn.one ho3.out hg3.out (by rw [hl3.out]; omega)) (fun p hp => by obtain rfl := List.mem_singleton.1 hp; exact hg3.out) (by simp only [sumLen]; rw [hl3.out]; omega) (fun h => absurd h (by decide)) (by show 1 ≤ 8; decide)).mono ?_
    rintro e w4 hm
    have hfin := Lib.hid (RetG.over hm (by simp only [sumLen]; rw [hl3.out]) hr3.out hin.out (by decide) (hc3.out.alloc _) (ha3.out.alloc _))
    obtain ⟨v4, l4, rfl, _⟩ := hm
    go_wp2_with fail
    go_ret
    exact hfin.out
  | x + 2, _ =>
    have hr1 := Lib.hid (show runD cs (lvalueG (exprG (d - 1)) (exprG (d - 2))) s = runD cs (oneG 11) s1 from hr1 _)
    go_wp2_with fail
    refine (g_word g cs s1 _ hc1.out).mono ?_
    rintro e w2 ⟨v, y, s2, rfl, ⟨t, rfl, ht⟩, hy, hr2, hc2, ha2⟩
    have hfin := Lib.hid (RetG.one (k := 1) (o := 0) (u := ⟨#[]⟩) (by decide) (by decide) ht (by decide) (hr1.out.trans (show runD cs (oneG 11) s1 = (1, s2) from hr2 _)) hc2 (ha1.out.trans ha2))
    clear hr2 hc2 ha2 ht
    go_wp2_with fail
    go_ret
    exact hfin.out
end Go.Proofs.YtlabmboedjnpmaaGreatDoor
