/- Draws of programs, of expressions of some size, of any tree, of a node (walks). -/
import Derived.Test.YtlabmboedjnpmaaGreatDoorGenI
namespace Go.Proofs.YtlabmboedjnpmaaGreatDoor
open Go.RowKit
set_option linter.unusedVariables false

/-- what a draw of a tree leaves, but for how large it is -/
def RetT (w : World) (g : Nat) (cs : List UInt8) (e : Ending) (w' : World) : Prop :=
  ∃ b n c l s', e = .returned (.slice (some ⟨b, 0, none⟩) n c) ∧ (0 < n ∧ n ≤ 1000) ∧ l.length = n ∧ OwnN w' w.heap.size (.slice (some ⟨b, 0, none⟩) n c) l ∧ GoodT l ∧ Cur w' g cs s' ∧ Away g w w'
theorem RetG.t {w w1 w2 : World} {g : Nat} {cs : List UInt8} {G : Gen} {s : Nat × Int} {e : Ending} (h : RetG w1 g cs G s e w2) (ha : Away g w w1) : RetT w g cs e w2 := by
  obtain ⟨b, n, c, l, s', rfl, hn, hl, ho, hg, hr, hc, ha1⟩ := h
  exact ⟨b, n, c, l, s', rfl, hn, hl, ho.lower ha.size, hg, hc, ha.trans ha1⟩
theorem RetT.via {w w1 w2 : World} {g : Nat} {cs : List UInt8} {e : Ending} (h : RetT w1 g cs e w2) (ha : Away g w w1) : RetT w g cs e w2 := by
  obtain ⟨b, n, c, l, s', rfl, hn, hl, ho, hg, hc, ha1⟩ := h
  exact ⟨b, n, c, l, s', rfl, hn, hl, ho.lower ha.size, hg, hc, ha.trans ha1⟩
/-- the state of a cursor, out of its cells -/
def stOf (w : World) (g : Nat) : Nat × Int := match w.cell? ⟨g, 1, none⟩, w.cell? ⟨g, 2, none⟩ with
  | some (.int _ i), some (.int _ h) => (i.toNat, h)
  | _, _ => (0, 0)
theorem Cur.st {w : World} {g : Nat} {cs : List UInt8} {s : Nat × Int} (h : Cur w g cs s) : stOf w g = s := by
  obtain ⟨v, h1, _⟩ := h
  have c1 : w.cell? ⟨g, 1, none⟩ = some (.int .i64 (s.1 : Int)) := h1.get (i := 1) rfl
  have c2 : w.cell? ⟨g, 2, none⟩ = some (.int .i64 s.2) := h1.get (i := 2) rfl
  unfold stOf
  rw [c1, c2]
  rfl
theorem least_exists {P : Nat → Prop} : (∃ q, P q) → ∃ q, P q ∧ ∀ r, r < q → ¬ P r := by
  intro ⟨q, hq⟩
  induction q using Nat.strongRecOn with
  | ind q ih =>
    by_cases h : ∃ r, r < q ∧ P r
    · obtain ⟨r, hr, hp⟩ := h
      exact ih r hr hp
    · exact ⟨q, hq, fun r hr hp => h ⟨r, hr, hp⟩⟩
/-- after so many rounds a small one comes -/
def SmallAt (cs : List UInt8) (G : Gen) (m : Nat) (s : Nat × Int) (q : Nat) : Prop := (runD cs G (iterS (fun y => (runD cs G y).2) q s)).1 ≤ m
open Classical in
noncomputable def leftD (cs : List UInt8) (G : Gen) (m : Nat) (s : Nat × Int) : Nat := if h : ∃ q, SmallAt cs G m s q then Classical.choose (least_exists h) else 0
theorem leftD_next {cs : List UInt8} {G : Gen} {m n : Nat} {s s' : Nat × Int} (hends : ∃ q, SmallAt cs G m s q) (hr : runD cs G s = (n, s')) (hn : ¬ n ≤ m) : leftD cs G m s' < leftD cs G m s := by
  have e0 : leftD cs G m s = Classical.choose (least_exists hends) := by unfold leftD; rw [dif_pos hends]
  obtain ⟨h1, h2⟩ := Classical.choose_spec (least_exists hends)
  rw [← e0] at h1 h2
  have hs' : s' = (runD cs G s).2 := by rw [hr]
  have hpos : leftD cs G m s ≠ 0 := by
    intro e
    rw [e] at h1
    have h1 : (runD cs G s).1 ≤ m := h1
    rw [hr] at h1
    exact hn h1
  obtain ⟨k, hk⟩ : ∃ k, leftD cs G m s = k + 1 := ⟨leftD cs G m s - 1, by omega⟩
  rw [hk] at h1 ⊢
  have hP : SmallAt cs G m s' k := by rw [hs']; exact h1
  have hends' : ∃ q, SmallAt cs G m s' q := ⟨k, hP⟩
  have e1 : leftD cs G m s' = Classical.choose (least_exists hends') := by unfold leftD; rw [dif_pos hends']
  obtain ⟨h3, h4⟩ := Classical.choose_spec (least_exists hends')
  rw [← e1] at h3 h4
  by_cases h : leftD cs G m s' < k + 1
  · exact h
  · exact absurd hP (h4 k (by omega))
theorem Cur.le {w : World} {g : Nat} {cs : List UInt8} {s : Nat × Int} (h : Cur w g cs s) : s.1 ≤ cs.length := by
  obtain ⟨v, _, _, h, _⟩ := h
  exact h
set_option maxRecDepth 100000 in
set_option maxHeartbeats 4000000 in
theorem d_some (g : Nat) (cs : List UInt8) (s : Nat × Int) (w : World) (hc : Cur w g cs s) : Calls Tryz.prog 55 #[.pointer (some ⟨g, 0, none⟩)] w (RetT w g cs) := by
  have hlt := hc.lt
  have hcH := Lib.hid hc
  clear hc
  go_enter Tryz.func55, Tryz.ntmps55
  go_wp2_with fail
  go_loopw [3] (fun lv wr => ∃ s', Hid (Cur wr g cs s') ∧ Hid (Away g w wr)) (fun _ wr => leftD cs someG 60 (stOf wr g))
  case atStart => exact ⟨s, hcH, Away.refl g w⟩
  case round =>
    obtain ⟨s0, hc0, ha0⟩ := hrel
    have hst0 := Lib.hid hc0.out.st
    go_wp2_with fail
    refine (g_below g cs s0 4 _ (by decide) (by decide) hc0.out).mono ?_
    rintro e w1 ⟨v, x, s1, rfl, rfl, hx, hrr, hcc, haa⟩
    have hr1 := Lib.hid (show runD cs someG s0 = runD cs (exprG (1 + x)) s1 from hrr _)
    have hc1 := Lib.hid hcc
    have ha1 := Lib.hid (ha0.out.trans haa)
    clear hrr hcc haa
    go_wp2_with fail
    refine (d_expr (1 + x) (by omega) _ g cs s1 _ (by omega) (by omega) (by omega) hc1.out).mono ?_
    rintro e w2 ⟨b2, n2, c2, l2, s2, rfl, hn2, hll, hoo, hgg, hrr, hcc, haa⟩
    have hr2 := Lib.hid (hr1.out.trans hrr)
    have hc2 := Lib.hid hcc
    have ha2 := Lib.hid (ha1.out.trans haa)
    have o2 := Lib.hid (hoo.lower ha1.out.size)
    have g2 := Lib.hid hgg
    have l2H := Lib.hid hll
    have hst2 := Lib.hid hc2.out.st
    clear hrr hcc haa hoo hgg hll
    by_cases h60 : n2 ≤ 60
    · go_wp2_with fail
      go_ret
      exact ⟨b2, n2, c2, l2, s2, rfl, hn2, l2H.out, o2.out, g2.out, hc2.out, ha2.out⟩
    · have hdec := Lib.hid (leftD_next (some_ends cs s0 hc0.out.le) hr2.out h60)
      go_wp2_with fail
      go_roundw
      case rel => exact ⟨s2, hc2, ha2⟩
      case measure => rw [hst0.out, hst2.out]; exact hdec.out
set_option maxRecDepth 100000 in
set_option maxHeartbeats 4000000 in
theorem d_program (g : Nat) (cs : List UInt8) (s : Nat × Int) (w : World) (hc : Cur w g cs s) : Calls Tryz.prog 57 #[.pointer (some ⟨g, 0, none⟩)] w (RetT w g cs) := by
  have hlt := hc.lt
  have hcH := Lib.hid hc
  have hin := Lib.hid prog_in
  clear hc
  go_enter Tryz.func57, Tryz.ntmps57
  go_wp2_with fail
  go_loopw [5] (fun lv wr => ∃ s', Hid (Cur wr g cs s') ∧ Hid (Away g w wr)) (fun _ wr => leftD cs progG 220 (stOf wr g))
  case atStart => exact ⟨s, hcH, Away.refl g w⟩
  case round =>
    obtain ⟨s0, hc0, ha0⟩ := hrel
    have hst0 := Lib.hid hc0.out.st
    obtain ⟨W0, hW0⟩ : ∃ W0, W0 = wr := ⟨_, rfl⟩
    subst hW0
    have hO0 := Lib.hid (OwnP.start W0 ha0.out.size)
    have hA0 := Lib.hid (ha0.out.alloc (.cells #[] 24))
    have hcA := Lib.hid (hc0.out.alloc (.cells #[] 24))
    go_wp2_with fail
    refine (g_below g cs s0 4 _ (by decide) (by decide) hcA.out).mono ?_
    rintro e w1 ⟨v, x, s1, rfl, rfl, hx, hrr, hcc, haa⟩
    have hr1 := Lib.hid (show runD cs progG s0 = runD cs ((itemG.many x).up) s1 from hrr _)
    have hO1 := Lib.hid (hO0.out.away haa hlt)
    have hA1 := Lib.hid (hA0.out.trans haa)
    have hc1 := Lib.hid hcc
    clear hrr hcc haa
    go_wp2_with fail
    go_loopw [3, 4] (fun v xv wr => ∃ (b m cap q : Nat) (ps : List (Value × List PNode)) (s' : Nat × Int), v = .slice (some ⟨b, 0, none⟩) m cap ∧ xv = .int .i64 (q : Int) ∧ m + q = x ∧ Hid (ps.length = m) ∧ Hid (∀ p ∈ ps, GoodT p.2 ∧ p.2.length ≤ 1000) ∧ Hid (OwnP wr w.heap.size (.slice (some ⟨b, 0, none⟩) m cap) ps) ∧ Hid (runD cs ((itemG).many x) s1 = (sumLen ps + (runD cs ((itemG).many q) s').1, (runD cs ((itemG).many q) s').2)) ∧ Hid (Cur wr g cs s') ∧ Hid (Away g w wr)) (fun _ xv _ => (intOf xv).toNat)
    case atStart => exact ⟨_, 0, 0, x, [], s1, rfl, rfl, by omega, rfl, (fun p h => (List.not_mem_nil h).elim), hO1, by show _ = _; simp [sumLen], hc1, hA1⟩
    case round =>
      obtain ⟨b2, m, cap, q, ps, s3, rfl, rfl, hmq, hpm, hgood, hO, hrun, hc3, hA3⟩ := hrel
      by_cases h0 : q = 0
      · subst h0
        have hsum : Hid (sumLen ps ≤ 5000) := by
          have h1 := sum_all fun p hp => (hgood.out p hp).2
          have h2 := hpm.out
          show _ ≤ _
          omega
        have hgo := Lib.hid (fun (p : Value × List PNode) hp => (hgood.out p hp).1)
        have hmb : m ≤ 4 := by omega
        have hrunE := Lib.hid (hr1.out.trans (runD_up (show runD cs (itemG.many x) s1 = (sumLen ps, s3) from hrun.out)))
        go_wp2_with fail
        refine (d_make _ 45 0 ⟨#[]⟩ ⟨#[]⟩ ps _ (by decide) (by decide) (by decide) (by decide) (hO.out.parts hgo.out (by have := hsum.out; omega)) hgo.out (by have := hsum.out; omega) (fun h => absurd h (by decide)) (by rw [hpm.out]; omega)).mono ?_
        rintro e w9 hm
        have hfin := RetG.over hm rfl hrunE.out hin.out (by decide) hc3.out hA3.out
        obtain ⟨b9, n9, c9, l9, s9, he9, hn9, hll, hoo, hgg, hrr, hcc, haa⟩ := hfin
        subst he9
        have hr9 := Lib.hid hrr
        have hc9 := Lib.hid hcc
        have ha9 := Lib.hid haa
        have o9 := Lib.hid hoo
        have g9 := Lib.hid hgg
        have l9H := Lib.hid hll
        have hst9 := Lib.hid hc9.out.st
        clear hrr hcc haa hoo hgg hll hm
        by_cases h220 : n9 ≤ 220
        · go_wp2_with fail
          go_ret
          exact ⟨b9, n9, c9, l9, s9, rfl, hn9, l9H.out, o9.out, g9.out, hc9.out, ha9.out⟩
        · have hdec := Lib.hid (leftD_next (prog_ends cs s0 hc0.out.le) hr9.out h220)
          go_wp2_with fail
          go_roundw
          case rel => exact ⟨s9, hc9, ha9⟩
          case measure => rw [hst0.out, hst9.out]; exact hdec.out
      · obtain ⟨q, rfl⟩ : ∃ p, q = p + 1 := ⟨q - 1, by omega⟩
        go_wp2_with fail
        refine (d_item g cs s3 _ hc3.out).mono ?_
        rintro e w4 ⟨b4, n4, c4, l4, s4, rfl, hn4, hl4, ho4, hg4, hr4, hc4, ha4⟩
        have hO4 := Lib.hid (hO.out.away ha4 hlt)
        have ho4 := Lib.hid (ho4.lower hA3.out.size)
        have hA4 := Lib.hid (hA3.out.trans ha4)
        have hc4 := Lib.hid hc4
        have hrun4 := Lib.hid (list_next (v := .slice (some ⟨b4, 0, none⟩) n4 c4) hrun.out hl4 hr4)
        have hgood4 := Lib.hid (show ∀ p ∈ ps ++ [(Value.slice (some ⟨b4, 0, none⟩) n4 c4, l4)], GoodT p.2 ∧ p.2.length ≤ 1000 from fun p hp => by
          rcases List.mem_append.1 hp with hp | hp
          · exact hgood.out p hp
          · obtain rfl := List.mem_singleton.1 hp
            exact ⟨hg4, by show l4.length ≤ 1000; omega⟩)
        have hsz4 := hA4.out.size
        clear ha4 hr4 hg4 hl4 hO hrun hgood
        go_wp2_with (at_builtin; refine app_part (by rfl) _ _ (by rfl) w.heap.size _ ps (by rfl) (hO4.out.alloc _) _ 1 (.slice (some ⟨b4, 0, none⟩) n4 c4, l4) (by rfl) (Has.made _ _ _) (ho4.out.alloc _) (by have := hpm.out; omega) (by simp; omega) ?_; intro v' w5 hown hb5 hnn; obtain ⟨g5, cap5, rfl, _, _⟩ := OwnP.form hown hnn; have hown5 := Lib.hid hown; clear hown hnn; rw [List.length_append, hpm.out, show [((Value.slice (some ⟨b4, 0, none⟩) n4 c4), l4)].length = 1 from rfl] at hown5 ⊢)
        go_roundw
        case rel => exact ⟨g5, m + 1, cap5, q, _, s4, rfl, by go_num, by omega, by show _ = _; rw [List.length_append, hpm.out]; rfl, hgood4, hown5, hrun4, (hc4.out.alloc _).keep hb5 hlt, (hA4.out.alloc _).then_below hb5⟩
        case measure => simp [intOf]
set_option maxRecDepth 100000 in
set_option maxHeartbeats 4000000 in
theorem d_any (g : Nat) (cs : List UInt8) (s : Nat × Int) (w : World) (hc : Cur w g cs s) : Calls Tryz.prog 33 #[.pointer (some ⟨g, 0, none⟩)] w (RetT w g cs) := by
  have hcH := Lib.hid hc
  clear hc
  go_enter Tryz.func33, Tryz.ntmps33
  go_wp2_with fail
  refine (g_below g cs s 5 _ (by decide) (by decide) hcH.out).mono ?_
  rintro e w1 ⟨v, x, s1, rfl, rfl, hx, hrr, hcc, haa⟩
  have hc1 := Lib.hid hcc
  have ha1 := Lib.hid haa
  clear hrr hcc haa
  match x, hx with
  | 0, _ =>
    go_wp2_with fail
    refine (d_some g cs s1 _ hc1.out).mono ?_
    rintro e w2 hm
    have hfin := Lib.hid (hm.via ha1.out)
    obtain ⟨bm, nm, cm, lm, sm, rfl, _⟩ := hm
    go_wp2_with fail
    go_ret
    exact hfin.out
  | 1, _ =>
    go_wp2_with fail
    refine (d_some g cs s1 _ hc1.out).mono ?_
    rintro e w2 hm
    have hfin := Lib.hid (hm.via ha1.out)
    obtain ⟨bm, nm, cm, lm, sm, rfl, _⟩ := hm
    go_wp2_with fail
    go_ret
    exact hfin.out
  | 2, _ =>
    go_wp2_with fail
    refine (d_stmt2 2 g cs s1 _ rfl (by decide) (by decide) hc1.out).mono ?_
    rintro e w2 hm
    have hfin := Lib.hid (hm.t ha1.out)
    obtain ⟨bm, nm, cm, lm, sm, rfl, _⟩ := hm
    go_wp2_with fail
    go_ret
    exact hfin.out
  | x + 3, _ =>
    go_wp2_with fail
    refine (d_program g cs s1 _ hc1.out).mono ?_
    rintro e w2 hm
    have hfin := Lib.hid (hm.via ha1.out)
    obtain ⟨bm, nm, cm, lm, sm, rfl, _⟩ := hm
    go_wp2_with fail
    go_ret
    exact hfin.out
/-- what a draw of a node leaves -/
def RetNodeD (w : World) (g : Nat) (cs : List UInt8) (e : Ending) (w' : World) : Prop :=
  ∃ (nd : PNode) (K : Option Addr) (kc : Nat) (s' : Nat × Int), e = .returned (.agg #[.int .i64 nd.kind, .int .i64 nd.op, .string nd.text, .string nd.other, .slice K nd.kids.length kc]) ∧ IntsIn w' w'.heap.size (.slice K nd.kids.length kc) nd.kids ∧ FromOn w.heap.size (.slice K nd.kids.length kc) ∧ GoodN 1000 nd ∧ Cur w' g cs s' ∧ Away g w w'
theorem OwnN.at_ {w : World} {base b n c : Nat} {l : List PNode} (h : OwnN w base (.slice (some ⟨b, 0, none⟩) n c) l) (hg : GoodT l) (hl : l.length ≤ 1048576) {i : Nat} {nd : PNode} (hi : l[i]? = some nd) :
    ∃ K kc, w.cell? ⟨b, i * 5, none⟩ = some (.int .i64 nd.kind) ∧ w.cell? ⟨b, i * 5 + 1, none⟩ = some (.int .i64 nd.op) ∧ w.cell? ⟨b, i * 5 + 2, none⟩ = some (.string nd.text) ∧ w.cell? ⟨b, i * 5 + 3, none⟩ = some (.string nd.other) ∧ w.cell? ⟨b, i * 5 + 4, none⟩ = some (.slice K nd.kids.length kc) ∧
      IntsIn w w.heap.size (.slice K nd.kids.length kc) nd.kids ∧ FromOn base (.slice K nd.kids.length kc) := by
  obtain ⟨q, rfl, h⟩ := h
  rcases row_open h.1 with ⟨e, _⟩ | ⟨b2, cap, e, hb, hgl, q1, q2, hc⟩
  · cases e
  · injection e with e1 e2 e3
    injection e1 with e1
    injection e1 with e1
    subst e1
    have hi2 := hi
    rw [List.getElem?_map] at hi
    cases hp : q[i]? with
    | none => rw [hp] at hi; cases hi
    | some p =>
      rw [hp] at hi
      obtain rfl := Option.some.inj hi
      have hm := List.mem_of_getElem? hp
      obtain ⟨e0, e1, e2, e3, e4⟩ := nodeCells_get hp
      have hin := (h.2.1 p hm).ints ((hg p.1 (List.mem_map_of_mem hm)).okN hl).2
      obtain ⟨⟨K, kc, hv, r⟩, hf⟩ := hin
      rw [hv] at hf e4
      exact ⟨K, kc, hc _ _ e0, hc _ _ e1, hc _ _ e2, hc _ _ e3, hc _ _ e4, ⟨K, kc, rfl, r⟩, hf⟩
end Go.Proofs.YtlabmboedjnpmaaGreatDoor
