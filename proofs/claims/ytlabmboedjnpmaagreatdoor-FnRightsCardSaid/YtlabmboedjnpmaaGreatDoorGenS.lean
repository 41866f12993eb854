/- Draws of statements without blocks (walks; printed by gen_draws.py). -/
import Derived.Test.YtlabmboedjnpmaaGreatDoorGenE
namespace Go.Proofs.YtlabmboedjnpmaaGreatDoor
open Go.RowKit
set_option linter.unusedVariables false

theorem runD_step {cs : List UInt8} {f : Gen} {k : Nat → Gen} {s s' : Nat × Int} {a : Nat} (h : runD cs f s = (a, s')) : runD cs (f.bind k) s = runD cs (k a) s' := by
  rw [runD_bind, h]
theorem OwnP.setO {w : World} {base b o : Nat} {v : Value} {ps : List (Value × List PNode)} (h : OwnP w base v ps) (hb : b < base) (u : Value) : OwnP (w.setCell ⟨b, o, none⟩ u) base v ps := by
  have hk : ∀ k, base ≤ k → (w.setCell ⟨b, o, none⟩ u).heap[k]? = w.heap[k]? := fun k hk => Below.heap_setCell w ⟨b, o, none⟩ u k (fun e => by have e2 : k = b := e; omega)
  refine ⟨row_keep h.1 fun k h1 => hk k (h.1.lt k h1).1, fun p hp => ?_⟩
  obtain ⟨q, e, h2⟩ := h.2 p hp
  exact ⟨q, e, h2.keep fun k T cur h3 _ _ => hk k h3⟩
theorem ret_in {cs : List UInt8} {a : Nat} {s s' : Nat × Int} {G : Gen} (h : runD cs G s = runD cs (.ret a) s') : runD cs G s = (a, s') := h
def otS : List ByteArray := [⟨#[62]⟩, ⟨#[62, 62]⟩, ⟨#[124]⟩]
theorem otS_16 : ∀ x ∈ otS, x.size ≤ 16 := by decide
def stL : List Int := [22, 25, 26]
theorem stL_100 : ∀ x ∈ stL, 0 ≤ x ∧ x ≤ 100 := by decide
def exL : List Int := [23, 24]
theorem exL_100 : ∀ x ∈ exL, 0 ≤ x ∧ x ≤ 100 := by decide
theorem exL_12 : ∀ x ∈ exL, x ≠ 12 := by decide
def coS : List ByteArray := [⟨#[35]⟩, ⟨#[35, 32, 110, 111, 116, 101]⟩, ⟨#[35, 120, 32, 61, 32, 49]⟩]
theorem coS_16 : ∀ x ∈ coS, x.size ≤ 16 := by decide
set_option maxRecDepth 100000 in
set_option maxHeartbeats 8000000 in
theorem d_simple (d : Nat) (h1 : ExprAt d) (h2 : ExprAt (d - 1)) (deep : Int) (g : Nat) (cs : List UInt8) (s : Nat × Int) (w : World) (hd : deep.toNat = d) (hd1 : -10 ≤ deep) (hd2 : deep ≤ 10) (hc : Cur w g cs s) : Calls Tryz.prog 75 #[.pointer (some ⟨g, 0, none⟩), .int .i64 deep] w (RetG w g cs (simpleG (exprG d) (exprG (d - 1))) s) := by
  have hlt := hc.lt
  have hc0 := Lib.hid hc
  have ha0 := Lib.hid (Away.refl g w)
  have h1 := Lib.hid h1
  have h2 := Lib.hid h2
  have hin := Lib.hid (simple_in (expr_in d) (expr_in (d - 1)) (by decide))
  clear hc
  go_enter Tryz.func75, Tryz.ntmps75
  go_wp2_with fail
  refine (g_below g cs s 9 _ (by decide) (by decide) hc0.out).mono ?_
  rintro e w1 ⟨v, y1, s1, rfl, rfl, hy1, hrr, hcc, haa⟩
  have d1 := Lib.hid haa
  have hr1 := Lib.hid (show runD cs (simpleG (exprG d) (exprG (d - 1))) s = runD cs (simpleK (exprG d) (exprG (d - 1)) y1) s1 from hrr _)
  have hc1 := Lib.hid hcc
  have ha1 := Lib.hid (ha0.out.trans d1.out)
  clear hrr hcc haa
  match y1, hy1, hr1 with
  | 0, _, hr1 =>
    have hr1 := Lib.hid (show runD cs (simpleG (exprG d) (exprG (d - 1))) s = runD cs (printG (exprG d) (exprG (d - 1))) s1 from hr1.out)
    go_wp2_with fail
    refine (g_below g cs s1 2 _ (by decide) (by decide) hc1.out).mono ?_
    rintro e w2 ⟨v, y2, s2, rfl, rfl, hy2, hrr, hcc, haa⟩
    have hr2 := Lib.hid (hr1.out.trans (show _ = runD cs ((listG (exprG d) y2 (4 - y2)).bind fun a => .draw 3 (printK (exprG (d - 1)) a)) s2 from hrr _))
    have hc2 := Lib.hid (hcc.alloc (.cells #[.int .i64 21, .int .i64 (y2 : Int), .string ⟨#[]⟩, .string ⟨#[]⟩, .slice none 0 0] 30))
    have ha2 := Lib.hid ((ha1.out.trans haa).alloc (.cells #[.int .i64 21, .int .i64 (y2 : Int), .string ⟨#[]⟩, .string ⟨#[]⟩, .slice none 0 0] 30))
    have hB2 := Lib.hid (Has.made w2 30 #[.int .i64 21, .int .i64 (y2 : Int), .string ⟨#[]⟩, .string ⟨#[]⟩, .slice none 0 0])
    have hw2 : w.heap.size ≤ w2.heap.size := (ha1.out.trans haa).size
    clear hrr hcc haa
    go_wp2_with fail
    refine (d_list d h1.out g cs s2 _ _ _ y2 (4 - y2) _ rfl (by omega) (by omega) (by omega) hd (by omega) (by omega) hc2.out).mono ?_
    rintro e w3 ⟨b3, m3, c3, ps3, s3, rfl, hmm, hmb3, hoo, hgg, hss, hrr, hcc, haa⟩
    have hr3 := Lib.hid (hr2.out.trans (runD_step hrr))
    have hc3 := Lib.hid hcc
    have ha3 := Lib.hid (ha2.out.trans haa)
    have hB3 := Lib.hid (haa.has hB2.out (by omega))
    have o3 := Lib.hid hoo
    have hs3 := Lib.hid hss
    have hm3 := Lib.hid hmm
    have g3 := Lib.hid hgg
    have hmb : m3 ≤ 4 := by omega
    clear hrr hcc haa hmm hoo hgg hss
    go_wp2_with fail
    refine (g_once g cs s3 3 _ (by decide) (by decide) hc3.out).mono ?_
    rintro e w4 ⟨v, y4, s4, rfl, rfl, hy4, hrr, hcc, haa⟩
    have hr4 := Lib.hid (hr3.out.trans (show _ = runD cs (printK (exprG (d - 1)) (sumLen ps3) y4) s4 from hrr _))
    have hc4 := Lib.hid hcc
    have ha4 := Lib.hid (ha3.out.trans haa)
    have hB4 := Lib.hid (haa.has hB3.out (by omega))
    have o4 := Lib.hid (o3.out.away haa (by simp; omega))
    clear hrr hcc haa
    match y4, hy4, hr4 with
    | 0, _, hr4 =>
      have hr4 := Lib.hid (show runD cs (simpleG (exprG d) (exprG (d - 1))) s = runD cs (.draw 3 fun _ => (exprG (d - 1)).bind fun b => .ret (sumLen ps3 + b + 1)) s4 from hr4.out)
      go_wp2_with fail
      refine (g_pick g cs s4 _ _ _ otS _ rfl (by decide) (by decide) (by have := ha4.out.size; omega) (StrsAt.made _ otS 9) otS_16 (hc4.out.alloc _)).mono ?_
      rintro e w5 ⟨v, y5, s5, rfl, ⟨t5, rfl, ht5⟩, hy5, hrr, hcc, haa⟩
      have hr5 := Lib.hid (hr4.out.trans (show _ = runD cs ((exprG (d - 1)).bind fun b => .ret (sumLen ps3 + b + 1)) s5 from hrr _))
      have hB5 := Lib.hid (haa.has (hB4.out.alloc _) (by omega))
      have o5 := Lib.hid ((o4.out.alloc (.cells (otS.map fun x => Value.string x).toArray 9)).away haa (by simp; omega))
      have ha5 := Lib.hid ((ha4.out.alloc (.cells (otS.map fun x => Value.string x).toArray 9)).trans haa)
      have hc5 := Lib.hid hcc
      have hl5 := hB5.out.lt
      clear hrr hcc haa
      have f53 := hB5.out.free 3
      have c53 := hB5.out.get (i := 3) rfl
      go_wp2_with fail
      clear f53 c53
      have hbel : Below w2.heap.size w5 (w5.setCell ⟨w2.heap.size, 3, none⟩ (.string t5)) := (Below.refl _ _).setCell (p := ⟨w2.heap.size, 3, none⟩) (Nat.le_refl _) _
      have hB6 := Lib.hid (show Has (w5.setCell ⟨w2.heap.size, 3, none⟩ (.string t5)) w2.heap.size 30 #[.int .i64 21, .int .i64 (y2 : Int), .string ⟨#[]⟩, .string t5, .slice none 0 0] by simpa using hB5.out.set 3 (.string t5))
      have o6 := Lib.hid (o5.out.setO (b := w2.heap.size) (o := 3) (by simp) (.string t5))
      have hc6 := Lib.hid (hc5.out.keep hbel (by omega))
      have ha6 := Lib.hid (show Away g w (w5.setCell ⟨w2.heap.size, 3, none⟩ (.string t5)) from ha5.out.then_below (hbel.mono hw2))
      obtain ⟨W6, hW6⟩ : ∃ W, w5.setCell ⟨w2.heap.size, 3, none⟩ (.string t5) = W := ⟨_, rfl⟩
      rw [hW6] at hB6 o6 hc6 ha6 ⊢
      clear hW6 hbel hl5
      go_wp2_with fail
      refine (h2.out (deep - 1) g cs s5 _ (by omega) (by omega) (by omega) hc6.out).mono ?_
      rintro e w7 ⟨b7, n7, c7, l7, s7, rfl, hn7, hll, hoo, hgg, hrr, hcc, haa⟩
      have hr7 := Lib.hid (hr5.out.trans (runD_step hrr))
      have hc7 := Lib.hid hcc
      have ha7 := Lib.hid (ha6.out.trans haa)
      have hB7 := Lib.hid (haa.has hB6.out (by omega))
      have o7 := Lib.hid (show OwnP w7 (w2.heap.size + 1) (.slice (some ⟨b3, 0, none⟩) m3 c3) ps3 by simpa using o6.out.away haa (by simp; omega))
      have p7 := Lib.hid (hoo.lower hB6.out.lt)
      have g7 := Lib.hid hgg
      have hl7 := Lib.hid hll
      have hsz7 : w2.heap.size + 1 ≤ w7.heap.size := hB7.out.lt
      clear hrr hcc haa hoo hgg hll
      go_wp2_with (at_builtin; refine app_part (by rfl) _ _ (by rfl) (w2.heap.size + 1) _ ps3 (by rfl) (o7.out.alloc _) _ 1 (.slice (some ⟨b7, 0, none⟩) n7 c7, l7) (by rfl) (Has.made _ _ _) (p7.out.alloc _) (by have := hm3.out; omega) (by simp; omega) ?_; intro v8 w8 hown hb8 hnn; obtain ⟨b8, c8, rfl, _, _⟩ := OwnP.form hown hnn; rw [List.length_append, hm3.out, show [((Value.slice (some ⟨b7, 0, none⟩) n7 c7), l7)].length = 1 from rfl] at hown ⊢; have o8 := Lib.hid hown; have hB8 := Lib.hid ((hB7.out.alloc (.cells #[.slice (some ⟨b7, 0, none⟩) n7 c7] 24)).below hb8 (Nat.lt_succ_self _)); have hc8 := Lib.hid ((hc7.out.alloc (.cells #[.slice (some ⟨b7, 0, none⟩) n7 c7] 24)).keep hb8 (by omega)); have ha8 := Lib.hid ((ha7.out.alloc (.cells #[.slice (some ⟨b7, 0, none⟩) n7 c7] 24)).then_below (hb8.mono (by omega))); have k0 := hB8.out.get (i := 0) rfl; have k1 := hB8.out.get (i := 1) rfl; have k2 := hB8.out.get (i := 2) rfl; have k3 := hB8.out.get (i := 3) rfl; have k4 := hB8.out.get (i := 4) rfl; have hl8 := hB8.out.lt; clear hown hb8 hnn)
      have hgood : Hid (∀ p ∈ ps3 ++ [(Value.slice (some ⟨b7, 0, none⟩) n7 c7, l7)], GoodT p.2) := fun p hp => by
        rcases List.mem_append.1 hp with hp | hp
        · exact g3.out p hp
        · obtain rfl := List.mem_singleton.1 hp
          exact g7.out
      have hsum : Hid (sumLen (ps3 ++ [(Value.slice (some ⟨b7, 0, none⟩) n7 c7, l7)]) = sumLen ps3 + n7) := by
        show _ = _
        rw [sumLen_append]
        simp only [sumLen, hl7.out]
        omega
      refine (d_make _ 21 _ ⟨#[]⟩ t5 (ps3 ++ [(Value.slice (some ⟨b7, 0, none⟩) n7 c7, l7)]) _ (by decide) (by omega) (by decide) ht5 (o8.out.parts hgood.out (by have := hs3.out; have := hsum.out; omega)) hgood.out (by have := hs3.out; have := hsum.out; omega) (fun h => absurd h (by decide)) (by rw [List.length_append, hm3.out]; show m3 + 1 ≤ 8; omega)).mono ?_
      rintro e w9 hm
      have hfin := Lib.hid (RetG.over hm (show _ = sumLen ps3 + n7 + 1 by rw [hsum.out]) (ret_in hr7.out) hin.out (by decide) hc8.out ha8.out)
      obtain ⟨vm, lm, rfl, _⟩ := hm
      go_wp2_with fail
      go_ret
      exact hfin.out
    | y4 + 1, _, hr4 =>
      have hr4 := Lib.hid (show runD cs (simpleG (exprG d) (exprG (d - 1))) s = runD cs (.ret (sumLen ps3 + 1)) s4 from hr4.out)
      have k0 := hB4.out.get (i := 0) rfl
      have k1 := hB4.out.get (i := 1) rfl
      have k2 := hB4.out.get (i := 2) rfl
      have k3 := hB4.out.get (i := 3) rfl
      have k4 := hB4.out.get (i := 4) rfl
      have hl4 := hB4.out.lt
      go_wp2_with fail
      refine (d_make _ 21 _ ⟨#[]⟩ ⟨#[]⟩ ps3 _ (by decide) (by omega) (by decide) (by decide) (o4.out.parts g3.out (by have := hs3.out; omega)) g3.out (by have := hs3.out; omega) (fun h => absurd h (by decide)) (by rw [hm3.out]; omega)).mono ?_
      rintro e w9 hm
      have hfin := Lib.hid (RetG.over hm rfl (ret_in hr4.out) hin.out (by decide) hc4.out ha4.out)
      obtain ⟨vm, lm, rfl, _⟩ := hm
      go_wp2_with fail
      go_ret
      exact hfin.out
  | 1, _, hr1 =>
    have hr1 := Lib.hid (show runD cs (simpleG (exprG d) (exprG (d - 1))) s = runD cs (printG (exprG d) (exprG (d - 1))) s1 from hr1.out)
    go_wp2_with fail
    refine (g_below g cs s1 2 _ (by decide) (by decide) hc1.out).mono ?_
    rintro e w2 ⟨v, y2, s2, rfl, rfl, hy2, hrr, hcc, haa⟩
    have hr2 := Lib.hid (hr1.out.trans (show _ = runD cs ((listG (exprG d) y2 (4 - y2)).bind fun a => .draw 3 (printK (exprG (d - 1)) a)) s2 from hrr _))
    have hc2 := Lib.hid (hcc.alloc (.cells #[.int .i64 21, .int .i64 (y2 : Int), .string ⟨#[]⟩, .string ⟨#[]⟩, .slice none 0 0] 30))
    have ha2 := Lib.hid ((ha1.out.trans haa).alloc (.cells #[.int .i64 21, .int .i64 (y2 : Int), .string ⟨#[]⟩, .string ⟨#[]⟩, .slice none 0 0] 30))
    have hB2 := Lib.hid (Has.made w2 30 #[.int .i64 21, .int .i64 (y2 : Int), .string ⟨#[]⟩, .string ⟨#[]⟩, .slice none 0 0])
    have hw2 : w.heap.size ≤ w2.heap.size := (ha1.out.trans haa).size
    clear hrr hcc haa
    go_wp2_with fail
    refine (d_list d h1.out g cs s2 _ _ _ y2 (4 - y2) _ rfl (by omega) (by omega) (by omega) hd (by omega) (by omega) hc2.out).mono ?_
    rintro e w3 ⟨b3, m3, c3, ps3, s3, rfl, hmm, hmb3, hoo, hgg, hss, hrr, hcc, haa⟩
    have hr3 := Lib.hid (hr2.out.trans (runD_step hrr))
    have hc3 := Lib.hid hcc
    have ha3 := Lib.hid (ha2.out.trans haa)
    have hB3 := Lib.hid (haa.has hB2.out (by omega))
    have o3 := Lib.hid hoo
    have hs3 := Lib.hid hss
    have hm3 := Lib.hid hmm
    have g3 := Lib.hid hgg
    have hmb : m3 ≤ 4 := by omega
    clear hrr hcc haa hmm hoo hgg hss
    go_wp2_with fail
    refine (g_once g cs s3 3 _ (by decide) (by decide) hc3.out).mono ?_
    rintro e w4 ⟨v, y4, s4, rfl, rfl, hy4, hrr, hcc, haa⟩
    have hr4 := Lib.hid (hr3.out.trans (show _ = runD cs (printK (exprG (d - 1)) (sumLen ps3) y4) s4 from hrr _))
    have hc4 := Lib.hid hcc
    have ha4 := Lib.hid (ha3.out.trans haa)
    have hB4 := Lib.hid (haa.has hB3.out (by omega))
    have o4 := Lib.hid (o3.out.away haa (by simp; omega))
    clear hrr hcc haa
    match y4, hy4, hr4 with
    | 0, _, hr4 =>
      have hr4 := Lib.hid (show runD cs (simpleG (exprG d) (exprG (d - 1))) s = runD cs (.draw 3 fun _ => (exprG (d - 1)).bind fun b => .ret (sumLen ps3 + b + 1)) s4 from hr4.out)
      go_wp2_with fail
      refine (g_pick g cs s4 _ _ _ otS _ rfl (by decide) (by decide) (by have := ha4.out.size; omega) (StrsAt.made _ otS 9) otS_16 (hc4.out.alloc _)).mono ?_
      rintro e w5 ⟨v, y5, s5, rfl, ⟨t5, rfl, ht5⟩, hy5, hrr, hcc, haa⟩
      have hr5 := Lib.hid (hr4.out.trans (show _ = runD cs ((exprG (d - 1)).bind fun b => .ret (sumLen ps3 + b + 1)) s5 from hrr _))
      have hB5 := Lib.hid (haa.has (hB4.out.alloc _) (by omega))
      have o5 := Lib.hid ((o4.out.alloc (.cells (otS.map fun x => Value.string x).toArray 9)).away haa (by simp; omega))
      have ha5 := Lib.hid ((ha4.out.alloc (.cells (otS.map fun x => Value.string x).toArray 9)).trans haa)
      have hc5 := Lib.hid hcc
      have hl5 := hB5.out.lt
      clear hrr hcc haa
      have f53 := hB5.out.free 3
      have c53 := hB5.out.get (i := 3) rfl
      go_wp2_with fail
      clear f53 c53
      have hbel : Below w2.heap.size w5 (w5.setCell ⟨w2.heap.size, 3, none⟩ (.string t5)) := (Below.refl _ _).setCell (p := ⟨w2.heap.size, 3, none⟩) (Nat.le_refl _) _
      have hB6 := Lib.hid (show Has (w5.setCell ⟨w2.heap.size, 3, none⟩ (.string t5)) w2.heap.size 30 #[.int .i64 21, .int .i64 (y2 : Int), .string ⟨#[]⟩, .string t5, .slice none 0 0] by simpa using hB5.out.set 3 (.string t5))
      have o6 := Lib.hid (o5.out.setO (b := w2.heap.size) (o := 3) (by simp) (.string t5))
      have hc6 := Lib.hid (hc5.out.keep hbel (by omega))
      have ha6 := Lib.hid (show Away g w (w5.setCell ⟨w2.heap.size, 3, none⟩ (.string t5)) from ha5.out.then_below (hbel.mono hw2))
      obtain ⟨W6, hW6⟩ : ∃ W, w5.setCell ⟨w2.heap.size, 3, none⟩ (.string t5) = W := ⟨_, rfl⟩
      rw [hW6] at hB6 o6 hc6 ha6 ⊢
      clear hW6 hbel hl5
      go_wp2_with fail
      refine (h2.out (deep - 1) g cs s5 _ (by omega) (by omega) (by omega) hc6.out).mono ?_
      rintro e w7 ⟨b7, n7, c7, l7, s7, rfl, hn7, hll, hoo, hgg, hrr, hcc, haa⟩
      have hr7 := Lib.hid (hr5.out.trans (runD_step hrr))
      have hc7 := Lib.hid hcc
      have ha7 := Lib.hid (ha6.out.trans haa)
      have hB7 := Lib.hid (haa.has hB6.out (by omega))
      have o7 := Lib.hid (show OwnP w7 (w2.heap.size + 1) (.slice (some ⟨b3, 0, none⟩) m3 c3) ps3 by simpa using o6.out.away haa (by simp; omega))
      have p7 := Lib.hid (hoo.lower hB6.out.lt)
      have g7 := Lib.hid hgg
      have hl7 := Lib.hid hll
      have hsz7 : w2.heap.size + 1 ≤ w7.heap.size := hB7.out.lt
      clear hrr hcc haa hoo hgg hll
      go_wp2_with (at_builtin; refine app_part (by rfl) _ _ (by rfl) (w2.heap.size + 1) _ ps3 (by rfl) (o7.out.alloc _) _ 1 (.slice (some ⟨b7, 0, none⟩) n7 c7, l7) (by rfl) (Has.made _ _ _) (p7.out.alloc _) (by have := hm3.out; omega) (by simp; omega) ?_; intro v8 w8 hown hb8 hnn; obtain ⟨b8, c8, rfl, _, _⟩ := OwnP.form hown hnn; rw [List.length_append, hm3.out, show [((Value.slice (some ⟨b7, 0, none⟩) n7 c7), l7)].length = 1 from rfl] at hown ⊢; have o8 := Lib.hid hown; have hB8 := Lib.hid ((hB7.out.alloc (.cells #[.slice (some ⟨b7, 0, none⟩) n7 c7] 24)).below hb8 (Nat.lt_succ_self _)); have hc8 := Lib.hid ((hc7.out.alloc (.cells #[.slice (some ⟨b7, 0, none⟩) n7 c7] 24)).keep hb8 (by omega)); have ha8 := Lib.hid ((ha7.out.alloc (.cells #[.slice (some ⟨b7, 0, none⟩) n7 c7] 24)).then_below (hb8.mono (by omega))); have k0 := hB8.out.get (i := 0) rfl; have k1 := hB8.out.get (i := 1) rfl; have k2 := hB8.out.get (i := 2) rfl; have k3 := hB8.out.get (i := 3) rfl; have k4 := hB8.out.get (i := 4) rfl; have hl8 := hB8.out.lt; clear hown hb8 hnn)
      have hgood : Hid (∀ p ∈ ps3 ++ [(Value.slice (some ⟨b7, 0, none⟩) n7 c7, l7)], GoodT p.2) := fun p hp => by
        rcases List.mem_append.1 hp with hp | hp
        · exact g3.out p hp
        · obtain rfl := List.mem_singleton.1 hp
          exact g7.out
      have hsum : Hid (sumLen (ps3 ++ [(Value.slice (some ⟨b7, 0, none⟩) n7 c7, l7)]) = sumLen ps3 + n7) := by
        show _ = _
        rw [sumLen_append]
        simp only [sumLen, hl7.out]
        omega
      refine (d_make _ 21 _ ⟨#[]⟩ t5 (ps3 ++ [(Value.slice (some ⟨b7, 0, none⟩) n7 c7, l7)]) _ (by decide) (by omega) (by decide) ht5 (o8.out.parts hgood.out (by have := hs3.out; have := hsum.out; omega)) hgood.out (by have := hs3.out; have := hsum.out; omega) (fun h => absurd h (by decide)) (by rw [List.length_append, hm3.out]; show m3 + 1 ≤ 8; omega)).mono ?_
      rintro e w9 hm
      have hfin := Lib.hid (RetG.over hm (show _ = sumLen ps3 + n7 + 1 by rw [hsum.out]) (ret_in hr7.out) hin.out (by decide) hc8.out ha8.out)
      obtain ⟨vm, lm, rfl, _⟩ := hm
      go_wp2_with fail
      go_ret
      exact hfin.out
    | y4 + 1, _, hr4 =>
      have hr4 := Lib.hid (show runD cs (simpleG (exprG d) (exprG (d - 1))) s = runD cs (.ret (sumLen ps3 + 1)) s4 from hr4.out)
      have k0 := hB4.out.get (i := 0) rfl
      have k1 := hB4.out.get (i := 1) rfl
      have k2 := hB4.out.get (i := 2) rfl
      have k3 := hB4.out.get (i := 3) rfl
      have k4 := hB4.out.get (i := 4) rfl
      have hl4 := hB4.out.lt
      go_wp2_with fail
      refine (d_make _ 21 _ ⟨#[]⟩ ⟨#[]⟩ ps3 _ (by decide) (by omega) (by decide) (by decide) (o4.out.parts g3.out (by have := hs3.out; omega)) g3.out (by have := hs3.out; omega) (fun h => absurd h (by decide)) (by rw [hm3.out]; omega)).mono ?_
      rintro e w9 hm
      have hfin := Lib.hid (RetG.over hm rfl (ret_in hr4.out) hin.out (by decide) hc4.out ha4.out)
      obtain ⟨vm, lm, rfl, _⟩ := hm
      go_wp2_with fail
      go_ret
      exact hfin.out
  | 2, _, hr1 =>
    have hr1 := Lib.hid (show runD cs (simpleG (exprG d) (exprG (d - 1))) s = runD cs (oneG 3) s1 from hr1.out)
    go_wp2_with fail
    go_wp2_with fail
    refine (g_pickInt g cs s1 _ _ _ stL _ rfl (by decide) (by decide) (by have := ha1.out.size; omega) (NumsAt.made _ stL 3) stL_100 (hc1.out.alloc _)).mono ?_
    rintro e w2 ⟨v, y2, s2, rfl, ⟨z2, rfl, hz2, hzm2⟩, hy2, hrr, hcc, haa⟩
    have d2 := Lib.hid haa
    have hr2 := Lib.hid (hr1.out.trans (show _ = runD cs (.ret 1) s2 from hrr _))
    have hc2 := Lib.hid hcc
    have ha2 := Lib.hid ((ha1.out.alloc _).trans d2.out)
    clear hrr hcc haa
    have hfin := Lib.hid (RetG.one (k := z2) (o := 0) (t := ⟨#[]⟩) (u := ⟨#[]⟩) (by first | decide | omega) (by decide) (by decide) (by decide) (hr2.out) hc2.out ha2.out)
    go_wp2_with fail
    go_ret
    exact hfin.out
  | 3, _, hr1 =>
    have hr1 := Lib.hid (show runD cs (simpleG (exprG d) (exprG (d - 1))) s = runD cs (.draw 2 fun _ => (listG (exprG d) 0 2).up) s1 from hr1.out)
    go_wp2_with fail
    go_wp2_with fail
    refine (g_pickInt g cs s1 _ _ _ exL _ rfl (by decide) (by decide) (by have := ha1.out.size; omega) (NumsAt.made _ exL 3) exL_100 (hc1.out.alloc _)).mono ?_
    rintro e w2 ⟨v, y2, s2, rfl, ⟨z2, rfl, hz2, hzm2⟩, hy2, hrr, hcc, haa⟩
    have d2 := Lib.hid haa
    have hr2 := Lib.hid (hr1.out.trans (show _ = runD cs ((listG (exprG d) 0 2).up) s2 from hrr _))
    have hc2 := Lib.hid hcc
    have ha2 := Lib.hid ((ha1.out.alloc _).trans d2.out)
    clear hrr hcc haa
    go_wp2_with fail
    refine (d_list d h1.out g cs s2 _ _ _ 0 2 _ rfl rfl (by decide) (by decide) (by omega) (by omega) (by omega) hc2.out).mono ?_
    rintro e w3 ⟨b3, m3, c3, ps3, s3, rfl, hmm, hmb3, hoo, hgg, hss, hrr, hcc, haa⟩
    have d3 := Lib.hid haa
    have o3 := Lib.hid (hoo.lower ha2.out.size)
    have q3 := Lib.hid hrr
    have g3 := Lib.hid hgg
    have hm3 := Lib.hid hmm
    have hs3 := Lib.hid hss
    have hc3 := Lib.hid hcc
    have ha3 := Lib.hid (ha2.out.trans d3.out)
    clear hrr hcc haa hmm hoo hgg hss
    go_wp2_with fail
    refine (d_make _ _ 0 ⟨#[]⟩ ⟨#[]⟩ ps3 _ (by first | decide | omega) (by decide) (by decide) (by decide) (o3.out.parts g3.out (by have := hs3.out; omega)) g3.out (by have := hs3.out; omega) (fun h => by first | exact absurd h (by decide) | (rw [hm3.out]; omega)) (by rw [hm3.out]; omega)).mono ?_
    rintro e w4 hm
    have hfin := Lib.hid (RetG.over hm rfl (hr2.out.trans (runD_up q3.out)) hin.out (by decide) (hc3.out) (ha3.out))
    obtain ⟨vm, lm, rfl, _⟩ := hm
    go_wp2_with fail
    go_ret
    exact hfin.out
  | 4, _, hr1 =>
    have hr1 := Lib.hid (show runD cs (simpleG (exprG d) (exprG (d - 1))) s = runD cs (.draw 11 fun _ => (listG (exprG (d - 1)) 0 3).up) s1 from hr1.out)
    go_wp2_with fail
    refine (g_word g cs s1 _ hc1.out).mono ?_
    rintro e w2 ⟨v, y2, s2, rfl, ⟨t2, rfl, ht2⟩, hy2, hrr, hcc, haa⟩
    have d2 := Lib.hid haa
    have hr2 := Lib.hid (hr1.out.trans (show _ = runD cs ((listG (exprG (d - 1)) 0 3).up) s2 from hrr _))
    have hc2 := Lib.hid hcc
    have ha2 := Lib.hid (ha1.out.trans d2.out)
    clear hrr hcc haa
    go_wp2_with fail
    refine (d_list (d - 1) h2.out g cs s2 _ _ _ 0 3 _ rfl rfl (by decide) (by decide) (by omega) (by omega) (by omega) hc2.out).mono ?_
    rintro e w3 ⟨b3, m3, c3, ps3, s3, rfl, hmm, hmb3, hoo, hgg, hss, hrr, hcc, haa⟩
    have d3 := Lib.hid haa
    have o3 := Lib.hid (hoo.lower ha2.out.size)
    have q3 := Lib.hid hrr
    have g3 := Lib.hid hgg
    have hm3 := Lib.hid hmm
    have hs3 := Lib.hid hss
    have hc3 := Lib.hid hcc
    have ha3 := Lib.hid (ha2.out.trans d3.out)
    clear hrr hcc haa hmm hoo hgg hss
    go_wp2_with fail
    refine (d_make _ 27 0 t2 ⟨#[]⟩ ps3 _ (by first | decide | omega) (by decide) ht2 (by decide) (o3.out.parts g3.out (by have := hs3.out; omega)) g3.out (by have := hs3.out; omega) (fun h => by first | exact absurd h (by decide) | (rw [hm3.out]; omega)) (by rw [hm3.out]; omega)).mono ?_
    rintro e w4 hm
    have hfin := Lib.hid (RetG.over hm rfl (hr2.out.trans (runD_up q3.out)) hin.out (by decide) (hc3.out) (ha3.out))
    obtain ⟨vm, lm, rfl, _⟩ := hm
    go_wp2_with fail
    go_ret
    exact hfin.out
  | 5, _, hr1 =>
    have hr1 := Lib.hid (show runD cs (simpleG (exprG d) (exprG (d - 1))) s = runD cs (.draw 2 (noteK (exprG d))) s1 from hr1.out)
    go_wp2_with fail
    refine (g_once g cs s1 2 _ (by decide) (by decide) hc1.out).mono ?_
    rintro e w2 ⟨v, y2, s2, rfl, rfl, hy2, hrr, hcc, haa⟩
    have d2 := Lib.hid haa
    have hr2 := Lib.hid (hr1.out.trans (show _ = runD cs (noteK (exprG d) y2) s2 from hrr _))
    have hc2 := Lib.hid hcc
    have ha2 := Lib.hid (ha1.out.trans d2.out)
    clear hrr hcc haa
    match y2, hy2, hr2 with
    | 0, _, hr2 =>
      have hr2 := Lib.hid (show runD cs (simpleG (exprG d) (exprG (d - 1))) s = runD cs (oneG 3) s2 from hr2.out)
      go_wp2_with fail
      go_wp2_with fail
      refine (g_pick g cs s2 _ _ _ coS _ rfl (by decide) (by decide) (by have := ha2.out.size; omega) (StrsAt.made _ coS 9) coS_16 (hc2.out.alloc _)).mono ?_
      rintro e w3 ⟨v, y3, s3, rfl, ⟨t3, rfl, ht3⟩, hy3, hrr, hcc, haa⟩
      have d3 := Lib.hid haa
      have hr3 := Lib.hid (hr2.out.trans (show _ = runD cs (.ret 1) s3 from hrr _))
      have hc3 := Lib.hid hcc
      have ha3 := Lib.hid ((ha2.out.alloc _).trans d3.out)
      clear hrr hcc haa
      have hfin := Lib.hid (RetG.one (k := 34) (o := 0) (t := t3) (u := ⟨#[]⟩) (by first | decide | omega) (by decide) ht3 (by decide) (hr3.out) hc3.out ha3.out)
      go_wp2_with fail
      go_ret
      exact hfin.out
    | y2 + 1, _, hr2 =>
      have hr2 := Lib.hid (show runD cs (simpleG (exprG d) (exprG (d - 1))) s = runD cs ((exprG d).up) s2 from hr2.out)
      go_wp2_with fail
      refine (h1.out deep g cs s2 _ (by omega) (by omega) (by omega) hc2.out).mono ?_
      rintro e w3 ⟨b3, n3, c3, l3, s3, rfl, hn3, hll, hoo, hgg, hrr, hcc, haa⟩
      have d3 := Lib.hid haa
      have o3 := Lib.hid (hoo.lower ha2.out.size)
      have q3 := Lib.hid hrr
      have g3 := Lib.hid hgg
      have hl3 := Lib.hid hll
      have hc3 := Lib.hid hcc
      have ha3 := Lib.hid (ha2.out.trans d3.out)
      clear hrr hcc haa hll hoo hgg
      go_wp2_with fail
      refine (d_make _ 20 0 ⟨#[]⟩ ⟨#[]⟩ [(.slice (some ⟨b3, 0, none⟩) n3 c3, l3)] _ (by first | decide | omega) (by decide) (by decide) (by decide) (PartsIn.one o3.out g3.out (by rw [hl3.out]; omega)) (fun p hp => by obtain rfl := List.mem_singleton.1 hp; exact g3.out) (by simp only [sumLen, hl3.out]; omega) (fun h => by first | exact absurd h (by decide) | (show 1 ≤ 2; decide)) (by show 1 ≤ 8; decide)).mono ?_
      rintro e w4 hm
      have hfin := Lib.hid (RetG.over hm (show sumLen [(.slice (some ⟨b3, 0, none⟩) n3 c3, l3)] + 1 = _ by simp only [sumLen, hl3.out]; try omega) (hr2.out.trans (runD_up q3.out)) hin.out (by decide) (hc3.out.alloc _) (ha3.out.alloc _))
      obtain ⟨vm, lm, rfl, _⟩ := hm
      go_wp2_with fail
      go_ret
      exact hfin.out
  | x + 6, _, hr1 =>
    have hr1 := Lib.hid (show runD cs (simpleG (exprG d) (exprG (d - 1))) s = runD cs ((exprG d).up) s1 from hr1.out)
    go_wp2_with fail
    refine (h1.out deep g cs s1 _ (by omega) (by omega) (by omega) hc1.out).mono ?_
    rintro e w2 ⟨b2, n2, c2, l2, s2, rfl, hn2, hll, hoo, hgg, hrr, hcc, haa⟩
    have d2 := Lib.hid haa
    have o2 := Lib.hid (hoo.lower ha1.out.size)
    have q2 := Lib.hid hrr
    have g2 := Lib.hid hgg
    have hl2 := Lib.hid hll
    have hc2 := Lib.hid hcc
    have ha2 := Lib.hid (ha1.out.trans d2.out)
    clear hrr hcc haa hll hoo hgg
    go_wp2_with fail
    refine (d_make _ 20 0 ⟨#[]⟩ ⟨#[]⟩ [(.slice (some ⟨b2, 0, none⟩) n2 c2, l2)] _ (by first | decide | omega) (by decide) (by decide) (by decide) (PartsIn.one o2.out g2.out (by rw [hl2.out]; omega)) (fun p hp => by obtain rfl := List.mem_singleton.1 hp; exact g2.out) (by simp only [sumLen, hl2.out]; omega) (fun h => by first | exact absurd h (by decide) | (show 1 ≤ 2; decide)) (by show 1 ≤ 8; decide)).mono ?_
    rintro e w3 hm
    have hfin := Lib.hid (RetG.over hm (show sumLen [(.slice (some ⟨b2, 0, none⟩) n2 c2, l2)] + 1 = _ by simp only [sumLen, hl2.out]; try omega) (hr1.out.trans (runD_up q2.out)) hin.out (by decide) (hc2.out.alloc _) (ha2.out.alloc _))
    obtain ⟨vm, lm, rfl, _⟩ := hm
    go_wp2_with fail
    go_ret
    exact hfin.out
end Go.Proofs.YtlabmboedjnpmaaGreatDoor
