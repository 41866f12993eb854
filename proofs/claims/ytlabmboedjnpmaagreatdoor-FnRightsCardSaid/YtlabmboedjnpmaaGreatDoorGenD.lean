/- Draws of trees: a number, a leaf (walks); what a draw of a tree leaves. -/
import Derived.Test.YtlabmboedjnpmaaGreatDoorMakeR
import Derived.Test.YtlabmboedjnpmaaGreatDoorGenEnd
import Derived.Test.YtlabmboedjnpmaaGreatDoorDrawR
namespace Go.Proofs.YtlabmboedjnpmaaGreatDoor
open Go.RowKit
set_option linter.unusedVariables false

theorem runD_ret (cs : List UInt8) (a : Nat) (s : Nat × Int) : runD cs (.ret a) s = (a, s) := rfl
theorem runD_bind (cs : List UInt8) (f : Nat → Gen) (g : Gen) (s : Nat × Int) : runD cs (g.bind f) s = runD cs (f (runD cs g s).1) (runD cs g s).2 := Gen.run_bind _ _ _ _ _
theorem runD_up {cs : List UInt8} {g : Gen} {s s' : Nat × Int} {a : Nat} (h : runD cs g s = (a, s')) : runD cs g.up s = (a + 1, s') := by
  unfold Gen.up
  rw [runD_bind, h]
  rfl
theorem runD_plus {cs : List UInt8} {g h : Gen} {s s' s2 : Nat × Int} {a b : Nat} (hg : runD cs g s = (a, s')) (hh : runD cs h s' = (b, s2)) : runD cs (g.plus h) s = (a + b, s2) := by
  unfold Gen.plus
  rw [runD_bind, hg, runD_bind, hh]
  rfl
theorem runD_in {cs : List UInt8} {g : Gen} {s s' : Nat × Int} {a N M : Nat} (h : runD cs g s = (a, s')) (hin : g.In N M) : a ≤ M := by
  have := (Gen.In.run (fun s => (byteD cs s).toNat) (stepD cs) hin s).1
  have e : Gen.run (fun s => (byteD cs s).toNat) (stepD cs) g s = (a, s') := h
  rw [e] at this
  exact this
/-- what a draw of a number below n leaves -/
def RetB (w : World) (g : Nat) (cs : List UInt8) (n : Nat) (s : Nat × Int) (V : Nat → Value → Prop) (e : Ending) (w' : World) : Prop := ∃ v x s', e = .returned v ∧ V x v ∧ x < n ∧ (∀ k, runD cs (.draw n k) s = runD cs (k x) s') ∧ Cur w' g cs s' ∧ Away g w w'
theorem draw_nat (cs : List UInt8) (n : Nat) (s : Nat × Int) (h0 : 0 < n) (h : n ≤ 256) : ∃ x : Nat, x < n ∧ belowD cs n s = (x : Int) ∧ belowS cs n s = stepD cs s ∧ ∀ k, runD cs (.draw n k) s = runD cs (k x) (stepD cs s) := by
  have hb := byteD_lt cs s
  obtain ⟨y, hy⟩ := Int.eq_ofNat_of_zero_le hb.1
  refine ⟨y % n, Nat.mod_lt _ h0, ?_, ?_, fun k => ?_⟩
  · unfold belowD
    rw [if_neg (by omega), if_pos (by omega), hy]
    omega
  · unfold belowS
    rw [if_neg (by omega), if_pos (by omega)]
  · show runD cs (k ((byteD cs s).toNat % n)) (stepD cs s) = _
    rw [hy, Int.toNat_natCast]
theorem g_below (g : Nat) (cs : List UInt8) (s : Nat × Int) (n : Nat) (w : World) (h0 : 0 < n) (hn : n ≤ 256) (hc : Cur w g cs s) : Calls Tryz.prog 34 #[.pointer (some ⟨g, 0, none⟩), .int .i64 (n : Int)] w (RetB w g cs n s fun x v => v = .int .i64 (x : Int)) := by
  obtain ⟨x, hx, h1, h2, h3⟩ := draw_nat cs n s h0 hn
  refine (d_below g cs s n w (by omega) hc).mono ?_
  rintro e w1 ⟨rfl, hc1, ha1⟩
  rw [h1]
  rw [h2] at hc1
  exact ⟨_, x, _, rfl, rfl, hx, h3, hc1, ha1⟩
theorem g_once (g : Nat) (cs : List UInt8) (s : Nat × Int) (n : Nat) (w : World) (h0 : 0 < n) (hn : n ≤ 256) (hc : Cur w g cs s) : Calls Tryz.prog 74 #[.pointer (some ⟨g, 0, none⟩), .int .i64 (n : Int)] w (RetB w g cs n s fun x v => v = .bool (decide (x = 0))) := by
  obtain ⟨x, hx, h1, h2, h3⟩ := draw_nat cs n s h0 hn
  refine (d_once g cs s n w (by omega) hc).mono ?_
  rintro e w1 ⟨rfl, hc1, ha1⟩
  rw [h1]
  rw [h2] at hc1
  refine ⟨_, x, _, rfl, ?_, hx, h3, hc1, ha1⟩
  congr 1
  by_cases h : x = 0
  · subst h; rfl
  · rw [decide_eq_false h]
    simp
    omega
theorem g_pick (g : Nat) (cs : List UInt8) (s : Nat × Int) (b n c : Nat) (l : List ByteArray) (w : World) (hl : l.length = n) (hn : 0 < n) (hnc : n ≤ 256) (hb : b ≠ g) (hr : StrsAt w b l) (hs : ∀ x ∈ l, x.size ≤ 16) (hc : Cur w g cs s) :
    Calls Tryz.prog 36 #[.pointer (some ⟨g, 0, none⟩), .slice (some ⟨b, 0, none⟩) n c] w (RetB w g cs n s fun x v => ∃ t : ByteArray, v = .string t ∧ t.size ≤ 16) := by
  obtain ⟨x, hx, h1, h2, h3⟩ := draw_nat cs n s hn hnc
  refine (d_pick g cs s b n c l w hl hn (by omega) hb hr hc).mono ?_
  rintro e w1 ⟨t, ht, rfl, hc1, ha1⟩
  rw [h2] at hc1
  exact ⟨_, x, _, rfl, ⟨t, rfl, hs t (List.mem_of_getElem? ht)⟩, hx, h3, hc1, ha1⟩
theorem g_pickInt (g : Nat) (cs : List UInt8) (s : Nat × Int) (b n c : Nat) (l : List Int) (w : World) (hl : l.length = n) (hn : 0 < n) (hnc : n ≤ 256) (hb : b ≠ g) (hr : NumsAt w b l) (hs : ∀ x ∈ l, 0 ≤ x ∧ x ≤ 100) (hc : Cur w g cs s) :
    Calls Tryz.prog 35 #[.pointer (some ⟨g, 0, none⟩), .slice (some ⟨b, 0, none⟩) n c] w (RetB w g cs n s fun x v => ∃ z : Int, v = .int .i64 z ∧ (0 ≤ z ∧ z ≤ 100) ∧ z ∈ l) := by
  obtain ⟨x, hx, h1, h2, h3⟩ := draw_nat cs n s hn hnc
  refine (d_pickInt g cs s b n c l w hl hn (by omega) hb hr hc).mono ?_
  rintro e w1 ⟨z, hz, rfl, hc1, ha1⟩
  rw [h2] at hc1
  exact ⟨_, x, _, rfl, ⟨z, rfl, hs z (List.mem_of_getElem? hz), List.mem_of_getElem? hz⟩, hx, h3, hc1, ha1⟩
theorem wordL_size : ∀ x ∈ wordL, x.size ≤ 16 := by decide
theorem g_word (g : Nat) (cs : List UInt8) (s : Nat × Int) (w : World) (hc : Cur w g cs s) : Calls Tryz.prog 79 #[.pointer (some ⟨g, 0, none⟩)] w (RetB w g cs 11 s fun x v => ∃ t : ByteArray, v = .string t ∧ t.size ≤ 16) := by
  obtain ⟨x, hx, h1, h2, h3⟩ := draw_nat cs 11 s (by decide) (by decide)
  refine (d_word g cs s w hc).mono ?_
  rintro e w1 ⟨t, ht, rfl, hc1, ha1⟩
  rw [show ((11 : Nat) : Int) = 11 from rfl] at h2
  rw [h2] at hc1
  exact ⟨_, x, _, rfl, ⟨t, rfl, wordL_size t (List.mem_of_getElem? ht)⟩, hx, h3, hc1, ha1⟩
theorem numS_size16 : ∀ x ∈ numS, x.size ≤ 16 := by decide
theorem g_num (g : Nat) (cs : List UInt8) (s : Nat × Int) (w : World) (hc : Cur w g cs s) : Calls Tryz.prog 112 #[.pointer (some ⟨g, 0, none⟩)] w (RetB w g cs 9 s fun x v => ∃ t : ByteArray, v = .string t ∧ t.size ≤ 16) := by
  obtain ⟨x, hx, h1, h2, h3⟩ := draw_nat cs 9 s (by decide) (by decide)
  refine (d_num g cs s w hc).mono ?_
  rintro e w1 ⟨t, ht, rfl, hc1, ha1⟩
  rw [show ((9 : Nat) : Int) = 9 from rfl] at h2
  rw [h2] at hc1
  exact ⟨_, x, _, rfl, ⟨t, rfl, numS_size16 t (List.mem_of_getElem? ht)⟩, hx, h3, hc1, ha1⟩
theorem strS_size16 : ∀ x ∈ strS, x.size ≤ 16 := by decide
theorem g_str (g : Nat) (cs : List UInt8) (s : Nat × Int) (w : World) (hc : Cur w g cs s) : Calls Tryz.prog 113 #[.pointer (some ⟨g, 0, none⟩)] w (RetB w g cs 7 s fun x v => ∃ t : ByteArray, v = .string t ∧ t.size ≤ 16) := by
  obtain ⟨x, hx, h1, h2, h3⟩ := draw_nat cs 7 s (by decide) (by decide)
  refine (d_str g cs s w hc).mono ?_
  rintro e w1 ⟨t, ht, rfl, hc1, ha1⟩
  rw [show ((7 : Nat) : Int) = 7 from rfl] at h2
  rw [h2] at hc1
  exact ⟨_, x, _, rfl, ⟨t, rfl, strS_size16 t (List.mem_of_getElem? ht)⟩, hx, h3, hc1, ha1⟩
theorem ereS_size16 : ∀ x ∈ ereS, x.size ≤ 16 := by decide
theorem g_ere (g : Nat) (cs : List UInt8) (s : Nat × Int) (w : World) (hc : Cur w g cs s) : Calls Tryz.prog 114 #[.pointer (some ⟨g, 0, none⟩)] w (RetB w g cs 6 s fun x v => ∃ t : ByteArray, v = .string t ∧ t.size ≤ 16) := by
  obtain ⟨x, hx, h1, h2, h3⟩ := draw_nat cs 6 s (by decide) (by decide)
  refine (d_ere g cs s w hc).mono ?_
  rintro e w1 ⟨t, ht, rfl, hc1, ha1⟩
  rw [show ((6 : Nat) : Int) = 6 from rfl] at h2
  rw [h2] at hc1
  exact ⟨_, x, _, rfl, ⟨t, rfl, ereS_size16 t (List.mem_of_getElem? ht)⟩, hx, h3, hc1, ha1⟩
/-- what a draw of a tree leaves: a tree with as many nodes as the plain draw gives, and the cursor where it leaves it -/
def RetG (w : World) (g : Nat) (cs : List UInt8) (G : Gen) (s : Nat × Int) (e : Ending) (w' : World) : Prop :=
  ∃ b n c l s', e = .returned (.slice (some ⟨b, 0, none⟩) n c) ∧ (0 < n ∧ n ≤ 1000) ∧ l.length = n ∧ OwnN w' w.heap.size (.slice (some ⟨b, 0, none⟩) n c) l ∧ GoodT l ∧ runD cs G s = (n, s') ∧ Cur w' g cs s' ∧ Away g w w'
/-- one node, written down -/
theorem RetG.one {w w1 : World} {g : Nat} {cs : List UInt8} {G : Gen} {s s' : Nat × Int} {k o : Int} {t u : ByteArray} (hk : 0 ≤ k ∧ k ≤ 100) (ho : 0 ≤ o ∧ o ≤ 200) (ht : t.size ≤ 16) (hu : u.size ≤ 16) (hr : runD cs G s = (1, s')) (hc : Cur w1 g cs s') (ha : Away g w w1) :
    RetG w g cs G s (.returned (.slice (some ⟨w1.heap.size, 0, none⟩) 1 1)) (w1.alloc (.cells #[.int .i64 k, .int .i64 o, .string t, .string u, .slice none 0 0] 30)) :=
  ⟨_, 1, 1, _, s', rfl, by omega, rfl, OwnN.one w1 ha.size k o t u, GoodT.one hk ho ht hu, hr, hc.alloc _, ha.alloc _⟩
/-- a node over parts -/
theorem RetG.make {w w1 w2 : World} {g n : Nat} {cs : List UInt8} {G : Gen} {s s' : Nat × Int} {e : Ending} (hm : RetMake w1 n e w2) (hn : 0 < n ∧ n ≤ 1000) (hr : runD cs G s = (n, s')) (hc : Cur w1 g cs s') (ha : Away g w w1) : RetG w g cs G s e w2 := by
  obtain ⟨v, l, rfl, ho, hg, hl, hb⟩ := hm
  have hf : v ≠ .slice none 0 0 ∨ l = [] := by
    obtain ⟨q, hq, ho2⟩ := ho
    rcases row_open ho2.1 with ⟨_, e⟩ | ⟨_, _, e, _⟩
    · right
      have := List.eq_nil_of_length_eq_zero e
      rw [← hq, this]
      rfl
    · left
      rw [e]
      simp
  rcases hf with hf | hf
  · obtain ⟨q, hq, ho2⟩ := ho
    obtain ⟨b, c, rfl, _⟩ := ho2.form hf
    have hql : q.length = n := by rw [← hl, ← hq, List.length_map]
    rw [hql] at ho2 ⊢
    exact ⟨b, n, c, l, s', rfl, hn, hl, ⟨q, hq, ho2.lower ha.size⟩, hg, hr, hc.later hb, ha.then_below (hb.mono ha.size)⟩
  · subst hf
    simp at hl
    omega
set_option maxRecDepth 100000 in
set_option maxHeartbeats 1000000 in
theorem d_leaf (g : Nat) (cs : List UInt8) (s : Nat × Int) (w : World) (hc : Cur w g cs s) : Calls Tryz.prog 99 #[.pointer (some ⟨g, 0, none⟩)] w (RetG w g cs leafG s) := by
  have hcH := Lib.hid hc
  clear hc
  go_enter Tryz.func99, Tryz.ntmps99
  go_wp2_with fail
  refine (g_below g cs s 7 _ (by decide) (by decide) hcH.out).mono ?_
  rintro e w1 ⟨v, x, s1, rfl, rfl, hx, hr1, hc1, ha1⟩
  have hc1 := Lib.hid hc1
  have ha1 := Lib.hid ha1
  match x, hx with
  | 0, _ =>
    have hr1 := Lib.hid (show runD cs leafG s = runD cs (oneG 9) s1 from hr1 _)
    go_wp2_with fail
    refine (g_num g cs s1 _ hc1.out).mono ?_
    rintro e w2 ⟨v, y, s2, rfl, ⟨t, rfl, ht⟩, hy, hr2, hc2, ha2⟩
    have hfin := Lib.hid (RetG.one (k := 2) (o := 0) (u := ⟨#[]⟩) (by decide) (by decide) ht (by decide) (hr1.out.trans (show runD cs (oneG 9) s1 = (1, s2) from hr2 _)) hc2 (ha1.out.trans ha2))
    clear hr2 hc2 ha2 ht
    go_wp2_with fail
    go_ret
    exact hfin.out
  | 1, _ =>
    have hr1 := Lib.hid (show runD cs leafG s = runD cs (oneG 7) s1 from hr1 _)
    go_wp2_with fail
    refine (g_str g cs s1 _ hc1.out).mono ?_
    rintro e w2 ⟨v, y, s2, rfl, ⟨t, rfl, ht⟩, hy, hr2, hc2, ha2⟩
    have hfin := Lib.hid (RetG.one (k := 3) (o := 0) (u := ⟨#[]⟩) (by decide) (by decide) ht (by decide) (hr1.out.trans (show runD cs (oneG 7) s1 = (1, s2) from hr2 _)) hc2 (ha1.out.trans ha2))
    clear hr2 hc2 ha2 ht
    go_wp2_with fail
    go_ret
    exact hfin.out
  | 2, _ =>
    have hr1 := Lib.hid (show runD cs leafG s = runD cs (.draw 2 fun y => match y with | 0 => oneG 6 | _ => oneG 11) s1 from hr1 _)
    go_wp2_with fail
    refine (g_once g cs s1 2 _ (by decide) (by decide) hc1.out).mono ?_
    rintro e w2 ⟨v, y, s2, rfl, rfl, hy, hr2, hc2, ha2⟩
    have hc2 := Lib.hid hc2
    have ha2 := Lib.hid (ha1.out.trans ha2)
    match y, hy with
    | 0, _ =>
      have hr2 := Lib.hid (hr1.out.trans (show _ = runD cs (oneG 6) s2 from hr2 _))
      go_wp2_with fail
      refine (g_ere g cs s2 _ hc2.out).mono ?_
      rintro e w3 ⟨v, y, s3, rfl, ⟨t, rfl, ht⟩, hy, hr3, hc3, ha3⟩
      have hfin := Lib.hid (RetG.one (k := 4) (o := 0) (u := ⟨#[]⟩) (by decide) (by decide) ht (by decide) (hr2.out.trans (show runD cs (oneG 6) s2 = (1, s3) from hr3 _)) hc3 (ha2.out.trans ha3))
      clear hr3 hc3 ha3 ht
      go_wp2_with fail
      go_ret
      exact hfin.out
    | y + 1, _ =>
      have hr2 := Lib.hid (hr1.out.trans (show _ = runD cs (oneG 11) s2 from hr2 _))
      go_wp2_with fail
      refine (g_word g cs s2 _ hc2.out).mono ?_
      rintro e w3 ⟨v, y, s3, rfl, ⟨t, rfl, ht⟩, hy, hr3, hc3, ha3⟩
      have hfin := Lib.hid (RetG.one (k := 1) (o := 0) (u := ⟨#[]⟩) (by decide) (by decide) ht (by decide) (hr2.out.trans (show runD cs (oneG 11) s2 = (1, s3) from hr3 _)) hc3 (ha2.out.trans ha3))
      clear hr3 hc3 ha3 ht
      go_wp2_with fail
      go_ret
      exact hfin.out
  | x + 3, _ =>
    have hr1 := Lib.hid (show runD cs leafG s = runD cs (oneG 11) s1 from hr1 _)
    go_wp2_with fail
    refine (g_word g cs s1 _ hc1.out).mono ?_
    rintro e w2 ⟨v, y, s2, rfl, ⟨t, rfl, ht⟩, hy, hr2, hc2, ha2⟩
    have hfin := Lib.hid (RetG.one (k := 1) (o := 0) (u := ⟨#[]⟩) (by decide) (by decide) ht (by decide) (hr1.out.trans (show runD cs (oneG 11) s1 = (1, s2) from hr2 _)) hc2 (ha1.out.trans ha2))
    clear hr2 hc2 ha2 ht
    go_wp2_with fail
    go_ret
    exact hfin.out
end Go.Proofs.YtlabmboedjnpmaaGreatDoor
