/- Draws of trees that may be bent or spoilt: l6Bent, l7Spoilt, DrawTreeOk (walks). -/
import Derived.Test.YtlabmboedjnpmaaGreatDoorBentR
namespace Go.Proofs.YtlabmboedjnpmaaGreatDoor
open Go.RowKit
set_option linter.unusedVariables false
def bentL (x : Nat) : List Int := [-1, (x : Int), 0, 99]
theorem bentL_at {x : Nat} (hx : x ≤ 1000) : ∀ y ∈ bentL x, -1 ≤ y ∧ y ≤ 1000 := by
  intro y hy
  simp only [bentL, List.mem_cons, List.not_mem_nil, or_false] at hy
  omega
theorem p_ints (g : Nat) (cs : List UInt8) (s : Nat × Int) (l : List Int) (n : Nat) (lo hi : Int) (W : World) (hn : l.length = n) (h0 : 0 < n) (h1 : n ≤ 1000) (hl : ∀ y ∈ l, lo ≤ y ∧ y ≤ hi) (hc : Cur W g cs s) :
    Calls Tryz.prog 35 #[.pointer (some ⟨g, 0, none⟩), .slice (some ⟨W.heap.size, 0, none⟩) n n] (W.alloc (.cells (l.map fun x => Value.int .i64 x).toArray 3)) fun e w' => ∃ y, e = .returned (.int .i64 y) ∧ (lo ≤ y ∧ y ≤ hi) ∧ Away g W w' := by
  have hlt := hc.lt
  refine (d_pickInt g cs s W.heap.size n n l _ hn h0 h1 (by omega) (NumsAt.made _ l 3) (hc.alloc _)).mono ?_
  rintro e w4 ⟨y, hy, rfl, _, ha⟩
  exact ⟨y, rfl, hl y (List.mem_of_getElem? hy), ((Away.refl g W).alloc _).trans ha⟩
theorem p_strs (g : Nat) (cs : List UInt8) (s : Nat × Int) (l : List ByteArray) (n : Nat) (W : World) (hn : l.length = n) (h0 : 0 < n) (h1 : n ≤ 1000) (hl : ∀ y ∈ l, y.size ≤ 16) (hc : Cur W g cs s) :
    Calls Tryz.prog 36 #[.pointer (some ⟨g, 0, none⟩), .slice (some ⟨W.heap.size, 0, none⟩) n n] (W.alloc (.cells (l.map fun x => Value.string x).toArray 9)) fun e w' => ∃ y, e = .returned (.string y) ∧ y.size ≤ 16 ∧ Away g W w' := by
  have hlt := hc.lt
  refine (d_pick g cs s W.heap.size n n l _ hn h0 h1 (by omega) (StrsAt.made _ l 9) (hc.alloc _)).mono ?_
  rintro e w4 ⟨y, hy, rfl, _, ha⟩
  exact ⟨y, rfl, hl y (List.mem_of_getElem? hy), ((Away.refl g W).alloc _).trans ha⟩
theorem p_below (g : Nat) (cs : List UInt8) (s : Nat × Int) (n : Int) (W : World) (h0 : 0 < n) (h1 : n ≤ 4294967296) (hc : Cur W g cs s) :
    Calls Tryz.prog 34 #[.pointer (some ⟨g, 0, none⟩), .int .i64 n] W fun e w' => ∃ z, e = .returned (.int .i64 z) ∧ (0 ≤ z ∧ z < n) ∧ Away g W w' := by
  refine (d_below g cs s n _ h1 hc).mono ?_
  rintro e w4 ⟨rfl, _, ha⟩
  exact ⟨_, rfl, belowD_lt cs h0 s, ha⟩
set_option maxRecDepth 100000 in
set_option maxHeartbeats 4000000 in
theorem d_bent (g : Nat) (cs : List UInt8) (s : Nat × Int) (w : World) (hc : Cur w g cs s) : Calls Tryz.prog 37 #[.pointer (some ⟨g, 0, none⟩)] w (RetS w g) := by
  have hlt := hc.lt
  have hcH := Lib.hid hc
  clear hc
  go_enter Tryz.func37, Tryz.ntmps37
  go_wp2_with fail
  refine (d_any g cs s _ hcH.out).mono ?_
  rintro e w1 ⟨b, n, c, l, s1, rfl, hn, hll, hoo, hgg, hcc, haa⟩
  obtain ⟨q, rfl, hQ⟩ := hoo
  rw [List.length_map] at hll
  have hc1 := Lib.hid hcc
  have ha1 := Lib.hid haa
  have hQ1 := Lib.hid hQ
  have hG := Lib.hid hgg
  have hqn := Lib.hid hll.symm
  have hS := Lib.hid (hG.out.smallT (by rw [List.length_map, ← hqn.out]; exact hn.2))
  clear hgg hcc haa hQ hll
  go_wp2_with fail
  refine (d_below g cs s1 (n : Int) _ (by omega) hc1.out).mono ?_
  rintro e w2 ⟨rfl, hcc, haa⟩
  have hx := belowD_lt cs (show (0 : Int) < (n : Int) by omega) s1
  obtain ⟨x, hxx⟩ : ∃ x : Nat, belowD cs (n : Int) s1 = (x : Int) := Int.eq_ofNat_of_zero_le hx.1
  rw [hxx] at hx ⊢
  have hxn : x < n := by omega
  have hc2 := Lib.hid hcc
  have ha2 := Lib.hid (ha1.out.trans haa)
  have hQ2 := Lib.hid (hQ1.out.away haa hlt)
  clear hxx hx hcc haa
  go_wp2_with fail
  refine (g_below g cs _ 12 _ (by decide) (by decide) hc2.out).mono ?_
  rintro e w3 ⟨v, y, s3, rfl, rfl, hy, hrr, hcc, haa⟩
  have hc3 := Lib.hid hcc
  have ha3 := Lib.hid (ha2.out.trans haa)
  have hQ3 := Lib.hid (hQ2.out.away haa hlt)
  obtain ⟨p, hp⟩ : ∃ p, q[x]? = some p := ⟨q[x]'(by rw [← hqn.out]; exact hxn), List.getElem?_eq_getElem _⟩
  obtain ⟨⟨_, _, _, _, e4⟩, hfr, hbl, hbb, hnc, hcm⟩ := hQ3.out.look hp
  obtain ⟨K, kc, hp2⟩ := hQ3.out.kid_form hp
  have hfar := hQ3.out.kid_far hp
  obtain ⟨kn, hkn⟩ : ∃ kn, p.1.kids.length = kn := ⟨_, rfl⟩
  have hkb : kn ≤ 8 := by have := (hG.out p.1 (List.mem_map_of_mem (List.mem_of_getElem? hp))).few; omega
  rw [hkn] at hp2
  rw [hp2] at e4 hfar
  have hnb := Lib.hid hfar
  have hpH := Lib.hid hp
  have hp2H := Lib.hid hp2
  have hknH := Lib.hid hkn
  have e4H := Lib.hid e4
  have hfrH := Lib.hid hfr
  have hs3 := ha3.out.size
  clear hfar
  unfold maxLen at hcm
  clear hrr hcc haa hp hp2 hkn e4 hfr hc2 ha2 hQ2 hc1 ha1 hQ1
  have hx0 : (0 : Int) ≤ (x : Int) := by omega
  have hx1 : (x : Int) ≤ (c : Int) := by omega
  have hx2 : (x : Int) < (n : Int) := by omega
  match y, hy with
  | 0, _ =>
    go_wp2_with fail
    go_ret
    exact ⟨_, _, _, _, rfl, (hQ3.out.small hS.out).first (by omega), hS.out.take x, ha3.out⟩
  | 1, _ =>
    have hwr : (w3.drewN 1).heap.size = w3.heap.size := rfl
    have c0 := e4H.out
    have hQ3d := Lib.hid (show OwnQ (w3.drewN 1) w.heap.size (.slice (some ⟨b, 0, none⟩) n c) q from hQ3.out)
    have hb3 : b < (w3.drewN 1).heap.size := hbl
    go_wp2_with fail
    go_region_law (first
      | (refine step_app_int (by rfl) _ _ (by rfl) w.heap.size (.slice K kn kc) kn (p.1.kids.map fun k => Value.int .i64 k) (by rfl) ((hI4.out).alloc _) w4.heap.size 1 y4 (by rfl) (Has.made _ _ _) (by omega) (by simp; omega) (w4.heap.size + 1) (by simp) ?_; intro g5 cap5 w5 hown5 hgrow hat hlt5; have hkeep5 : w5.cell? ⟨b, x * 5 + 4, none⟩ = some (.slice K kn kc) := (grown_far hgrow (by simp; omega) (fun e => absurd e.symm (hnb.out)) (x * 5 + 4)).trans (((((Below.refl w4.heap.size w4).alloc (Nat.le_refl _) (.cells #[.int .i64 y4] 3)).cell (p := ⟨b, x * 5 + 4, none⟩) hb4).trans c44)); have hfr5 : w5.frozen? ⟨b, x * 5 + 4, none⟩ = false := (World.grownBy.frozen_far hgrow ⟨b, x * 5 + 4, none⟩ (by simp; omega) (fun e => absurd e.symm (hnb.out))).trans (hf4.out); have hatH := Lib.hid hat; have hown5H := Lib.hid hown5; have hgrowH := Lib.hid hgrow; clear hat hown5 hgrow)
      | (go_simp; go_at_call 35; refine (p_ints g cs s3 (bentL x) 4 (-1) 1000 (w3.drewN 1) rfl (by decide) (by decide) (bentL_at (by omega)) (hc3.out.drewN 1)).mono ?_; rintro e w4 ⟨y4, rfl, hy4, ha4⟩; have hQ4 := Lib.hid (hQ3d.out.away ha4 hlt); have ha4H := Lib.hid (ha3.out.drew.trans ha4); obtain ⟨⟨_, _, _, _, c44⟩, hff, hb4, _, _, _⟩ := hQ4.out.look hpH.out; rw [hp2H.out] at c44; have hI4 := Lib.hid (show w4.ownsRow w.heap.size 3 1 (.slice K kn kc) kn (p.1.kids.map fun k => Value.int .i64 k) from by { have h := hQ4.out.2.1 p (List.mem_of_getElem? hpH.out); unfold OwnI at h; rw [hp2H.out, hknH.out] at h; exact h }); have hf4 := Lib.hid ((((Below.refl w4.heap.size w4).alloc (Nat.le_refl _) (.cells #[.int .i64 y4] 3)).frozen (p := ⟨b, x * 5 + 4, none⟩) hb4).trans (hff (x * 5 + 4))); have hs4 := ha4H.out.size; clear ha4 hff))
    all_goals
      have hend := Lib.hid (bent_app hQ4.out (by omega) hpH.out hknH.out hp2H.out hown5H.out hgrowH.out hatH.out hG.out hqn.out hn.2 hy4)
      clear hgrowH hatH hown5H
      go_wp2_with fail
      go_ret
      exact ⟨_, _, _, _, rfl, hend.out.1, hend.out.2.1, ha4H.out.then_below hend.out.2.2⟩
  | 2, _ =>
    by_cases hk0 : kn = 0
    · subst hk0
      have c0 := e4H.out
      go_wp2_with fail
      go_ret
      exact ⟨_, _, _, _, rfl, hQ3.out.small hS.out, hS.out, ha3.out⟩
    · obtain ⟨kb, rfl⟩ := hQ3.out.kid_some hpH.out hp2H.out (by omega) hknH.out
      have c0 := e4H.out
      have hkp : (0 : Int) < (kn : Int) := by omega
      have hkp2 : 0 < kn := by omega
      have hw1 : IntKind.i64.wrap ((x : Int) + 1) = (x : Int) + 1 := IntWalk.i64_in _ (by omega)
      have hQ3d := Lib.hid (show OwnQ (w3.drewN 1) w.heap.size (.slice (some ⟨b, 0, none⟩) n c) q from hQ3.out)
      go_wp2_with fail
      go_region_law (go_simp; go_at_call 34; refine (p_below g cs s3 ((x : Int) + 1) (w3.drewN 1) (by omega) (by omega) (hc3.out.drewN 1)).mono ?_; rintro e w4 ⟨z, rfl, hz, ha4⟩; have hQ4 := Lib.hid (hQ3d.out.away ha4 hlt); have ha4H := Lib.hid (ha3.out.drew.trans ha4); obtain ⟨⟨_, _, _, _, c44⟩, _, hb4, _, _, _⟩ := hQ4.out.look hpH.out; rw [hp2H.out] at c44; obtain ⟨⟨y0, c45⟩, f45, hb5⟩ := hQ4.out.kid_at hpH.out hp2H.out hkp2 hknH.out; have hw2 : IntKind.i64.wrap (z - 1) = z - 1 := IntWalk.i64_in _ (by omega); clear ha4)
      all_goals
        have hend := Lib.hid (bent_set (y := z - 1) hQ4.out hpH.out hp2H.out hG.out hqn.out hn.2 (by omega))
        go_wp2_with fail
        go_ret
        exact ⟨_, _, _, _, rfl, hend.out.1, hend.out.2.1, ha4H.out.then_below hend.out.2.2⟩
  | 3, _ =>
    have hn2 := hn.2
    have hn1 := hn.1
    go_wp2_with (at_builtin; refine app_self (by rfl) _ _ (by rfl) w.heap.size b n c q (by rfl) hQ3.out (by rfl) hqn.out hn2 hn1 hS.out hs3 ?_; intro g5 cap5 w5 hN5 hS5 hb5; have hN5 := Lib.hid hN5; have hS5 := Lib.hid hS5; have hb5 := Lib.hid hb5)
    go_ret
    exact ⟨_, _, _, _, rfl, hN5.out, hS5.out, ha3.out.then_below hb5.out⟩
  | y + 4, _ =>
    go_wp2_with fail
    go_ret
    exact ⟨_, _, _, _, rfl, hQ3.out.small hS.out, hS.out, ha3.out⟩
def spoilI : List Int := [0, 1, 56, 99, 54, 51, -1]
def spoilT : List ByteArray := [⟨#[]⟩, ⟨#[120]⟩, ⟨#[105, 102]⟩, ⟨#[108, 101, 110, 103, 116, 104]⟩, ⟨#[49]⟩, ⟨#[47]⟩]
def spoilO : List ByteArray := [⟨#[]⟩, ⟨#[62]⟩, ⟨#[120]⟩]
set_option maxRecDepth 100000 in
set_option maxHeartbeats 4000000 in
theorem d_spoilt (g : Nat) (cs : List UInt8) (s : Nat × Int) (w : World) (hc : Cur w g cs s) : Calls Tryz.prog 15 #[.pointer (some ⟨g, 0, none⟩)] w (RetS w g) := by
  have hlt := hc.lt
  have hcH := Lib.hid hc
  clear hc
  go_enter Tryz.func15, Tryz.ntmps15
  go_wp2_with fail
  refine (d_any g cs s _ hcH.out).mono ?_
  rintro e w1 ⟨b, n, c, l, s1, rfl, hn, hll, hoo, hgg, hcc, haa⟩
  obtain ⟨q, rfl, hQ⟩ := hoo
  rw [List.length_map] at hll
  have hc1 := Lib.hid hcc
  have ha1 := Lib.hid haa
  have hQ1 := Lib.hid hQ
  have hG := Lib.hid hgg
  have hqn := Lib.hid hll.symm
  have hS := Lib.hid (hG.out.smallT (by rw [List.length_map, ← hqn.out]; exact hn.2))
  clear hgg hcc haa hQ hll
  go_wp2_with fail
  refine (d_below g cs s1 (n : Int) _ (by omega) hc1.out).mono ?_
  rintro e w2 ⟨rfl, hcc, haa⟩
  have hx := belowD_lt cs (show (0 : Int) < (n : Int) by omega) s1
  obtain ⟨x, hxx⟩ : ∃ x : Nat, belowD cs (n : Int) s1 = (x : Int) := Int.eq_ofNat_of_zero_le hx.1
  rw [hxx] at hx ⊢
  have hxn : x < n := by omega
  have hc2 := Lib.hid hcc
  have ha2 := Lib.hid (ha1.out.trans haa)
  have hQ2 := Lib.hid (hQ1.out.away haa hlt)
  clear hxx hx hcc haa
  go_wp2_with fail
  refine (g_below g cs _ 14 _ (by decide) (by decide) hc2.out).mono ?_
  rintro e w3 ⟨v, y, s3, rfl, rfl, hy, hrr, hcc, haa⟩
  have hc3 := Lib.hid hcc
  have ha3 := Lib.hid (ha2.out.trans haa)
  have hQ3 := Lib.hid (hQ2.out.away haa hlt)
  obtain ⟨p, hp⟩ : ∃ p, q[x]? = some p := ⟨q[x]'(by rw [← hqn.out]; exact hxn), List.getElem?_eq_getElem _⟩
  have hpH := Lib.hid hp
  clear hrr hcc haa hp hc2 ha2 hQ2 hc1 ha1 hQ1
  have hx0 : (0 : Int) ≤ (x : Int) := by omega
  have hx2 : (x : Int) < (n : Int) := by omega
  match y, hy with
  | 0, _ =>
    go_wp2_with fail
    refine (p_below g cs s3 47 _ (by decide) (by decide) hc3.out).mono ?_
    rintro e w4 ⟨z, rfl, hz, ha4⟩
    have hQ4 := Lib.hid (hQ3.out.away ha4 hlt)
    have ha4 := Lib.hid (ha3.out.trans ha4)
    obtain ⟨⟨c0, c1, c2, c3, c4⟩, hfr, hbl, _, _, _⟩ := hQ4.out.look hpH.out
    have f0 := hfr (x * 5)
    have hend := Lib.hid (spoil hQ4.out hpH.out hG.out hqn.out hn.2 0 { p.1 with kind := z } (by decide) rfl (four (fun h => absurd rfl h) (fun _ => rfl) (fun _ => rfl) (fun _ => rfl)) (fun h => ⟨by show -1 ≤ z ∧ z ≤ 100; omega, h.op, h.text, h.other, h.few, h.kids⟩))
    clear hfr
    go_wp2_with fail
    go_ret
    exact ⟨_, _, _, _, rfl, hend.out.1, hend.out.2.1, ha4.out.then_below hend.out.2.2⟩
  | 1, _ =>
    go_wp2_with fail
    refine (p_ints g cs s3 spoilI 7 (-1) 100 w3 rfl (by decide) (by decide) (by decide) hc3.out).mono ?_
    rintro e w4 ⟨z, rfl, hz, ha4⟩
    have hQ4 := Lib.hid (hQ3.out.away ha4 hlt)
    have ha4 := Lib.hid (ha3.out.trans ha4)
    obtain ⟨⟨c0, c1, c2, c3, c4⟩, hfr, hbl, _, _, _⟩ := hQ4.out.look hpH.out
    have f0 := hfr (x * 5 + 1)
    have hend := Lib.hid (spoil hQ4.out hpH.out hG.out hqn.out hn.2 1 { p.1 with op := z } (by decide) rfl (four (fun _ => rfl) (fun h => absurd rfl h) (fun _ => rfl) (fun _ => rfl)) (fun h => ⟨h.kind, by show -1 ≤ z ∧ z ≤ 200; omega, h.text, h.other, h.few, h.kids⟩))
    clear hfr
    go_wp2_with fail
    go_ret
    exact ⟨_, _, _, _, rfl, hend.out.1, hend.out.2.1, ha4.out.then_below hend.out.2.2⟩
  | 2, _ =>
    go_wp2_with fail
    refine (p_strs g cs s3 spoilT 6 w3 rfl (by decide) (by decide) (by decide) hc3.out).mono ?_
    rintro e w4 ⟨z, rfl, hz, ha4⟩
    have hQ4 := Lib.hid (hQ3.out.away ha4 hlt)
    have ha4 := Lib.hid (ha3.out.trans ha4)
    obtain ⟨⟨c0, c1, c2, c3, c4⟩, hfr, hbl, _, _, _⟩ := hQ4.out.look hpH.out
    have f0 := hfr (x * 5 + 2)
    have hend := Lib.hid (spoil hQ4.out hpH.out hG.out hqn.out hn.2 2 { p.1 with text := z } (by decide) rfl (four (fun _ => rfl) (fun _ => rfl) (fun h => absurd rfl h) (fun _ => rfl)) (fun h => ⟨h.kind, h.op, hz, h.other, h.few, h.kids⟩))
    clear hfr
    go_wp2_with fail
    go_ret
    exact ⟨_, _, _, _, rfl, hend.out.1, hend.out.2.1, ha4.out.then_below hend.out.2.2⟩
  | 3, _ =>
    go_wp2_with fail
    refine (p_strs g cs s3 spoilO 3 w3 rfl (by decide) (by decide) (by decide) hc3.out).mono ?_
    rintro e w4 ⟨z, rfl, hz, ha4⟩
    have hQ4 := Lib.hid (hQ3.out.away ha4 hlt)
    have ha4 := Lib.hid (ha3.out.trans ha4)
    obtain ⟨⟨c0, c1, c2, c3, c4⟩, hfr, hbl, _, _, _⟩ := hQ4.out.look hpH.out
    have f0 := hfr (x * 5 + 3)
    have hend := Lib.hid (spoil hQ4.out hpH.out hG.out hqn.out hn.2 3 { p.1 with other := z } (by decide) rfl (four (fun _ => rfl) (fun _ => rfl) (fun _ => rfl) (fun h => absurd rfl h)) (fun h => ⟨h.kind, h.op, h.text, hz, h.few, h.kids⟩))
    clear hfr
    go_wp2_with fail
    go_ret
    exact ⟨_, _, _, _, rfl, hend.out.1, hend.out.2.1, ha4.out.then_below hend.out.2.2⟩
  | 4, _ =>
    go_wp2_with fail
    refine (d_bent g cs s3 _ hc3.out).mono ?_
    rintro e w4 ⟨A4, n4, c4, l4, rfl, hN4, hS4, ha4⟩
    have hN4 := Lib.hid hN4
    have hS4 := Lib.hid hS4
    have ha4 := Lib.hid (ha3.out.trans ha4)
    go_wp2_with fail
    go_ret
    exact ⟨_, _, _, _, rfl, hN4.out, hS4.out, ha4.out⟩
  | y + 5, _ =>
    go_wp2_with fail
    go_ret
    exact ⟨_, _, _, _, rfl, hQ3.out.small hS.out, hS.out, ha3.out⟩
/-- what the draw of a tree leaves: a list of nodes, whose fields are not large -/
def RetDrawT (w : World) (e : Ending) (w' : World) : Prop := ∃ A n c l, e = .returned (.slice A n c) ∧ NodesIn w' w'.heap.size (.slice A n c) l ∧ SmallT l ∧ Below w.heap.size w w'
set_option maxRecDepth 100000 in
set_option maxHeartbeats 4000000 in
theorem d_drawTree (v : Value) (cs : List UInt8) (w : World) (hl : cs.length ≤ 1048576) (h : BytesIn w w.heap.size v cs) : Calls Tryz.prog 5 #[v] w (RetDrawT w) := by
  have hH := Lib.hid h
  clear h
  go_enter Tryz.func5, Tryz.ntmps5
  go_wp2_with fail
  refine (d_new v cs _ hl hH.out).mono ?_
  rintro e w1 ⟨g, s, rfl, hg, hcc, hbb⟩
  have hc1 := Lib.hid hcc
  have hb1 := Lib.hid hbb
  clear hcc hbb
  go_wp2_with fail
  refine (d_spoilt g cs s _ hc1.out).mono ?_
  rintro e w2 ⟨A, n, c, l, rfl, hN, hS, ha⟩
  have hN := Lib.hid hN
  have hS := Lib.hid hS
  have hb2 := Lib.hid (hb1.out.trans (ha.below hg hb1.out.size))
  clear ha
  go_wp2_with fail
  go_ret
  exact ⟨_, _, _, _, rfl, hN.out, hS.out, hb2.out⟩
end Go.Proofs.YtlabmboedjnpmaaGreatDoor
