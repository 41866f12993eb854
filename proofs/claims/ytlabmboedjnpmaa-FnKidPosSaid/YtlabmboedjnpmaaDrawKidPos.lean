/- The draw of a node, a kid's number and a position (walk). -/
import Derived.Test.YtlabmboedjnpmaaDrawFits
import Derived.Deep.RegionHeld3
namespace Go.Proofs.Ytlabmboedjnpmaa
open Go.RowKit
set_option linter.unusedVariables false
/-- what the draw of a node, a kid's number and a position leaves -/
def RetKidD (w : World) (e : Ending) (w' : World) : Prop :=
  ∃ (nd : PNode) (K : Option Addr) (kc : Nat) (k : Nat) (p : PPos), e = .returned (.tuple #[.agg #[.int .i64 nd.kind, .int .i64 nd.op, .string nd.text, .string nd.other, .slice K nd.kids.length kc], .int .i64 (k : Int), .agg #[.int .i64 p.level, .bool p.dollar, .bool p.noIn, .bool p.noGt, .bool p.noSign]]) ∧
    IntsIn w' w'.heap.size (.slice K nd.kids.length kc) nd.kids ∧ GoodN 1000 nd ∧ k ≤ nd.kids.length ∧ drawnPos p ∧ Below w.heap.size w w'
theorem kid_end {w w2 : World} {nd : PNode} {K : Option Addr} {kc k : Nat} {p : PPos} (hk : IntsIn w2 w2.heap.size (.slice K nd.kids.length kc) nd.kids) (hf : FromOn (w.heap.size + 2) (.slice K nd.kids.length kc)) (hg : GoodN 1000 nd) (hkn : k ≤ nd.kids.length) (hp : drawnPos p) (hb : Below w.heap.size w w2) :
    RetKidD w (.returned (.tuple #[.agg #[.int .i64 nd.kind, .int .i64 nd.op, .string nd.text, .string nd.other, .slice K nd.kids.length kc], .int .i64 (k : Int), .agg #[.int .i64 p.level, .bool p.dollar, .bool p.noIn, .bool p.noGt, .bool p.noSign]]))
      (putF (putF w2 w.heap.size (.int .i64 nd.kind) (.int .i64 nd.op) (.string nd.text) (.string nd.other) (.slice K nd.kids.length kc)) (w.heap.size + 1) (.int .i64 p.level) (.bool p.dollar) (.bool p.noIn) (.bool p.noGt) (.bool p.noSign)) :=
  ⟨nd, K, kc, k, p, rfl, (ints_putF (ints_putF hk hf (by omega) _ _ _ _ _) hf (by omega) _ _ _ _ _).more (by simp [putF]), hg, hkn, hp, below_putF (below_putF hb (Nat.le_refl _) _ _ _ _ _) (Nat.le_succ _) _ _ _ _ _⟩
set_option maxRecDepth 100000 in
set_option maxHeartbeats 4000000 in
theorem d_drawKidPos (v : Value) (cs : List UInt8) (w : World) (hl : cs.length ≤ 1048576) (h : BytesIn w w.heap.size v cs) : Calls Try.prog 13 #[v] w (RetKidD w) := by
  have hB0 : Below w.heap.size w ((w.alloc (.cells #[.int .i64 0, .int .i64 0, .string ⟨#[]⟩, .string ⟨#[]⟩, .slice none 0 0] 26)).alloc (.cells #[.int .i64 0, .bool false, .bool false, .bool false, .bool false] 28)) := ((Below.refl _ _).alloc (Nat.le_refl _) _).alloc (by simp) _
  have hz0 := Lib.hid ((Has.made w 26 #[.int .i64 0, .int .i64 0, .string ⟨#[]⟩, .string ⟨#[]⟩, .slice none 0 0]).alloc (.cells #[.int .i64 0, .bool false, .bool false, .bool false, .bool false] 28))
  have hy0 := Lib.hid (show Has ((w.alloc (.cells #[.int .i64 0, .int .i64 0, .string ⟨#[]⟩, .string ⟨#[]⟩, .slice none 0 0] 26)).alloc (.cells #[.int .i64 0, .bool false, .bool false, .bool false, .bool false] 28)) (w.heap.size + 1) 28 #[.int .i64 0, .bool false, .bool false, .bool false, .bool false] by simpa using Has.made (w.alloc (.cells #[.int .i64 0, .int .i64 0, .string ⟨#[]⟩, .string ⟨#[]⟩, .slice none 0 0] 26)) 28 #[.int .i64 0, .bool false, .bool false, .bool false, .bool false])
  have hb0 := Lib.hid (h.keep hB0 (Nat.le_refl _) |>.more hB0.size)
  have hB0 := Lib.hid hB0
  clear h
  go_enter Try.func13, Try.ntmps13
  go_wp2_with fail
  refine (d_new v cs _ hl hb0.out).mono ?_
  rintro e w1 ⟨g, s, rfl, hg, hcc, hbb⟩
  simp only [World.size_alloc] at hg
  have hz1 := Lib.hid (hz0.out.below hbb hz0.out.lt)
  have hy1 := Lib.hid (hy0.out.below hbb hy0.out.lt)
  have hB1 := Lib.hid (hB0.out.trans (hbb.mono hB0.out.size))
  have hc1 := Lib.hid hcc
  clear hcc hbb
  go_wp2_with fail
  refine (d_node g cs s _ hc1.out).mono ?_
  rintro e w2 ⟨nd, K, kc, s2, rfl, hkk, hff, hgg, hcc, haa⟩
  have hz2 := Lib.hid ((haa.has hz1.out (by omega)).alloc (.cells #[.int .i64 nd.kind, .int .i64 nd.op, .string nd.text, .string nd.other, .slice K nd.kids.length kc] 26))
  have hy2 := Lib.hid ((haa.has hy1.out (by omega)).alloc (.cells #[.int .i64 nd.kind, .int .i64 nd.op, .string nd.text, .string nd.other, .slice K nd.kids.length kc] 26))
  have hx2 := Lib.hid (Has.made w2 26 #[.int .i64 nd.kind, .int .i64 nd.op, .string nd.text, .string nd.other, .slice K nd.kids.length kc])
  have hB2 := Lib.hid ((hB1.out.trans (haa.below (show w.heap.size ≤ g by omega) hB1.out.size)).alloc (Nat.le_trans hB1.out.size haa.size) (.cells #[.int .i64 nd.kind, .int .i64 nd.op, .string nd.text, .string nd.other, .slice K nd.kids.length kc] 26))
  have hc2 := Lib.hid (hcc.alloc (.cells #[.int .i64 nd.kind, .int .i64 nd.op, .string nd.text, .string nd.other, .slice K nd.kids.length kc] 26))
  have hk2 := Lib.hid ((hkk.alloc (Nat.le_refl _) (.cells #[.int .i64 nd.kind, .int .i64 nd.op, .string nd.text, .string nd.other, .slice K nd.kids.length kc] 26)).more (show w2.heap.size ≤ (w2.alloc (.cells #[.int .i64 nd.kind, .int .i64 nd.op, .string nd.text, .string nd.other, .slice K nd.kids.length kc] 26)).heap.size by simp))
  have hf2 := Lib.hid hff
  have hg2 := Lib.hid hgg
  have hglt := hc1.out.lt
  have hg12 := haa.size
  clear hkk hff hgg hcc haa
  go_wp2_with fail
  obtain ⟨W2, hW2⟩ : ∃ W, w2.alloc (.cells #[.int .i64 nd.kind, .int .i64 nd.op, .string nd.text, .string nd.other, .slice K nd.kids.length kc] 26) = W := ⟨_, rfl⟩
  rw [hW2] at hz2 hy2 hx2 hB2 hc2 hk2 ⊢
  clear hW2
  obtain ⟨m, hm⟩ : ∃ m, nd.kids.length = m := ⟨_, rfl⟩
  have hmb : m ≤ 8 := by rw [← hm]; exact hg2.out.few
  have hmH := Lib.hid hm
  rw [hm] at hx2 hk2 hf2 ⊢
  clear hm
  have acc : Away g W2.drew W2.drew := Away.refl _ _
  have hkeep := Lib.hid (show ∀ W', Away g W2.drew W' → W'.cell? ⟨w2.heap.size, 0, none⟩ = some (.int .i64 nd.kind) ∧ W'.cell? ⟨w2.heap.size, 1, none⟩ = some (.int .i64 nd.op) ∧ W'.cell? ⟨w2.heap.size, 2, none⟩ = some (.string nd.text) ∧ W'.cell? ⟨w2.heap.size, 3, none⟩ = some (.string nd.other) ∧ W'.cell? ⟨w2.heap.size, 4, none⟩ = some (.slice K m kc) from fun W' ha => by
    have hx := ha.has (show Has W2.drew w2.heap.size _ _ from hx2.out) (by omega)
    exact ⟨hx.get (i := 0) rfl, hx.get (i := 1) rfl, hx.get (i := 2) rfl, hx.get (i := 3) rfl, hx.get (i := 4) rfl⟩)
  have hcD := Lib.hid hc2.out.drew
  have hwH := Lib.hid (show IntKind.i64.wrap ((m : Int) + 1) = (m : Int) + 1 from IntWalk.i64_in _ (by omega))
  have hx := belowD_lt cs (show (0 : Int) < (m : Int) + 1 by omega) s2
  obtain ⟨x, hxx⟩ : ∃ x : Nat, belowD cs ((m : Int) + 1) s2 = (x : Int) := Int.eq_ofNat_of_zero_le hx.1
  rw [hxx] at hx
  have hxm : x ≤ m := by omega
  have hxH := Lib.hid hxx
  clear hx hxx
  have hP1 := Lib.hid (show ∀ W' (x0 x1 x2 x3 x4 : Value), Away g W2.drew W' → (((((W'.setCell ⟨w.heap.size, 0, none⟩ x0).setCell ⟨w.heap.size, 1, none⟩ x1).setCell ⟨w.heap.size, 2, none⟩ x2).setCell ⟨w.heap.size, 3, none⟩ x3).setCell ⟨w.heap.size, 4, none⟩ x4).cell? ⟨w2.heap.size, 0, none⟩ = some (.int .i64 nd.kind) ∧ (((((W'.setCell ⟨w.heap.size, 0, none⟩ x0).setCell ⟨w.heap.size, 1, none⟩ x1).setCell ⟨w.heap.size, 2, none⟩ x2).setCell ⟨w.heap.size, 3, none⟩ x3).setCell ⟨w.heap.size, 4, none⟩ x4).cell? ⟨w2.heap.size, 1, none⟩ = some (.int .i64 nd.op) ∧ (((((W'.setCell ⟨w.heap.size, 0, none⟩ x0).setCell ⟨w.heap.size, 1, none⟩ x1).setCell ⟨w.heap.size, 2, none⟩ x2).setCell ⟨w.heap.size, 3, none⟩ x3).setCell ⟨w.heap.size, 4, none⟩ x4).cell? ⟨w2.heap.size, 2, none⟩ = some (.string nd.text) ∧ (((((W'.setCell ⟨w.heap.size, 0, none⟩ x0).setCell ⟨w.heap.size, 1, none⟩ x1).setCell ⟨w.heap.size, 2, none⟩ x2).setCell ⟨w.heap.size, 3, none⟩ x3).setCell ⟨w.heap.size, 4, none⟩ x4).cell? ⟨w2.heap.size, 3, none⟩ = some (.string nd.other) ∧ (((((W'.setCell ⟨w.heap.size, 0, none⟩ x0).setCell ⟨w.heap.size, 1, none⟩ x1).setCell ⟨w.heap.size, 2, none⟩ x2).setCell ⟨w.heap.size, 3, none⟩ x3).setCell ⟨w.heap.size, 4, none⟩ x4).cell? ⟨w2.heap.size, 4, none⟩ = some (.slice K m kc) from fun W' x0 x1 x2 x3 x4 ha => by
    have hx := (((((ha.has (show Has W2.drew w2.heap.size _ _ from hx2.out) (by omega)).other (p := ⟨w.heap.size, 0, none⟩) (by show w2.heap.size ≠ w.heap.size; omega) x0).other (p := ⟨w.heap.size, 1, none⟩) (by show w2.heap.size ≠ w.heap.size; omega) x1).other (p := ⟨w.heap.size, 2, none⟩) (by show w2.heap.size ≠ w.heap.size; omega) x2).other (p := ⟨w.heap.size, 3, none⟩) (by show w2.heap.size ≠ w.heap.size; omega) x3).other (p := ⟨w.heap.size, 4, none⟩) (by show w2.heap.size ≠ w.heap.size; omega) x4
    exact ⟨hx.get (i := 0) rfl, hx.get (i := 1) rfl, hx.get (i := 2) rfl, hx.get (i := 3) rfl, hx.get (i := 4) rfl⟩)
  have hP2 := Lib.hid (show ∀ W' (x0 x1 x2 x3 x4 y0 y1 y2 y3 y4 : Value), Away g W2.drew W' → ((((((((((W'.setCell ⟨w.heap.size, 0, none⟩ x0).setCell ⟨w.heap.size, 1, none⟩ x1).setCell ⟨w.heap.size, 2, none⟩ x2).setCell ⟨w.heap.size, 3, none⟩ x3).setCell ⟨w.heap.size, 4, none⟩ x4).setCell ⟨w.heap.size + 1, 0, none⟩ y0).setCell ⟨w.heap.size + 1, 1, none⟩ y1).setCell ⟨w.heap.size + 1, 2, none⟩ y2).setCell ⟨w.heap.size + 1, 3, none⟩ y3).setCell ⟨w.heap.size + 1, 4, none⟩ y4).cell? ⟨w2.heap.size, 0, none⟩ = some (.int .i64 nd.kind) ∧ ((((((((((W'.setCell ⟨w.heap.size, 0, none⟩ x0).setCell ⟨w.heap.size, 1, none⟩ x1).setCell ⟨w.heap.size, 2, none⟩ x2).setCell ⟨w.heap.size, 3, none⟩ x3).setCell ⟨w.heap.size, 4, none⟩ x4).setCell ⟨w.heap.size + 1, 0, none⟩ y0).setCell ⟨w.heap.size + 1, 1, none⟩ y1).setCell ⟨w.heap.size + 1, 2, none⟩ y2).setCell ⟨w.heap.size + 1, 3, none⟩ y3).setCell ⟨w.heap.size + 1, 4, none⟩ y4).cell? ⟨w2.heap.size, 1, none⟩ = some (.int .i64 nd.op) ∧ ((((((((((W'.setCell ⟨w.heap.size, 0, none⟩ x0).setCell ⟨w.heap.size, 1, none⟩ x1).setCell ⟨w.heap.size, 2, none⟩ x2).setCell ⟨w.heap.size, 3, none⟩ x3).setCell ⟨w.heap.size, 4, none⟩ x4).setCell ⟨w.heap.size + 1, 0, none⟩ y0).setCell ⟨w.heap.size + 1, 1, none⟩ y1).setCell ⟨w.heap.size + 1, 2, none⟩ y2).setCell ⟨w.heap.size + 1, 3, none⟩ y3).setCell ⟨w.heap.size + 1, 4, none⟩ y4).cell? ⟨w2.heap.size, 2, none⟩ = some (.string nd.text) ∧ ((((((((((W'.setCell ⟨w.heap.size, 0, none⟩ x0).setCell ⟨w.heap.size, 1, none⟩ x1).setCell ⟨w.heap.size, 2, none⟩ x2).setCell ⟨w.heap.size, 3, none⟩ x3).setCell ⟨w.heap.size, 4, none⟩ x4).setCell ⟨w.heap.size + 1, 0, none⟩ y0).setCell ⟨w.heap.size + 1, 1, none⟩ y1).setCell ⟨w.heap.size + 1, 2, none⟩ y2).setCell ⟨w.heap.size + 1, 3, none⟩ y3).setCell ⟨w.heap.size + 1, 4, none⟩ y4).cell? ⟨w2.heap.size, 3, none⟩ = some (.string nd.other) ∧ ((((((((((W'.setCell ⟨w.heap.size, 0, none⟩ x0).setCell ⟨w.heap.size, 1, none⟩ x1).setCell ⟨w.heap.size, 2, none⟩ x2).setCell ⟨w.heap.size, 3, none⟩ x3).setCell ⟨w.heap.size, 4, none⟩ x4).setCell ⟨w.heap.size + 1, 0, none⟩ y0).setCell ⟨w.heap.size + 1, 1, none⟩ y1).setCell ⟨w.heap.size + 1, 2, none⟩ y2).setCell ⟨w.heap.size + 1, 3, none⟩ y3).setCell ⟨w.heap.size + 1, 4, none⟩ y4).cell? ⟨w2.heap.size, 4, none⟩ = some (.slice K m kc) from fun W' x0 x1 x2 x3 x4 y0 y1 y2 y3 y4 ha => by
    have hx := (((((ha.has (show Has W2.drew w2.heap.size _ _ from hx2.out) (by omega)).other (p := ⟨w.heap.size, 0, none⟩) (by show w2.heap.size ≠ w.heap.size; omega) x0).other (p := ⟨w.heap.size, 1, none⟩) (by show w2.heap.size ≠ w.heap.size; omega) x1).other (p := ⟨w.heap.size, 2, none⟩) (by show w2.heap.size ≠ w.heap.size; omega) x2).other (p := ⟨w.heap.size, 3, none⟩) (by show w2.heap.size ≠ w.heap.size; omega) x3).other (p := ⟨w.heap.size, 4, none⟩) (by show w2.heap.size ≠ w.heap.size; omega) x4
    have hx := ((((hx.other (p := ⟨w.heap.size + 1, 0, none⟩) (by show w2.heap.size ≠ w.heap.size + 1; omega) y0).other (p := ⟨w.heap.size + 1, 1, none⟩) (by show w2.heap.size ≠ w.heap.size + 1; omega) y1).other (p := ⟨w.heap.size + 1, 2, none⟩) (by show w2.heap.size ≠ w.heap.size + 1; omega) y2).other (p := ⟨w.heap.size + 1, 3, none⟩) (by show w2.heap.size ≠ w.heap.size + 1; omega) y3).other (p := ⟨w.heap.size + 1, 4, none⟩) (by show w2.heap.size ≠ w.heap.size + 1; omega) y4
    exact ⟨hx.get (i := 0) rfl, hx.get (i := 1) rfl, hx.get (i := 2) rfl, hx.get (i := 3) rfl, hx.get (i := 4) rfl⟩)
  go_region_held3 (fun W => W.cell? ⟨w2.heap.size, 0, none⟩ = some (.int .i64 nd.kind) ∧ W.cell? ⟨w2.heap.size, 1, none⟩ = some (.int .i64 nd.op) ∧ W.cell? ⟨w2.heap.size, 2, none⟩ = some (.string nd.text) ∧ W.cell? ⟨w2.heap.size, 3, none⟩ = some (.string nd.other) ∧ W.cell? ⟨w2.heap.size, 4, none⟩ = some (.slice K m kc)) (first | (with_reducible (exact hkeep.out _ acc)) | (with_reducible (exact hP1.out _ _ _ _ _ _ acc)) | (with_reducible (exact hP2.out _ _ _ _ _ _ _ _ _ _ _ acc)) | exact hkeep.out _ (Away.refl _ _)) (first
    | ((go_at_call 23; rw [hwH.out]; refine (d_below g cs s2 _ _ (by omega) hcD.out).mono ?_; rintro e w3 ⟨rfl, hcc, haa⟩; rw [hxH.out]; have acc := Away.trans acc haa; have hcE := Lib.hid hcc; clear hcc haa))
    | ((go_at_call 20; refine (d_pos g cs _ _ hcE.out).mono ?_; rintro e w4 ⟨p, s4, hp, rfl, hcc, haa⟩; have acc := Away.trans acc haa; have hpH := Lib.hid hp; clear hcc haa hp; have hz4 := acc.has (show Has W2.drew w.heap.size _ _ from hz2.out) (by omega); have hy4 := acc.has (show Has W2.drew (w.heap.size + 1) _ _ from hy2.out) (by omega); have z0 := hz4.get (i := 0) rfl; have z1 := hz4.get (i := 1) rfl; have z2 := hz4.get (i := 2) rfl; have z3 := hz4.get (i := 3) rfl; have z4 := hz4.get (i := 4) rfl; have f0 := hz4.free 0; have f1 := hz4.free 1; have f2 := hz4.free 2; have f3 := hz4.free 3; have f4 := hz4.free 4; have y0 := hy4.get (i := 0) rfl; have y1 := hy4.get (i := 1) rfl; have y2 := hy4.get (i := 2) rfl; have y3 := hy4.get (i := 3) rfl; have y4 := hy4.get (i := 4) rfl; have k0 := hy4.free 0; have k1 := hy4.free 1; have k2 := hy4.free 2; have k3 := hy4.free 3; have k4 := hy4.free 4; have hs4 := hy4.lt; have hs5 := hz4.lt; have hz4H := Lib.hid hz4; have hy4H := Lib.hid hy4; clear hz4 hy4)))
  all_goals
    have hB4 := Lib.hid (hB2.out.trans ((show Away g W2 w4 from ⟨acc.os, acc.tape, acc.output, acc.size, acc.block⟩).below (show w.heap.size ≤ g by omega) hB2.out.size))
    have hk4 := Lib.hid ((hk2.out.away (show Away g W2 w4 from ⟨acc.os, acc.tape, acc.output, acc.size, acc.block⟩) (Nat.le_refl _) hf2.out hglt).more acc.size)
    have hfin := kid_end (nd := nd) (K := K) (kc := kc) (k := x) (p := p) (w := w) (w2 := w4) (by rw [hmH.out]; exact hk4.out) (fun k hk => by have := hf2.out k (by rw [hmH.out] at hk; exact hk); omega) hg2.out (by rw [hmH.out]; exact hxm) hpH.out hB4.out
    rw [hmH.out] at hfin
    have hfin := Lib.hid hfin
    go_wp2_with fail
    exact bodyPost_ret (v := .tuple #[.agg #[.int .i64 nd.kind, .int .i64 nd.op, .string nd.text, .string nd.other, .slice K m kc], .int .i64 (x : Int), .agg #[.int .i64 p.level, .bool p.dollar, .bool p.noIn, .bool p.noGt, .bool p.noSign]]) (by simp [results, Try.results13, go_sem, z0, z1, z2, z3, z4, y0, y1, y2, y3, y4]) rfl hfin.out
end Go.Proofs.Ytlabmboedjnpmaa
