/- The draws of the laws on positions: a node and a position; a node, a kid's number and a position (walks). -/
import Derived.Test.YtlabmboedjnpmaaGenP
import Derived.Test.YtlabmboedjnpmaaDrawPos
import Derived.Deep.RegionLaw
namespace Go.Proofs.Ytlabmboedjnpmaa
open Go.RowKit
set_option linter.unusedVariables false
theorem IntsIn.away {w w' : World} {g B b : Nat} {v : Value} {l : List Int} (h : IntsIn w B v l) (ha : Away g w w') (hB : B ≤ w.heap.size) (hf : FromOn b v) (hg : g < b) : IntsIn w' B v l := by
  obtain ⟨A, c, rfl, h1, h2, h3, h4⟩ := h
  refine ⟨A, c, rfl, h1, h2, fun hp => ?_, h4⟩
  obtain ⟨k, off, rfl, hlt, hc⟩ := h3 hp
  have hk := hf k rfl
  exact ⟨k, off, rfl, hlt, fun i x hx => (ha.cell (by omega) (by omega) _).trans (hc i x hx)⟩
/-- what the draw of a node and a position leaves -/
def RetFits (w : World) (e : Ending) (w' : World) : Prop :=
  ∃ (nd : PNode) (K : Option Addr) (kc : Nat) (p : PPos), e = .returned (.tuple #[.agg #[.int .i64 nd.kind, .int .i64 nd.op, .string nd.text, .string nd.other, .slice K nd.kids.length kc], .agg #[.int .i64 p.level, .bool p.dollar, .bool p.noIn, .bool p.noGt, .bool p.noSign]]) ∧
    IntsIn w' w'.heap.size (.slice K nd.kids.length kc) nd.kids ∧ GoodN 1000 nd ∧ drawnPos p ∧ Below w.heap.size w w'
def putF (w : World) (b : Nat) (x0 x1 x2 x3 x4 : Value) : World := ((((w.setCell ⟨b, 0, none⟩ x0).setCell ⟨b, 1, none⟩ x1).setCell ⟨b, 2, none⟩ x2).setCell ⟨b, 3, none⟩ x3).setCell ⟨b, 4, none⟩ x4
theorem below_putF {B : Nat} {a w : World} (h : Below B a w) {b : Nat} (hb : B ≤ b) (x0 x1 x2 x3 x4 : Value) : Below B a (putF w b x0 x1 x2 x3 x4) :=
  ((((h.setCell (p := ⟨b, 0, none⟩) hb _).setCell (p := ⟨b, 1, none⟩) hb _).setCell (p := ⟨b, 2, none⟩) hb _).setCell (p := ⟨b, 3, none⟩) hb _).setCell (p := ⟨b, 4, none⟩) hb _
theorem ints_putF {w : World} {B b c : Nat} {v : Value} {l : List Int} (h : IntsIn w B v l) (hf : FromOn c v) (hb : b < c) (x0 x1 x2 x3 x4 : Value) : IntsIn (putF w b x0 x1 x2 x3 x4) B v l :=
  ((((h.store hf (p := ⟨b, 0, none⟩) hb _).store hf (p := ⟨b, 1, none⟩) hb _).store hf (p := ⟨b, 2, none⟩) hb _).store hf (p := ⟨b, 3, none⟩) hb _).store hf (p := ⟨b, 4, none⟩) hb _
theorem fits_end {w w2 : World} {nd : PNode} {K : Option Addr} {kc : Nat} {p : PPos} (hk : IntsIn w2 w2.heap.size (.slice K nd.kids.length kc) nd.kids) (hf : FromOn (w.heap.size + 2) (.slice K nd.kids.length kc)) (hg : GoodN 1000 nd) (hp : drawnPos p) (hb : Below w.heap.size w w2) :
    RetFits w (.returned (.tuple #[.agg #[.int .i64 nd.kind, .int .i64 nd.op, .string nd.text, .string nd.other, .slice K nd.kids.length kc], .agg #[.int .i64 p.level, .bool p.dollar, .bool p.noIn, .bool p.noGt, .bool p.noSign]]))
      (putF (putF w2 w.heap.size (.int .i64 nd.kind) (.int .i64 nd.op) (.string nd.text) (.string nd.other) (.slice K nd.kids.length kc)) (w.heap.size + 1) (.int .i64 p.level) (.bool p.dollar) (.bool p.noIn) (.bool p.noGt) (.bool p.noSign)) :=
  ⟨nd, K, kc, p, rfl, (ints_putF (ints_putF hk hf (by omega) _ _ _ _ _) hf (by omega) _ _ _ _ _).more (by simp [putF]), hg, hp, below_putF (below_putF hb (Nat.le_refl _) _ _ _ _ _) (Nat.le_succ _) _ _ _ _ _⟩
set_option maxRecDepth 100000 in
set_option maxHeartbeats 4000000 in
theorem d_drawFits (v : Value) (cs : List UInt8) (w : World) (hl : cs.length ≤ 1048576) (h : BytesIn w w.heap.size v cs) : Calls Try.prog 6 #[v] w (RetFits w) := by
  have hB0 : Below w.heap.size w ((w.alloc (.cells #[.int .i64 0, .int .i64 0, .string ⟨#[]⟩, .string ⟨#[]⟩, .slice none 0 0] 26)).alloc (.cells #[.int .i64 0, .bool false, .bool false, .bool false, .bool false] 28)) := ((Below.refl _ _).alloc (Nat.le_refl _) _).alloc (by simp) _
  have hz0 := Lib.hid ((Has.made w 26 #[.int .i64 0, .int .i64 0, .string ⟨#[]⟩, .string ⟨#[]⟩, .slice none 0 0]).alloc (.cells #[.int .i64 0, .bool false, .bool false, .bool false, .bool false] 28))
  have hy0 := Lib.hid (show Has ((w.alloc (.cells #[.int .i64 0, .int .i64 0, .string ⟨#[]⟩, .string ⟨#[]⟩, .slice none 0 0] 26)).alloc (.cells #[.int .i64 0, .bool false, .bool false, .bool false, .bool false] 28)) (w.heap.size + 1) 28 #[.int .i64 0, .bool false, .bool false, .bool false, .bool false] by simpa using Has.made (w.alloc (.cells #[.int .i64 0, .int .i64 0, .string ⟨#[]⟩, .string ⟨#[]⟩, .slice none 0 0] 26)) 28 #[.int .i64 0, .bool false, .bool false, .bool false, .bool false])
  have hb0 := Lib.hid (h.keep hB0 (Nat.le_refl _) |>.more hB0.size)
  have hB0 := Lib.hid hB0
  clear h
  go_enter Try.func6, Try.ntmps6
  go_wp2_with fail
  refine (d_new v cs _ hl hb0.out).mono ?_
  rintro e w1 ⟨g, s, rfl, hg, hcc, hbb⟩
  simp only [World.size_alloc] at hg
  have hz1 := Lib.hid (hz0.out.below hbb hz0.out.lt)
  have hy1 := Lib.hid (hy0.out.below hbb hy0.out.lt)
  have hB1 := Lib.hid (hB0.out.trans (hbb.mono hB0.out.size))
  have hc1 := Lib.hid hcc
  clear hcc hbb
  go_wp2_with fail
  refine (d_node g cs s _ hc1.out).mono ?_
  rintro e w2 ⟨nd, K, kc, s2, rfl, hkk, hff, hgg, hcc, haa⟩
  have hz2 := Lib.hid (haa.has hz1.out (by omega))
  have hy2 := Lib.hid (haa.has hy1.out (by omega))
  have hB2 := Lib.hid (hB1.out.trans (haa.below (show w.heap.size ≤ g by omega) hB1.out.size))
  have hc2 := Lib.hid hcc
  have hk2 := Lib.hid hkk
  have hf2 := Lib.hid hff
  have hg2 := Lib.hid hgg
  have hglt := hc1.out.lt
  clear hkk hff hgg hcc haa
  go_wp2_with fail
  refine (d_pos g cs s2 _ hc2.out).mono ?_
  rintro e w3 ⟨p, s3, hp, rfl, hcc, haa⟩
  have hz3 := haa.has hz2.out (by omega)
  have hy3 := haa.has hy2.out (by omega)
  have hB3 := Lib.hid (hB2.out.trans (haa.below (show w.heap.size ≤ g by omega) hB2.out.size))
  have hk3 := Lib.hid ((hk2.out.away haa (Nat.le_refl _) hf2.out hglt).more haa.size)
  have hfin := Lib.hid (fits_end hk3.out (fun k hk => by have := hf2.out k hk; omega) hg2.out hp hB3.out)
  have z0 := hz3.get (i := 0) rfl
  have z1 := hz3.get (i := 1) rfl
  have z2 := hz3.get (i := 2) rfl
  have z3 := hz3.get (i := 3) rfl
  have z4 := hz3.get (i := 4) rfl
  have f0 := hz3.free 0
  have f1 := hz3.free 1
  have f2 := hz3.free 2
  have f3 := hz3.free 3
  have f4 := hz3.free 4
  have y0 := hy3.get (i := 0) rfl
  have y1 := hy3.get (i := 1) rfl
  have y2 := hy3.get (i := 2) rfl
  have y3 := hy3.get (i := 3) rfl
  have y4 := hy3.get (i := 4) rfl
  have k0 := hy3.free 0
  have k1 := hy3.free 1
  have k2 := hy3.free 2
  have k3 := hy3.free 3
  have k4 := hy3.free 4
  have hsz3 := hy3.lt
  have hsz3b := hz3.lt
  clear hcc haa hp hz3 hy3
  go_wp2_with fail
  exact bodyPost_ret (v := .tuple #[.agg #[.int .i64 nd.kind, .int .i64 nd.op, .string nd.text, .string nd.other, .slice K nd.kids.length kc], .agg #[.int .i64 p.level, .bool p.dollar, .bool p.noIn, .bool p.noGt, .bool p.noSign]]) (by simp [results, Try.results6, go_sem, z0, z1, z2, z3, z4, y0, y1, y2, y3, y4]) rfl hfin.out
end Go.Proofs.Ytlabmboedjnpmaa
