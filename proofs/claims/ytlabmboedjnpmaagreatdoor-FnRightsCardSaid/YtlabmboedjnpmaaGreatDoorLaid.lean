/- What the listed package-level variables hold: tables of strings. -/
import Derived.Test.YtlabmboedjnpmaaGreatDoorRows
import Derived.Test.YtlabmboedjnpmaaGreatDoorPureR
import Derived.LaidMore
import Derived.LaidLaws
import Derived.OpenShut
import Derived.Below
import Derived.FnData
import Derived.MakeChecks
import Derived.KernelRfl
import Derived.OpenVars
namespace Go.Proofs.YtlabmboedjnpmaaGreatDoor
open Go.RowKit Go.ChangeShapes Go.WideShapes
set_option linter.unusedVariables false

/-- the variable in block g is a table of these texts -/
def TabAt (W : World) (g : Nat) (l : List (List UInt8)) : Prop := g < W.heap.size ∧ ∀ (i : Nat) (x : List UInt8), l[i]? = some x → W.cell? ⟨g, i, none⟩ = some (.string (bs x))
theorem TabAt.keep {W W' : World} {g : Nat} {l : List (List UInt8)} {B : Nat} (h : TabAt W g l) (hb : Below B W W') (hg : g < B) : TabAt W' g l :=
  ⟨Nat.lt_of_lt_of_le h.1 hb.size, fun i x hx => (hb.cell (p := ⟨g, i, none⟩) hg).trans (h.2 i x hx)⟩
theorem TabAt.later {W W' : World} {g : Nat} {l : List (List UInt8)} (h : TabAt W g l) (hb : Below W.heap.size W W') : TabAt W' g l := h.keep hb h.1
theorem LaidVars.at {P : Program} {w : World} : ∀ {laid : List (String × DataW Unit)} {ps : List MemPlace}, DataW.LaidVars P w laid ps → ∀ n d, (n, d) ∈ laid →
    ∃ g t cs fuel p, P.globalNamed n = some g ∧ (P.globals[g]?).map (·.type) = some t ∧ w.var? P n = some cs ∧ DataW.trod (fun _ => ()) P w 0 (fun _ => true) false fuel t cs.toList = some (d, p)
  | [], _, _, _, _, h => by cases h
  | (m, e) :: r, ps, h, n, d, hm => by
    obtain ⟨g, t, cs, fuel, p, q, h1, h2, h3, h4, h5, _⟩ := h
    rcases List.mem_cons.1 hm with hm | hm
    · obtain ⟨rfl, rfl⟩ := Prod.mk.inj hm
      exact ⟨g, t, cs, fuel, p, h1, h2, h3, h4⟩
    · exact LaidVars.at h5 n d hm
theorem strs_of {H : Type} {enc : TypeId × Value → H} {P : Program} {w : World} {base : Nat} {sp : Nat → Bool} {held : Bool} {t e n fuel : Nat} {cs : List Value} {l : List (List UInt8)} {p : List MemPlace} (ht : P.underlying t = some (.array n e)) (he : P.underlying e = some .string) (hc : P.cellsOf e = 1) (hct : P.cellsOf t = n)
    (h : DataW.trod enc P w base sp held fuel t cs = some (.agg (l.map fun x => .lit (.string x)), p)) : ∀ (i : Nat) (x : List UInt8), l[i]? = some x → cs[i]? = some (.string (bs x)) := by
  obtain ⟨xs, m, rfl, hx1, hlen, hn3, hel⟩ := DataW.trod_array ht h
  intro i x hx
  simp only [Prod.mk.injEq, DataW.agg.injEq] at hx1
  have hl : l.length = xs.length := by
    have := congrArg List.length hx1.1
    simpa using this
  have hi : i < n := by
    have := (List.getElem?_eq_some_iff.1 hx).1
    omega
  have h1 := hel i hi
  rw [hc] at h1
  rw [hct] at hlen
  have hcs : cs[i]? = some (cs[i]'(by omega)) := List.getElem?_eq_getElem (by omega)
  have htk : (cs.drop (i * 1)).take 1 = [cs[i]'(by omega)] := by
    rw [Nat.mul_one, List.drop_eq_getElem_cons (by omega)]
    rfl
  rw [htk] at h1
  have hxs : xs[i]? = some (xs[i]'(by omega)) := List.getElem?_eq_getElem (by omega)
  rw [hxs] at h1
  obtain ⟨s, e1, e2, _⟩ := DataW.trod_string he h1
  have e3 : (xs.map (·.1))[i]? = some (.lit (.string s.data.toList)) := by
    rw [List.getElem?_map, hxs, e2]
    rfl
  rw [← hx1.1, List.getElem?_map, hx] at e3
  have e4 : x = s.data.toList := by simpa using e3
  rw [hcs]
  have e5 : cs[i]'(by omega) = .string s := by simpa using e1
  rw [e5, e4]
  simp [bs]
theorem tab_of {P : Program} {w : World} {laid : List (String × DataW Unit)} (h : laidMet P laid w) {nm : String} {l : List (List UInt8)} {g t e n : Nat} (hm : (nm, DataW.agg (l.map fun x => .lit (.string x))) ∈ laid) (hg : P.globalNamed nm = some g) (hgt : (P.globals[g]?).map (·.type) = some t)
    (ht : P.underlying t = some (.array n e)) (he : P.underlying e = some .string) (hc : P.cellsOf e = 1) (hct : P.cellsOf t = n) (hl : 0 < l.length) : TabAt w g l := by
  obtain ⟨ps, hv, _, _⟩ := h
  obtain ⟨g', t', cs, fuel, p, h1, h2, h3, h4⟩ := LaidVars.at hv nm _ hm
  obtain rfl := Option.some.inj (hg.symm.trans h1)
  obtain rfl := Option.some.inj (hgt.symm.trans h2)
  have hs := strs_of ht he hc hct h4
  have hcell : ∀ (i : Nat) (x : List UInt8), l[i]? = some x → w.cell? ⟨g, i, none⟩ = some (.string (bs x)) := fun i x hx => by
    rw [World.var?_cell hg h3 i]
    have := hs i x hx
    rw [Array.getElem?_toList] at this
    exact this
  refine ⟨?_, hcell⟩
  have h0 := hcell 0 l[0] (List.getElem?_eq_getElem hl)
  by_cases hlt : g < w.heap.size
  · exact hlt
  · have : w.heap[g]? = none := Array.getElem?_eq_none (by omega)
    simp [World.cell?, this] at h0
theorem trodVars_len {H : Type} {enc : TypeId × Value → H} {P : Program} {w : World} {sp : Nat → Bool} : ∀ {ns : List String} {gs : List (DataW H)} {ps : List MemPlace}, DataW.TrodVars enc P w sp ns gs ps → gs.length = ns.length
  | [], [], _, _ => rfl
  | [], _ :: _, _, h => h.elim
  | _ :: _, [], _, h => h.elim
  | _ :: ns, _ :: ds, _, h => by
    obtain ⟨_, _, _, _, _, _, _, _, _, _, hs, _⟩ := h
    simp [trodVars_len hs]
theorem kwTab {laid : List (String × DataW Unit)} {W : World} {nm : String} (h : laidMet Tryz.prog laid W) (hm : (nm, (Rows.laid_loop_example_g01543_impl_keywords : DataW Unit)) ∈ laid) (hg : Tryz.prog.globalNamed nm = some 1) : TabAt W 1 kwL :=
  tab_of h hm hg (by kernel_rfl : (Tryz.prog.globals[1]?).map (·.type) = some 84) Tryz.underlying84 Tryz.underlying9 (by kernel_rfl) (by kernel_rfl) (by decide)
theorem signTab {laid : List (String × DataW Unit)} {W : World} {nm : String} (h : laidMet Tryz.prog laid W) (hm : (nm, (Rows.laid_loop_example_g01543_impl_signs : DataW Unit)) ∈ laid) (hg : Tryz.prog.globalNamed nm = some 2) : TabAt W 2 signL :=
  tab_of h hm hg (by kernel_rfl : (Tryz.prog.globals[2]?).map (·.type) = some 87) Tryz.underlying87 Tryz.underlying9 (by kernel_rfl) (by kernel_rfl) (by decide)
theorem biTab {laid : List (String × DataW Unit)} {W : World} {nm : String} (h : laidMet Tryz.prog laid W) (hm : (nm, (Rows.laid_loop_example_g01543_impl_builtins : DataW Unit)) ∈ laid) (hg : Tryz.prog.globalNamed nm = some 0) : TabAt W 0 biL :=
  tab_of h hm hg (by kernel_rfl : (Tryz.prog.globals[0]?).map (·.type) = some 75) Tryz.underlying75 Tryz.underlying9 (by kernel_rfl) (by kernel_rfl) (by decide)
end Go.Proofs.YtlabmboedjnpmaaGreatDoor
