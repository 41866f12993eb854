/- Several texts in one (printed by a program): NodeKit, NodeKit2, NodeEq, KindCount. -/
import Derived.Test.YtlabmboedjnpmaaGreatDoorChars
import Derived.Test.YtlabmboedjnpmaaGreatDoorMemR
import Derived.Deep.QuietTactic
import Derived.BigQuiet
import Derived.StillTailTactics
/-! NodeKit -/
namespace Go.Proofs.YtlabmboedjnpmaaGreatDoor
open Go.RowKit
set_option linter.unusedVariables false

theorem subB_lt {left : Int} {b : Nat} (h : left < b) : subB left b = -1 := by rw [subB, if_pos h]
theorem subB_ge {left : Int} {b : Nat} (h : ¬ left < b) : subB left b = left - b := by rw [subB, if_neg h]
end Go.Proofs.YtlabmboedjnpmaaGreatDoor
/-! NodeKit2 -/
namespace Go.Proofs.YtlabmboedjnpmaaGreatDoor
open Go.RowKit
set_option linter.unusedVariables false

def RetInts (w : World) (l : List Int) (e : Ending) (w' : World) : Prop := ∃ v, e = .returned v ∧ IntsIn w' w'.heap.size v l ∧ FromOn w.heap.size v ∧ Below w.heap.size w w'
theorem info_int : (Tryz.prog.info? 3).map (fun i => (i.zero, i.size, i.bytes)) = some (some (.int .i64 0), 1, 8) := by kernel_rfl
def RetNode (w : World) (nd : PNode) (e : Ending) (w' : World) : Prop := ∃ A c, e = .returned (.agg #[.int .i64 nd.kind, .int .i64 nd.op, .string nd.text, .string nd.other, .slice A nd.kids.length c]) ∧ IntsIn w' w'.heap.size (.slice A nd.kids.length c) nd.kids ∧ FromOn w.heap.size (.slice A nd.kids.length c) ∧ Below w.heap.size w w'
/-- the first j nodes stand in the cells -/
def Filled (wr : World) (g : Nat) (cs : Array Value) (j : Nat) (l : List PNode) : Prop :=
  ∀ t nd, t < j → l[t]? = some nd → ∃ kv, cs[t * 5]? = some (.int .i64 nd.kind) ∧ cs[t * 5 + 1]? = some (.int .i64 nd.op) ∧ cs[t * 5 + 2]? = some (.string nd.text) ∧ cs[t * 5 + 3]? = some (.string nd.other) ∧ cs[t * 5 + 4]? = some kv ∧ IntsIn wr wr.heap.size kv nd.kids ∧ FromOn (g + 1) kv
def put5 (cs : Array Value) (m : Nat) (a b c d e : Value) : Array Value := ((((cs.setIfInBounds m a).setIfInBounds (m + 1) b).setIfInBounds (m + 2) c).setIfInBounds (m + 3) d).setIfInBounds (m + 4) e
theorem put5_size (cs : Array Value) (m : Nat) (a b c d e : Value) : (put5 cs m a b c d e).size = cs.size := by simp [put5]
theorem put5_other (cs : Array Value) (m : Nat) (a b c d e : Value) (i : Nat) (h : i < m ∨ m + 4 < i) : (put5 cs m a b c d e)[i]? = cs[i]? := by
  unfold put5
  rw [Array.getElem?_setIfInBounds_ne (by omega), Array.getElem?_setIfInBounds_ne (by omega), Array.getElem?_setIfInBounds_ne (by omega), Array.getElem?_setIfInBounds_ne (by omega), Array.getElem?_setIfInBounds_ne (by omega)]
theorem put5_at (cs : Array Value) (m : Nat) (a b c d e : Value) (h : m + 4 < cs.size) : (put5 cs m a b c d e)[m]? = some a ∧ (put5 cs m a b c d e)[m + 1]? = some b ∧ (put5 cs m a b c d e)[m + 2]? = some c ∧ (put5 cs m a b c d e)[m + 3]? = some d ∧ (put5 cs m a b c d e)[m + 4]? = some e := by
  unfold put5
  refine ⟨?_, ?_, ?_, ?_, ?_⟩
  · rw [Array.getElem?_setIfInBounds_ne (by omega), Array.getElem?_setIfInBounds_ne (by omega), Array.getElem?_setIfInBounds_ne (by omega), Array.getElem?_setIfInBounds_ne (by omega), Array.getElem?_setIfInBounds_self_of_lt (by first | omega | (simp; omega))]
  · rw [Array.getElem?_setIfInBounds_ne (by omega), Array.getElem?_setIfInBounds_ne (by omega), Array.getElem?_setIfInBounds_ne (by omega), Array.getElem?_setIfInBounds_self_of_lt (by first | omega | (simp; omega))]
  · rw [Array.getElem?_setIfInBounds_ne (by omega), Array.getElem?_setIfInBounds_ne (by omega), Array.getElem?_setIfInBounds_self_of_lt (by first | omega | (simp; omega))]
  · rw [Array.getElem?_setIfInBounds_ne (by omega), Array.getElem?_setIfInBounds_self_of_lt (by first | omega | (simp; omega))]
  · rw [Array.getElem?_setIfInBounds_self_of_lt (by first | omega | (simp; omega))]
def set5 (w : World) (g m : Nat) (a b c d e : Value) : World := ((((w.setCell ⟨g, m, none⟩ a).setCell ⟨g, m + 1, none⟩ b).setCell ⟨g, m + 2, none⟩ c).setCell ⟨g, m + 3, none⟩ d).setCell ⟨g, m + 4, none⟩ e
theorem IntsIn.set5 {w : World} {B : Nat} {v : Value} {l : List Int} (h : IntsIn w B v l) {g : Nat} (hv : FromOn (g + 1) v) (m : Nat) (a b c d e : Value) : IntsIn (set5 w g m a b c d e) B v l :=
  ((((h.store hv (Nat.lt_succ_self _) _).store hv (Nat.lt_succ_self _) _).store hv (Nat.lt_succ_self _) _).store hv (Nat.lt_succ_self _) _).store hv (Nat.lt_succ_self _) _
theorem set5_size (w : World) (g m : Nat) (a b c d e : Value) : (set5 w g m a b c d e).heap.size = w.heap.size := by
  unfold Go.Proofs.YtlabmboedjnpmaaGreatDoor.set5
  simp
theorem Has.set5 {w : World} {g : Nat} {t : TypeId} {cs : Array Value} (h : Has w g t cs) (m : Nat) (a b c d e : Value) : Has (Go.Proofs.YtlabmboedjnpmaaGreatDoor.set5 w g m a b c d e) g t (put5 cs m a b c d e) :=
  ((((h.set m a).set (m + 1) b).set (m + 2) c).set (m + 3) d).set (m + 4) e
theorem Filled.step {wr w2 : World} {g : Nat} {cs : Array Value} {j : Nat} {l : List PNode} {nd : PNode} (h : Filled wr g cs j l) (hnd : l[j]? = some nd) (hb : Below wr.heap.size wr w2) (hs : l.length * 5 = cs.size) {kv : Value} (hk : IntsIn w2 w2.heap.size kv nd.kids) (hf : FromOn (g + 1) kv) :
    Filled (set5 w2 g (j * 5) (.int .i64 nd.kind) (.int .i64 nd.op) (.string nd.text) (.string nd.other) kv) g (put5 cs (j * 5) (.int .i64 nd.kind) (.int .i64 nd.op) (.string nd.text) (.string nd.other) kv) (j + 1) l := by
  have hj := (List.getElem?_eq_some_iff.1 hnd).1
  intro t x ht hx
  by_cases e : t = j
  · subst e
    obtain rfl := Option.some.inj (hnd.symm.trans hx)
    obtain ⟨q0, q1, q2, q3, q4⟩ := put5_at cs (t * 5) (.int .i64 nd.kind) (.int .i64 nd.op) (.string nd.text) (.string nd.other) kv (by omega)
    exact ⟨kv, q0, q1, q2, q3, q4, by rw [set5_size]; exact hk.set5 hf _ _ _ _ _ _, hf⟩
  · obtain ⟨kv', e0, e1, e2, e3, e4, hk', hf'⟩ := h t x (by omega) hx
    refine ⟨kv', ?_, ?_, ?_, ?_, ?_, ?_, hf'⟩
    · rw [put5_other _ _ _ _ _ _ _ _ (by omega)]; exact e0
    · rw [put5_other _ _ _ _ _ _ _ _ (by omega)]; exact e1
    · rw [put5_other _ _ _ _ _ _ _ _ (by omega)]; exact e2
    · rw [put5_other _ _ _ _ _ _ _ _ (by omega)]; exact e3
    · rw [put5_other _ _ _ _ _ _ _ _ (by omega)]; exact e4
    · rw [set5_size]
      exact ((hk'.keep hb (Nat.le_refl _)).more hb.size).set5 hf' _ _ _ _ _ _
theorem below_set5 {B : Nat} {w w' : World} (h : Below B w w') {g : Nat} (hg : B ≤ g) (m : Nat) (a b c d e : Value) : Below B w (Go.Proofs.YtlabmboedjnpmaaGreatDoor.set5 w' g m a b c d e) :=
  ((((h.setCell hg _).setCell hg _).setCell hg _).setCell hg _).setCell hg _
theorem info_node : (Tryz.prog.info? 30).map (fun i => (i.zero, i.size, i.bytes)) = some (some (.agg #[.int .i64 0, .int .i64 0, .string ⟨#[]⟩, .string ⟨#[]⟩, .slice none 0 0]), 5, 72) := by kernel_rfl
def RetNodes (w : World) (l : List PNode) (e : Ending) (w' : World) : Prop := ∃ v, e = .returned v ∧ NodesIn w' w'.heap.size v l ∧ FromOn w.heap.size v ∧ Below w.heap.size w w'
end Go.Proofs.YtlabmboedjnpmaaGreatDoor
/-! NodeEq -/
namespace Go.Proofs.YtlabmboedjnpmaaGreatDoor
open Go.RowKit
set_option linter.unusedVariables false

theorem IntsIn.drewN {w : World} {B : Nat} {v : Value} {l : List Int} (h : IntsIn w B v l) (n : Nat) : IntsIn (w.drewN n) B v l := h
def RetTrue (w : World) (e : Ending) (w' : World) : Prop := e = .returned (.bool true) ∧ Below w.heap.size w w'
end Go.Proofs.YtlabmboedjnpmaaGreatDoor
/-! KindCount -/
namespace Go.Proofs.YtlabmboedjnpmaaGreatDoor
open Go.RowKit
set_option linter.unusedVariables false

def kcL (k : Int) : List PNode → Nat
  | [] => 0
  | nd :: r => (if nd.kind = k then 1 else 0) + kcL k r
theorem kcL_append (k : Int) (a b : List PNode) : kcL k (a ++ b) = kcL k a + kcL k b := by
  induction a with
  | nil => simp [kcL]
  | cons x a ih => simp only [List.cons_append, kcL, ih]; omega
theorem kcL_take {k : Int} {l : List PNode} {j : Nat} {nd : PNode} (h : l[j]? = some nd) : kcL k (l.take (j + 1)) = kcL k (l.take j) + (if nd.kind = k then 1 else 0) := by
  rw [List.take_add_one, h, kcL_append]
  simp [kcL]
theorem kcL_le (k : Int) (l : List PNode) : kcL k l ≤ l.length := by
  induction l with
  | nil => simp [kcL]
  | cons x a ih => simp only [kcL, List.length_cons]; split <;> omega
def RetInt (w : World) (x : Int) (e : Ending) (w' : World) : Prop := e = .returned (.int .i64 x) ∧ Below w.heap.size w w'
def RetBool (w : World) (x : Bool) (e : Ending) (w' : World) : Prop := e = .returned (.bool x) ∧ Below w.heap.size w w'
end Go.Proofs.YtlabmboedjnpmaaGreatDoor
