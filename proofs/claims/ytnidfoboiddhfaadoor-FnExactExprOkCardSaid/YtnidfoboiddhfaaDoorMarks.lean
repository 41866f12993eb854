/- The marks that loops over iterators leave on an activation: at its end each is taken up. No program is in sight here. -/
import Derived.RangeFuncNested
import Derived.RangeFuncLeaves
import Derived.RangeFuncBox
import Derived.WalkKit
namespace Go.Proofs.YtnidfoboiddhfaaDoor
open Go.RowKit
set_option linter.unusedVariables false
def mark (D : Nat) : Deferred := { target := .collected D, args := #[] }
def shut : List Nat → World → World
  | [], w => w
  | D :: r, w => shut r (w.putObj D (.deferred none))
theorem shut_heap : ∀ (Ds : List Nat) (w : World) (k : Nat), k ∉ Ds → (shut Ds w).heap[k]? = w.heap[k]?
  | [], _, _, _ => rfl
  | D :: r, w, k, h => by
    rw [shut, shut_heap r _ k (fun hk => h (List.mem_cons_of_mem _ hk))]
    exact World.putObj_heap_other (fun e => h (by rw [e]; exact List.mem_cons_self))
theorem shut_below {B : Nat} : ∀ (Ds : List Nat) (w : World), (∀ D ∈ Ds, B ≤ D) → B ≤ w.heap.size → Below B w (shut Ds w)
  | [], w, _, _ => Below.refl _ _
  | D :: r, w, h, hB => by
    rw [shut]
    have h1 : Below B w (w.putObj D (.deferred none)) := (Below.refl B w).grown (grownBy_putObj' w D _) hB (fun k e => by cases e; exact h D List.mem_cons_self)
    exact h1.trans (shut_below r _ (fun x hx => h x (List.mem_cons_of_mem _ hx)) (Nat.le_trans hB h1.size))
theorem shut_size : ∀ (Ds : List Nat) (w : World), (shut Ds w).heap.size = w.heap.size
  | [], _ => rfl
  | D :: r, w => by rw [shut, shut_size r]; simp [World.putObj]
theorem leaves_marks {n : Nat} {P : Program} {fn : Func} {tmps : Array Value} {R : Ending → World → Prop} : ∀ (Ds : List Nat) (w : World), Ds.Nodup → (∀ D ∈ Ds, w.heap[D]? = some (.deferred (some []))) →
    LeavesIn Fence.wide n P fn tmps R [] .returning (shut Ds w) → LeavesInM Fence.wide n P fn tmps R (Ds.map mark) .returning w
  | [], w, _, _, h => h
  | D :: r, w, hn, hD, h => by
    have hk := hD D List.mem_cons_self
    have hn' := List.nodup_cons.1 hn
    refine ⟨by simp, .inl ⟨D, _, rfl, run_takeDeferred hk, leaves_marks r _ hn'.2 (fun x hx => ?_) h⟩⟩
    rw [World.putObj_heap_other (fun e => hn'.1 (by rw [← e]; exact hx))]
    exact hD x (List.mem_cons_of_mem _ hx)
/-- of what lay in W0 only some blocks have turned -/
def Only (S : Nat → Prop) (W0 W : World) : Prop := Below 0 W0 W ∧ ∀ k, k < W0.heap.size → ¬ S k → W.heap[k]? = W0.heap[k]?
theorem Only.refl (S : Nat → Prop) (W : World) : Only S W W := ⟨Below.refl _ _, fun _ _ _ => rfl⟩
theorem Only.below {S : Nat → Prop} {W0 W : World} (h : Only S W0 W) {n₀ : Nat} (hn : n₀ ≤ W0.heap.size) (hS : ∀ k, S k → n₀ ≤ k) : Below n₀ W0 W :=
  ⟨h.1.os, h.1.tape, h.1.output, h.1.size, fun k hk => h.2 k (by omega) (fun hs => by have := hS k hs; omega)⟩
theorem Only.set {S : Nat → Prop} {W0 W : World} (h : Only S W0 W) {g : Nat} (hg : S g) (i : Nat) (v : Value) : Only S W0 (W.setCell ⟨g, i, none⟩ v) :=
  ⟨h.1.setCell (p := ⟨g, i, none⟩) (Nat.zero_le _) v, fun k hk hs => (Below.heap_setCell W ⟨g, i, none⟩ v k (fun e => hs (by rw [e]; exact hg))).trans (h.2 k hk hs)⟩
theorem Only.more {S S' : Nat → Prop} {W0 W : World} (h : Only S W0 W) (hS : ∀ k, S k → S' k) : Only S' W0 W := ⟨h.1, fun k hk hs => h.2 k hk (fun x => hs (hS k x))⟩
theorem ownFrom_only {β : Type} (S : Nat → Prop) (W0 : World) : OwnFrom W0.heap.size (fun (_ : β) W => Only S W0 W) :=
  fun _ W W' row hs hg hr => ⟨hs.1.grown hg (Nat.zero_le _) (fun k e => Nat.zero_le _), fun k hk hk2 => (hg.block k (by have := hs.1.size; omega) (fun e => by have := (hr k e.symm).1; omega)).trans (hs.2 k hk hk2)⟩
end Go.Proofs.YtnidfoboiddhfaaDoor
