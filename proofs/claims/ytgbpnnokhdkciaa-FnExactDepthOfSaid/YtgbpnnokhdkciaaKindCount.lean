/- KindCount (walks): how many nodes of a kind. -/
import Derived.Test.YtgbpnnokhdkciaaNodeEq
namespace Go.Proofs.Ytgbpnnokhdkciaa
open Go.RowKit
set_option linter.unusedVariables false

def kcL (k : Int) : List PNode → Nat
  | [] => 0
  | nd :: r => (if nd.kind = k then 1 else 0) + kcL k r
theorem kcL_append (k : Int) (a b : List PNode) : kcL k (a ++ b) = kcL k a + kcL k b := by
  induction a with
  | nil => simp [kcL]
  | cons x a ih => simp only [List.cons_append, kcL, ih]; omega
theorem kcL_take {k : Int} {l : List PNode} {j : Nat} {nd : PNode} (h : l[j]? = some nd) : kcL k (l.take (j + 1)) = kcL k (l.take j) + (if nd.kind = k then 1 else 0) := by
  rw [List.take_add_one, h, kcL_append]
  simp [kcL]
theorem kcL_le (k : Int) (l : List PNode) : kcL k l ≤ l.length := by
  induction l with
  | nil => simp [kcL]
  | cons x a ih => simp only [kcL, List.length_cons]; split <;> omega
def RetInt (w : World) (x : Int) (e : Ending) (w' : World) : Prop := e = .returned (.int .i64 x) ∧ Below w.heap.size w w'
def RetBool (w : World) (x : Bool) (e : Ending) (w' : World) : Prop := e = .returned (.bool x) ∧ Below w.heap.size w w'
set_option maxRecDepth 100000 in
set_option maxHeartbeats 400000 in
theorem s_kindCount (v : Value) (k : Int) (l : List PNode) (w : World) (h : NodesIn w w.heap.size v l) : Calls Try.prog 69 #[v, .int .i64 k] w (RetInt w (kcL k l)) := by
  obtain ⟨A, c, rfl, hlc, hcm, hcell, hsz⟩ := h
  unfold maxLen at hcm
  clear hsz
  obtain ⟨n, hn⟩ : ∃ n, l.length = n := ⟨_, rfl⟩
  rw [hn] at hlc hcell ⊢
  have hnH := Lib.hid hn
  clear hn
  go_enter Try.func69, Try.ntmps69
  go_wp2_with fail
  go_loopw [5, 6] (fun x i wr => ∃ (j m : Nat), j ≤ n ∧ m ≤ j ∧ Hid (m = kcL k (l.take j)) ∧ x = .int .i64 m ∧ i = .int .i64 j ∧ Below w.heap.size w wr) (fun _ i _ => (n - (intOf i).toNat))
  case atStart => exact ⟨0, 0, by omega, by omega, by show _ = _; simp [kcL], by go_num, by go_num, Below.refl _ _⟩
  case round =>
    obtain ⟨j, m, hj, hm, hd, rfl, rfl, hb⟩ := hrel
    by_cases hlt : j < n
    · obtain ⟨nd, hnd⟩ : ∃ nd, l[j]? = some nd := ⟨l[j]'(by rw [hnH.out]; exact hlt), List.getElem?_eq_getElem _⟩
      obtain ⟨b, off, hA, hlt2, hc⟩ := hcell (by omega)
      subst hA
      obtain ⟨kv, e0, e1, e2, e3, e4, _⟩ := hc j nd hnd
      have hk : ∀ o, wr.cell? ⟨b, o, none⟩ = w.cell? ⟨b, o, none⟩ := fun o => hb.cell (p := ⟨b, o, none⟩) hlt2
      rw [← hk] at e0 e1 e2 e3 e4
      have hst := kcL_take (k := k) hnd
      rw [← hd.out] at hst
      have hst := Lib.hid hst
      obtain ⟨y, hy⟩ : ∃ y, nd.kind = y := ⟨_, rfl⟩
      rw [hy] at e0 hst
      clear hk hnd hc hcell
      by_cases hq : y = k
      · subst hq
        go_wp2_with fail
        go_roundw
        case rel => exact ⟨j + 1, m + 1, by omega, by omega, by show _ = _; rw [hst.out, if_pos rfl], by go_num, by go_num, hb⟩
        case measure => simp [intOf]; omega
      · have hq2 : (y == k) = false := by simpa using hq
        go_wp2_with fail
        go_roundw
        case rel => exact ⟨j + 1, m, by omega, by omega, by show _ = _; rw [hst.out, if_neg hq]; rfl, by go_num, by go_num, hb⟩
        case measure => simp [intOf]; omega
    · obtain rfl : j = n := by omega
      have hfin : Hid ((m : Int) = kcL k l) := by
        show (m : Int) = _
        have h3 := hd.out
        have h4 := hnH.out
        rw [List.take_of_length_le (by omega)] at h3
        omega
      clear hcell
      go_wp2_with fail
      go_ret
      exact ⟨ret_int hfin.out, hb⟩
set_option maxRecDepth 100000 in
set_option maxHeartbeats 400000 in
theorem i_kindCount (v : Value) (k : Int) (l : List PNode) (w : World) (h : NodesIn w w.heap.size v l) : Calls Try.prog 71 #[v, .int .i64 k] w (RetInt w (kcL k l)) := by
  obtain ⟨A, c, rfl, hlc, hcm, hcell, hsz⟩ := h
  unfold maxLen at hcm
  clear hsz
  obtain ⟨n, hn⟩ : ∃ n, l.length = n := ⟨_, rfl⟩
  rw [hn] at hlc hcell ⊢
  have hnH := Lib.hid hn
  clear hn
  go_enter Try.func71, Try.ntmps71
  go_wp2_with fail
  go_loopw [5, 10] (fun x i wr => ∃ (j m : Nat), j ≤ n ∧ m ≤ j ∧ Hid (m = kcL k (l.take j)) ∧ x = .int .i64 m ∧ i = .int .i64 j ∧ Below w.heap.size w wr) (fun _ i _ => (n - (intOf i).toNat))
  case atStart => exact ⟨0, 0, by omega, by omega, by show _ = _; simp [kcL], by go_num, by go_num, Below.refl _ _⟩
  case round =>
    obtain ⟨j, m, hj, hm, hd, rfl, rfl, hb⟩ := hrel
    by_cases hlt : j < n
    · obtain ⟨nd, hnd⟩ : ∃ nd, l[j]? = some nd := ⟨l[j]'(by rw [hnH.out]; exact hlt), List.getElem?_eq_getElem _⟩
      obtain ⟨b, off, hA, hlt2, hc⟩ := hcell (by omega)
      subst hA
      obtain ⟨kv, e0, e1, e2, e3, e4, K, kc, rfl, _⟩ := hc j nd hnd
      have hk : ∀ o, wr.cell? ⟨b, o, none⟩ = w.cell? ⟨b, o, none⟩ := fun o => hb.cell (p := ⟨b, o, none⟩) hlt2
      rw [← hk] at e0 e1 e2 e3 e4
      have hst := kcL_take (k := k) hnd
      rw [← hd.out] at hst
      have hst := Lib.hid hst
      obtain ⟨y, hy⟩ : ∃ y, nd.kind = y := ⟨_, rfl⟩
      rw [hy] at e0 hst
      clear hk hnd hc hcell
      by_cases hq : y = k
      · subst hq
        go_wp2_with fail
        go_roundw
        case rel => exact ⟨j + 1, m + 1, by omega, by omega, by show _ = _; rw [hst.out, if_pos rfl], by go_num, by go_num, by first | exact hb.alloc hb.size _ | (repeat (first | exact hb.alloc hb.size _ | refine Below.setCell ?_ hb.size _))⟩
        case measure => simp [intOf]; omega
      · have hq2 : (y == k) = false := by simpa using hq
        go_wp2_with fail
        go_roundw
        case rel => exact ⟨j + 1, m, by omega, by omega, by show _ = _; rw [hst.out, if_neg hq]; rfl, by go_num, by go_num, by first | exact hb.alloc hb.size _ | (repeat (first | exact hb.alloc hb.size _ | refine Below.setCell ?_ hb.size _))⟩
        case measure => simp [intOf]; omega
    · obtain rfl : j = n := by omega
      have hfin : Hid ((m : Int) = kcL k l) := by
        show (m : Int) = _
        have h3 := hd.out
        have h4 := hnH.out
        rw [List.take_of_length_le (by omega)] at h3
        omega
      clear hcell
      go_wp2_with fail
      go_ret
      exact ⟨ret_int hfin.out, hb⟩
end Go.Proofs.Ytgbpnnokhdkciaa
