/- Several texts in one (printed by a program): TreeV, Back, Marks. -/
import Derived.Test.YtlabmboedjnpmaaGreatDoorLexR
import Derived.Test.YtlabmboedjnpmaaGreatDoorChecked
import Derived.RangeFuncNested
import Derived.RangeFuncBound
import Derived.RangeFuncCalls
import Derived.RangeFuncLeaves
import Derived.RangeFuncBox
import Derived.RangeFuncWrites
import Derived.Shelf.Abstract
import Derived.WalkKit
import Derived.OwnWalkIn
import Derived.TacticsInMore
import Derived.LoopNIn
import Derived.LoopIn
/-! TreeV -/
namespace Go.Proofs.YtlabmboedjnpmaaGreatDoor
open Go.RowKit
set_option linter.unusedVariables false

/-- a slice of trees: the subtrees of some nodes; S: the blocks in which they lie -/
def KidsV (l : List PNode) (S : Nat → Prop) (w : World) : Nat → List Int → Value → Prop
  | 0, _, _ => False
  | f + 1, ks, v => ∃ A c, v = .slice A ks.length c ∧ ks.length ≤ c ∧ c ≤ maxLen ∧ (0 < ks.length → ∃ b off, A = some ⟨b, off, none⟩ ∧ S b ∧
      ∀ (j : Nat) (k : Int), ks[j]? = some k → ∃ nd kv, l[k.toNat]? = some nd ∧ w.cell? ⟨b, off + j * 5, none⟩ = some (.int .i64 nd.kind) ∧ w.cell? ⟨b, off + j * 5 + 1, none⟩ = some (.int .i64 nd.op) ∧
        w.cell? ⟨b, off + j * 5 + 2, none⟩ = some (.string nd.text) ∧ w.cell? ⟨b, off + j * 5 + 3, none⟩ = some (.string nd.other) ∧ w.cell? ⟨b, off + j * 5 + 4, none⟩ = some kv ∧ KidsV l S w f nd.kids kv)
theorem KidsV.same {l : List PNode} {S S' : Nat → Prop} {w w' : World} (hS : ∀ b, S b → S' b) (hc : ∀ b, S b → ∀ o, w'.cell? ⟨b, o, none⟩ = w.cell? ⟨b, o, none⟩) : ∀ {f : Nat} {ks : List Int} {v : Value}, KidsV l S w f ks v → KidsV l S' w' f ks v
  | 0, _, _, h => h
  | f + 1, ks, v, ⟨A, c, h1, h2, h3, h4⟩ => ⟨A, c, h1, h2, h3, fun hp => by
      obtain ⟨b, off, hA, hb, hk⟩ := h4 hp
      refine ⟨b, off, hA, hS b hb, fun j k hj => ?_⟩
      obtain ⟨nd, kv, e, e0, e1, e2, e3, e4, h⟩ := hk j k hj
      simp only [hc b hb]
      exact ⟨nd, kv, e, e0, e1, e2, e3, e4, KidsV.same hS hc h⟩⟩
theorem KidsV.below {l : List PNode} {S S' : Nat → Prop} {w w' : World} {B : Nat} (hb : Below B w w') (hS : ∀ b, S b → S' b) (hB : ∀ b, S b → b < B) {f : Nat} {ks : List Int} {v : Value} (h : KidsV l S w f ks v) : KidsV l S' w' f ks v :=
  h.same hS fun b hs o => hb.cell (p := ⟨b, o, none⟩) (hB b hs)
theorem KidsV.grown {l : List PNode} {S S' : Nat → Prop} {w w' : World} {row : Option Nat} (hg : w.grownBy w' row) (hS : ∀ b, S b → S' b) (hB : ∀ b, S b → b < w.heap.size ∧ some b ≠ row) {f : Nat} {ks : List Int} {v : Value} (h : KidsV l S w f ks v) : KidsV l S' w' f ks v :=
  h.same hS fun b hs o => by
    obtain ⟨h1, h2⟩ := hB b hs
    have := hg.block b h1 h2
    simp [World.cell?, this]
/-- the cells of a row of trees -/
def TreeRow (l : List PNode) (S : Nat → Prop) (w : World) (f : Nat) (ks : List Int) (xs : List Value) : Prop :=
  xs.length = ks.length * 5 ∧ ∀ (j : Nat) (k : Int), ks[j]? = some k → ∃ nd kv, l[k.toNat]? = some nd ∧ xs[j * 5]? = some (.int .i64 nd.kind) ∧ xs[j * 5 + 1]? = some (.int .i64 nd.op) ∧
    xs[j * 5 + 2]? = some (.string nd.text) ∧ xs[j * 5 + 3]? = some (.string nd.other) ∧ xs[j * 5 + 4]? = some kv ∧ KidsV l S w f nd.kids kv
theorem TreeRow.nil (l : List PNode) (S : Nat → Prop) (w : World) (f : Nat) : TreeRow l S w f [] [] := ⟨rfl, fun j k h => by simp at h⟩
theorem TreeRow.same {l : List PNode} {S S' : Nat → Prop} {w w' : World} (hS : ∀ b, S b → S' b) (hc : ∀ b, S b → ∀ o, w'.cell? ⟨b, o, none⟩ = w.cell? ⟨b, o, none⟩) {f : Nat} {ks : List Int} {xs : List Value} (h : TreeRow l S w f ks xs) : TreeRow l S' w' f ks xs :=
  ⟨h.1, fun j k hj => by
    obtain ⟨nd, kv, e, e0, e1, e2, e3, e4, hk⟩ := h.2 j k hj
    exact ⟨nd, kv, e, e0, e1, e2, e3, e4, hk.same hS hc⟩⟩
theorem TreeRow.below {l : List PNode} {S S' : Nat → Prop} {w w' : World} {B : Nat} (hb : Below B w w') (hS : ∀ b, S b → S' b) (hB : ∀ b, S b → b < B) {f : Nat} {ks : List Int} {xs : List Value} (h : TreeRow l S w f ks xs) : TreeRow l S' w' f ks xs :=
  h.same hS fun b hs o => hb.cell (p := ⟨b, o, none⟩) (hB b hs)
theorem grown_cell {w w' : World} {row : Option Nat} (hg : w.grownBy w' row) {b : Nat} (h1 : b < w.heap.size) (h2 : some b ≠ row) (o : Nat) : w'.cell? ⟨b, o, none⟩ = w.cell? ⟨b, o, none⟩ := by
  have := hg.block b h1 h2
  simp [World.cell?, this]
theorem TreeRow.grown {l : List PNode} {S S' : Nat → Prop} {w w' : World} {row : Option Nat} (hg : w.grownBy w' row) (hS : ∀ b, S b → S' b) (hB : ∀ b, S b → b < w.heap.size ∧ some b ≠ row) {f : Nat} {ks : List Int} {xs : List Value} (h : TreeRow l S w f ks xs) : TreeRow l S' w' f ks xs :=
  h.same hS fun b hs o => grown_cell hg (hB b hs).1 (hB b hs).2 o
theorem TreeRow.snoc {l : List PNode} {S : Nat → Prop} {w : World} {f : Nat} {ks : List Int} {xs : List Value} (h : TreeRow l S w f ks xs) {k : Int} {nd : PNode} {kv : Value} (hn : l[k.toNat]? = some nd) (hk : KidsV l S w f nd.kids kv) :
    TreeRow l S w f (ks ++ [k]) (xs ++ [.int .i64 nd.kind, .int .i64 nd.op, .string nd.text, .string nd.other, kv]) := by
  have hl := h.1
  refine ⟨by simp [hl]; omega, fun j x hj => ?_⟩
  by_cases hlt : j < ks.length
  · rw [List.getElem?_append_left hlt] at hj
    obtain ⟨nd', kv', e, e0, e1, e2, e3, e4, hk'⟩ := h.2 j x hj
    refine ⟨nd', kv', e, ?_, ?_, ?_, ?_, ?_, hk'⟩
    · rw [List.getElem?_append_left (by omega)]; exact e0
    · rw [List.getElem?_append_left (by omega)]; exact e1
    · rw [List.getElem?_append_left (by omega)]; exact e2
    · rw [List.getElem?_append_left (by omega)]; exact e3
    · rw [List.getElem?_append_left (by omega)]; exact e4
  · rw [List.getElem?_append_right (by omega)] at hj
    have hj0 : j - ks.length = 0 := by
      by_cases e : j - ks.length = 0
      · exact e
      · rw [List.getElem?_eq_none (by simp; omega)] at hj; cases hj
    rw [hj0] at hj
    obtain rfl : k = x := by simpa using hj
    obtain rfl : j = ks.length := by omega
    refine ⟨nd, kv, hn, ?_, ?_, ?_, ?_, ?_, hk⟩
    · rw [List.getElem?_append_right (by omega), show ks.length * 5 - xs.length = 0 by omega]; rfl
    · rw [List.getElem?_append_right (by omega), show ks.length * 5 + 1 - xs.length = 1 by omega]; rfl
    · rw [List.getElem?_append_right (by omega), show ks.length * 5 + 2 - xs.length = 2 by omega]; rfl
    · rw [List.getElem?_append_right (by omega), show ks.length * 5 + 3 - xs.length = 3 by omega]; rfl
    · rw [List.getElem?_append_right (by omega), show ks.length * 5 + 4 - xs.length = 4 by omega]; rfl
/-- out of a row that the call owns -/
theorem KidsV.of_row {l : List PNode} {S S' : Nat → Prop} {w : World} {f : Nat} {ks : List Int} {xs : List Value} {base e : Nat} {v : Value} (hS : ∀ b, S b → S' b) (hv : ∀ g, v.ownBlock = some g → S' g) (h : TreeRow l S w f ks xs) (hown : w.ownsRow base e 5 v ks.length xs) : KidsV l S' w (f + 1) ks v := by
  obtain ⟨_, h2⟩ := hown
  rcases h2 with ⟨rfl, h0⟩ | ⟨g, cap, cur, rfl, hb, hh, q1, q2, hsz, htk⟩
  · exact ⟨none, 0, by rw [h0], by omega, Nat.zero_le _, fun hp => by omega⟩
  · refine ⟨_, cap, rfl, q1, q2, fun hp => ⟨g, 0, rfl, hv g rfl, fun j k hj => ?_⟩⟩
    obtain ⟨nd, kv, e, e0, e1, e2, e3, e4, hk⟩ := h.2 j k hj
    have hjl := (List.getElem?_eq_some_iff.1 hj).1
    have hc : ∀ i u, xs[i]? = some u → w.cell? ⟨g, 0 + i, none⟩ = some u := by
      intro i u hu
      rw [Nat.zero_add, cell_of_row w g i cur _ _ hh]
      have hi := (List.getElem?_eq_some_iff.1 hu).1
      have hl := h.1
      have h3 : (cur.toList.take (ks.length * 5))[i]? = xs[i]? := by rw [htk]
      rw [List.getElem?_take_of_lt (by omega), Array.getElem?_toList, hu] at h3
      exact h3
    simp only [Nat.add_assoc]
    exact ⟨nd, kv, e, hc _ _ e0, hc _ _ e1, hc _ _ e2, hc _ _ e3, hc _ _ e4, hk.same hS fun _ _ _ => rfl⟩
end Go.Proofs.YtlabmboedjnpmaaGreatDoor
/-! Back -/
namespace Go.Proofs.YtlabmboedjnpmaaGreatDoor
open Go.RowKit Go.Shelf
set_option linter.unusedVariables false
attribute [local go_sem] Oper.semAt_some

/-- what has come when k rounds are over -/
def upto {α : Type} (f : Nat → α) (k : Nat) : List α := (List.range k).map f
theorem upto_succ {α : Type} (f : Nat → α) (k : Nat) : upto f (k + 1) = upto f k ++ [f k] := by simp [upto, List.range_succ]
theorem upto_length {α : Type} (f : Nat → α) (k : Nat) : (upto f k).length = k := by simp [upto]
/-- a round keeps what lies below n₀, and one box -/
def KeepB (n₀ Bs : Nat) (W W' : World) : Prop := Below n₀ W W' ∧ W'.cell? ⟨Bs, 0, none⟩ = W.cell? ⟨Bs, 0, none⟩
theorem KeepB.refl (n₀ Bs : Nat) (W : World) : KeepB n₀ Bs W W := ⟨Below.refl _ _, rfl⟩
theorem keepB_t {n₀ Bs : Nat} {A B C : World} (h : KeepB n₀ Bs A B) (k : KeepB n₀ Bs B C) : KeepB n₀ Bs A C := ⟨h.1.trans k.1, k.2.trans h.2⟩
theorem keepB_b {n₀ Bs : Nat} {w : World} (hn : n₀ ≤ w.heap.size) (hB : Bs < w.heap.size) (W : World) (l : Nat) (o o' : Obj) (hl : w.heap.size ≤ l) (h : W.heap[l]? = some o) (hc : o.isCells = false) (hw : o.isWalk = false) : KeepB n₀ Bs W (W.putObj l o') :=
  ⟨belowK_b hn W l o o' hl h hc hw, World.cell?_of_block (World.putObj_heap_other (by show Bs ≠ l; omega))⟩
/-- the rounds of a walk from the end -/
def backF (zs : List Int) (j : Nat) : Nat × Int := (zs.length - 1 - j, zs[zs.length - 1 - j]?.getD 0)
theorem backF_all (zs : List Int) : (upto (backF zs) zs.length).map Prod.snd = zs.reverse := by
  apply List.ext_getElem
  · simp [upto]
  · intro i h1 h2
    have hi : i < zs.length := by simpa [upto] using h1
    simp [upto, backF]
    rw [List.getElem?_eq_getElem (by omega)]
    rfl
set_option maxRecDepth 100000 in
set_option maxHeartbeats 2000000 in
theorem back1_in (F : Fence) (n : Nat) (hF : F.fn 81) (hro : F.round = none) (hn : 1 ≤ n) (l Bs n₀ b off cap : Nat) (zs : List Int) (hreach : zs.length ≤ 9223372036854775807) (hb : b < n₀) (J Jx : List (Nat × Int) → World → Prop)
    (hY : ∀ pre x W, J pre W → pre.length < zs.length → YieldAt F (n - 1) Tryz.prog l #[.int .i64 (x.1 : Int), .int .i64 x.2] W fun e W' =>
      (e = .returned (.bool true) ∧ J (pre ++ [x]) W' ∧ KeepB n₀ Bs W W') ∨ (e = .returned (.bool false) ∧ Jx (pre ++ [x]) W'))
    (W : World) (hBs : W.cell? ⟨Bs, 0, none⟩ = some (.slice (some ⟨b, off, none⟩) zs.length cap)) (hcap : zs.length ≤ cap) (hc : ∀ j, j < zs.length → W.cell? ⟨b, off + j, none⟩ = some (.int .i64 (zs[j]?.getD 0))) (h0 : J [] W) :
    CallsIn F n Tryz.prog 81 #[.func (.yield l) #[] #[], .pointer (some ⟨Bs, 0, none⟩)] W fun e W' => (∃ v, e = .returned v) ∧
      ((∃ ys, ys = upto (backF zs) zs.length ∧ J ys W') ∨ (∃ pre, (∃ k, k ≤ zs.length ∧ pre = upto (backF zs) k) ∧ Jx pre W')) := by
  refine callsIn_of_wp Tryz.func81 rfl hF ?_ hro
  simp only [Tryz.ntmps81, List.size_toArray, List.length_cons, List.length_nil, Nat.reduceAdd, Nat.reduceSub, Array.replicate_succ, Array.replicate_zero, List.push_toArray, List.append_toArray, List.nil_append, List.cons_append]
  obtain ⟨len, hlen⟩ : ∃ m, zs.length = m := ⟨_, rfl⟩
  rw [hlen] at hreach hBs hcap hc hY ⊢
  have hlenH := Lib.hid hlen
  clear hlen
  gi_wp2
  gi_loopw [3] (fun i wr => ∃ k : Nat, k ≤ len ∧ i = .int .i64 ((len : Int) - 1 - k) ∧ J (upto (backF zs) k) wr ∧ KeepB n₀ Bs W wr)
    (fun i _ => (intOf i + 1).toNat)
  case atStart => exact ⟨0, Nat.zero_le _, by simp, h0, KeepB.refl _ _ _⟩
  case round =>
    obtain ⟨k, hk, rfl, hJs, hnx⟩ := hrel
    by_cases hlt : k < len
    · obtain ⟨d, hd⟩ : ∃ d : Nat, (len : Int) - 1 - k = d := ⟨len - 1 - k, by omega⟩
      rw [hd]
      have hbox := hnx.2.trans hBs
      have hcx := (hnx.1.cell (p := ⟨b, off + d, none⟩) hb).trans (hc d (by omega))
      have hfd : Hid (backF zs k = (d, zs[d]?.getD 0)) := by
        show _ = _
        unfold backF
        rw [hlenH.out, show len - 1 - k = d by omega]
      obtain ⟨fn, tmps, assign, body, hy, hR⟩ := hY _ (d, zs[d]?.getD 0) wr hJs (by rw [upto_length]; exact hlt)
      dsimp only at hy
      have hdl : d < len := by omega
      have hdH := Lib.hid hd
      clear hc hd hY
      gi_wp2
      refine hR.mono ?_
      rintro e W3 (⟨rfl, hJ3, hk3⟩ | ⟨rfl, hJx3⟩)
      · gi_wp2
        go_roundw
        case rel => exact ⟨k + 1, by omega, by have := hdH.out; go_num, by rw [upto_succ, hfd.out]; exact hJ3, keepB_t hnx hk3⟩
        case measure => simp [intOf]
      · gi_wp2
        refine bodyPost_ret (results_none rfl _ _ _) rfl ?_
        exact ⟨⟨_, rfl⟩, .inr ⟨_, ⟨k + 1, by omega, by rw [upto_succ, hfd.out]⟩, hJx3⟩⟩
    · obtain rfl : k = len := by omega
      have hm : (k : Int) - 1 - k = -1 := by omega
      rw [hm]
      clear hm
      gi_wp2
      go_end0
      exact ⟨⟨_, rfl⟩, .inl ⟨_, rfl, hJs⟩⟩
set_option maxRecDepth 100000 in
set_option maxHeartbeats 1000000 in
theorem back1_nil_in (F : Fence) (n : Nat) (hF : F.fn 81) (hro : F.round = none) (l Bs c : Nat) (A : Option Addr) (J : List (Nat × Int) → World → Prop) (W : World) (hBs : W.cell? ⟨Bs, 0, none⟩ = some (.slice A 0 c)) (h0 : J [] W) :
    CallsIn F n Tryz.prog 81 #[.func (.yield l) #[] #[], .pointer (some ⟨Bs, 0, none⟩)] W fun e W' => (∃ v, e = .returned v) ∧ J [] W' := by
  refine callsIn_of_wp Tryz.func81 rfl hF ?_ hro
  simp only [Tryz.ntmps81, List.size_toArray, List.length_cons, List.length_nil, Nat.reduceAdd, Nat.reduceSub, Array.replicate_succ, Array.replicate_zero, List.push_toArray, List.append_toArray, List.nil_append, List.cons_append]
  gi_wp2
  gi_loopw [3] (fun i wr => i = .int .i64 (-1) ∧ J [] wr) (fun _ _ => 0)
  case atStart => exact ⟨rfl, h0⟩
  case round =>
    obtain ⟨rfl, hJs⟩ := hrel
    gi_wp2
    go_end0
    exact ⟨⟨_, rfl⟩, hJs⟩
theorem back_stops (F : Fence) (n : Nat) (hF : F.fn 81) (hro : F.round = none) (hn : 1 ≤ n) (Bs n₀ cap : Nat) (A : Option Addr) (zs : List Int) (hreach : zs.length ≤ 9223372036854775807) (hcap : zs.length ≤ cap) (w : World) (hBs : Bs < w.heap.size) (hn₀ : n₀ ≤ w.heap.size)
    (hc : w.cell? ⟨Bs, 0, none⟩ = some (.slice A zs.length cap)) (hz : 0 < zs.length → ∃ b off, A = some ⟨b, off, none⟩ ∧ b < n₀ ∧ ∀ (i : Nat) (x : Int), zs[i]? = some x → w.cell? ⟨b, off + i, none⟩ = some (.int .i64 x)) :
    SeqStopsK F n Tryz.prog 81 #[.pointer (some ⟨Bs, 0, none⟩)] (fun x : Nat × Int => #[Value.int .i64 (x.1 : Int), Value.int .i64 x.2]) (KeepB n₀ Bs) (fun ys => ys = upto (backF zs) zs.length)
      (fun pre => ∃ k, k ≤ zs.length ∧ pre = upto (backF zs) k) zs.length w := fun l J Jx W hW _ _ hY h0 => by
  have hc' := (hW.cell (p := ⟨Bs, 0, none⟩) hBs).trans hc
  by_cases h : 0 < zs.length
  · obtain ⟨b, off, rfl, hb, hcs⟩ := hz h
    refine back1_in F n hF hro hn l Bs n₀ b off cap zs hreach hb J Jx hY W hc' hcap ?_ h0
    intro j hj
    rw [(hW.cell (p := ⟨b, off + j, none⟩) (by show b < _; omega)), hcs j zs[j] (List.getElem?_eq_getElem hj), List.getElem?_eq_getElem hj]
    rfl
  · have e : zs = [] := List.eq_nil_of_length_eq_zero (by omega)
    subst e
    exact (back1_nil_in F n hF hro l Bs cap A J W hc' h0).mono fun e W' ⟨he, hj⟩ => ⟨he, .inl ⟨_, rfl, hj⟩⟩
theorem back_maker (A : Option Addr) (len cap : Nat) (w : World) :
    Calls Tryz.prog 59 #[.slice A len cap] w fun e w' => e = .returned (.func (.func 81) #[] #[.pointer (some ⟨w.heap.size, 0, none⟩)]) ∧ w' = w.alloc (.cells #[.slice A len cap] 28) := by
  go_enter Tryz.func59, Tryz.ntmps59
  go_wp2
  go_ret
  exact ⟨rfl, rfl⟩
end Go.Proofs.YtlabmboedjnpmaaGreatDoor
/-! Marks -/
namespace Go.Proofs.YtlabmboedjnpmaaGreatDoor
open Go.RowKit
set_option linter.unusedVariables false
def mark (D : Nat) : Deferred := { target := .collected D, args := #[] }
def shut : List Nat → World → World
  | [], w => w
  | D :: r, w => shut r (w.putObj D (.deferred none))
theorem shut_heap : ∀ (Ds : List Nat) (w : World) (k : Nat), k ∉ Ds → (shut Ds w).heap[k]? = w.heap[k]?
  | [], _, _, _ => rfl
  | D :: r, w, k, h => by
    rw [shut, shut_heap r _ k (fun hk => h (List.mem_cons_of_mem _ hk))]
    exact World.putObj_heap_other (fun e => h (by rw [e]; exact List.mem_cons_self))
theorem shut_below {B : Nat} : ∀ (Ds : List Nat) (w : World), (∀ D ∈ Ds, B ≤ D) → B ≤ w.heap.size → Below B w (shut Ds w)
  | [], w, _, _ => Below.refl _ _
  | D :: r, w, h, hB => by
    rw [shut]
    have h1 : Below B w (w.putObj D (.deferred none)) := (Below.refl B w).grown (grownBy_putObj' w D _) hB (fun k e => by cases e; exact h D List.mem_cons_self)
    exact h1.trans (shut_below r _ (fun x hx => h x (List.mem_cons_of_mem _ hx)) (Nat.le_trans hB h1.size))
theorem shut_size : ∀ (Ds : List Nat) (w : World), (shut Ds w).heap.size = w.heap.size
  | [], _ => rfl
  | D :: r, w => by rw [shut, shut_size r]; simp [World.putObj]
theorem leaves_marks {n : Nat} {P : Program} {fn : Func} {tmps : Array Value} {R : Ending → World → Prop} : ∀ (Ds : List Nat) (w : World), Ds.Nodup → (∀ D ∈ Ds, w.heap[D]? = some (.deferred (some []))) →
    LeavesIn Fence.wide n P fn tmps R [] .returning (shut Ds w) → LeavesInM Fence.wide n P fn tmps R (Ds.map mark) .returning w
  | [], w, _, _, h => h
  | D :: r, w, hn, hD, h => by
    have hk := hD D List.mem_cons_self
    have hn' := List.nodup_cons.1 hn
    refine ⟨by simp, .inl ⟨D, _, rfl, run_takeDeferred hk, leaves_marks r _ hn'.2 (fun x hx => ?_) h⟩⟩
    rw [World.putObj_heap_other (fun e => hn'.1 (by rw [← e]; exact hx))]
    exact hD x (List.mem_cons_of_mem _ hx)
/-- of what lay in W0 only some blocks have turned -/
def Only (S : Nat → Prop) (W0 W : World) : Prop := Below 0 W0 W ∧ ∀ k, k < W0.heap.size → ¬ S k → W.heap[k]? = W0.heap[k]?
theorem Only.refl (S : Nat → Prop) (W : World) : Only S W W := ⟨Below.refl _ _, fun _ _ _ => rfl⟩
theorem Only.below {S : Nat → Prop} {W0 W : World} (h : Only S W0 W) {n₀ : Nat} (hn : n₀ ≤ W0.heap.size) (hS : ∀ k, S k → n₀ ≤ k) : Below n₀ W0 W :=
  ⟨h.1.os, h.1.tape, h.1.output, h.1.size, fun k hk => h.2 k (by omega) (fun hs => by have := hS k hs; omega)⟩
theorem Only.set {S : Nat → Prop} {W0 W : World} (h : Only S W0 W) {g : Nat} (hg : S g) (i : Nat) (v : Value) : Only S W0 (W.setCell ⟨g, i, none⟩ v) :=
  ⟨h.1.setCell (p := ⟨g, i, none⟩) (Nat.zero_le _) v, fun k hk hs => (Below.heap_setCell W ⟨g, i, none⟩ v k (fun e => hs (by rw [e]; exact hg))).trans (h.2 k hk hs)⟩
theorem Only.more {S S' : Nat → Prop} {W0 W : World} (h : Only S W0 W) (hS : ∀ k, S k → S' k) : Only S' W0 W := ⟨h.1, fun k hk hs => h.2 k hk (fun x => hs (hS k x))⟩
theorem ownFrom_only {β : Type} (S : Nat → Prop) (W0 : World) : OwnFrom W0.heap.size (fun (_ : β) W => Only S W0 W) :=
  fun _ W W' row hs hg hr => ⟨hs.1.grown hg (Nat.zero_le _) (fun k e => Nat.zero_le _), fun k hk hk2 => (hg.block k (by have := hs.1.size; omega) (fun e => by have := (hr k e.symm).1; omega)).trans (hs.2 k hk hk2)⟩
end Go.Proofs.YtlabmboedjnpmaaGreatDoor
