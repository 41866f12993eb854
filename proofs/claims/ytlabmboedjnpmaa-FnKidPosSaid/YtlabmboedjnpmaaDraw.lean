/- The draws of the reference: a cursor, a byte, a number below another (walks). -/
import Derived.Test.YtlabmboedjnpmaaDrawPure
import Derived.Test.YtlabmboedjnpmaaChecked
import Derived.Test.YtlabmboedjnpmaaChars
import Derived.Deep.QuietTactic
import Derived.BigQuiet
namespace Go.Proofs.Ytlabmboedjnpmaa
open Go.RowKit
set_option linter.unusedVariables false
/-- block g is a cursor over the bytes cs in this state -/
def Cur (w : World) (g : Nat) (cs : List UInt8) (s : Nat × Int) : Prop := ∃ v, Has w g 51 #[v, .int .i64 s.1, .int .i64 s.2] ∧ BytesIn w g v cs ∧ s.1 ≤ cs.length ∧ (-9223372036854775808 ≤ s.2 ∧ s.2 ≤ 9223372036854775807)
theorem Cur.away {w w' : World} {g k : Nat} {cs : List UInt8} {s : Nat × Int} (h : Cur w g cs s) (ha : Away k w w') (hk : g < k) (hs : g < w.heap.size) : Cur w' g cs s := by
  obtain ⟨v, h1, h2, h3⟩ := h
  exact ⟨v, ha.has h1 (by omega), h2.keep (ha.below (B := g) (by omega) (by omega)) (Nat.le_refl _), h3⟩
theorem Cur.later {w w' : World} {g : Nat} {cs : List UInt8} {s : Nat × Int} (h : Cur w g cs s) (hb : Below w.heap.size w w') : Cur w' g cs s := by
  obtain ⟨v, h1, h2, h3⟩ := h
  exact ⟨v, h1.below hb h1.lt, h2.keep hb (Nat.le_of_lt h1.lt), h3⟩
theorem Cur.keep {w w' : World} {g B : Nat} {cs : List UInt8} {s : Nat × Int} (h : Cur w g cs s) (hb : Below B w w') (hg : g < B) : Cur w' g cs s := by
  obtain ⟨v, h1, h2, h3⟩ := h
  exact ⟨v, h1.below hb hg, h2.keep hb (Nat.le_of_lt hg), h3⟩
theorem Cur.alloc {w : World} {g : Nat} {cs : List UInt8} {s : Nat × Int} (h : Cur w g cs s) (o : Obj) : Cur (w.alloc o) g cs s := h.later ((Below.refl _ _).alloc (Nat.le_refl _) o)
theorem Cur.drewN {w : World} {g : Nat} {cs : List UInt8} {s : Nat × Int} (h : Cur w g cs s) (n : Nat) : Cur (w.drewN n) g cs s := h.later (below_drewN (Below.refl _ _) n)
theorem Cur.drew {w : World} {g : Nat} {cs : List UInt8} {s : Nat × Int} (h : Cur w g cs s) : Cur w.drew g cs s := h.drewN 1
theorem Cur.lt {w : World} {g : Nat} {cs : List UInt8} {s : Nat × Int} (h : Cur w g cs s) : g < w.heap.size := by
  obtain ⟨v, h1, _⟩ := h
  exact h1.lt
/-- what a draw of a plain value leaves -/
def RetD (w : World) (g : Nat) (cs : List UInt8) (s : Nat × Int) (v : Value) (e : Ending) (w' : World) : Prop := e = .returned v ∧ Cur w' g cs s ∧ Away g w w'
set_option maxRecDepth 100000 in
set_option maxHeartbeats 1000000 in
theorem d_byte (g : Nat) (cs : List UInt8) (s : Nat × Int) (w : World) (hc : Cur w g cs s) : Calls Try.prog 33 #[.pointer (some ⟨g, 0, none⟩)] w (RetD w g cs (stepD cs s) (.int .i64 (byteD cs s))) := by
  obtain ⟨v, hH, hB, hi, hh⟩ := hc
  obtain ⟨A, c, rfl, hlc, hcm, hcell⟩ := hB
  obtain ⟨i, h⟩ := s
  have hcm0 := hcm
  unfold maxLen at hcm
  dsimp only at hH hi hh
  have c0 : w.cell? ⟨g, 0, none⟩ = _ := hH.get (i := 0) rfl
  have c1 : w.cell? ⟨g, 1, none⟩ = _ := hH.get (i := 1) rfl
  have c2 : w.cell? ⟨g, 2, none⟩ = _ := hH.get (i := 2) rfl
  have f1 : w.frozen? ⟨g, 1, none⟩ = _ := hH.free 1
  have f2 : w.frozen? ⟨g, 2, none⟩ = _ := hH.free 2
  have hHH := Lib.hid hH
  clear hH
  obtain ⟨H, hN⟩ : ∃ H, nextH h = H := ⟨_, rfl⟩
  obtain ⟨M, hM⟩ : ∃ M, mixH H = M := ⟨_, rfl⟩
  have hM0 : 0 ≤ M ∧ M < 256 := by rw [← hM]; exact and255 _
  have hok := Lib.hid (hN ▸ nextH_ok h)
  have hst : Hid (stepD cs (i, h) = (if i < cs.length then i + 1 else i, H)) := by show _ = _; rw [← hN]; rfl
  have hby : Hid (byteD cs (i, h) = match cs[i]? with | some b => bits .and .i64 (M + (b.toNat : Int)) 255 | none => M) := by show _ = _; rw [← hM, ← hN]; rfl
  have hNe : Hid (wrap64 (wrap64 (h * 6364136223846793005) + 1442695040888963407) = H) := hN
  have hMe : Hid (bits .and .i64 (bits .xor .i64 (H / 8589934592) (H / 35184372088832)) 255 = M) := hM
  clear hN hM
  go_enter Try.func33, Try.ntmps33
  go_wp2_with fail
  rw [hNe.out]
  have h2 := hHH.out.set 2 (.int .i64 H)
  have hA2 := (Away.refl g w).setCell 2 (.int .i64 H)
  have hcell2 : Hid (0 < cs.length → ∃ b off, A = some ⟨b, off, none⟩ ∧ b < g ∧ ∀ i x, cs[i]? = some x → (w.setCell ⟨g, 2, none⟩ (.int .i64 H)).cell? ⟨b, off + i, none⟩ = some (.int .u8 (x.toNat : Int))) := fun hp => by
    obtain ⟨b, off, e, hlt, hx⟩ := hcell hp
    exact ⟨b, off, e, hlt, fun i x hi => (hA2.cell (Nat.lt_trans hlt hHH.out.lt) (Nat.ne_of_lt hlt) _).trans (hx i x hi)⟩
  obtain ⟨W, hW⟩ : ∃ W, w.setCell ⟨g, 2, none⟩ (.int .i64 H) = W := ⟨_, rfl⟩
  rw [hW] at h2 hA2 hcell2 ⊢
  have h2 : Has W g 51 #[.slice A cs.length c, .int .i64 i, .int .i64 H] := h2
  have hBW : Hid (BytesIn W g (.slice A cs.length c) cs) := ⟨A, c, rfl, hlc, hcm0, hcell2.out⟩
  clear hW c0 c1 c2 f1 f2 hcell
  have c0 : W.cell? ⟨g, 0, none⟩ = _ := h2.get (i := 0) rfl
  have c1 : W.cell? ⟨g, 1, none⟩ = _ := h2.get (i := 1) rfl
  have c2 : W.cell? ⟨g, 2, none⟩ = _ := h2.get (i := 2) rfl
  have f1 : W.frozen? ⟨g, 1, none⟩ = _ := h2.free 1
  have h2H := Lib.hid h2
  clear h2
  by_cases hlt : i < cs.length
  · obtain ⟨x, hx⟩ : ∃ x, cs[i]? = some x := ⟨cs[i], List.getElem?_eq_getElem hlt⟩
    obtain ⟨b, off, rfl, hbg, hxs⟩ := hcell2.out (by omega)
    have e0 := hxs i x hx
    have hst2 : Hid (stepD cs (i, h) = (i + 1, H)) := by show _ = _; rw [hst.out, if_pos hlt]
    have hby2 : Hid (byteD cs (i, h) = bits .and .i64 (M + (x.toNat : Int)) 255) := by show _ = _; rw [hby.out, hx]
    have hxl : (x.toNat : Int) < 256 := by have := x.toNat_lt; omega
    have hx0 : 0 ≤ (x.toNat : Int) := by omega
    obtain ⟨cb, hcb⟩ : ∃ cb : Int, (x.toNat : Int) = cb := ⟨_, rfl⟩
    rw [hcb] at e0 hby2 hxl hx0
    clear hcb hx hxs hst hby
    have hlen : decide ((i : Int) < (cs.length : Int)) = true := by simp; omega
    have hw1 : IntKind.i64.wrap (M + cb) = M + cb := IntWalk.i64_in _ (by omega)
    go_quiet (fail)
    rw [hMe.out]
    clear hMe hNe
    go_wp2_with fail
    go_quiet (fail)
    go_wp2_with fail
    go_quiet (fail)
    go_wp2_with fail
    go_ret
    have hE : ((i + 1 : Nat) : Int) = (i : Int) + 1 := by omega
    have hAf : ∀ k, Away g W ((W.drewN k).setCell ⟨g, 1, none⟩ (.int .i64 ((i : Int) + 1))) := fun k => ((Away.refl g W).drewN k).setCell 1 (.int .i64 ((i : Int) + 1))
    rw [hst2.out, hby2.out]
    refine ⟨rfl, ⟨_, ?_, hBW.out.away (hAf _) (Nat.le_refl _) (Nat.le_of_lt h2H.out.lt), hlt, hok.out⟩, hA2.trans (hAf _)⟩
    rw [hE]
    exact (h2H.out.drewN _).set 1 (.int .i64 ((i : Int) + 1))
  · have hst2 : Hid (stepD cs (i, h) = (i, H)) := by show _ = _; rw [hst.out, if_neg hlt]
    have hby2 : Hid (byteD cs (i, h) = M) := by show _ = _; rw [hby.out, List.getElem?_eq_none (by omega)]
    have hlen : decide ((i : Int) < (cs.length : Int)) = false := by simp; omega
    clear hst hby
    go_quiet (fail)
    rw [hMe.out]
    clear hMe hNe
    go_wp2_with fail
    go_quiet (fail)
    go_wp2_with fail
    go_ret
    have hAf : ∀ j k, Away g W ((W.drewN j).drewN k) := fun j k => ((Away.refl g W).drewN j).drewN k
    rw [hst2.out, hby2.out]
    exact ⟨rfl, ⟨_, (h2H.out.drewN _).drewN _, hBW.out.away (hAf _ _) (Nat.le_refl _) (Nat.le_of_lt h2H.out.lt), hi, hok.out⟩, hA2.trans (hAf _ _)⟩
end Go.Proofs.Ytlabmboedjnpmaa
