/- Several texts in one (printed by a program): Draw, Draw2, Own, Draw3. -/
import Derived.Test.YtlabmboedjnpmaaGreatDoorMemR
import Derived.Test.YtlabmboedjnpmaaGreatDoorChecked
import Derived.Test.YtlabmboedjnpmaaGreatDoorChars
import Derived.Deep.QuietTactic
import Derived.BigQuiet
/-! Draw -/
namespace Go.Proofs.YtlabmboedjnpmaaGreatDoor
open Go.RowKit
set_option linter.unusedVariables false
/-- block g is a cursor over the bytes cs in this state -/
def Cur (w : World) (g : Nat) (cs : List UInt8) (s : Nat × Int) : Prop := ∃ v, Has w g 54 #[v, .int .i64 s.1, .int .i64 s.2] ∧ BytesIn w g v cs ∧ s.1 ≤ cs.length ∧ (-9223372036854775808 ≤ s.2 ∧ s.2 ≤ 9223372036854775807)
theorem Cur.away {w w' : World} {g k : Nat} {cs : List UInt8} {s : Nat × Int} (h : Cur w g cs s) (ha : Away k w w') (hk : g < k) (hs : g < w.heap.size) : Cur w' g cs s := by
  obtain ⟨v, h1, h2, h3⟩ := h
  exact ⟨v, ha.has h1 (by omega), h2.keep (ha.below (B := g) (by omega) (by omega)) (Nat.le_refl _), h3⟩
theorem Cur.later {w w' : World} {g : Nat} {cs : List UInt8} {s : Nat × Int} (h : Cur w g cs s) (hb : Below w.heap.size w w') : Cur w' g cs s := by
  obtain ⟨v, h1, h2, h3⟩ := h
  exact ⟨v, h1.below hb h1.lt, h2.keep hb (Nat.le_of_lt h1.lt), h3⟩
theorem Cur.keep {w w' : World} {g B : Nat} {cs : List UInt8} {s : Nat × Int} (h : Cur w g cs s) (hb : Below B w w') (hg : g < B) : Cur w' g cs s := by
  obtain ⟨v, h1, h2, h3⟩ := h
  exact ⟨v, h1.below hb hg, h2.keep hb (Nat.le_of_lt hg), h3⟩
theorem Cur.alloc {w : World} {g : Nat} {cs : List UInt8} {s : Nat × Int} (h : Cur w g cs s) (o : Obj) : Cur (w.alloc o) g cs s := h.later ((Below.refl _ _).alloc (Nat.le_refl _) o)
theorem Cur.drewN {w : World} {g : Nat} {cs : List UInt8} {s : Nat × Int} (h : Cur w g cs s) (n : Nat) : Cur (w.drewN n) g cs s := h.later (below_drewN (Below.refl _ _) n)
theorem Cur.drew {w : World} {g : Nat} {cs : List UInt8} {s : Nat × Int} (h : Cur w g cs s) : Cur w.drew g cs s := h.drewN 1
theorem Cur.lt {w : World} {g : Nat} {cs : List UInt8} {s : Nat × Int} (h : Cur w g cs s) : g < w.heap.size := by
  obtain ⟨v, h1, _⟩ := h
  exact h1.lt
/-- what a draw of a plain value leaves -/
def RetD (w : World) (g : Nat) (cs : List UInt8) (s : Nat × Int) (v : Value) (e : Ending) (w' : World) : Prop := e = .returned v ∧ Cur w' g cs s ∧ Away g w w'
set_option maxRecDepth 100000 in
set_option maxHeartbeats 1000000 in
theorem d_byte (g : Nat) (cs : List UInt8) (s : Nat × Int) (w : World) (hc : Cur w g cs s) : Calls Tryz.prog 58 #[.pointer (some ⟨g, 0, none⟩)] w (RetD w g cs (stepD cs s) (.int .i64 (byteD cs s))) := by
  obtain ⟨v, hH, hB, hi, hh⟩ := hc
  obtain ⟨A, c, rfl, hlc, hcm, hcell⟩ := hB
  obtain ⟨i, h⟩ := s
  have hcm0 := hcm
  unfold maxLen at hcm
  dsimp only at hH hi hh
  have c0 : w.cell? ⟨g, 0, none⟩ = _ := hH.get (i := 0) rfl
  have c1 : w.cell? ⟨g, 1, none⟩ = _ := hH.get (i := 1) rfl
  have c2 : w.cell? ⟨g, 2, none⟩ = _ := hH.get (i := 2) rfl
  have f1 : w.frozen? ⟨g, 1, none⟩ = _ := hH.free 1
  have f2 : w.frozen? ⟨g, 2, none⟩ = _ := hH.free 2
  have hHH := Lib.hid hH
  clear hH
  obtain ⟨H, hN⟩ : ∃ H, nextH h = H := ⟨_, rfl⟩
  obtain ⟨M, hM⟩ : ∃ M, mixH H = M := ⟨_, rfl⟩
  have hM0 : 0 ≤ M ∧ M < 256 := by rw [← hM]; exact and255 _
  have hok := Lib.hid (hN ▸ nextH_ok h)
  have hst : Hid (stepD cs (i, h) = (if i < cs.length then i + 1 else i, H)) := by show _ = _; rw [← hN]; rfl
  have hby : Hid (byteD cs (i, h) = match cs[i]? with | some b => bits .and .i64 (M + (b.toNat : Int)) 255 | none => M) := by show _ = _; rw [← hM, ← hN]; rfl
  have hNe : Hid (wrap64 (wrap64 (h * 6364136223846793005) + 1442695040888963407) = H) := hN
  have hMe : Hid (bits .and .i64 (bits .xor .i64 (H / 8589934592) (H / 35184372088832)) 255 = M) := hM
  clear hN hM
  go_enter Tryz.func58, Tryz.ntmps58
  go_wp2_with fail
  rw [hNe.out]
  have h2 := hHH.out.set 2 (.int .i64 H)
  have hA2 := (Away.refl g w).setCell 2 (.int .i64 H)
  have hcell2 : Hid (0 < cs.length → ∃ b off, A = some ⟨b, off, none⟩ ∧ b < g ∧ ∀ i x, cs[i]? = some x → (w.setCell ⟨g, 2, none⟩ (.int .i64 H)).cell? ⟨b, off + i, none⟩ = some (.int .u8 (x.toNat : Int))) := fun hp => by
    obtain ⟨b, off, e, hlt, hx⟩ := hcell hp
    exact ⟨b, off, e, hlt, fun i x hi => (hA2.cell (Nat.lt_trans hlt hHH.out.lt) (Nat.ne_of_lt hlt) _).trans (hx i x hi)⟩
  obtain ⟨W, hW⟩ : ∃ W, w.setCell ⟨g, 2, none⟩ (.int .i64 H) = W := ⟨_, rfl⟩
  rw [hW] at h2 hA2 hcell2 ⊢
  have h2 : Has W g 54 #[.slice A cs.length c, .int .i64 i, .int .i64 H] := h2
  have hBW : Hid (BytesIn W g (.slice A cs.length c) cs) := ⟨A, c, rfl, hlc, hcm0, hcell2.out⟩
  clear hW c0 c1 c2 f1 f2 hcell
  have c0 : W.cell? ⟨g, 0, none⟩ = _ := h2.get (i := 0) rfl
  have c1 : W.cell? ⟨g, 1, none⟩ = _ := h2.get (i := 1) rfl
  have c2 : W.cell? ⟨g, 2, none⟩ = _ := h2.get (i := 2) rfl
  have f1 : W.frozen? ⟨g, 1, none⟩ = _ := h2.free 1
  have h2H := Lib.hid h2
  clear h2
  by_cases hlt : i < cs.length
  · obtain ⟨x, hx⟩ : ∃ x, cs[i]? = some x := ⟨cs[i], List.getElem?_eq_getElem hlt⟩
    obtain ⟨b, off, rfl, hbg, hxs⟩ := hcell2.out (by omega)
    have e0 := hxs i x hx
    have hst2 : Hid (stepD cs (i, h) = (i + 1, H)) := by show _ = _; rw [hst.out, if_pos hlt]
    have hby2 : Hid (byteD cs (i, h) = bits .and .i64 (M + (x.toNat : Int)) 255) := by show _ = _; rw [hby.out, hx]
    have hxl : (x.toNat : Int) < 256 := by have := x.toNat_lt; omega
    have hx0 : 0 ≤ (x.toNat : Int) := by omega
    obtain ⟨cb, hcb⟩ : ∃ cb : Int, (x.toNat : Int) = cb := ⟨_, rfl⟩
    rw [hcb] at e0 hby2 hxl hx0
    clear hcb hx hxs hst hby
    have hlen : decide ((i : Int) < (cs.length : Int)) = true := by simp; omega
    have hw1 : IntKind.i64.wrap (M + cb) = M + cb := IntWalk.i64_in _ (by omega)
    go_quiet (fail)
    rw [hMe.out]
    clear hMe hNe
    go_wp2_with fail
    go_quiet (fail)
    go_wp2_with fail
    go_quiet (fail)
    go_wp2_with fail
    go_ret
    have hE : ((i + 1 : Nat) : Int) = (i : Int) + 1 := by omega
    have hAf : ∀ k, Away g W ((W.drewN k).setCell ⟨g, 1, none⟩ (.int .i64 ((i : Int) + 1))) := fun k => ((Away.refl g W).drewN k).setCell 1 (.int .i64 ((i : Int) + 1))
    rw [hst2.out, hby2.out]
    refine ⟨rfl, ⟨_, ?_, hBW.out.away (hAf _) (Nat.le_refl _) (Nat.le_of_lt h2H.out.lt), hlt, hok.out⟩, hA2.trans (hAf _)⟩
    rw [hE]
    exact (h2H.out.drewN _).set 1 (.int .i64 ((i : Int) + 1))
  · have hst2 : Hid (stepD cs (i, h) = (i, H)) := by show _ = _; rw [hst.out, if_neg hlt]
    have hby2 : Hid (byteD cs (i, h) = M) := by show _ = _; rw [hby.out, List.getElem?_eq_none (by omega)]
    have hlen : decide ((i : Int) < (cs.length : Int)) = false := by simp; omega
    clear hst hby
    go_quiet (fail)
    rw [hMe.out]
    clear hMe hNe
    go_wp2_with fail
    go_quiet (fail)
    go_wp2_with fail
    go_ret
    have hAf : ∀ j k, Away g W ((W.drewN j).drewN k) := fun j k => ((Away.refl g W).drewN j).drewN k
    rw [hst2.out, hby2.out]
    exact ⟨rfl, ⟨_, (h2H.out.drewN _).drewN _, hBW.out.away (hAf _ _) (Nat.le_refl _) (Nat.le_of_lt h2H.out.lt), hi, hok.out⟩, hA2.trans (hAf _ _)⟩
end Go.Proofs.YtlabmboedjnpmaaGreatDoor
/-! Draw2 -/
namespace Go.Proofs.YtlabmboedjnpmaaGreatDoor
open Go.RowKit
set_option linter.unusedVariables false
set_option maxRecDepth 100000 in
set_option maxHeartbeats 1000000 in
theorem d_below (g : Nat) (cs : List UInt8) (s : Nat × Int) (n : Int) (w : World) (hn : n ≤ 4294967296) (hc : Cur w g cs s) : Calls Tryz.prog 34 #[.pointer (some ⟨g, 0, none⟩), .int .i64 n] w (RetD w g cs (belowS cs n s) (.int .i64 (belowD cs n s))) := by
  have hcH := Lib.hid hc
  clear hc
  by_cases h1 : n ≤ 0
  · have hv := Lib.hid (show belowD cs n s = 0 by rw [belowD, if_pos h1])
    have hs := Lib.hid (show belowS cs n s = s by rw [belowS, if_pos h1])
    go_enter Tryz.func34, Tryz.ntmps34
    go_wp2_with fail
    go_ret
    exact ⟨ret_int hv.out.symm, by rw [hs.out]; exact hcH.out, Away.refl _ _⟩
  · have h0 : 0 < n := by omega
    by_cases h2 : n ≤ 256
    · have hv := Lib.hid (show belowD cs n s = byteD cs s % n by rw [belowD, if_neg h1, if_pos h2])
      have hs := Lib.hid (show belowS cs n s = stepD cs s by rw [belowS, if_neg h1, if_pos h2])
      have hb := byteD_lt cs s
      obtain ⟨x, hx⟩ : ∃ x, byteD cs s = x := ⟨_, rfl⟩
      rw [hx] at hb hv
      have hx := Lib.hid hx
      clear h1
      go_enter Tryz.func34, Tryz.ntmps34
      go_wp2_with (go_at_call 58; refine (d_byte _ _ _ _ hcH.out).mono ?_; rintro e w1 ⟨rfl, hc1, ha1⟩; rw [hx.out]; have hc1 := Lib.hid hc1; have ha1 := Lib.hid ha1)
      go_ret
      exact ⟨ret_int hv.out.symm, by rw [hs.out]; exact hc1.out, ha1.out⟩
    · have hv := Lib.hid (show belowD cs n s = (byteD cs s * 16777216 + byteD cs (stepD cs s) * 65536 + byteD cs (stepD cs (stepD cs s)) * 256 + byteD cs (stepD cs (stepD cs (stepD cs s)))) % n by rw [belowD, if_neg h1, if_neg h2])
      have hs := Lib.hid (show belowS cs n s = stepD cs (stepD cs (stepD cs (stepD cs s))) by rw [belowS, if_neg h1, if_neg h2])
      have hb := byteD_lt cs s
      have hb2 := byteD_lt cs (stepD cs s)
      have hb3 := byteD_lt cs (stepD cs (stepD cs s))
      have hb4 := byteD_lt cs (stepD cs (stepD cs (stepD cs s)))
      obtain ⟨x, hx⟩ : ∃ x, byteD cs s = x := ⟨_, rfl⟩
      obtain ⟨x2, hx2⟩ : ∃ x, byteD cs (stepD cs s) = x := ⟨_, rfl⟩
      obtain ⟨x3, hx3⟩ : ∃ x, byteD cs (stepD cs (stepD cs s)) = x := ⟨_, rfl⟩
      obtain ⟨x4, hx4⟩ : ∃ x, byteD cs (stepD cs (stepD cs (stepD cs s))) = x := ⟨_, rfl⟩
      rw [hx] at hb
      rw [hx2] at hb2
      rw [hx3] at hb3
      rw [hx4] at hb4
      rw [hx, hx2, hx3, hx4] at hv
      have hx := Lib.hid hx
      have hx2 := Lib.hid hx2
      have hx3 := Lib.hid hx3
      have hx4 := Lib.hid hx4
      clear h1
      go_enter Tryz.func34, Tryz.ntmps34
      go_wp2_with fail
      refine (d_byte _ _ _ _ hcH.out).mono ?_
      rintro e w1 ⟨rfl, hc1, ha1⟩
      rw [hx.out]
      have hc1 := Lib.hid hc1
      have ha1 := Lib.hid ha1
      go_wp2_with fail
      refine (d_byte _ _ _ _ hc1.out).mono ?_
      rintro e w2 ⟨rfl, hc2, ha2⟩
      rw [hx2.out]
      have hc2 := Lib.hid hc2
      have ha2 := Lib.hid ha2
      go_wp2_with fail
      refine (d_byte _ _ _ _ hc2.out).mono ?_
      rintro e w3 ⟨rfl, hc3, ha3⟩
      rw [hx3.out]
      have hc3 := Lib.hid hc3
      have ha3 := Lib.hid ha3
      go_wp2_with fail
      refine (d_byte _ _ _ _ hc3.out).mono ?_
      rintro e w4 ⟨rfl, hc4, ha4⟩
      rw [hx4.out]
      have hc4 := Lib.hid hc4
      have ha4 := Lib.hid ha4
      go_wp2_with fail
      go_ret
      exact ⟨ret_int hv.out.symm, by rw [hs.out]; exact hc4.out, ((ha1.out.trans ha2.out).trans ha3.out).trans ha4.out⟩
theorem d_once (g : Nat) (cs : List UInt8) (s : Nat × Int) (n : Int) (w : World) (hn : n ≤ 4294967296) (hc : Cur w g cs s) : Calls Tryz.prog 74 #[.pointer (some ⟨g, 0, none⟩), .int .i64 n] w (RetD w g cs (belowS cs n s) (.bool (belowD cs n s == 0))) := by
  have hcH := Lib.hid hc
  clear hc
  go_enter Tryz.func74, Tryz.ntmps74
  go_wp2_with (go_at_call 34; refine (d_below _ _ _ _ _ hn hcH.out).mono ?_; rintro e w1 ⟨rfl, hc1, ha1⟩; have hc1 := Lib.hid hc1; have ha1 := Lib.hid ha1)
  go_ret
  exact ⟨rfl, hc1.out, ha1.out⟩
set_option maxRecDepth 100000 in
theorem d_pick (g : Nat) (cs : List UInt8) (s : Nat × Int) (b n c : Nat) (l : List ByteArray) (w : World) (hl : l.length = n) (hn : 0 < n) (hnc : n ≤ 1000) (hb : b ≠ g) (hr : StrsAt w b l) (hc : Cur w g cs s) :
    Calls Tryz.prog 36 #[.pointer (some ⟨g, 0, none⟩), .slice (some ⟨b, 0, none⟩) n c] w fun e w' => ∃ x, l[(belowD cs n s).toNat]? = some x ∧ RetD w g cs (belowS cs n s) (.string x) e w' := by
  have hlt := belowD_lt cs (show (0 : Int) < (n : Int) by omega) s
  obtain ⟨k, hk⟩ : ∃ k, (belowD cs n s).toNat = k := ⟨_, rfl⟩
  have hk2 : belowD cs n s = (k : Int) := by omega
  have hkn : k < n := by omega
  obtain ⟨x, hx⟩ : ∃ x, l[k]? = some x := ⟨l[k]'(by omega), List.getElem?_eq_getElem _⟩
  have hxr := Lib.hid (fun (W : World) (ha : Away g w W) => (ha.cell hr.1 hb k).trans (hr.2 k x hx))
  have hk2 := Lib.hid hk2
  have hcH := Lib.hid hc
  have hxH := Lib.hid hx
  rw [hk]
  clear hlt hk hc hl hr hx
  go_enter Tryz.func36, Tryz.ntmps36
  go_wp2_with fail
  refine (d_below _ _ _ _ _ (by omega) hcH.out).mono ?_
  rintro e w1 ⟨rfl, hc1, ha1⟩
  rw [hk2.out]
  have e0 := hxr.out w1 ha1
  have hc1 := Lib.hid hc1
  have ha1 := Lib.hid ha1
  go_wp2_with fail
  go_ret
  exact ⟨x, hxH.out, rfl, hc1.out, ha1.out⟩
set_option maxRecDepth 100000 in
theorem d_pickInt (g : Nat) (cs : List UInt8) (s : Nat × Int) (b n c : Nat) (l : List Int) (w : World) (hl : l.length = n) (hn : 0 < n) (hnc : n ≤ 1000) (hb : b ≠ g) (hr : NumsAt w b l) (hc : Cur w g cs s) :
    Calls Tryz.prog 35 #[.pointer (some ⟨g, 0, none⟩), .slice (some ⟨b, 0, none⟩) n c] w fun e w' => ∃ x, l[(belowD cs n s).toNat]? = some x ∧ RetD w g cs (belowS cs n s) (.int .i64 x) e w' := by
  have hlt := belowD_lt cs (show (0 : Int) < (n : Int) by omega) s
  obtain ⟨k, hk⟩ : ∃ k, (belowD cs n s).toNat = k := ⟨_, rfl⟩
  have hk2 : belowD cs n s = (k : Int) := by omega
  have hkn : k < n := by omega
  obtain ⟨x, hx⟩ : ∃ x, l[k]? = some x := ⟨l[k]'(by omega), List.getElem?_eq_getElem _⟩
  have hxr := Lib.hid (fun (W : World) (ha : Away g w W) => (ha.cell hr.1 hb k).trans (hr.2 k x hx))
  have hk2 := Lib.hid hk2
  have hcH := Lib.hid hc
  have hxH := Lib.hid hx
  rw [hk]
  clear hlt hk hc hl hr hx
  go_enter Tryz.func35, Tryz.ntmps35
  go_wp2_with fail
  refine (d_below _ _ _ _ _ (by omega) hcH.out).mono ?_
  rintro e w1 ⟨rfl, hc1, ha1⟩
  rw [hk2.out]
  have e0 := hxr.out w1 ha1
  have hc1 := Lib.hid hc1
  have ha1 := Lib.hid ha1
  go_wp2_with fail
  go_ret
  exact ⟨x, hxH.out, rfl, hc1.out, ha1.out⟩
/-- a text out of a row: any of it -/
def RetStr (w : World) (g : Nat) (cs : List UInt8) (P : ByteArray → Prop) (e : Ending) (w' : World) : Prop := ∃ x s', P x ∧ RetD w g cs s' (.string x) e w'
def wordL : List ByteArray := [⟨#[120]⟩, ⟨#[121]⟩, ⟨#[110]⟩, ⟨#[105]⟩, ⟨#[97, 114, 114]⟩, ⟨#[78, 82]⟩, ⟨#[70, 83]⟩, ⟨#[116, 111, 116, 97, 108]⟩, ⟨#[97, 49]⟩, ⟨#[95, 116]⟩, ⟨#[99, 111, 117, 110, 116]⟩]
set_option maxRecDepth 100000 in
theorem d_word (g : Nat) (cs : List UInt8) (s : Nat × Int) (w : World) (hc : Cur w g cs s) : Calls Tryz.prog 79 #[.pointer (some ⟨g, 0, none⟩)] w fun e w' => ∃ x, wordL[(belowD cs 11 s).toNat]? = some x ∧ RetD w g cs (belowS cs 11 s) (.string x) e w' := by
  have hlt := hc.lt
  have hB : Below w.heap.size w (w.alloc (.cells (wordL.map fun x => Value.string x).toArray 9)) := (Below.refl _ _).alloc (Nat.le_refl _) _
  have hcH := Lib.hid (hc.later hB)
  have hS := Lib.hid (StrsAt.made w wordL 9)
  have hBH := Lib.hid hB
  clear hc hB
  go_enter Tryz.func79, Tryz.ntmps79
  go_wp2_with fail
  refine (d_pick g cs s _ _ _ wordL _ rfl (by decide) (by decide) (by omega) hS.out hcH.out).mono ?_
  rintro e w1 ⟨x, hx, rfl, hc1, ha1⟩
  have hx := Lib.hid hx
  have hc1 := Lib.hid hc1
  have ha1 := Lib.hid ha1
  go_wp2_with fail
  go_ret
  exact ⟨x, hx.out, rfl, hc1.out, (Away.of_below hBH.out).trans ha1.out⟩
/-- a new cursor -/
def RetNew (w : World) (cs : List UInt8) (e : Ending) (w' : World) : Prop := ∃ g s, e = .returned (.pointer (some ⟨g, 0, none⟩)) ∧ w.heap.size ≤ g ∧ Cur w' g cs s ∧ Below w.heap.size w w'
theorem andBig (x : Int) : 0 ≤ bits .and .i64 x 1073741823 ∧ bits .and .i64 x 1073741823 ≤ 1073741823 := by
  have e : bits .and .i64 x 1073741823 = IntKind.i64.wrap ((BitVec.ofInt 64 x &&& BitVec.ofInt 64 1073741823).toNat : Int) := rfl
  have e2 : (BitVec.ofInt 64 1073741823).toNat = 1073741823 := by decide
  have h : (BitVec.ofInt 64 x &&& BitVec.ofInt 64 1073741823).toNat ≤ 1073741823 := by
    rw [BitVec.toNat_and, e2]
    exact Nat.and_le_right
  rw [e, IntWalk.i64_in _ (by omega)]
  omega
set_option maxRecDepth 100000 in
set_option maxHeartbeats 1000000 in
theorem d_new (v : Value) (cs : List UInt8) (w : World) (hl : cs.length ≤ 1048576) (h : BytesIn w w.heap.size v cs) : Calls Tryz.prog 16 #[v] w (RetNew w cs) := by
  have hB := Lib.hid h
  obtain ⟨A, c, rfl, hlc, hcm, hcell⟩ := h
  unfold maxLen at hcm
  obtain ⟨n, hn⟩ : ∃ n, cs.length = n := ⟨_, rfl⟩
  rw [hn] at hl hlc hcell hB ⊢
  have hnH := Lib.hid hn
  clear hn
  go_enter Tryz.func16, Tryz.ntmps16
  go_wp2_with fail
  go_loop [3, 4] (fun x i => ∃ (z : Int) (j : Nat), j ≤ n ∧ (0 ≤ z ∧ z ≤ 1073741823) ∧ x = .int .i64 z ∧ i = .int .i64 j) (fun _ i => (n - (intOf i).toNat))
  case atStart => exact ⟨10101 + n, 0, by omega, by omega, rfl, by go_num⟩
  case round =>
    obtain ⟨z, j, hj, hz, rfl, rfl⟩ := hrel
    have hfin : ∀ W, W = w.alloc (.cells #[.slice A n c, .int .i64 0, .int .i64 z] 54) → RetNew w cs (.returned (.pointer (some ⟨w.heap.size, 0, none⟩))) W := by
      rintro W rfl
      have hb : Below w.heap.size w (w.alloc (.cells #[.slice A n c, .int .i64 0, .int .i64 z] 54)) := (Below.refl _ _).alloc (Nat.le_refl _) _
      exact ⟨_, (0, z), rfl, Nat.le_refl _, ⟨_, Has.made _ _ _, hB.out.keep hb (Nat.le_refl _), Nat.zero_le _, by dsimp only; omega⟩, hb⟩
    have hfin := Lib.hid hfin
    by_cases hlt : j < n
    · by_cases h4 : j < 4000
      · obtain ⟨x, hx⟩ : ∃ x, cs[j]? = some x := ⟨cs[j]'(by rw [hnH.out]; exact hlt), List.getElem?_eq_getElem _⟩
        obtain ⟨b, off, hA, hbl, hc⟩ := hcell (by omega)
        subst hA
        have e0 := hc j x hx
        have hxl : (x.toNat : Int) < 256 := by have := x.toNat_lt; omega
        have hx0 : 0 ≤ (x.toNat : Int) := by omega
        obtain ⟨cb, hcb⟩ : ∃ cb : Int, (x.toNat : Int) = cb := ⟨_, rfl⟩
        rw [hcb] at e0 hxl hx0
        have hab := andBig (z * 131 + cb + 7)
        clear hcb hx hc hcell
        go_wp2_with fail
        go_round
        case rel => exact ⟨_, j + 1, by omega, hab, rfl, by go_num⟩
        case measure => simp [intOf]; omega
      · clear hcell
        go_wp2_with fail
        go_ret
        exact hfin.out _ rfl
    · obtain rfl : j = n := by omega
      clear hcell
      go_wp2_with fail
      go_ret
      exact hfin.out _ rfl
end Go.Proofs.YtlabmboedjnpmaaGreatDoor
/-! Own -/
namespace Go.Proofs.YtlabmboedjnpmaaGreatDoor
open Go.RowKit
set_option linter.unusedVariables false

def OwnB (w : World) (base : Nat) (v : Value) (l : List UInt8) : Prop := w.ownsRow base 5 1 v l.length (l.map fun b => Value.int .u8 (b.toNat : Int))
theorem OwnB.drew {w : World} {base : Nat} {v : Value} {l : List UInt8} (h : OwnB w base v l) : OwnB w.drew base v l := h
theorem OwnB.alloc {w : World} {base : Nat} {v : Value} {l : List UInt8} (h : OwnB w base v l) (o : Obj) : OwnB (w.alloc o) base v l := World.ownsRow.alloc h o
theorem OwnB.start (w : World) {base : Nat} (hb : base ≤ w.heap.size) : OwnB (w.alloc (.cells #[] 5)) base (.slice (some ⟨w.heap.size, 0, none⟩) 0 0) [] :=
  World.ownsRow_lit w #[] 0 hb (Nat.zero_le _) rfl
theorem info_byte : (Tryz.prog.info? 5).map (fun i => (i.zero, i.size, i.bytes)) = some (some (.int .u8 0), 1, 1) := by kernel_rfl
theorem app_bytes {ops : Array Oper} {rest : List Oper} {o : Oper} {a : Act} {Q : Exit → Act → World → Prop} {w : World} (hgd : o.guard = none) (s x : Operand)
    (ho : o.op = .call { callee := .builtin .append, args := #[s, x], argTypes := #[22, 22] }) (base : Nat) (v : Value) (l : List UInt8) (hs : a.eval s = v) (hown : OwnB w base v l)
    (g m c : Nat) (new : List UInt8) (hx : a.eval x = .slice (some ⟨g, 0, none⟩) m c) (hm : new.length = m) (hnew : ∀ j b, new[j]? = some b → w.cell? ⟨g, j, none⟩ = some (.int .u8 (b.toNat : Int)))
    (hsz : l.length + m ≤ 1073741824) (hbase : base ≤ w.heap.size)
    (h : ∀ v' w', OwnB w' base v' (l ++ new) → Below base w w' → wpList Tryz.prog ops Q rest (a.put o.dst v') w') : wpList Tryz.prog ops Q (o :: rest) a w := by
  obtain ⟨i0, hi, hz0, hz1, hz2⟩ := info_parts info_byte
  refine wpList_append_own w hgd s x 22 ho base 5 i0 (.int .u8 0) 1 1 Tryz.underlying22 hi hz0 hz1 hz2 rfl (by decide) v l.length _ hs hown ⟨g, 0, none⟩ m c (new.map fun b => Value.int .u8 (b.toNat : Int)) hx (by simp [hm]) ?_ ?_ (by unfold maxLen; omega) (by omega) hbase ?_
  · intro j u hu
    rw [List.getElem?_map] at hu
    cases hb : new[j]? with
    | none => rw [hb] at hu; cases hu
    | some b =>
      rw [hb] at hu
      obtain rfl := Option.some.inj hu
      have e : (⟨g, 0, none⟩ : Addr).add j = ⟨g, j, none⟩ := by unfold Addr.add; split <;> simp_all
      rw [e]
      exact hnew j b hb
  · intro u hu
    obtain ⟨b, _, rfl⟩ := List.mem_map.1 hu
    rfl
  · intro v' w' h2 h3 _
    refine h v' w' ?_ ?_
    · unfold OwnB
      rw [List.length_append, List.map_append, hm]
      exact h2
    · exact (Below.refl base w).grown h3 hbase (fun k hk => (hown.lt k hk).1)
theorem step_app_bytes {ops : Array Oper} {o : Oper} {a : Act} {K : Act → World → Prop} {Q : Exit → Act → World → Prop} {E : Prop} {w : World} (hgd : o.guard = none) (s x : Operand)
    (ho : o.op = .call { callee := .builtin .append, args := #[s, x], argTypes := #[22, 22] }) (base : Nat) (v : Value) (l : List UInt8) (hs : a.eval s = v) (hown : OwnB w base v l)
    (g m c : Nat) (new : List UInt8) (hx : a.eval x = .slice (some ⟨g, 0, none⟩) m c) (hm : new.length = m) (hnew : ∀ j b, new[j]? = some b → w.cell? ⟨g, j, none⟩ = some (.int .u8 (b.toNat : Int)))
    (hsz : l.length + m ≤ 1073741824) (hbase : base ≤ w.heap.size)
    (h : ∀ v' w', OwnB w' base v' (l ++ new) → Below base w w' → K (a.put o.dst v') w') : if Region.wanted o (yielded ops a.tmps) = true then Oper.wp Tryz.prog o a w K Q else E := by
  obtain ⟨i0, hi, hz0, hz1, hz2⟩ := info_parts info_byte
  have hw : Region.wanted o (yielded ops a.tmps) = true := by simp [Region.wanted, hgd]
  rw [if_pos hw]
  refine wp_append_own w s x 22 ho base 5 i0 (.int .u8 0) 1 1 Tryz.underlying22 hi hz0 hz1 hz2 rfl (by decide) v l.length _ hs hown ⟨g, 0, none⟩ m c (new.map fun b => Value.int .u8 (b.toNat : Int)) hx (by simp [hm]) ?_ ?_ (by unfold maxLen; omega) (by omega) hbase ?_
  · intro j u hu
    rw [List.getElem?_map] at hu
    cases hb : new[j]? with
    | none => rw [hb] at hu; cases hu
    | some b =>
      rw [hb] at hu
      obtain rfl := Option.some.inj hu
      have e : (⟨g, 0, none⟩ : Addr).add j = ⟨g, j, none⟩ := by unfold Addr.add; split <;> simp_all
      rw [e]
      exact hnew j b hb
  · intro u hu
    obtain ⟨b, _, rfl⟩ := List.mem_map.1 hu
    rfl
  · intro v' w' h2 h3 _
    refine h v' w' ?_ ?_
    · unfold OwnB
      rw [List.length_append, List.map_append, hm]
      exact h2
    · exact (Below.refl base w).grown h3 hbase (fun k hk => (hown.lt k hk).1)
theorem two_new (w : World) (x y : UInt8) (e : TypeId) : ∀ j b, [x, y][j]? = some b → (w.alloc (.cells #[.int .u8 (x.toNat : Int), .int .u8 (y.toNat : Int)] e)).cell? ⟨w.heap.size, j, none⟩ = some (.int .u8 (b.toNat : Int)) := by
  intro j b h
  rw [World.cell?_alloc_new]
  match j, h with
  | 0, h => simp at h; subst h; rfl
  | 1, h => simp at h; subst h; rfl
theorem one_new (w : World) (x : UInt8) (e : TypeId) : ∀ j b, [x][j]? = some b → (w.alloc (.cells #[.int .u8 (x.toNat : Int)] e)).cell? ⟨w.heap.size, j, none⟩ = some (.int .u8 (b.toNat : Int)) := by
  intro j b h
  rw [World.cell?_alloc_new]
  match j, h with
  | 0, h => simp at h; subst h; rfl
theorem one_newz (w : World) (x : UInt8) (z : Int) (hz : z = (x.toNat : Int)) (e : TypeId) : ∀ j b, [x][j]? = some b → (w.alloc (.cells #[.int .u8 z] e)).cell? ⟨w.heap.size, j, none⟩ = some (.int .u8 (b.toNat : Int)) := by
  subst hz
  exact one_new w x e
theorem conv_own {w : World} {base : Nat} {v : Value} {l : List UInt8} (h : OwnB w base v l) : (convert 22 9 v).run Tryz.prog w = .ok (.string ⟨l.toArray⟩) w := by
  obtain ⟨_, h2⟩ := h
  rcases h2 with ⟨rfl, h0⟩ | ⟨g, cap, cur, rfl, hb, hh, _, _, hsz, htk⟩
  · have e : l = [] := List.eq_nil_of_length_eq_zero h0
    subst e
    exact run_convert_bytes_nil w 22 5 Tryz.underlying22 Tryz.underlying5 0 0 9 Tryz.underlying9
  · refine run_convert_bytes_back w 22 9 5 ⟨g, 0, none⟩ cap l Tryz.underlying22 Tryz.underlying5 Tryz.underlying9 fun j hj => ?_
    have e : (⟨g, 0, none⟩ : Addr).add j = ⟨g, j, none⟩ := by unfold Addr.add; split <;> simp_all
    rw [e, cell_of_row w g j cur _ _ hh]
    have h3 : (cur.toList.take (l.length * 1))[j]? = (l.map fun b => Value.int .u8 (b.toNat : Int))[j]? := by rw [htk]
    rw [List.getElem?_take_of_lt (by omega), Array.getElem?_toList, List.getElem?_map, List.getElem?_eq_getElem hj] at h3
    exact h3
end Go.Proofs.YtlabmboedjnpmaaGreatDoor
/-! Draw3 -/
namespace Go.Proofs.YtlabmboedjnpmaaGreatDoor
open Go.RowKit
set_option linter.unusedVariables false
theorem OwnB.away {w w' : World} {base g : Nat} {v : Value} {l : List UInt8} (h : OwnB w base v l) (ha : Away g w w') (hg : g < base) : OwnB w' base v l := by
  obtain ⟨h1, h2⟩ := h
  refine ⟨h1, ?_⟩
  rcases h2 with h2 | ⟨k, cap, cur, hv, hb, hh, r⟩
  · exact Or.inl h2
  · have hk : k < w.heap.size := (show Has w k _ cur from hh).lt
    exact Or.inr ⟨k, cap, cur, hv, hb, (ha.block k hk (by omega)).trans hh, r⟩
theorem u8_int (z : Int) (h0 : 0 ≤ z) (h : z < 256) : z = ((UInt8.ofNat z.toNat).toNat : Int) := by
  rw [UInt8.toNat_ofNat']
  omega
def numS : List ByteArray := [⟨#[48]⟩, ⟨#[49]⟩, ⟨#[52, 50]⟩, ⟨#[51, 46, 53]⟩, ⟨#[46, 53]⟩, ⟨#[55, 46]⟩, ⟨#[49, 101, 51]⟩, ⟨#[50, 69, 45, 52]⟩, ⟨#[49, 48, 46, 50, 53, 101, 43, 49]⟩]
theorem numS_size : ∀ x ∈ numS, 1 ≤ x.size ∧ x.size ≤ 8 := by decide
set_option maxRecDepth 100000 in
theorem d_num (g : Nat) (cs : List UInt8) (s : Nat × Int) (w : World) (hc : Cur w g cs s) : Calls Tryz.prog 112 #[.pointer (some ⟨g, 0, none⟩)] w fun e w' => ∃ x, numS[(belowD cs 9 s).toNat]? = some x ∧ RetD w g cs (belowS cs 9 s) (.string x) e w' := by
  have hlt := hc.lt
  have hB : Below w.heap.size w (w.alloc (.cells (numS.map fun x => Value.string x).toArray 9)) := (Below.refl _ _).alloc (Nat.le_refl _) _
  have hcH := Lib.hid (hc.later hB)
  have hS := Lib.hid (StrsAt.made w numS 9)
  have hBH := Lib.hid hB
  clear hc hB
  go_enter Tryz.func112, Tryz.ntmps112
  go_wp2_with fail
  refine (d_pick g cs s _ _ _ numS _ rfl (by decide) (by decide) (by omega) hS.out hcH.out).mono ?_
  rintro e w1 ⟨x, hx, rfl, hc1, ha1⟩
  have hx := Lib.hid hx
  have hc1 := Lib.hid hc1
  have ha1 := Lib.hid ha1
  go_wp2_with fail
  go_ret
  exact ⟨x, hx.out, rfl, hc1.out, (Away.of_below hBH.out).trans ha1.out⟩
def strS : List ByteArray := [⟨#[34, 34]⟩, ⟨#[34, 97, 34]⟩, ⟨#[34, 120, 32, 121, 34]⟩, ⟨#[34, 113, 92, 34, 113, 34]⟩, ⟨#[34, 92, 110, 34]⟩, ⟨#[34, 35, 110, 111, 34]⟩, ⟨#[34, 47, 34]⟩]
theorem strS_size : ∀ x ∈ strS, 1 ≤ x.size ∧ x.size ≤ 8 := by decide
set_option maxRecDepth 100000 in
theorem d_str (g : Nat) (cs : List UInt8) (s : Nat × Int) (w : World) (hc : Cur w g cs s) : Calls Tryz.prog 113 #[.pointer (some ⟨g, 0, none⟩)] w fun e w' => ∃ x, strS[(belowD cs 7 s).toNat]? = some x ∧ RetD w g cs (belowS cs 7 s) (.string x) e w' := by
  have hlt := hc.lt
  have hB : Below w.heap.size w (w.alloc (.cells (strS.map fun x => Value.string x).toArray 9)) := (Below.refl _ _).alloc (Nat.le_refl _) _
  have hcH := Lib.hid (hc.later hB)
  have hS := Lib.hid (StrsAt.made w strS 9)
  have hBH := Lib.hid hB
  clear hc hB
  go_enter Tryz.func113, Tryz.ntmps113
  go_wp2_with fail
  refine (d_pick g cs s _ _ _ strS _ rfl (by decide) (by decide) (by omega) hS.out hcH.out).mono ?_
  rintro e w1 ⟨x, hx, rfl, hc1, ha1⟩
  have hx := Lib.hid hx
  have hc1 := Lib.hid hc1
  have ha1 := Lib.hid ha1
  go_wp2_with fail
  go_ret
  exact ⟨x, hx.out, rfl, hc1.out, (Away.of_below hBH.out).trans ha1.out⟩
def ereS : List ByteArray := [⟨#[47, 97, 47]⟩, ⟨#[47, 94, 120, 43, 36, 47]⟩, ⟨#[47, 97, 92, 47, 98, 47]⟩, ⟨#[47, 61, 47]⟩, ⟨#[47, 32, 47]⟩, ⟨#[47, 91, 48, 45, 57, 93, 47]⟩]
theorem ereS_size : ∀ x ∈ ereS, 1 ≤ x.size ∧ x.size ≤ 8 := by decide
set_option maxRecDepth 100000 in
theorem d_ere (g : Nat) (cs : List UInt8) (s : Nat × Int) (w : World) (hc : Cur w g cs s) : Calls Tryz.prog 114 #[.pointer (some ⟨g, 0, none⟩)] w fun e w' => ∃ x, ereS[(belowD cs 6 s).toNat]? = some x ∧ RetD w g cs (belowS cs 6 s) (.string x) e w' := by
  have hlt := hc.lt
  have hB : Below w.heap.size w (w.alloc (.cells (ereS.map fun x => Value.string x).toArray 9)) := (Below.refl _ _).alloc (Nat.le_refl _) _
  have hcH := Lib.hid (hc.later hB)
  have hS := Lib.hid (StrsAt.made w ereS 9)
  have hBH := Lib.hid hB
  clear hc hB
  go_enter Tryz.func114, Tryz.ntmps114
  go_wp2_with fail
  refine (d_pick g cs s _ _ _ ereS _ rfl (by decide) (by decide) (by omega) hS.out hcH.out).mono ?_
  rintro e w1 ⟨x, hx, rfl, hc1, ha1⟩
  have hx := Lib.hid hx
  have hc1 := Lib.hid hc1
  have ha1 := Lib.hid ha1
  go_wp2_with fail
  go_ret
  exact ⟨x, hx.out, rfl, hc1.out, (Away.of_below hBH.out).trans ha1.out⟩
end Go.Proofs.YtlabmboedjnpmaaGreatDoor
