/- The draws of numbers, of any text, of a number's bytes, told exactly (walks). -/
import Derived.Test.YtdajhcammnlonaaDoorDrawSpoil
import Derived.Test.YtdajhcammnlonaaDoorVar
namespace Go.Proofs.YtdajhcammnlonaaDoor
open Go.RowKit
set_option linter.unusedVariables false
def drawVarX (cs : List UInt8) : Int := (numX cs (newS cs)).1
theorem x_drawVar (v : Value) (cs : List UInt8) (w : World) (hl : cs.length ≤ 1048576) (h : BytesIn w w.heap.size v cs) : Calls Tryd.prog 33 #[v] w fun e w' => e = .returned (.int .i64 (drawVarX cs)) ∧ Below w.heap.size w w' := by
  have hB := Lib.hid h
  obtain ⟨A, c, rfl, r⟩ := h
  clear r
  go_enter Tryd.func33, Tryd.ntmps33
  go_wp2_with fail
  refine (x_new _ cs _ hl hB.out).mono ?_
  rintro e w1 ⟨g, rfl, hg, hc1, hb1⟩
  have hc1 := Lib.hid hc1
  have hb1 := Lib.hid hb1
  go_wp2_with fail
  refine (x_num _ _ _ _ hc1.out).mono ?_
  rintro e w2 ⟨rfl, hc2, ha2⟩
  have hb2 := Lib.hid (ha2.below_then hb1.out hg hb1.out.size)
  clear hc2 ha2
  go_wp2_with fail
  go_ret
  exact ⟨rfl, hb2.out⟩
theorem x_drawHex (v : Value) (cs : List UInt8) (w : World) (hl : cs.length ≤ 1048576) (h : BytesIn w w.heap.size v cs) : Calls Tryd.prog 34 #[v] w fun e w' => ∃ t : ByteArray, t.size ≤ 40 ∧ e = .returned (.string t) ∧ Below w.heap.size w w' := by
  have hB := Lib.hid h
  obtain ⟨A, c, rfl, r⟩ := h
  clear r
  go_enter Tryd.func34, Tryd.ntmps34
  go_wp2_with fail
  refine (x_new _ cs _ hl hB.out).mono ?_
  rintro e w1 ⟨g, rfl, hg, hc1, hb1⟩
  have hc1 := Lib.hid hc1
  have hb1 := Lib.hid hb1
  go_wp2_with fail
  refine (x_text _ _ _ 40 _ (by omega) hc1.out).mono ?_
  rintro e w2 ⟨rfl, hc2, ha2⟩
  have hb2 := Lib.hid (ha2.below_then hb1.out hg hb1.out.size)
  clear hc2 ha2
  go_wp2_with fail
  go_ret
  exact ⟨_, by have := textX_len cs 40 (newS cs); show (textX cs 40 (newS cs)).1.toArray.size ≤ 40; simpa using this, rfl, hb2.out⟩
def readVarX (cs : List UInt8) : ByteArray :=
  let n := numX cs (newS cs)
  let u := textX cs 4 n.2
  let t := varB n.1 ++ ⟨u.1.toArray⟩
  if belowD cs 4 u.2 = 0 then (spoilX cs t (belowS cs 4 u.2)).1 else t
theorem varB_le (n : Int) : (varB n).size ≤ 7 := by
  unfold varB
  split
  · rename_i h
    have hr := inB_true.1 h
    show (vr n.toNat).toArray.size ≤ 7
    have := vr_length7 n.toNat (by omega)
    simpa using this
  · show (0 : Nat) ≤ 7
    omega
theorem readVarX_size (cs : List UInt8) : (readVarX cs).size ≤ 20 := by
  have h1 := varB_le (numX cs (newS cs)).1
  have h2 := textX_len cs 4 (numX cs (newS cs)).2
  have h3 : (varB (numX cs (newS cs)).1 ++ ⟨(textX cs 4 (numX cs (newS cs)).2).1.toArray⟩).size ≤ 11 := by
    rw [ByteArray.size_append]
    have : (⟨(textX cs 4 (numX cs (newS cs)).2).1.toArray⟩ : ByteArray).size = (textX cs 4 (numX cs (newS cs)).2).1.length := by
      show (textX cs 4 (numX cs (newS cs)).2).1.toArray.size = _
      simp
    omega
  unfold readVarX
  dsimp only
  split
  · have := spoilX_size cs (varB (numX cs (newS cs)).1 ++ ⟨(textX cs 4 (numX cs (newS cs)).2).1.toArray⟩) (belowS cs 4 (textX cs 4 (numX cs (newS cs)).2).2)
    omega
  · omega
set_option maxRecDepth 100000 in
set_option maxHeartbeats 1000000 in
theorem x_drawReadVar (v : Value) (cs : List UInt8) (w : World) (hl : cs.length ≤ 1048576) (h : BytesIn w w.heap.size v cs) : Calls Tryd.prog 42 #[v] w fun e w' => e = .returned (.string (readVarX cs)) ∧ Below w.heap.size w w' := by
  have hB := Lib.hid h
  obtain ⟨A, c, rfl, r⟩ := h
  clear r
  obtain ⟨n, hn⟩ : ∃ n, numX cs (newS cs) = n := ⟨_, rfl⟩
  have hV := varB_le n.1
  obtain ⟨u, hu⟩ : ∃ u, textX cs 4 n.2 = u := ⟨_, rfl⟩
  have hU := textX_len cs 4 n.2
  rw [hu] at hU
  obtain ⟨V, hVV⟩ : ∃ V, varB n.1 = V := ⟨_, rfl⟩
  obtain ⟨U, hUU⟩ : ∃ U : ByteArray, ⟨u.1.toArray⟩ = U := ⟨_, rfl⟩
  have hUs : U.size ≤ 4 := by
    rw [← hUU]
    show u.1.toArray.size ≤ 4
    simpa using hU
  rw [hVV] at hV
  have hts : (V ++ U).size ≤ 100000 := by rw [ByteArray.size_append]; omega
  have hR : Hid (readVarX cs = if belowD cs 4 u.2 = 0 then (spoilX cs (V ++ U) (belowS cs 4 u.2)).1 else V ++ U) := by
    show _ = _
    unfold readVarX
    rw [hn]
    dsimp only
    rw [hu, hVV, hUU]
  obtain ⟨y, hy⟩ : ∃ y, belowD cs 4 u.2 = y := ⟨_, rfl⟩
  rw [hy] at hR
  have hn := Lib.hid hn
  have hu := Lib.hid hu
  have hVH := Lib.hid hVV
  have hUH := Lib.hid hUU
  have hyH := Lib.hid hy
  have htsH := Lib.hid hts
  clear hVV hUU hy hts hU
  go_enter Tryd.func42, Tryd.ntmps42
  go_wp2_with fail
  refine (x_new _ cs _ hl hB.out).mono ?_
  rintro e w1 ⟨g, rfl, hg, hc1, hb1⟩
  have hc1 := Lib.hid hc1
  have hb1 := Lib.hid hb1
  go_wp2_with fail
  refine (x_num _ _ _ _ hc1.out).mono ?_
  rintro e w2 ⟨rfl, hc2, ha2⟩
  rw [hn.out] at hc2
  rw [hn.out]
  have hb2 := Lib.hid (ha2.below_then hb1.out hg hb1.out.size)
  have hc2 := Lib.hid hc2
  clear ha2
  go_wp2_with fail
  refine (s_var _ _).mono ?_
  rintro e w3 ⟨rfl, hb3⟩
  rw [hVH.out]
  have hc3 := Lib.hid (hc2.out.later hb3)
  have hb3 := Lib.hid (hb2.out.trans (hb3.mono hb2.out.size))
  go_wp2_with fail
  refine (x_text _ _ _ 4 _ (by omega) hc3.out).mono ?_
  rintro e w4 ⟨rfl, hc4, ha4⟩
  rw [hu.out] at hc4
  rw [hu.out, hUH.out]
  have hb4 := Lib.hid (ha4.below_then hb3.out hg hb3.out.size)
  have hc4 := Lib.hid hc4
  clear ha4
  go_wp2_with fail
  refine (d_once _ _ _ _ _ (by omega) hc4.out).mono ?_
  rintro e w5 ⟨rfl, hc5, ha5⟩
  rw [hyH.out]
  have hb5 := Lib.hid (ha5.below_then hb4.out hg hb4.out.size)
  have hc5 := Lib.hid hc5
  clear ha5
  by_cases y0 : y = 0
  · have hR2 := Lib.hid (hR.out.trans (if_pos y0))
    subst y0
    go_wp2_with fail
    refine (x_spoil _ _ _ _ _ htsH.out hc5.out).mono ?_
    rintro e w6 ⟨rfl, hc6, ha6⟩
    have hb6 := Lib.hid (ha6.below_then hb5.out hg hb5.out.size)
    clear hc6 ha6
    go_wp2_with fail
    go_ret
    exact ⟨by rw [hR2.out]; rfl, hb6.out⟩
  · have hR2 := Lib.hid (hR.out.trans (if_neg y0))
    have e0 : (y == 0) = false := by simpa using y0
    clear y0
    go_wp2_with fail
    go_ret
    exact ⟨by rw [hR2.out]; rfl, hb5.out⟩
end Go.Proofs.YtdajhcammnlonaaDoor
