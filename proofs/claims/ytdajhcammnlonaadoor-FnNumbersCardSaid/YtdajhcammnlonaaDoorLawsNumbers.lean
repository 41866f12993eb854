/- The law on numbers: each decoder returns the encoded value whatever bytes follow (walk). -/
import Derived.Test.YtdajhcammnlonaaDoorDrawReadVar
import Derived.Test.YtdajhcammnlonaaDoorDrawWords
import Derived.Test.YtdajhcammnlonaaDoorReadVar
import Derived.Test.YtdajhcammnlonaaDoorUnhex
import Derived.Test.YtdajhcammnlonaaDoorNumbersPure
import Derived.Test.YtdajhcammnlonaaDoorReadDecI
namespace Go.Proofs.YtdajhcammnlonaaDoor
open Go.RowKit
set_option linter.unusedVariables false
theorem dd_inj {u v : Nat} (h : Lib.decDigits u = Lib.decDigits v) : u = v := by
  have h1 := digScan_dd u
  rw [h, digScan_dd v] at h1
  exact (Prod.mk.inj h1).1.symm
theorem itoa_inj {m n : Int} (h : Lib.itoa m = Lib.itoa n) : m = n := by
  unfold Lib.itoa at h
  by_cases hm : m < 0
  · rw [if_pos hm] at h
    by_cases hn : n < 0
    · rw [if_pos hn] at h
      have := dd_inj (List.cons.inj h).2
      omega
    · rw [if_neg hn] at h
      obtain ⟨c, r, e, h1, h2⟩ := first_dig n.toNat
      rw [e] at h
      have := (List.cons.inj h).1
      subst this
      simp at h1
  · rw [if_neg hm] at h
    by_cases hn : n < 0
    · rw [if_pos hn] at h
      obtain ⟨c, r, e, h1, h2⟩ := first_dig m.toNat
      rw [e] at h
      have := (List.cons.inj h).1
      subst this
      simp at h1
    · rw [if_neg hn] at h
      have := dd_inj h
      omega
theorem readDec_big {n : Int} (h : ¬ smallI n) : readDec (Lib.itoa n) = (0, false) := readDec_no (fun m hm e => h (itoa_inj e ▸ hm))
theorem dec_list (n : Int) : (decB n).data.toList = Lib.itoa n := by simp [decB]
theorem cut0 (s : ByteArray) (j : Nat) : (s.extract 0 j).data.toList = s.data.toList.take j := by
  rw [ByteArray.data_extract, Array.toList_extract]
  simp [List.extract]
theorem readVar_cut {R : ByteArray} : (readVar R = (0, 0)) ∨ ∃ j : Nat, 1 ≤ j ∧ j ≤ R.size ∧ (readVar R).2 = (j : Int) ∧ ((varB (readVar R).1).toList == (R.extract 0 j).toList) = true := by
  rcases readVar_sound R with h | ⟨j, h1, h2, h3, h4⟩
  · exact Or.inl h
  · refine Or.inr ⟨j, h1, h2, h3, ?_⟩
    rw [h4, beq_iff_eq, ByteArray.toList_eq, ByteArray.toList_eq, show (R.extract 0 j).data.toList = _ from cut0 R j]
    simp [bytes]
theorem var_ne {V : ByteArray} (h : 1 ≤ V.size) : ¬ V.toList = [] := by
  rw [ByteArray.toList_eq]
  intro e
  have : V.size = V.data.toList.length := by simp
  rw [e] at this
  have h2 : V.size = 0 := this
  omega
set_option maxRecDepth 100000 in
set_option maxHeartbeats 8000000 in
theorem l_FnNumbers (v0 : Value) (a0 : List UInt8) (w : World) (t2 : Lib.TabIs Tryd.prog w "internal/strconv.uint64pow10" .u64 Lib.pow10Tab) (hv : ErrVars w) (h0 : BytesIn w w.heap.size v0 a0) :
    Calls Tryd.prog 6 #[v0] w fun e w' => e = .returned (.bool true) ∧ Below w.heap.size w w' := by
  have hvH := Lib.hid hv
  have htH := Lib.hid t2
  clear hv t2
  have htl : ∀ {W : World}, Below w.heap.size w W → Lib.TabIs Tryd.prog W "internal/strconv.uint64pow10" .u64 Lib.pow10Tab := fun hb => TabIs.later htH.out (by kernel_rfl : Tryd.prog.globalNamed "internal/strconv.uint64pow10" = some 6) hb
  have hB := Lib.hid h0
  obtain ⟨A, c, rfl, r⟩ := h0
  clear r
  by_cases hbig : 1048576 < a0.length
  · have hd := Lib.hid (show decide (1048576 < a0.length) = true by simpa using hbig)
    clear hbig
    go_enter Tryd.func6, Tryd.ntmps6
    go_wp2_with fail
    refine (l_big _ a0 _ hB.out).mono ?_
    rintro e w' ⟨rfl, rfl⟩
    rw [hd.out]
    go_wp2_with fail
    go_ret
    exact ⟨rfl, Below.refl _ _⟩
  · have hd := Lib.hid (show decide (1048576 < a0.length) = false by simpa using hbig)
    have hl := Lib.hid (show a0.length ≤ 1048576 by omega)
    clear hbig
    obtain ⟨R, hR⟩ : ∃ R, readVarX a0 = R := ⟨_, rfl⟩
    have hRs := readVarX_size a0
    rw [hR] at hRs
    have hRH := Lib.hid hR
    obtain ⟨N, hN⟩ : ∃ N, drawVarX a0 = N := ⟨_, rfl⟩
    have hNo : Hid (-9223372036854775808 ≤ N ∧ N ≤ 9223372036854775807) := by
      show _ ∧ _
      rw [← hN]
      exact numX_ok a0 (newS a0)
    have hNH := Lib.hid hN
    have hdl : Hid ((decB N).size ≤ 16777216) := by
      show (Lib.itoa N).toArray.size ≤ _
      have h1 := dd_len N.natAbs 19 (by have := hNo.out; omega)
      have h2 := dd_len N.toNat 19 (by have := hNo.out; omega)
      have h3 : (Lib.itoa N).length ≤ 21 := by
        unfold Lib.itoa
        split
        · simp; omega
        · omega
      simp
      omega
    clear hR hN
    go_enter Tryd.func6, Tryd.ntmps6
    go_wp2_with fail
    refine (l_big _ a0 _ hB.out).mono ?_
    rintro e w' ⟨rfl, rfl⟩
    rw [hd.out]
    go_wp2_with fail
    refine (x_drawVar _ a0 _ hl.out hB.out).mono ?_
    rintro e w1 ⟨rfl, hb1⟩
    rw [hNH.out]
    have hb1 := Lib.hid hb1
    go_wp2_with fail
    refine (x_drawHex _ a0 _ hl.out ((hB.out.keep hb1.out (Nat.le_refl _)).more hb1.out.size)).mono ?_
    rintro e w2 ⟨T, hT, rfl, hb2⟩
    have hb2 := Lib.hid (hb1.out.trans (hb2.mono hb1.out.size))
    have hhx : Hid ((⟨(hexL T.data.toList).toArray⟩ : ByteArray).size ≤ 16777216) := by
      show (hexL T.data.toList).toArray.size ≤ _
      have h1 := hex_take_len T T.size (Nat.le_refl _)
      have h2 : T.data.toList.take T.size = T.data.toList := List.take_of_length_le (by simp)
      rw [h2] at h1
      simp [h1]
      omega
    rcases (by omega : (N ≤ -1000000000) ∨ (-1000000000 < N ∧ N < 0) ∨ (0 ≤ N ∧ N < 1000000000) ∨ (1000000000 ≤ N ∧ N ≤ 562949953421311) ∨ (562949953421311 < N ∧ N < 72057594037927936) ∨ (72057594037927936 ≤ N) ) with hcl | hcl | hcl | hcl | hcl | hcl
    · have d0 : decide (0 ≤ N) = false := by simp; omega
      have d1 : decide (N ≤ 562949953421311) = true := by simp; omega
      have d2 : decide (N < 0) = true := by simp; omega
      have d3 : decide (72057594037927936 ≤ N) = false := by simp; omega
      have d4 : decide (-1000000000 < N) = false := by simp; omega
      have d5 : decide (N < 1000000000) = true := by simp; omega
      have hin : inB N 0 562949953421311 = false := inB_false.2 (by omega)
      have hV : varB N = ⟨#[]⟩ := varB_out N hin
      have hVH := Lib.hid hV
      clear hV hin
      have hfo : fixedOk N 7 = false := by rw [fixedOk7]; simp; omega
      have hF : fixedB N 7 = ⟨#[]⟩ := fixedB_out N hfo
      have hFH := Lib.hid hF
      clear hF hfo
      have hrd := Lib.hid (show readDec (decB N).data.toList = (0, false) by rw [dec_list]; exact readDec_big (by unfold smallI; omega))
      have hNb : -9223372036854775808 ≤ N ∧ N ≤ 9223372036854775807 := hNo.out
      clear hcl
      go_wp2_with fail
      refine (i_var N _).mono ?_
      rintro e w3 ⟨rfl, hb3⟩
      rw [hVH.out]
      have hb3 := Lib.hid (hb2.out.trans (hb3.mono hb2.out.size))
      go_wp2_with fail
      refine (i_readVar _ _ (by have he : (⟨#[]⟩ : ByteArray).size = 0 := rfl; first | omega | (rw [ByteArray.size_append]; omega))).mono ?_
      rintro e w' ⟨rfl, rfl⟩
      generalize (readVar _).1 = x1
      generalize (readVar _).2 = x2
      go_wp2_with fail
      refine (i_fixed N 7 _ (by omega)).mono ?_
      rintro e w4 ⟨rfl, hb4⟩
      rw [hFH.out]
      have hb4 := Lib.hid (hb3.out.trans (hb4.mono hb3.out.size))
      go_wp2_with fail
      refine (i_readFixed _ 7 _ (by have he : (⟨#[]⟩ : ByteArray).size = 0 := rfl; first | omega | (rw [ByteArray.size_append]; omega))).mono ?_
      rintro e w' ⟨rfl, rfl⟩
      generalize (readFixed _ 7) = x3
      generalize (readFixedOk _ 7) = x4
      go_wp2_with fail
      refine (i_dec N _ hNb.1 hNb.2 (htl hb4.out)).mono ?_
      rintro e w5 ⟨rfl, hb5⟩
      have hb5 := Lib.hid (hb4.out.trans (hb5.mono hb4.out.size))
      go_wp2_with fail
      refine (i_readDec (decB N) _ hdl.out (hvH.out.later hb5.out) (htl hb5.out)).mono ?_
      rintro e w6 ⟨rfl, hb6⟩
      rw [hrd.out]
      have hb6 := Lib.hid (hb5.out.trans (hb6.mono hb5.out.size))
      go_wp2_with fail
      refine (i_hex T _ (by omega)).mono ?_
      rintro e w7 ⟨rfl, hb7⟩
      have hb7 := Lib.hid (hb6.out.trans (hb7.mono hb6.out.size))
      go_wp2_with fail
      refine (i_unhex _ _ hhx.out).mono ?_
      rintro e w8 ⟨rfl, hb8⟩
      rw [unhexB_hex]
      have hb8 := Lib.hid (hb7.out.trans (hb8.mono hb7.out.size))
      go_wp2_with fail
      refine (x_drawReadVar _ a0 _ hl.out ((hB.out.keep hb8.out (Nat.le_refl _)).more hb8.out.size)).mono ?_
      rintro e w9 ⟨rfl, hb9⟩
      rw [hRH.out]
      have hb9 := Lib.hid (hb8.out.trans (hb9.mono hb8.out.size))
      go_wp2_with fail
      refine (i_readVar R _ (by omega)).mono ?_
      rintro e w' ⟨rfl, rfl⟩
      rcases readVar_cut (R := R) with hz | ⟨j, hj1, hj2, hj3, hj4⟩
      · rw [hz]
        clear hz
        go_wp2_with fail
        go_ret
        exact ⟨rfl, hb9.out⟩
      · rw [hj3]
        obtain ⟨z, hz⟩ : ∃ z, (readVar R).1 = z := ⟨_, rfl⟩
        rw [hz] at hj4 ⊢
        clear hz hj3
        obtain ⟨Z, hZ⟩ : ∃ Z, varB z = Z := ⟨_, rfl⟩
        rw [hZ] at hj4
        have hZ := Lib.hid hZ
        have hj5 : decide ((j : Int) ≤ (R.size : Int)) = true := by simp; omega
        have hj6 : ((j : Int) == 0) = false := by simp; omega
        have hj7 : 0 < (j : Int) := by omega
        go_wp2_with fail
        refine (x_drawReadVar _ a0 _ hl.out ((hB.out.keep hb9.out (Nat.le_refl _)).more hb9.out.size)).mono ?_
        rintro e w10 ⟨rfl, hb10⟩
        rw [hRH.out]
        have hb10 := Lib.hid (hb9.out.trans (hb10.mono hb9.out.size))
        go_wp2_with fail
        refine (x_drawReadVar _ a0 _ hl.out ((hB.out.keep hb10.out (Nat.le_refl _)).more hb10.out.size)).mono ?_
        rintro e w11 ⟨rfl, hb11⟩
        rw [hRH.out]
        have hb11 := Lib.hid (hb10.out.trans (hb11.mono hb10.out.size))
        go_wp2_with fail
        refine (i_var z _).mono ?_
        rintro e w12 ⟨rfl, hb12⟩
        rw [hZ.out]
        have hb12 := Lib.hid (hb11.out.trans (hb12.mono hb11.out.size))
        go_wp2_with fail
        refine (x_drawReadVar _ a0 _ hl.out ((hB.out.keep hb12.out (Nat.le_refl _)).more hb12.out.size)).mono ?_
        rintro e w13 ⟨rfl, hb13⟩
        rw [hRH.out]
        have hb13 := Lib.hid (hb12.out.trans (hb13.mono hb12.out.size))
        go_wp2_with fail
        go_ret
        exact ⟨rfl, hb13.out⟩
    · have d0 : decide (0 ≤ N) = false := by simp; omega
      have d1 : decide (N ≤ 562949953421311) = true := by simp; omega
      have d2 : decide (N < 0) = true := by simp; omega
      have d3 : decide (72057594037927936 ≤ N) = false := by simp; omega
      have d4 : decide (-1000000000 < N) = true := by simp; omega
      have d5 : decide (N < 1000000000) = true := by simp; omega
      have hin : inB N 0 562949953421311 = false := inB_false.2 (by omega)
      have hV : varB N = ⟨#[]⟩ := varB_out N hin
      have hVH := Lib.hid hV
      clear hV hin
      have hfo : fixedOk N 7 = false := by rw [fixedOk7]; simp; omega
      have hF : fixedB N 7 = ⟨#[]⟩ := fixedB_out N hfo
      have hFH := Lib.hid hF
      clear hF hfo
      have hrd := Lib.hid (show readDec (decB N).data.toList = (N, true) by rw [dec_list]; exact readDec_yes ⟨by omega, by omega⟩)
      have hNb : -9223372036854775808 ≤ N ∧ N ≤ 9223372036854775807 := hNo.out
      clear hcl
      go_wp2_with fail
      refine (i_var N _).mono ?_
      rintro e w3 ⟨rfl, hb3⟩
      rw [hVH.out]
      have hb3 := Lib.hid (hb2.out.trans (hb3.mono hb2.out.size))
      go_wp2_with fail
      refine (i_readVar _ _ (by have he : (⟨#[]⟩ : ByteArray).size = 0 := rfl; first | omega | (rw [ByteArray.size_append]; omega))).mono ?_
      rintro e w' ⟨rfl, rfl⟩
      generalize (readVar _).1 = x1
      generalize (readVar _).2 = x2
      go_wp2_with fail
      refine (i_fixed N 7 _ (by omega)).mono ?_
      rintro e w4 ⟨rfl, hb4⟩
      rw [hFH.out]
      have hb4 := Lib.hid (hb3.out.trans (hb4.mono hb3.out.size))
      go_wp2_with fail
      refine (i_readFixed _ 7 _ (by have he : (⟨#[]⟩ : ByteArray).size = 0 := rfl; first | omega | (rw [ByteArray.size_append]; omega))).mono ?_
      rintro e w' ⟨rfl, rfl⟩
      generalize (readFixed _ 7) = x3
      generalize (readFixedOk _ 7) = x4
      go_wp2_with fail
      refine (i_dec N _ hNb.1 hNb.2 (htl hb4.out)).mono ?_
      rintro e w5 ⟨rfl, hb5⟩
      have hb5 := Lib.hid (hb4.out.trans (hb5.mono hb4.out.size))
      go_wp2_with fail
      refine (i_readDec (decB N) _ hdl.out (hvH.out.later hb5.out) (htl hb5.out)).mono ?_
      rintro e w6 ⟨rfl, hb6⟩
      rw [hrd.out]
      have hb6 := Lib.hid (hb5.out.trans (hb6.mono hb5.out.size))
      go_wp2_with fail
      refine (i_hex T _ (by omega)).mono ?_
      rintro e w7 ⟨rfl, hb7⟩
      have hb7 := Lib.hid (hb6.out.trans (hb7.mono hb6.out.size))
      go_wp2_with fail
      refine (i_unhex _ _ hhx.out).mono ?_
      rintro e w8 ⟨rfl, hb8⟩
      rw [unhexB_hex]
      have hb8 := Lib.hid (hb7.out.trans (hb8.mono hb7.out.size))
      go_wp2_with fail
      refine (x_drawReadVar _ a0 _ hl.out ((hB.out.keep hb8.out (Nat.le_refl _)).more hb8.out.size)).mono ?_
      rintro e w9 ⟨rfl, hb9⟩
      rw [hRH.out]
      have hb9 := Lib.hid (hb8.out.trans (hb9.mono hb8.out.size))
      go_wp2_with fail
      refine (i_readVar R _ (by omega)).mono ?_
      rintro e w' ⟨rfl, rfl⟩
      rcases readVar_cut (R := R) with hz | ⟨j, hj1, hj2, hj3, hj4⟩
      · rw [hz]
        clear hz
        go_wp2_with fail
        go_ret
        exact ⟨rfl, hb9.out⟩
      · rw [hj3]
        obtain ⟨z, hz⟩ : ∃ z, (readVar R).1 = z := ⟨_, rfl⟩
        rw [hz] at hj4 ⊢
        clear hz hj3
        obtain ⟨Z, hZ⟩ : ∃ Z, varB z = Z := ⟨_, rfl⟩
        rw [hZ] at hj4
        have hZ := Lib.hid hZ
        have hj5 : decide ((j : Int) ≤ (R.size : Int)) = true := by simp; omega
        have hj6 : ((j : Int) == 0) = false := by simp; omega
        have hj7 : 0 < (j : Int) := by omega
        go_wp2_with fail
        refine (x_drawReadVar _ a0 _ hl.out ((hB.out.keep hb9.out (Nat.le_refl _)).more hb9.out.size)).mono ?_
        rintro e w10 ⟨rfl, hb10⟩
        rw [hRH.out]
        have hb10 := Lib.hid (hb9.out.trans (hb10.mono hb9.out.size))
        go_wp2_with fail
        refine (x_drawReadVar _ a0 _ hl.out ((hB.out.keep hb10.out (Nat.le_refl _)).more hb10.out.size)).mono ?_
        rintro e w11 ⟨rfl, hb11⟩
        rw [hRH.out]
        have hb11 := Lib.hid (hb10.out.trans (hb11.mono hb10.out.size))
        go_wp2_with fail
        refine (i_var z _).mono ?_
        rintro e w12 ⟨rfl, hb12⟩
        rw [hZ.out]
        have hb12 := Lib.hid (hb11.out.trans (hb12.mono hb11.out.size))
        go_wp2_with fail
        refine (x_drawReadVar _ a0 _ hl.out ((hB.out.keep hb12.out (Nat.le_refl _)).more hb12.out.size)).mono ?_
        rintro e w13 ⟨rfl, hb13⟩
        rw [hRH.out]
        have hb13 := Lib.hid (hb12.out.trans (hb13.mono hb12.out.size))
        go_wp2_with fail
        go_ret
        exact ⟨rfl, hb13.out⟩
    · have d0 : decide (0 ≤ N) = true := by simp; omega
      have d1 : decide (N ≤ 562949953421311) = true := by simp; omega
      have d2 : decide (N < 0) = false := by simp; omega
      have d3 : decide (72057594037927936 ≤ N) = false := by simp; omega
      have d4 : decide (-1000000000 < N) = true := by simp; omega
      have d5 : decide (N < 1000000000) = true := by simp; omega
      have hin : inB N 0 562949953421311 = true := inB_true.2 (by omega)
      have hrv := Lib.hid (readVar_var N hin T)
      have hv1 := varB_size N hin
      have hv7 := varB_le N
      obtain ⟨V, hV⟩ : ∃ V, varB N = V := ⟨_, rfl⟩
      rw [hV] at hrv hv1 hv7
      have hne := var_ne hv1
      have hne2 : (V.toList == ([] : List UInt8)) = false := by simpa using hne
      have hVH := Lib.hid hV
      clear hV hin
      have hfo : fixedOk N 7 = true := by rw [fixedOk7]; simp; omega
      obtain ⟨hf1, hf2, hf3⟩ := readFixed_fixed N hfo T
      obtain ⟨F, hF⟩ : ∃ F, fixedB N 7 = F := ⟨_, rfl⟩
      rw [hF] at hf1 hf2 hf3
      have hfne := var_ne (V := F) (by omega)
      have hfne2 : (F.toList == ([] : List UInt8)) = false := by simpa using hfne
      have hf1 := Lib.hid hf1
      have hf2 := Lib.hid hf2
      have hf4 : ((F.size : Nat) : Int) = 7 := by omega
      have hf5 : F.size ≤ 7 := by omega
      have hf6 : Hid ((F ++ T).size ≤ 16777216) := by show _ ≤ _; rw [ByteArray.size_append]; omega
      have hFH := Lib.hid hF
      clear hF hfo
      have hrd := Lib.hid (show readDec (decB N).data.toList = (N, true) by rw [dec_list]; exact readDec_yes ⟨by omega, by omega⟩)
      have hNb : -9223372036854775808 ≤ N ∧ N ≤ 9223372036854775807 := hNo.out
      clear hcl
      go_wp2_with fail
      refine (i_var N _).mono ?_
      rintro e w3 ⟨rfl, hb3⟩
      rw [hVH.out]
      have hb3 := Lib.hid (hb2.out.trans (hb3.mono hb2.out.size))
      go_wp2_with fail
      refine (i_readVar (V ++ T) _ (by rw [ByteArray.size_append]; omega)).mono ?_
      rintro e w' ⟨rfl, rfl⟩
      rw [hrv.out]
      go_wp2_with fail
      refine (i_fixed N 7 _ (by omega)).mono ?_
      rintro e w4 ⟨rfl, hb4⟩
      rw [hFH.out]
      have hb4 := Lib.hid (hb3.out.trans (hb4.mono hb3.out.size))
      go_wp2_with fail
      refine (i_readFixed (F ++ T) 7 _ hf6.out).mono ?_
      rintro e w' ⟨rfl, rfl⟩
      rw [hf1.out, hf2.out]
      go_wp2_with fail
      refine (i_dec N _ hNb.1 hNb.2 (htl hb4.out)).mono ?_
      rintro e w5 ⟨rfl, hb5⟩
      have hb5 := Lib.hid (hb4.out.trans (hb5.mono hb4.out.size))
      go_wp2_with fail
      refine (i_readDec (decB N) _ hdl.out (hvH.out.later hb5.out) (htl hb5.out)).mono ?_
      rintro e w6 ⟨rfl, hb6⟩
      rw [hrd.out]
      have hb6 := Lib.hid (hb5.out.trans (hb6.mono hb5.out.size))
      go_wp2_with fail
      refine (i_hex T _ (by omega)).mono ?_
      rintro e w7 ⟨rfl, hb7⟩
      have hb7 := Lib.hid (hb6.out.trans (hb7.mono hb6.out.size))
      go_wp2_with fail
      refine (i_unhex _ _ hhx.out).mono ?_
      rintro e w8 ⟨rfl, hb8⟩
      rw [unhexB_hex]
      have hb8 := Lib.hid (hb7.out.trans (hb8.mono hb7.out.size))
      go_wp2_with fail
      refine (x_drawReadVar _ a0 _ hl.out ((hB.out.keep hb8.out (Nat.le_refl _)).more hb8.out.size)).mono ?_
      rintro e w9 ⟨rfl, hb9⟩
      rw [hRH.out]
      have hb9 := Lib.hid (hb8.out.trans (hb9.mono hb8.out.size))
      go_wp2_with fail
      refine (i_readVar R _ (by omega)).mono ?_
      rintro e w' ⟨rfl, rfl⟩
      rcases readVar_cut (R := R) with hz | ⟨j, hj1, hj2, hj3, hj4⟩
      · rw [hz]
        clear hz
        go_wp2_with fail
        go_ret
        exact ⟨rfl, hb9.out⟩
      · rw [hj3]
        obtain ⟨z, hz⟩ : ∃ z, (readVar R).1 = z := ⟨_, rfl⟩
        rw [hz] at hj4 ⊢
        clear hz hj3
        obtain ⟨Z, hZ⟩ : ∃ Z, varB z = Z := ⟨_, rfl⟩
        rw [hZ] at hj4
        have hZ := Lib.hid hZ
        have hj5 : decide ((j : Int) ≤ (R.size : Int)) = true := by simp; omega
        have hj6 : ((j : Int) == 0) = false := by simp; omega
        have hj7 : 0 < (j : Int) := by omega
        go_wp2_with fail
        refine (x_drawReadVar _ a0 _ hl.out ((hB.out.keep hb9.out (Nat.le_refl _)).more hb9.out.size)).mono ?_
        rintro e w10 ⟨rfl, hb10⟩
        rw [hRH.out]
        have hb10 := Lib.hid (hb9.out.trans (hb10.mono hb9.out.size))
        go_wp2_with fail
        refine (x_drawReadVar _ a0 _ hl.out ((hB.out.keep hb10.out (Nat.le_refl _)).more hb10.out.size)).mono ?_
        rintro e w11 ⟨rfl, hb11⟩
        rw [hRH.out]
        have hb11 := Lib.hid (hb10.out.trans (hb11.mono hb10.out.size))
        go_wp2_with fail
        refine (i_var z _).mono ?_
        rintro e w12 ⟨rfl, hb12⟩
        rw [hZ.out]
        have hb12 := Lib.hid (hb11.out.trans (hb12.mono hb11.out.size))
        go_wp2_with fail
        refine (x_drawReadVar _ a0 _ hl.out ((hB.out.keep hb12.out (Nat.le_refl _)).more hb12.out.size)).mono ?_
        rintro e w13 ⟨rfl, hb13⟩
        rw [hRH.out]
        have hb13 := Lib.hid (hb12.out.trans (hb13.mono hb12.out.size))
        go_wp2_with fail
        go_ret
        exact ⟨rfl, hb13.out⟩
    · have d0 : decide (0 ≤ N) = true := by simp; omega
      have d1 : decide (N ≤ 562949953421311) = true := by simp; omega
      have d2 : decide (N < 0) = false := by simp; omega
      have d3 : decide (72057594037927936 ≤ N) = false := by simp; omega
      have d4 : decide (-1000000000 < N) = true := by simp; omega
      have d5 : decide (N < 1000000000) = false := by simp; omega
      have hin : inB N 0 562949953421311 = true := inB_true.2 (by omega)
      have hrv := Lib.hid (readVar_var N hin T)
      have hv1 := varB_size N hin
      have hv7 := varB_le N
      obtain ⟨V, hV⟩ : ∃ V, varB N = V := ⟨_, rfl⟩
      rw [hV] at hrv hv1 hv7
      have hne := var_ne hv1
      have hne2 : (V.toList == ([] : List UInt8)) = false := by simpa using hne
      have hVH := Lib.hid hV
      clear hV hin
      have hfo : fixedOk N 7 = true := by rw [fixedOk7]; simp; omega
      obtain ⟨hf1, hf2, hf3⟩ := readFixed_fixed N hfo T
      obtain ⟨F, hF⟩ : ∃ F, fixedB N 7 = F := ⟨_, rfl⟩
      rw [hF] at hf1 hf2 hf3
      have hfne := var_ne (V := F) (by omega)
      have hfne2 : (F.toList == ([] : List UInt8)) = false := by simpa using hfne
      have hf1 := Lib.hid hf1
      have hf2 := Lib.hid hf2
      have hf4 : ((F.size : Nat) : Int) = 7 := by omega
      have hf5 : F.size ≤ 7 := by omega
      have hf6 : Hid ((F ++ T).size ≤ 16777216) := by show _ ≤ _; rw [ByteArray.size_append]; omega
      have hFH := Lib.hid hF
      clear hF hfo
      have hrd := Lib.hid (show readDec (decB N).data.toList = (0, false) by rw [dec_list]; exact readDec_big (by unfold smallI; omega))
      have hNb : -9223372036854775808 ≤ N ∧ N ≤ 9223372036854775807 := hNo.out
      clear hcl
      go_wp2_with fail
      refine (i_var N _).mono ?_
      rintro e w3 ⟨rfl, hb3⟩
      rw [hVH.out]
      have hb3 := Lib.hid (hb2.out.trans (hb3.mono hb2.out.size))
      go_wp2_with fail
      refine (i_readVar (V ++ T) _ (by rw [ByteArray.size_append]; omega)).mono ?_
      rintro e w' ⟨rfl, rfl⟩
      rw [hrv.out]
      go_wp2_with fail
      refine (i_fixed N 7 _ (by omega)).mono ?_
      rintro e w4 ⟨rfl, hb4⟩
      rw [hFH.out]
      have hb4 := Lib.hid (hb3.out.trans (hb4.mono hb3.out.size))
      go_wp2_with fail
      refine (i_readFixed (F ++ T) 7 _ hf6.out).mono ?_
      rintro e w' ⟨rfl, rfl⟩
      rw [hf1.out, hf2.out]
      go_wp2_with fail
      refine (i_dec N _ hNb.1 hNb.2 (htl hb4.out)).mono ?_
      rintro e w5 ⟨rfl, hb5⟩
      have hb5 := Lib.hid (hb4.out.trans (hb5.mono hb4.out.size))
      go_wp2_with fail
      refine (i_readDec (decB N) _ hdl.out (hvH.out.later hb5.out) (htl hb5.out)).mono ?_
      rintro e w6 ⟨rfl, hb6⟩
      rw [hrd.out]
      have hb6 := Lib.hid (hb5.out.trans (hb6.mono hb5.out.size))
      go_wp2_with fail
      refine (i_hex T _ (by omega)).mono ?_
      rintro e w7 ⟨rfl, hb7⟩
      have hb7 := Lib.hid (hb6.out.trans (hb7.mono hb6.out.size))
      go_wp2_with fail
      refine (i_unhex _ _ hhx.out).mono ?_
      rintro e w8 ⟨rfl, hb8⟩
      rw [unhexB_hex]
      have hb8 := Lib.hid (hb7.out.trans (hb8.mono hb7.out.size))
      go_wp2_with fail
      refine (x_drawReadVar _ a0 _ hl.out ((hB.out.keep hb8.out (Nat.le_refl _)).more hb8.out.size)).mono ?_
      rintro e w9 ⟨rfl, hb9⟩
      rw [hRH.out]
      have hb9 := Lib.hid (hb8.out.trans (hb9.mono hb8.out.size))
      go_wp2_with fail
      refine (i_readVar R _ (by omega)).mono ?_
      rintro e w' ⟨rfl, rfl⟩
      rcases readVar_cut (R := R) with hz | ⟨j, hj1, hj2, hj3, hj4⟩
      · rw [hz]
        clear hz
        go_wp2_with fail
        go_ret
        exact ⟨rfl, hb9.out⟩
      · rw [hj3]
        obtain ⟨z, hz⟩ : ∃ z, (readVar R).1 = z := ⟨_, rfl⟩
        rw [hz] at hj4 ⊢
        clear hz hj3
        obtain ⟨Z, hZ⟩ : ∃ Z, varB z = Z := ⟨_, rfl⟩
        rw [hZ] at hj4
        have hZ := Lib.hid hZ
        have hj5 : decide ((j : Int) ≤ (R.size : Int)) = true := by simp; omega
        have hj6 : ((j : Int) == 0) = false := by simp; omega
        have hj7 : 0 < (j : Int) := by omega
        go_wp2_with fail
        refine (x_drawReadVar _ a0 _ hl.out ((hB.out.keep hb9.out (Nat.le_refl _)).more hb9.out.size)).mono ?_
        rintro e w10 ⟨rfl, hb10⟩
        rw [hRH.out]
        have hb10 := Lib.hid (hb9.out.trans (hb10.mono hb9.out.size))
        go_wp2_with fail
        refine (x_drawReadVar _ a0 _ hl.out ((hB.out.keep hb10.out (Nat.le_refl _)).more hb10.out.size)).mono ?_
        rintro e w11 ⟨rfl, hb11⟩
        rw [hRH.out]
        have hb11 := Lib.hid (hb10.out.trans (hb11.mono hb10.out.size))
        go_wp2_with fail
        refine (i_var z _).mono ?_
        rintro e w12 ⟨rfl, hb12⟩
        rw [hZ.out]
        have hb12 := Lib.hid (hb11.out.trans (hb12.mono hb11.out.size))
        go_wp2_with fail
        refine (x_drawReadVar _ a0 _ hl.out ((hB.out.keep hb12.out (Nat.le_refl _)).more hb12.out.size)).mono ?_
        rintro e w13 ⟨rfl, hb13⟩
        rw [hRH.out]
        have hb13 := Lib.hid (hb12.out.trans (hb13.mono hb12.out.size))
        go_wp2_with fail
        go_ret
        exact ⟨rfl, hb13.out⟩
    · have d0 : decide (0 ≤ N) = true := by simp; omega
      have d1 : decide (N ≤ 562949953421311) = false := by simp; omega
      have d2 : decide (N < 0) = false := by simp; omega
      have d3 : decide (72057594037927936 ≤ N) = false := by simp; omega
      have d4 : decide (-1000000000 < N) = true := by simp; omega
      have d5 : decide (N < 1000000000) = false := by simp; omega
      have hin : inB N 0 562949953421311 = false := inB_false.2 (by omega)
      have hV : varB N = ⟨#[]⟩ := varB_out N hin
      have hVH := Lib.hid hV
      clear hV hin
      have hfo : fixedOk N 7 = true := by rw [fixedOk7]; simp; omega
      obtain ⟨hf1, hf2, hf3⟩ := readFixed_fixed N hfo T
      obtain ⟨F, hF⟩ : ∃ F, fixedB N 7 = F := ⟨_, rfl⟩
      rw [hF] at hf1 hf2 hf3
      have hfne := var_ne (V := F) (by omega)
      have hfne2 : (F.toList == ([] : List UInt8)) = false := by simpa using hfne
      have hf1 := Lib.hid hf1
      have hf2 := Lib.hid hf2
      have hf4 : ((F.size : Nat) : Int) = 7 := by omega
      have hf5 : F.size ≤ 7 := by omega
      have hf6 : Hid ((F ++ T).size ≤ 16777216) := by show _ ≤ _; rw [ByteArray.size_append]; omega
      have hFH := Lib.hid hF
      clear hF hfo
      have hrd := Lib.hid (show readDec (decB N).data.toList = (0, false) by rw [dec_list]; exact readDec_big (by unfold smallI; omega))
      have hNb : -9223372036854775808 ≤ N ∧ N ≤ 9223372036854775807 := hNo.out
      clear hcl
      go_wp2_with fail
      refine (i_var N _).mono ?_
      rintro e w3 ⟨rfl, hb3⟩
      rw [hVH.out]
      have hb3 := Lib.hid (hb2.out.trans (hb3.mono hb2.out.size))
      go_wp2_with fail
      refine (i_readVar _ _ (by have he : (⟨#[]⟩ : ByteArray).size = 0 := rfl; first | omega | (rw [ByteArray.size_append]; omega))).mono ?_
      rintro e w' ⟨rfl, rfl⟩
      generalize (readVar _).1 = x1
      generalize (readVar _).2 = x2
      go_wp2_with fail
      refine (i_fixed N 7 _ (by omega)).mono ?_
      rintro e w4 ⟨rfl, hb4⟩
      rw [hFH.out]
      have hb4 := Lib.hid (hb3.out.trans (hb4.mono hb3.out.size))
      go_wp2_with fail
      refine (i_readFixed (F ++ T) 7 _ hf6.out).mono ?_
      rintro e w' ⟨rfl, rfl⟩
      rw [hf1.out, hf2.out]
      go_wp2_with fail
      refine (i_dec N _ hNb.1 hNb.2 (htl hb4.out)).mono ?_
      rintro e w5 ⟨rfl, hb5⟩
      have hb5 := Lib.hid (hb4.out.trans (hb5.mono hb4.out.size))
      go_wp2_with fail
      refine (i_readDec (decB N) _ hdl.out (hvH.out.later hb5.out) (htl hb5.out)).mono ?_
      rintro e w6 ⟨rfl, hb6⟩
      rw [hrd.out]
      have hb6 := Lib.hid (hb5.out.trans (hb6.mono hb5.out.size))
      go_wp2_with fail
      refine (i_hex T _ (by omega)).mono ?_
      rintro e w7 ⟨rfl, hb7⟩
      have hb7 := Lib.hid (hb6.out.trans (hb7.mono hb6.out.size))
      go_wp2_with fail
      refine (i_unhex _ _ hhx.out).mono ?_
      rintro e w8 ⟨rfl, hb8⟩
      rw [unhexB_hex]
      have hb8 := Lib.hid (hb7.out.trans (hb8.mono hb7.out.size))
      go_wp2_with fail
      refine (x_drawReadVar _ a0 _ hl.out ((hB.out.keep hb8.out (Nat.le_refl _)).more hb8.out.size)).mono ?_
      rintro e w9 ⟨rfl, hb9⟩
      rw [hRH.out]
      have hb9 := Lib.hid (hb8.out.trans (hb9.mono hb8.out.size))
      go_wp2_with fail
      refine (i_readVar R _ (by omega)).mono ?_
      rintro e w' ⟨rfl, rfl⟩
      rcases readVar_cut (R := R) with hz | ⟨j, hj1, hj2, hj3, hj4⟩
      · rw [hz]
        clear hz
        go_wp2_with fail
        go_ret
        exact ⟨rfl, hb9.out⟩
      · rw [hj3]
        obtain ⟨z, hz⟩ : ∃ z, (readVar R).1 = z := ⟨_, rfl⟩
        rw [hz] at hj4 ⊢
        clear hz hj3
        obtain ⟨Z, hZ⟩ : ∃ Z, varB z = Z := ⟨_, rfl⟩
        rw [hZ] at hj4
        have hZ := Lib.hid hZ
        have hj5 : decide ((j : Int) ≤ (R.size : Int)) = true := by simp; omega
        have hj6 : ((j : Int) == 0) = false := by simp; omega
        have hj7 : 0 < (j : Int) := by omega
        go_wp2_with fail
        refine (x_drawReadVar _ a0 _ hl.out ((hB.out.keep hb9.out (Nat.le_refl _)).more hb9.out.size)).mono ?_
        rintro e w10 ⟨rfl, hb10⟩
        rw [hRH.out]
        have hb10 := Lib.hid (hb9.out.trans (hb10.mono hb9.out.size))
        go_wp2_with fail
        refine (x_drawReadVar _ a0 _ hl.out ((hB.out.keep hb10.out (Nat.le_refl _)).more hb10.out.size)).mono ?_
        rintro e w11 ⟨rfl, hb11⟩
        rw [hRH.out]
        have hb11 := Lib.hid (hb10.out.trans (hb11.mono hb10.out.size))
        go_wp2_with fail
        refine (i_var z _).mono ?_
        rintro e w12 ⟨rfl, hb12⟩
        rw [hZ.out]
        have hb12 := Lib.hid (hb11.out.trans (hb12.mono hb11.out.size))
        go_wp2_with fail
        refine (x_drawReadVar _ a0 _ hl.out ((hB.out.keep hb12.out (Nat.le_refl _)).more hb12.out.size)).mono ?_
        rintro e w13 ⟨rfl, hb13⟩
        rw [hRH.out]
        have hb13 := Lib.hid (hb12.out.trans (hb13.mono hb12.out.size))
        go_wp2_with fail
        go_ret
        exact ⟨rfl, hb13.out⟩
    · have d0 : decide (0 ≤ N) = true := by simp; omega
      have d1 : decide (N ≤ 562949953421311) = false := by simp; omega
      have d2 : decide (N < 0) = false := by simp; omega
      have d3 : decide (72057594037927936 ≤ N) = true := by simp; omega
      have d4 : decide (-1000000000 < N) = true := by simp; omega
      have d5 : decide (N < 1000000000) = false := by simp; omega
      have hin : inB N 0 562949953421311 = false := inB_false.2 (by omega)
      have hV : varB N = ⟨#[]⟩ := varB_out N hin
      have hVH := Lib.hid hV
      clear hV hin
      have hfo : fixedOk N 7 = false := by rw [fixedOk7]; simp; omega
      have hF : fixedB N 7 = ⟨#[]⟩ := fixedB_out N hfo
      have hFH := Lib.hid hF
      clear hF hfo
      have hrd := Lib.hid (show readDec (decB N).data.toList = (0, false) by rw [dec_list]; exact readDec_big (by unfold smallI; omega))
      have hNb : -9223372036854775808 ≤ N ∧ N ≤ 9223372036854775807 := hNo.out
      clear hcl
      go_wp2_with fail
      refine (i_var N _).mono ?_
      rintro e w3 ⟨rfl, hb3⟩
      rw [hVH.out]
      have hb3 := Lib.hid (hb2.out.trans (hb3.mono hb2.out.size))
      go_wp2_with fail
      refine (i_readVar _ _ (by have he : (⟨#[]⟩ : ByteArray).size = 0 := rfl; first | omega | (rw [ByteArray.size_append]; omega))).mono ?_
      rintro e w' ⟨rfl, rfl⟩
      generalize (readVar _).1 = x1
      generalize (readVar _).2 = x2
      go_wp2_with fail
      refine (i_fixed N 7 _ (by omega)).mono ?_
      rintro e w4 ⟨rfl, hb4⟩
      rw [hFH.out]
      have hb4 := Lib.hid (hb3.out.trans (hb4.mono hb3.out.size))
      go_wp2_with fail
      refine (i_readFixed _ 7 _ (by have he : (⟨#[]⟩ : ByteArray).size = 0 := rfl; first | omega | (rw [ByteArray.size_append]; omega))).mono ?_
      rintro e w' ⟨rfl, rfl⟩
      generalize (readFixed _ 7) = x3
      generalize (readFixedOk _ 7) = x4
      go_wp2_with fail
      refine (i_dec N _ hNb.1 hNb.2 (htl hb4.out)).mono ?_
      rintro e w5 ⟨rfl, hb5⟩
      have hb5 := Lib.hid (hb4.out.trans (hb5.mono hb4.out.size))
      go_wp2_with fail
      refine (i_readDec (decB N) _ hdl.out (hvH.out.later hb5.out) (htl hb5.out)).mono ?_
      rintro e w6 ⟨rfl, hb6⟩
      rw [hrd.out]
      have hb6 := Lib.hid (hb5.out.trans (hb6.mono hb5.out.size))
      go_wp2_with fail
      refine (i_hex T _ (by omega)).mono ?_
      rintro e w7 ⟨rfl, hb7⟩
      have hb7 := Lib.hid (hb6.out.trans (hb7.mono hb6.out.size))
      go_wp2_with fail
      refine (i_unhex _ _ hhx.out).mono ?_
      rintro e w8 ⟨rfl, hb8⟩
      rw [unhexB_hex]
      have hb8 := Lib.hid (hb7.out.trans (hb8.mono hb7.out.size))
      go_wp2_with fail
      refine (x_drawReadVar _ a0 _ hl.out ((hB.out.keep hb8.out (Nat.le_refl _)).more hb8.out.size)).mono ?_
      rintro e w9 ⟨rfl, hb9⟩
      rw [hRH.out]
      have hb9 := Lib.hid (hb8.out.trans (hb9.mono hb8.out.size))
      go_wp2_with fail
      refine (i_readVar R _ (by omega)).mono ?_
      rintro e w' ⟨rfl, rfl⟩
      rcases readVar_cut (R := R) with hz | ⟨j, hj1, hj2, hj3, hj4⟩
      · rw [hz]
        clear hz
        go_wp2_with fail
        go_ret
        exact ⟨rfl, hb9.out⟩
      · rw [hj3]
        obtain ⟨z, hz⟩ : ∃ z, (readVar R).1 = z := ⟨_, rfl⟩
        rw [hz] at hj4 ⊢
        clear hz hj3
        obtain ⟨Z, hZ⟩ : ∃ Z, varB z = Z := ⟨_, rfl⟩
        rw [hZ] at hj4
        have hZ := Lib.hid hZ
        have hj5 : decide ((j : Int) ≤ (R.size : Int)) = true := by simp; omega
        have hj6 : ((j : Int) == 0) = false := by simp; omega
        have hj7 : 0 < (j : Int) := by omega
        go_wp2_with fail
        refine (x_drawReadVar _ a0 _ hl.out ((hB.out.keep hb9.out (Nat.le_refl _)).more hb9.out.size)).mono ?_
        rintro e w10 ⟨rfl, hb10⟩
        rw [hRH.out]
        have hb10 := Lib.hid (hb9.out.trans (hb10.mono hb9.out.size))
        go_wp2_with fail
        refine (x_drawReadVar _ a0 _ hl.out ((hB.out.keep hb10.out (Nat.le_refl _)).more hb10.out.size)).mono ?_
        rintro e w11 ⟨rfl, hb11⟩
        rw [hRH.out]
        have hb11 := Lib.hid (hb10.out.trans (hb11.mono hb10.out.size))
        go_wp2_with fail
        refine (i_var z _).mono ?_
        rintro e w12 ⟨rfl, hb12⟩
        rw [hZ.out]
        have hb12 := Lib.hid (hb11.out.trans (hb12.mono hb11.out.size))
        go_wp2_with fail
        refine (x_drawReadVar _ a0 _ hl.out ((hB.out.keep hb12.out (Nat.le_refl _)).more hb12.out.size)).mono ?_
        rintro e w13 ⟨rfl, hb13⟩
        rw [hRH.out]
        have hb13 := Lib.hid (hb12.out.trans (hb13.mono hb12.out.size))
        go_wp2_with fail
        go_ret
        exact ⟨rfl, hb13.out⟩
end Go.Proofs.YtdajhcammnlonaaDoor
