/- The law on scans: a number, a text, a name ends at the offset that is told (walk). -/
import Derived.Test.YtdajhcammnlonaaDoorDrawScan
import Derived.Test.YtdajhcammnlonaaDoorDrawWords
import Derived.Test.YtdajhcammnlonaaDoorScansPure
import Derived.Test.YtdajhcammnlonaaDoorTokOkI
namespace Go.Proofs.YtdajhcammnlonaaDoor
open Go.RowKit
set_option linter.unusedVariables false
theorem num_tok {s : ByteArray} {k e : Int} (h : numEnd s k = e) (h0 : 0 ≤ e) : ∃ kn en : Nat, k = kn ∧ e = en ∧ kn < en ∧ en ≤ s.size ∧ tokenOkB ⟨3, s.extract kn en, 0⟩ = true ∧ (s.extract kn en).size ≤ s.size := by
  obtain ⟨h1, h2, h3⟩ := numEnd_bounds (s := s) (k := k) (by omega)
  obtain ⟨kn, rfl⟩ := Int.eq_ofNat_of_zero_le h1
  obtain ⟨en, rfl⟩ := Int.eq_ofNat_of_zero_le h0
  obtain ⟨h4, h5⟩ := numEnd_ext (s := s) (k := kn) (e := en) h
  rw [h] at h2 h3
  refine ⟨kn, en, rfl, rfl, by omega, by omega, ?_, by omega⟩
  rw [tokenOkB_3 0 (by omega), h4, h5]
  simp
theorem str_tok {s : ByteArray} {k e : Int} (h : strEnd s k = e) (h0 : 0 ≤ e) : ∃ kn en : Nat, k = kn ∧ e = en ∧ kn < en ∧ en ≤ s.size ∧ tokenOkB ⟨4, s.extract kn en, 0⟩ = true ∧ (s.extract kn en).size ≤ s.size := by
  have hs : quoted s k 34 = e := h
  obtain ⟨h1, h2, h3⟩ := quoted_bounds (s := s) (k := k) (q := 34) (by omega) (by omega)
  obtain ⟨kn, rfl⟩ := Int.eq_ofNat_of_zero_le h1
  obtain ⟨en, rfl⟩ := Int.eq_ofNat_of_zero_le h0
  obtain ⟨h4, h5⟩ := quoted_ext (s := s) (k := kn) (e := en) (q := 34) (by omega) hs
  rw [hs] at h2 h3
  refine ⟨kn, en, rfl, rfl, by omega, by omega, ?_, by omega⟩
  rw [tokenOkB_4 0 (by omega)]
  show (quoted (s.extract kn en) 0 34 == _) = true
  rw [h4, h5]
  simp
theorem name_tok {s : ByteArray} {k e : Int} (h : nameEnd s k = e) (h0 : 0 ≤ e) : ∃ kn en : Nat, k = kn ∧ e = en ∧ kn < en ∧ en ≤ s.size ∧ isLetterB (bAt s kn) = true := by
  unfold nameEnd at h
  by_cases hl : isLetterB (bAt s k) = true
  · rw [if_pos hl] at h
    have hr := bAt_range (s := s) (k := k) (fun q => by rw [q] at hl; simp [isLetterB_m1] at hl)
    obtain ⟨kn, rfl⟩ := Int.eq_ofNat_of_zero_le hr.1
    obtain ⟨en, rfl⟩ := Int.eq_ofNat_of_zero_le h0
    have h1 : isWordB (bAt s kn) = true := by unfold isWordB; rw [hl]; rfl
    rw [runEnd_step isWordB_m1 h1] at h
    have h2 := runEnd_ge isWordB s ((kn : Int) + 1)
    have h3 := runEnd_le isWordB s ((kn : Int) + 1) (by omega)
    exact ⟨kn, en, rfl, rfl, by omega, by omega, hl⟩
  · rw [if_neg hl] at h; omega
set_option maxRecDepth 100000 in
set_option maxHeartbeats 4000000 in
theorem l_FnScans (v0 : Value) (a0 : List UInt8) (w : World) (t0 : TabAt w 0 kwL) (t1 : TabAt w 1 signL) (t2 : TabAt w 2 biL) (h0 : BytesIn w w.heap.size v0 a0) :
    Calls Tryd.prog 4 #[v0] w fun e w' => e = .returned (.bool true) ∧ Below w.heap.size w w' := by
  have t0 := Lib.hid t0
  have t1 := Lib.hid t1
  have t2 := Lib.hid t2
  have hB := Lib.hid h0
  obtain ⟨A, c, rfl, r⟩ := h0
  clear r
  by_cases hbig : 1048576 < a0.length
  · have hd := Lib.hid (show decide (1048576 < a0.length) = true by simpa using hbig)
    clear hbig
    go_enter Tryd.func4, Tryd.ntmps4
    go_wp2_with fail
    refine (l_big _ a0 _ hB.out).mono ?_
    rintro e w' ⟨rfl, rfl⟩
    rw [hd.out]
    go_wp2_with fail
    go_ret
    exact ⟨rfl, Below.refl _ _⟩
  · have hd := Lib.hid (show decide (1048576 < a0.length) = false by simpa using hbig)
    have hl := Lib.hid (show a0.length ≤ 1048576 by omega)
    clear hbig
    go_enter Tryd.func4, Tryd.ntmps4
    go_wp2_with fail
    refine (l_big _ a0 _ hB.out).mono ?_
    rintro e w' ⟨rfl, rfl⟩
    rw [hd.out]
    go_wp2_with fail
    refine (d_drawNumEnd _ a0 _ hl.out hB.out).mono ?_
    rintro e w1 ⟨s, k, hs, hk, rfl, hb1⟩
    have hsz := Lib.hid (show s.size ≤ 16777216 by omega)
    have hb1 := Lib.hid hb1
    obtain ⟨e0, he0⟩ : ∃ e0, numEnd s k = e0 := ⟨_, rfl⟩
    have he := Lib.hid he0
    go_wp2_with fail
    refine (i_numEnd s k _ hsz.out).mono ?_
    rintro e w' ⟨rfl, rfl⟩
    rw [he.out]
    go_wp2_with fail
    refine (s_numEnd s k _ hsz.out).mono ?_
    rintro e w' ⟨rfl, rfl⟩
    rw [he.out]
    by_cases hn : e0 < 0
    all_goals
      first
      | (have hn2 : e0 < 0 := hn
         clear he0 hn2
         go_wp2_with fail
         have hbA := hb1)
      | (obtain ⟨kn, en, rfl, rfl, q1, q2, q3, q4⟩ := num_tok he0 (by omega)
         have q1b : kn ≤ en := by omega
         have q1c : (kn : Int) ≤ (en : Int) := by omega
         have q2c : (en : Int) ≤ (s.size : Int) := by omega
         have q1d : decide (en ≤ kn) = false := by simp; omega
         have q2d : decide (s.size < en) = false := by simp; omega
         have q3 := Lib.hid q3
         have q4 := Lib.hid (show (s.extract kn en).size ≤ 16777216 by omega)
         clear he0 hn
         go_wp2_with fail
         refine (i_tokenOk 3 _ 0 _ (by unfold okI64; omega) q4.out (t0.out.later hb1.out) (t1.out.later hb1.out) (t2.out.later hb1.out)).mono ?_
         rintro e w2 ⟨rfl, hb2⟩
         rw [q3.out]
         have hbA := Lib.hid (hb1.out.trans (hb2.mono hb1.out.size))
         go_wp2_with fail)
    all_goals
      clear hb1
      have hb0 := hbA
      clear hbA
      refine (d_drawStrEnd _ a0 _ hl.out ((hB.out.keep hb0.out (Nat.le_refl _)).more hb0.out.size)).mono ?_
      rintro e w1 ⟨s, k, hs, hk, rfl, hb1⟩
      have hsz := Lib.hid (show s.size ≤ 16777216 by omega)
      have hb1 := Lib.hid (hb0.out.trans (hb1.mono hb0.out.size))
      clear hb0
      obtain ⟨e0, he0⟩ : ∃ e0, strEnd s k = e0 := ⟨_, rfl⟩
      have he := Lib.hid he0
      go_wp2_with fail
      refine (i_strEnd s k _ hsz.out).mono ?_
      rintro e w' ⟨rfl, rfl⟩
      rw [he.out]
      go_wp2_with fail
      refine (s_strEnd s k _ hsz.out).mono ?_
      rintro e w' ⟨rfl, rfl⟩
      rw [he.out]
      by_cases hn : e0 < 0
      all_goals
        first
        | (have hn2 : e0 < 0 := hn
           clear he0 hn2
           go_wp2_with fail
           have hbA := hb1)
        | (obtain ⟨kn, en, rfl, rfl, q1, q2, q3, q4⟩ := str_tok he0 (by omega)
           have q1b : kn ≤ en := by omega
           have q1c : (kn : Int) ≤ (en : Int) := by omega
           have q2c : (en : Int) ≤ (s.size : Int) := by omega
           have q1d : decide (en ≤ kn) = false := by simp; omega
           have q2d : decide (s.size < en) = false := by simp; omega
           have q3 := Lib.hid q3
           have q4 := Lib.hid (show (s.extract kn en).size ≤ 16777216 by omega)
           clear he0 hn
           go_wp2_with fail
           refine (i_tokenOk 4 _ 0 _ (by unfold okI64; omega) q4.out (t0.out.later hb1.out) (t1.out.later hb1.out) (t2.out.later hb1.out)).mono ?_
           rintro e w2 ⟨rfl, hb2⟩
           rw [q3.out]
           have hbA := Lib.hid (hb1.out.trans (hb2.mono hb1.out.size))
           go_wp2_with fail)
    all_goals
      clear hb1
      have hb0 := hbA
      clear hbA
      refine (d_drawNameEnd _ a0 _ hl.out ((hB.out.keep hb0.out (Nat.le_refl _)).more hb0.out.size)).mono ?_
      rintro e w1 ⟨s, k, hs, hk, rfl, hb1⟩
      have hsz := Lib.hid (show s.size ≤ 16777216 by omega)
      have hb1 := Lib.hid (hb0.out.trans (hb1.mono hb0.out.size))
      clear hb0
      obtain ⟨e0, he0⟩ : ∃ e0, nameEnd s k = e0 := ⟨_, rfl⟩
      have he := Lib.hid he0
      go_wp2_with fail
      refine (i_nameEnd s k _ hsz.out).mono ?_
      rintro e w' ⟨rfl, rfl⟩
      rw [he.out]
      go_wp2_with fail
      refine (s_nameEnd s k _ hsz.out).mono ?_
      rintro e w' ⟨rfl, rfl⟩
      rw [he.out]
      by_cases hn : e0 < 0
      all_goals
        first
        | (have hn2 : e0 < 0 := hn
           clear he0 hn2
           go_wp2_with fail
           go_ret
           exact ⟨rfl, hb1.out⟩)
        | (obtain ⟨kn, en, rfl, rfl, q1, q2, q3⟩ := name_tok he0 (by omega)
           have hkn : kn < s.size := by omega
           rw [bAt_nat hkn] at q3
           have hcb0 : ((s[kn]).toNat : Int) < 256 := by have := (s[kn]).toNat_lt; omega
           obtain ⟨cb, hcb⟩ : ∃ cb : Int, ((s[kn]).toNat : Int) = cb := ⟨_, rfl⟩
           have hcb1 : 0 ≤ cb := by omega
           rw [hcb] at q3 hcb0
           have q3 := Lib.hid q3
           clear he0 hn
           go_wp2_with fail
           refine (s_isLetter _ _).mono ?_
           rintro e w2 ⟨rfl, rfl⟩
           rw [q3.out]
           go_wp2_with fail
           go_ret
           exact ⟨rfl, hb1.out⟩)
end Go.Proofs.YtdajhcammnlonaaDoor
