/- The functions of the laws that mark what a call returned: markText, markTokenS, heldTokenS, eqFault (contracts). -/
import Derived.Test.YtnidfoboiddhfaaDoorLexI
import Derived.Laws.BytesArg
namespace Go.Proofs.YtnidfoboiddhfaaDoor
open Go.RowKit
set_option linter.unusedVariables false

def decGo (n : Nat) (acc : List UInt8) : List UInt8 := if h : n = 0 then acc else decGo (n / 10) (UInt8.ofNat (48 + n % 10) :: acc)
termination_by n
decreasing_by omega
theorem decGo_zero (acc : List UInt8) : decGo 0 acc = acc := by rw [decGo, dif_pos rfl]
theorem decGo_step {n : Nat} (h : n ≠ 0) (acc : List UInt8) : decGo n acc = decGo (n / 10) (UInt8.ofNat (48 + n % 10) :: acc) := by rw [decGo, dif_neg h]
theorem decGo_len : ∀ (k n : Nat) (acc : List UInt8), n < 10 ^ k → (decGo n acc).length ≤ acc.length + k
  | 0, n, acc, h => by obtain rfl : n = 0 := by simpa using h
                       rw [decGo_zero]; omega
  | k + 1, n, acc, h => by
    by_cases c : n = 0
    · subst c; rw [decGo_zero]; omega
    · rw [decGo_step c]
      have := decGo_len k (n / 10) (UInt8.ofNat (48 + n % 10) :: acc) (by rw [Nat.pow_succ] at h; omega)
      simp only [List.length_cons] at this
      omega
theorem decGo_ge (n : Nat) (acc : List UInt8) : acc.length ≤ (decGo n acc).length := by
  rw [decGo]
  split
  · omega
  · have := decGo_ge (n / 10) (UInt8.ofNat (48 + n % 10) :: acc)
    simp only [List.length_cons] at this
    omega
termination_by n
decreasing_by omega
def markT (k : Int) : ByteArray := bs (109 :: decGo k.toNat [])
theorem markT_size {k : Int} (h : k ≤ 1000000000) : (markT k).size ≤ 11 := by
  unfold markT
  rw [bs_size, List.length_cons]
  have := decGo_len 10 k.toNat [] (by omega)
  simp only [List.length_nil] at this
  omega
theorem dig_cons (q : Nat) (l : List UInt8) : strOfNums [(48 + (q : Int) % 10)] ++ (⟨l.toArray⟩ : ByteArray) = ⟨(UInt8.ofNat (48 + q % 10) :: l).toArray⟩ := by
  have e : (48 + (q : Int) % 10).toNat = 48 + q % 10 := by omega
  simp [strOfNums, e, ByteArray.ext_iff]
theorem conv_byte (W : World) (z : Int) : (convert 67 9 (.slice (some ⟨W.heap.size, 0, none⟩) 1 1)).run Tryd.prog (W.alloc (.cells #[.int .u8 z] 5)) = .ok (.string (strOfNums [z])) (W.alloc (.cells #[.int .u8 z] 5)) := by
  refine run_convert_bytes_arg _ 67 5 Tryd.underlying67 Tryd.underlying5 _ 0 1 1 [z] rfl ?_ 9 Tryd.underlying9
  intro i hi
  have hi0 : i = 0 := by omega
  subst hi0
  rw [World.cell?_alloc_new]
  rfl
set_option maxRecDepth 100000 in
set_option maxHeartbeats 400000 in
theorem l_markText (k : Int) (w : World) (h0 : 0 < k) (h1 : k ≤ 1000000000) : Calls Tryd.prog 57 #[.int .i64 k] w fun e w' => e = .returned (.string (markT k)) ∧ Below w.heap.size w w' := by
  obtain ⟨n, rfl⟩ := Int.eq_ofNat_of_zero_le (show 0 ≤ k by omega)
  obtain ⟨R, hR⟩ : ∃ R, decGo n [] = R := ⟨_, rfl⟩
  have hRH := Lib.hid hR
  have hM : Hid (markT n = bs (109 :: R)) := by show _ = _; unfold markT; rw [Int.toNat_natCast, hR]
  have hl : Hid (R.length ≤ 10) := by
    show _ ≤ _
    have := decGo_len 10 n [] (by omega)
    rw [hR] at this
    simpa using this
  clear hR
  have kc := conv_byte
  have ksz : ∀ z, (strOfNums [z]).size = 1 := fun z => strOfNums_size _
  go_enter Tryd.func57, Tryd.ntmps57
  go_wp2
  go_loopw [0, 3] (fun x v wr => ∃ (m : Nat) (l : List UInt8), m ≤ n ∧ l.length ≤ 10 ∧ Hid (decGo m l = R) ∧ x = .int .i64 m ∧ v = .string ⟨l.toArray⟩ ∧ Below w.heap.size w wr) (fun x _ _ => (intOf x).toNat)
  case atStart => exact ⟨n, [], Nat.le_refl _, by simp, hRH.out, rfl, rfl, Below.refl _ _⟩
  case round =>
    obtain ⟨m, l, hm, hll, hd, rfl, rfl, hb⟩ := hrel
    by_cases h0 : m = 0
    · subst h0
      have hRe : Hid (l = R) := by show _ = _; rw [← hd.out, decGo_zero]
      go_wp2
      go_ret
      exact ⟨ret_str (by rw [hM.out, ← hRe.out]; simp [bs, ByteArray.ext_iff]), hb⟩
    · have hst : Hid (decGo (m / 10) (UInt8.ofNat (48 + m % 10) :: l) = R) := by show _ = _; rw [← decGo_step h0]; exact hd.out
      have hmp : 0 < m := by omega
      go_wp2
      go_roundw
      case rel => exact ⟨m / 10, UInt8.ofNat (48 + m % 10) :: l, by omega, Nat.le_trans (hst.out ▸ decGo_ge _ _) hl.out, hst, by go_num, congrArg Value.string (dig_cons m l), hb.alloc hb.size _⟩
      case measure => simp [intOf]; omega
/-- the marks that are laid into a slice of tokens -/
def markAt (k : Int) (i : Nat) : PTok := ⟨k + 3 * i, markT (k + 3 * i + 1), k + 3 * i + 1 + 1⟩
def marksL (n : Nat) (k : Int) : List PTok := (List.range n).map (markAt k)
theorem marksL_len (n : Nat) (k : Int) : (marksL n k).length = n := by simp [marksL]
theorem marksL_get {n i : Nat} (k : Int) (h : i < n) : (marksL n k)[i]? = some (markAt k i) := by simp [marksL, h]
theorem marksL_ok {n : Nat} {k : Int} (h0 : 0 < k) (h1 : k + 3 * n ≤ 1000000000) : ∀ t ∈ marksL n k, okTok t := by
  intro t ht
  obtain ⟨i, hi⟩ := List.mem_iff_getElem?.1 ht
  have hin := (List.getElem?_eq_some_iff.1 hi).1
  rw [marksL_len] at hin
  rw [marksL_get k hin] at hi
  obtain rfl := Option.some.inj hi
  have := markT_size (k := k + 3 * i + 1) (by omega)
  simp only [okTok, okInt, maxLen, markAt]
  omega
/-- what a slice of tokens holds, read as cells of its block -/
theorem OwnT.row {w : World} {base : Nat} {v : Value} {l : List PTok} (h : OwnT w base v l) : (v = .slice none 0 0 ∧ l = []) ∨ ∃ g cap cur, v = .slice (some ⟨g, 0, none⟩) l.length cap ∧ base ≤ g ∧ Has w g 36 cur ∧ l.length ≤ cap ∧ cap ≤ maxLen ∧ cur.size = cap * 3 := by
  obtain ⟨_, h2⟩ := h
  rcases h2 with ⟨rfl, h0⟩ | ⟨g, cap, cur, rfl, hb, hh, q1, q2, hsz, htk⟩
  · exact .inl ⟨rfl, List.eq_nil_of_length_eq_zero h0⟩
  · exact .inr ⟨g, cap, cur, rfl, hb, hh, q1, q2, hsz⟩
theorem tokCells_ext {l : List PTok} {cur : List Value} (hs : l.length * 3 ≤ cur.length) (h : ∀ i t, l[i]? = some t → cur[i * 3]? = some (.int .i64 t.kind) ∧ cur[i * 3 + 1]? = some (.string t.text) ∧ cur[i * 3 + 2]? = some (.int .i64 t.at_)) : cur.take (l.length * 3) = tokCells l := by
  induction l generalizing cur with
  | nil => simp [tokCells]
  | cons t l ih =>
    obtain ⟨a, b, c, r, rfl⟩ : ∃ a b c r, cur = a :: b :: c :: r := by
      match cur, hs with
      | a :: b :: c :: r, _ => exact ⟨a, b, c, r, rfl⟩
      | [], hs => simp at hs
      | [_], hs => simp at hs; omega
      | [_, _], hs => simp at hs; omega
    obtain ⟨h0, h1, h2⟩ := h 0 t rfl
    simp at h0 h1 h2
    subst h0 h1 h2
    have e : (t :: l).length * 3 = l.length * 3 + 3 := by simp only [List.length_cons]; omega
    rw [e]
    simp only [List.take_succ_cons, tokCells]
    rw [ih (by simp only [List.length_cons] at hs; omega) (fun i u hu => ?_)]
    obtain ⟨g0, g1, g2⟩ := h (i + 1) u (by simpa using hu)
    have e1 : (i + 1) * 3 = i * 3 + 3 := by omega
    rw [e1] at g0 g1 g2
    exact ⟨by simpa using g0, by rw [show i * 3 + 3 + 1 = i * 3 + 1 + 3 by omega] at g1; simpa using g1, by rw [show i * 3 + 3 + 2 = i * 3 + 2 + 3 by omega] at g2; simpa using g2⟩
theorem OwnT.of_filled {w : World} {base g cap : Nat} {cs : Array Value} {l : List PTok} (hg : base ≤ g) (h : Has w g 36 cs) (hc : l.length ≤ cap) (hm : cap ≤ maxLen) (hs : cs.size = cap * 3) (hf : FilledT cs l.length l) : OwnT w base (.slice (some ⟨g, 0, none⟩) l.length cap) l := by
  refine ⟨tokCells_len l, .inr ⟨g, cap, cs, rfl, hg, h, hc, hm, hs, ?_⟩⟩
  refine tokCells_ext (Nat.le_trans (Nat.mul_le_mul_right 3 hc) (Nat.le_of_eq (hs.symm.trans Array.length_toList.symm))) (fun i t ht => ?_)
  have hi := (List.getElem?_eq_some_iff.1 ht).1
  obtain ⟨e0, e1, e2⟩ := hf i t hi ht
  simp only [Array.getElem?_toList]
  exact ⟨e0, e1, e2⟩
theorem filledT_mark {cs : Array Value} {j n : Nat} {k : Int} (h : FilledT cs j (marksL n k)) (hj : j < n) (hs : n * 3 ≤ cs.size) : FilledT (put3 cs (j * 3) (.int .i64 (k + 3 * j)) (.string (markT (k + 3 * j + 1))) (.int .i64 (k + 3 * j + 1 + 1))) (j + 1) (marksL n k) := by
  intro i x hi hx
  by_cases e : i = j
  · subst e
    rw [marksL_get k hj] at hx
    obtain rfl := Option.some.inj hx
    exact put3_at cs (i * 3) _ _ _ (by omega)
  · obtain ⟨e0, e1, e2⟩ := h i x (by omega) hx
    refine ⟨?_, ?_, ?_⟩
    · rw [put3_other _ _ _ _ _ _ (by omega)]; exact e0
    · rw [put3_other _ _ _ _ _ _ (by omega)]; exact e1
    · rw [put3_other _ _ _ _ _ _ (by omega)]; exact e2
def RetMarks (w : World) (base : Nat) (v : Value) (n : Nat) (k : Int) (e : Ending) (w' : World) : Prop := e = .returned (.int .i64 (k + 3 * n)) ∧ OwnT w' base v (marksL n k) ∧ Below base w w'
set_option maxRecDepth 100000 in
set_option maxHeartbeats 1000000 in
theorem l_markTokens (v : Value) (l : List PTok) (base n : Nat) (k : Int) (w : World) (hb0 : base ≤ w.heap.size) (hn0 : l.length = n) (h0 : 0 < k) (h1 : k + 3 * n ≤ 1000000000) (h : OwnT w base v l) : Calls Tryd.prog 34 #[v, .int .i64 k] w (RetMarks w base v n k) := by
  rcases h.row with ⟨rfl, rfl⟩ | ⟨g, cap, cur, rfl, hbg, hh0, hc, hm, hsz⟩
  · obtain rfl : 0 = n := hn0
    go_enter Tryd.func34, Tryd.ntmps34
    go_wp2
    go_loopw [1, 5] (fun x i wr => x = .int .i64 k ∧ i = .int .i64 ((0 : Nat) : Int) ∧ w = wr) (fun _ _ _ => 0)
    case atStart => exact ⟨rfl, by go_num, rfl⟩
    case round =>
      obtain ⟨rfl, rfl, rfl⟩ := hrel
      go_wp2
      go_ret
      exact ⟨by simp, OwnT.nil _ _, Below.refl _ _⟩
  · rw [hn0] at hc ⊢
    have hF := Lib.hid (show FilledT cur 0 (marksL n k) from fun i t hi => by omega)
    have hszH := Lib.hid hsz
    have hhH := Lib.hid hh0
    unfold maxLen at hm
    clear h hn0 hh0 hsz
    go_enter Tryd.func34, Tryd.ntmps34
    go_wp2_with fail
    go_loopw [1, 5] (fun x i wr => ∃ (j : Nat) (cs : Array Value), j ≤ n ∧ Hid (cs.size = cap * 3 ∧ FilledT cs j (marksL n k)) ∧ x = .int .i64 (k + 3 * (j : Int)) ∧ i = .int .i64 j ∧ Has wr g 36 cs ∧ Below base w wr) (fun _ i _ => (n - (intOf i).toNat))
    case atStart => exact ⟨0, cur, by omega, ⟨hszH.out, hF.out⟩, by go_num, by go_num, hhH.out, Below.refl _ _⟩
    case round =>
      obtain ⟨j, cs, hj, hd, rfl, rfl, hh, hb⟩ := hrel
      by_cases hlt : j < n
      · have hst := Lib.hid (filledT_mark hd.out.2 hlt (by rw [hd.out.1]; omega))
        obtain ⟨u0, y0⟩ := hh.there (i := j * 3) (by rw [hd.out.1]; omega)
        have z0 := hh.free (j * 3)
        have hlt0 := hh.lt
        go_wp2_with fail
        refine (l_markText _ _ (by omega) (by omega)).mono ?_
        rintro e w2 ⟨rfl, hb2⟩
        have hh2 := (hh.set (j * 3) (.int .i64 (k + 3 * (j : Int)))).below hb2 (by simpa using hlt0)
        obtain ⟨u1, y1⟩ := hh2.there (i := j * 3 + 1) (by simp; rw [hd.out.1]; omega)
        obtain ⟨u2, y2⟩ := hh2.there (i := j * 3 + 2) (by simp; rw [hd.out.1]; omega)
        have z1 := hh2.free (j * 3 + 1)
        have z2 := hh2.free (j * 3 + 2)
        have hb3 : Below base w w2 := (hb.setCell (p := ⟨g, j * 3, none⟩) hbg _).trans (hb2.mono (by have := hb.size; simp; omega))
        go_wp2_with fail
        go_roundw
        case rel => exact ⟨j + 1, _, by omega, ⟨by rw [put3_size]; exact hd.out.1, hst.out⟩, by go_num, by go_num, (hh2.set (j * 3 + 1) _).set (j * 3 + 2) _, (hb3.setCell hbg _).setCell hbg _⟩
        case measure => simp [intOf]; omega
      · obtain rfl : j = n := by omega
        have hfin := Lib.hid (OwnT.of_filled (base := base) (l := marksL j k) hbg hh (by rw [marksL_len]; exact hc) (by unfold maxLen; omega) hd.out.1 (by rw [marksL_len]; exact hd.out.2))
        go_wp2_with fail
        go_ret
        exact ⟨rfl, by have := hfin.out; rw [marksL_len] at this; exact this, hb⟩
set_option maxRecDepth 100000 in
set_option maxHeartbeats 1000000 in
theorem l_heldTokens (v : Value) (n : Nat) (k : Int) (w : World) (h0 : 0 < k) (h1 : k + 3 * n ≤ 1000000000) (h : ToksIn w w.heap.size v (marksL n k)) : Calls Tryd.prog 35 #[v, .int .i64 k] w fun e w' => e = .returned (.int .i64 (k + 3 * (n : Int))) ∧ Below w.heap.size w w' := by
  obtain ⟨A, c, rfl, hlc, hcm, hcell, hsz⟩ := h
  unfold maxLen at hcm
  rw [marksL_len] at hlc hcell ⊢
  clear hsz
  go_enter Tryd.func35, Tryd.ntmps35
  go_wp2_with fail
  go_loopw [1, 5] (fun x i wr => ∃ (j : Nat), j ≤ n ∧ x = .int .i64 (k + 3 * (j : Int)) ∧ i = .int .i64 j ∧ Below w.heap.size w wr) (fun _ i _ => (n - (intOf i).toNat))
  case atStart => exact ⟨0, by omega, by go_num, by go_num, Below.refl _ _⟩
  case round =>
    obtain ⟨j, hj, rfl, rfl, hb⟩ := hrel
    by_cases hlt : j < n
    · obtain ⟨b, off, hA, hl2, hc⟩ := hcell (by omega)
      subst hA
      obtain ⟨e0, e1, e2⟩ := hc j _ (marksL_get k hlt)
      have hk : ∀ o, wr.cell? ⟨b, o, none⟩ = w.cell? ⟨b, o, none⟩ := fun o => hb.cell (p := ⟨b, o, none⟩) hl2
      rw [← hk] at e0 e1 e2
      simp only [markAt] at e0 e1 e2
      have hl3 : b < wr.heap.size := Nat.lt_of_lt_of_le hl2 hb.size
      have e2H := Lib.hid e2
      have hl3H := Lib.hid hl3
      obtain ⟨M, hM⟩ : ∃ M, markT (k + 3 * (j : Int) + 1) = M := ⟨_, rfl⟩
      rw [hM] at e1
      have hMH := Lib.hid hM
      clear hk hc hcell hM hl2 hl3 e2
      have hbd : Below w.heap.size w wr.drew := below_drewN hb 1
      have e3H : Hid (wr.drew.cell? ⟨b, off + j * 3 + 2, none⟩ = some (.int .i64 (k + 3 * (j : Int) + 1 + 1))) := e2H.out
      have hl4 : b < wr.drew.heap.size := hl3H.out
      have e1d : wr.drew.cell? ⟨b, off + j * 3 + 1, none⟩ = some (.string M) := e1
      have hkeep : ∀ W', Below wr.drew.heap.size wr.drew W' → W'.cell? ⟨b, off + j * 3 + 1, none⟩ = some (.string M) := fun W' hw => (hw.cell (p := ⟨b, _, none⟩) hl4).trans e1d
      have hl4H := Lib.hid hl4
      have hbdH := Lib.hid hbd
      clear hl4 e1d hbd hb
      go_wp2_with fail
      go_region_held3 (fun W => W.cell? ⟨b, off + j * 3 + 1, none⟩ = some (.string M)) (first | exact hkeep _ hb3 | exact hkeep _ (Below.refl _ _)) ((go_at_call 57; refine (l_markText _ _ (by omega) (by omega)).mono ?_; rintro e w3 ⟨rfl, hb3⟩; rw [hMH.out]))
      have e4 : w3.cell? ⟨b, off + j * 3 + 2, none⟩ = some (.int .i64 (k + 3 * (j : Int) + 1 + 1)) := (hb3.cell (p := ⟨b, _, none⟩) hl4H.out).trans e3H.out
      have hb4 := hbdH.out.trans (hb3.mono hbdH.out.size)
      clear hb3 hkeep
      go_wp2_with fail
      go_roundw
      case rel => exact ⟨j + 1, by omega, by go_num, by go_num, hb4⟩
      case measure => simp [intOf]; omega
    · obtain rfl : j = n := by omega
      clear hcell
      go_wp2_with fail
      go_ret
      exact ⟨rfl, hb⟩
theorem l_eqFault (a b : Int) (w : World) : Calls Tryd.prog 33 #[.agg #[.int .i64 a, .int .i64 b], .agg #[.int .i64 a, .int .i64 b]] w (RetTrue w) := by
  go_enter Tryd.func33, Tryd.ntmps33
  go_wp2_with fail
  go_ret
  exact ⟨rfl, ((Below.refl _ _).alloc (Nat.le_refl _) _).alloc (by simp) _⟩
end Go.Proofs.YtnidfoboiddhfaaDoor
