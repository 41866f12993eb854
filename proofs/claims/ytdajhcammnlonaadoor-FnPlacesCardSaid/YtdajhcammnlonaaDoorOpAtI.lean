/- The longest sign at a place of a text, in the program (walk). -/
import Derived.Test.YtdajhcammnlonaaDoorOpAt
import Derived.Deep.MidRow
namespace Go.Proofs.YtdajhcammnlonaaDoor
open Go.RowKit
set_option linter.unusedVariables false
theorem cut_pref0 {s X : ByteArray} (h : X.size ≤ s.size) : ((s.extract 0 X.size).toList == X.toList) = decide (X.data.toList <+: s.data.toList) := by
  have := cut_pref (s := s) (X := X) (k := 0) (by omega)
  simpa using this
theorem pref_long0 {s X : ByteArray} (h : ¬ X.size ≤ s.size) : decide (X.data.toList <+: s.data.toList) = false := by
  have := pref_long (s := s) (X := X) (k := 0) (by omega) (by omega)
  simpa using this
theorem lite_pref (s X : ByteArray) (w : World) : Calls Tryd.prog 112 #[.string s, .string X] w fun e w' => e = .returned (.bool (decide (X.data.toList <+: s.data.toList))) ∧ w = w' := by
  by_cases h : X.size ≤ s.size
  · have hp := Lib.hid (cut_pref0 h)
    go_enter Tryd.func112, Tryd.ntmps112
    go_wp2_with fail
    go_ret
    exact ⟨ret_bool (by rw [← hp.out]), rfl⟩
  · rw [pref_long0 h]
    go_enter Tryd.func112, Tryd.ntmps112
    go_wp2_with fail
    go_ret
    exact ⟨rfl, rfl⟩
theorem i_hasPrefix (s X : ByteArray) (w : World) : Calls Tryd.prog 63 #[.string s, .string X] w fun e w' => e = .returned (.bool (decide (X.data.toList <+: s.data.toList))) ∧ w = w' := by
  go_enter Tryd.func63, Tryd.ntmps63
  go_wp2_with (go_at_call 112; refine (lite_pref _ _ _).mono ?_; rintro e w' ⟨rfl, rfl⟩)
  go_ret
  exact ⟨rfl, rfl⟩
def signV : List Value := signL.map fun x => Value.string (bs x)
theorem signV_range {w : World} {g : Nat} (h : TabAt w g signL) : w.rangeAt g 0 signV := fun j v hv => by
  unfold signV at hv
  rw [List.getElem?_map] at hv
  cases hx : signL[j]? with
  | none => rw [hx] at hv; cases hv
  | some x => rw [hx] at hv; rw [Nat.zero_add, ← Option.some.inj hv]; exact h.2 j x hx
theorem run_ix (cs : Array Value) (i : Nat) (v : Value) (w : World) (hi : i < 39) (hv : cs[i]? = some v) : (Instr.index 59 (.agg cs) (.int .i64 (i : Int))).run Tryd.prog w = .ok v w := by
  have h0 : (0 : Int) ≤ (i : Int) ∧ (i : Int) < ((39 : Nat) : Int) := by omega
  simp [Instr.index, run_underlying Tryd.underlying59, asIntOf, h0, hv, hi, go_sem]
set_option maxRecDepth 100000 in
set_option maxHeartbeats 2000000 in
theorem i_opAt (s : ByteArray) (k : Nat) (w : World) (hs : s.size ≤ 16777216) (hk : k < s.size) (t1 : TabAt w 1 signL) : Calls Tryd.prog 15 #[.string s, .int .i64 (k : Int)] w fun e w' => e = .returned (.tuple #[.int .i64 (opAt s k).1, .int .i64 (opAt s k).2]) ∧ w = w' := by
  have t1H := Lib.hid t1
  have hr := Lib.hid (signV_range t1)
  clear t1
  have hin : inB (k : Int) 0 ((s.size : Int) - 1) = true := inB_true.2 (by omega)
  have gw : IntKind.i64.wrap ((s.size : Int) - 1) = (s.size : Int) - 1 := IntWalk.i64_in _ (by omega)
  obtain ⟨T, hT⟩ : ∃ T, s.data.toList.drop k = T := ⟨_, rfl⟩
  have hop : opAt s k = opGo T signL 0 (0, 0) := by rw [opAt, if_pos (by omega)]; rw [← hT]; rfl
  rw [hop]
  obtain ⟨R, hR⟩ : ∃ R, opGo T signL 0 (0, 0) = R := ⟨_, rfl⟩
  rw [hR]
  have hRH := Lib.hid hR.symm
  have hTH := Lib.hid hT
  clear hT hop hR
  go_enter Tryd.func15, Tryd.ntmps15
  go_wp2_with (first | (go_at_call 62; refine (i_within _ _ _ _).mono ?_; rintro e w' ⟨rfl, rfl⟩) | (refine wpList_load_mid rfl 59 (.global 1) rfl 1 0 rfl signV _ hr.out Tryd.underlying59 rfl (by kernel_rfl) ?_; obtain ⟨V, hV⟩ : ∃ V : Array Value, signV.toArray = V := ⟨_, rfl⟩; rw [hV]; have hVH := Lib.hid hV; clear hV))
  go_loopw [6, 7, 17] (fun x y i wr => ∃ (j L : Nat) (K : Int), j ≤ 39 ∧ L ≤ 2 ∧ Hid (R = opGo T (signL.drop j) j (K, L)) ∧ x = .int .i64 K ∧ y = .int .i64 L ∧ i = .int .i64 j ∧ w = wr) (fun _ _ i _ => (39 - (intOf i).toNat))
  case atStart => exact ⟨0, 0, 0, by omega, by omega, hRH.out, rfl, rfl, by go_num, rfl⟩
  case round =>
    obtain ⟨j, L, K, hj, hL, hd, rfl, rfl, rfl, rfl⟩ := hrel
    by_cases hlt : j < 39
    · obtain ⟨x, hx⟩ : ∃ x, signL[j]? = some x := ⟨_, List.getElem?_eq_getElem hlt⟩
      have hv : V[j]? = some (.string (bs x)) := by rw [← hVH.out, ← Array.getElem?_toList]; show signV[j]? = _; unfold signV; rw [List.getElem?_map, hx]; rfl
      have hix0 := run_ix V j (.string (bs x)) w hlt hv
      clear hv
      have hsl := sign_len hx
      have hst := Lib.hid (opGo_drop (t := T) (a := (K, L)) hx)
      obtain ⟨X, hX⟩ : ∃ X, bs x = X := ⟨_, rfl⟩
      have hXl : x = X.data.toList := by rw [← hX, bs_list]
      have hXs : x.length = X.size := by rw [← hX, bs_size]
      rw [hX] at hix0
      rw [hXs] at hsl
      have hXlH := Lib.hid hXl
      have hXsH := Lib.hid hXs
      have hTe : Hid ((s.extract k s.size).data.toList = T) := by
        show _ = _
        rw [cut_list, hTH.out, List.take_of_length_le (by rw [← hTH.out, List.length_drop, Array.length_toList, ByteArray.size_data]; exact Nat.le_refl _)]
      clear hx hX hXl hXs
      by_cases hgt : L < X.size
      · cases hE : decide (X.data.toList <+: T)
        · have hst2 : Hid (R = opGo T (signL.drop (j + 1)) (j + 1) (K, L)) := by
            show _ = _
            rw [hd.out, hst.out, if_neg (fun c => of_decide_eq_false hE (hXlH.out ▸ c.2))]
          have hEH := Lib.hid hE
          clear hE
          go_wp2_with (go_at_call 63; refine (i_hasPrefix _ _ _).mono ?_; rintro e w' ⟨rfl, rfl⟩; rw [hTe.out, hEH.out])
          go_roundw
          case rel => exact ⟨j + 1, L, K, by omega, hL, hst2, rfl, rfl, by go_num, trivial⟩
          case measure => simp [intOf]; omega
        · have hst2 : Hid (R = opGo T (signL.drop (j + 1)) (j + 1) (((30 + j : Nat) : Int), X.size)) := by
            show _ = _
            rw [hd.out, hst.out, if_pos ⟨by rw [hXsH.out]; exact hgt, hXlH.out ▸ of_decide_eq_true hE⟩, hXsH.out]
          have hEH := Lib.hid hE
          clear hE
          go_wp2_with (go_at_call 63; refine (i_hasPrefix _ _ _).mono ?_; rintro e w' ⟨rfl, rfl⟩; rw [hTe.out, hEH.out])
          go_roundw
          case rel => exact ⟨j + 1, X.size, _, by omega, hsl.2, hst2, by go_num, rfl, by go_num, trivial⟩
          case measure => simp [intOf]; omega
      · have hst2 : Hid (R = opGo T (signL.drop (j + 1)) (j + 1) (K, L)) := by
          show _ = _
          rw [hd.out, hst.out, if_neg (fun c => hgt (by have := c.1; rw [hXsH.out] at this; exact this))]
        go_wp2_with fail
        go_roundw
        case rel => exact ⟨j + 1, L, K, by omega, hL, hst2, rfl, rfl, by go_num, trivial⟩
        case measure => simp [intOf]; omega
    · obtain rfl : j = 39 := by omega
      have hRe : R = (K, L) := by rw [hd.out, opGo_fin (Nat.le_refl 39)]
      subst hRe
      go_wp2_with fail
      go_ret2
      exact ⟨rfl, rfl⟩
end Go.Proofs.YtdajhcammnlonaaDoor
