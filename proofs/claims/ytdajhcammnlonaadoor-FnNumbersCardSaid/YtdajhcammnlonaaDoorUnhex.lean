/- What Unhex returns, the reference's and the program's. -/
import Derived.Test.YtdajhcammnlonaaDoorHex
import Derived.Deep.QuietTactic
import Derived.BigQuiet
namespace Go.Proofs.YtdajhcammnlonaaDoor
open Go.RowKit
set_option linter.unusedVariables false
theorem ixb_run (s : ByteArray) (c : Int) (w : World) : (callFunc 137 #[.string s, .int .u8 c]).run Tryd.prog w = .ok (.value (.int .i64 (firstIdx s c.toNat.toUInt8))) w := by
  rw [run_callFunc_extern (P := Tryd.prog) (e := Extern.BytealgIndexByte.indexByte) Tryd.func137 (by kernel_rfl) (by kernel_rfl) (by kernel_rfl) (by kernel_rfl), run_indexByte_string]
  rfl
set_option maxRecDepth 100000 in
theorem ixb (s : ByteArray) (c : Int) (w : World) : Calls Tryd.prog 95 #[.string s, .int .u8 c] w fun e w' => e = .returned (.int .i64 (firstIdx s c.toNat.toUInt8)) ∧ w' = w := by
  have hx := ixb_run
  go_enter Tryd.func95, Tryd.ntmps95
  go_wp2
  go_ret
  exact ⟨rfl, rfl⟩

def hexText : ByteArray := { data := #[48, 49, 50, 51, 52, 53, 54, 55, 56, 57, 97, 98, 99, 100, 101, 102] }
theorem ix_dig (b : Nat) (h : b < 256) : firstIdx hexText (b : Int).toNat.toUInt8 = unDigN b := by
  have g : ∀ n : Fin 256, firstIdx hexText ((n.val : Nat) : Int).toNat.toUInt8 = unDigN n.val := by decide +kernel
  exact g ⟨b, h⟩
theorem ixb_dig (b : Nat) (h : b < 256) (w : World) : Calls Tryd.prog 95 #[.string { data := #[48, 49, 50, 51, 52, 53, 54, 55, 56, 57, 97, 98, 99, 100, 101, 102] }, .int .u8 (b : Int)] w fun e w' => e = .returned (.int .i64 (unDigN b)) ∧ w' = w := by
  have := ixb hexText b w
  rw [ix_dig b h] at this
  exact this
theorem dig_yes (b : Nat) (h : b < 256) (k : Nat) (hk : k < 16) (e : ((hexDig k).toNat : Int) = b) : unDigN b = k := by
  have g : ∀ n : Fin 256, ∀ k : Fin 16, (hexDig k.val).toNat = n.val → unDigN n.val = k.val := by decide +kernel
  exact g ⟨b, h⟩ ⟨k, hk⟩ (by have := e; simp only; omega)
theorem dig_no (b : Nat) (h : b < 256) (e : ∀ k, k < 16 → ((hexDig k).toNat : Int) ≠ b) : unDigN b = -1 := by
  have g : ∀ n : Fin 256, (∀ k : Fin 16, (hexDig k.val).toNat ≠ n.val) → unDigN n.val = -1 := by decide +kernel
  exact g ⟨b, h⟩ (fun k hk => e k.val k.isLt (by have := hk; simp only at this; omega))

def UnAt (s : ByteArray) (m : Nat) (l : List UInt8) : Prop := unhexL s.data.toList = (unhexL (s.data.toList.drop (2 * m))).map (l ++ ·)
theorem UnAt.start (s : ByteArray) : UnAt s 0 [] := by
  unfold UnAt
  simp only [Nat.mul_zero, List.drop_zero, List.nil_append]
  cases unhexL s.data.toList <;> rfl
theorem UnAt.two {s : ByteArray} {m : Nat} (h : 2 * m + 1 < s.size) : s.data.toList.drop (2 * m) = s[2 * m] :: s[2 * m + 1] :: s.data.toList.drop (2 * (m + 1)) := by
  have hl : s.data.toList.length = s.size := by simp
  rw [List.drop_eq_getElem_cons (by omega), List.drop_eq_getElem_cons (by omega)]
  rfl
theorem UnAt.bad {s : ByteArray} {m : Nat} {l : List UInt8} (h : UnAt s m l) (hm : 2 * m + 1 < s.size) (hb : unDigN s[2 * m].toNat < 0 ∨ unDigN s[2 * m + 1].toNat < 0) : unhexB s = (⟨#[]⟩, false) := by
  unfold UnAt at h
  rw [UnAt.two hm, unhexL, if_pos hb] at h
  rw [unhexB, h]
  rfl
theorem UnAt.next {s : ByteArray} {m : Nat} {l : List UInt8} (h : UnAt s m l) (hm : 2 * m + 1 < s.size) (hb : ¬ (unDigN s[2 * m].toNat < 0 ∨ unDigN s[2 * m + 1].toNat < 0)) : UnAt s (m + 1) (l ++ [UInt8.ofNat (16 * unDigN s[2 * m].toNat + unDigN s[2 * m + 1].toNat).toNat]) := by
  unfold UnAt at h ⊢
  rw [UnAt.two hm, unhexL, if_neg hb] at h
  rw [h]
  cases unhexL (s.data.toList.drop (2 * (m + 1))) with
  | none => rfl
  | some r => simp
theorem UnAt.done {s : ByteArray} {m : Nat} {l : List UInt8} (h : UnAt s m l) (hm : 2 * m = s.size) : unhexB s = (⟨l.toArray⟩, true) := by
  unfold UnAt at h
  rw [List.drop_of_length_le (by have hl : s.data.toList.length = s.size := by simp
                                 omega)] at h
  have e : unhexL s.data.toList = some l := by rw [h]; simp [unhexL]
  rw [unhexB, e]
theorem unhexB_odd {s : ByteArray} (h : s.size % 2 = 1) : unhexB s = (⟨#[]⟩, false) := by
  have hl : s.data.toList.length = s.size := by simp
  have e : unhexL s.data.toList = none := unhexL_odd s.size _ (by omega) (by omega)
  rw [unhexB, e]
theorem ret2_sb {a b : ByteArray} {x y : Bool} (h : a = b) (h2 : x = y) : Ending.returned (.tuple #[.string a, .bool x]) = .returned (.tuple #[.string b, .bool y]) := by rw [h, h2]
theorem u8_ofz (z : Int) (h0 : 0 ≤ z) (h : z < 256) : z = ((UInt8.ofNat z.toNat).toNat : Int) := by
  rw [UInt8.toNat_ofNat']
  omega
set_option maxRecDepth 100000 in
set_option maxHeartbeats 1000000 in
theorem i_unhex (s : ByteArray) (w : World) (hs : s.size ≤ 16777216) : Calls Tryd.prog 40 #[.string s] w fun e w' => e = .returned (.tuple #[.string (unhexB s).1, .bool (unhexB s).2]) ∧ Below w.heap.size w w' := by
  by_cases hodd : s.size % 2 = 1
  · have hR := Lib.hid (unhexB_odd hodd)
    have ho : ((s.size : Int) % 2 == 1) = true := by rw [beq_iff_eq]; omega
    clear hodd
    go_enter Tryd.func40, Tryd.ntmps40
    go_wp2
    go_ret2
    exact ⟨ret2_sb (by rw [hR.out]) (by rw [hR.out]), Below.refl _ _⟩
  · have ho : ((s.size : Int) % 2 == 1) = false := by rw [beq_eq_false_iff_ne]; omega
    have hev : Hid (s.size % 2 = 0) := by show s.size % 2 = 0; omega
    clear hodd
    go_enter Tryd.func40, Tryd.ntmps40
    go_wp2
    clear ho
    go_loopw [4, 5] (fun v i wr => ∃ (m : Nat) (l : List UInt8), (2 * m ≤ s.size) ∧ Hid (UnAt s m l ∧ l.length = m) ∧ OwnB wr w.heap.size v l ∧ i = .int .i64 ((2 * m : Nat) : Int) ∧ Below w.heap.size w wr) (fun _ i _ => (s.size - (intOf i).toNat))
    case atStart => exact ⟨0, [], by omega, ⟨UnAt.start s, rfl⟩, OwnB.start w (Nat.le_refl _), by go_num, (Below.refl _ _).alloc (Nat.le_refl _) _⟩
    case round =>
      rename_i v0 _
      obtain ⟨m, l, hm, hd, hown, rfl, hb⟩ := hrel
      obtain ⟨t, ht⟩ : ∃ t, 2 * m = t := ⟨_, rfl⟩
      by_cases hlt : t < s.size
      · have hlt2 : t + 1 < s.size := by have := hev.out; omega
        obtain ⟨x, hx⟩ : ∃ x : Nat, s[t].toNat = x := ⟨_, rfl⟩
        obtain ⟨y, hy⟩ : ∃ y : Nat, s[t + 1].toNat = y := ⟨_, rfl⟩
        have hx0 : x < 256 := by have := s[t].toNat_lt; omega
        have hy0 : y < 256 := by have := s[t + 1].toNat_lt; omega
        obtain ⟨p, hp⟩ : ∃ p, unDigN x = p := ⟨_, rfl⟩
        obtain ⟨q, hq⟩ : ∃ q, unDigN y = q := ⟨_, rfl⟩
        have hpb := unDigN_le x
        have hqb := unDigN_le y
        rw [hp] at hpb
        rw [hq] at hqb
        have hl : l.length ≤ 16777216 := by rw [hd.out.2]; omega
        by_cases hbad : p < 0 ∨ q < 0
        · have hR : Hid (unhexB s = (⟨#[]⟩, false)) := by
            subst ht
            exact hd.out.1.bad (by omega) (by rw [hx, hy, hp, hq]; exact hbad)
          rw [ht]
          clear ht
          go_wp2_with fail
          go_quiet ((go_at_call 95; exact Calls.quiet_of_same (ixb_dig _ (by omega) _)))
          have hown := (show OwnB (wr.drewN nq) w.heap.size u4 l from hown)
          have hb := below_drewN hb nq
          generalize wr.drewN nq = w2 at hown hb ⊢
          go_wp2
          all_goals
            go_ret2
            exact ⟨ret2_sb (by rw [hR.out]) (by rw [hR.out]), hb⟩
        · have hR : Hid (UnAt s (m + 1) (l ++ [UInt8.ofNat (16 * p + q).toNat])) := by
            subst ht
            have := hd.out.1.next (by omega) (by rw [hx, hy, hp, hq]; exact hbad)
            rwa [hx, hy, hp, hq] at this
          have ht2 : Hid (t + 2 = 2 * (m + 1)) := by show _ = _; omega
          have hz := Lib.hid (u8_ofz (16 * p + q) (by omega) (by omega))
          rw [ht]
          clear ht
          go_wp2_with fail
          go_quiet ((go_at_call 95; exact Calls.quiet_of_same (ixb_dig _ (by omega) _)))
          have hown := (show OwnB (wr.drewN nq) w.heap.size u4 l from hown)
          have hb := below_drewN hb nq
          generalize wr.drewN nq = w2 at hown hb ⊢
          all_goals
            go_wp2_with (at_builtin; refine app_bytes (by rfl) _ _ (by rfl) w.heap.size _ l (by rfl) (hown.alloc _) _ 1 1 [UInt8.ofNat (16 * p + q).toNat] (by rfl) rfl (one_newz _ _ _ hz.out _) (by omega) (by have := hb.size; simp; omega) ?_; intro v' w' hown' hb')
            go_roundw
            case rel => exact ⟨m + 1, _, by have := ht2.out; omega, ⟨hR.out, by simp [hd.out.2]⟩, hown', by rw [← ht2.out]; go_num, (hb.alloc hb.size _).trans hb'⟩
            case measure => simp [intOf]; omega
      · have hts : 2 * m = s.size := by omega
        have hR := Lib.hid (hd.out.1.done hts)
        have hcv := conv_own hown
        rw [ht]
        clear ht hts
        go_wp2
        go_ret2
        exact ⟨ret2_sb (by rw [hR.out]) (by rw [hR.out]), hb⟩
end Go.Proofs.YtdajhcammnlonaaDoor
