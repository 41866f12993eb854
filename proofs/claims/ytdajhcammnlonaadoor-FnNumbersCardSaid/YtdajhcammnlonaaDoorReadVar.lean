/- What ReadVar returns, the reference's and the program's. -/
import Derived.Test.YtdajhcammnlonaaDoorVar
import Derived.Test.YtdajhcammnlonaaDoorReadVarPure
import Derived.Deep.QuietTactic
import Derived.BigQuiet
import Derived.Deep.RegionHeld3
import Derived.WalkSpells
import Derived.Lib.Strings
namespace Go.Proofs.YtdajhcammnlonaaDoor
open Go.RowKit
set_option linter.unusedVariables false
theorem and127u (b : Nat) (h : b < 256) : bits .and .u8 (b : Int) 127 = (b : Int) % 128 := by
  have g : ∀ b : Fin 256, bits .and .u8 ((b.val : Nat) : Int) 127 = ((b.val : Nat) : Int) % 128 := by decide +kernel
  exact g ⟨b, h⟩
theorem or_shift (q b j : Nat) (hq : q < 128 ^ j) (hj : j ≤ 6) (hb : b < 256) : bits .or .i64 (q : Int) (wrap64 (wrap64 (bits .and .u8 (b : Int) 127) * 2 ^ (7 * j))) = ((q + 128 ^ j * (b % 128) : Nat) : Int) := by
  have h128 : 128 ^ j = 2 ^ (7 * j) := by rw [Nat.pow_mul]
  have hP : 2 ^ (7 * j) ≤ 2 ^ 42 := Nat.pow_le_pow_right (by omega) (by omega)
  have h42 : 2 ^ 42 = 4398046511104 := by decide
  rw [h128] at hq ⊢
  have hm : 2 ^ (7 * j) * (b % 128) ≤ 4398046511104 * 127 := Nat.mul_le_mul (by omega) (by omega)
  have e0 : (((b % 128 : Nat) : Int)) * 2 ^ (7 * j) = ((2 ^ (7 * j) * (b % 128) : Nat) : Int) := by
    rw [Int.natCast_mul, Int.natCast_pow, Int.mul_comm]; rfl
  have e1 : wrap64 (bits .and .u8 (b : Int) 127) = ((b % 128 : Nat) : Int) := by
    rw [and127u b hb]; exact IntWalk.wrap64_in _ (by omega)
  have e2 : wrap64 (((b % 128 : Nat) : Int) * 2 ^ (7 * j)) = ((2 ^ (7 * j) * (b % 128) : Nat) : Int) := by
    rw [e0]; exact IntWalk.wrap64_in _ (by omega)
  rw [e1, e2]
  obtain ⟨X, hX⟩ : ∃ X, 2 ^ (7 * j) * (b % 128) = X := ⟨_, rfl⟩
  have hor : q ||| X = q + X := by
    rw [← hX, Nat.or_comm, Nat.add_comm]
    exact (Nat.two_pow_add_eq_or_of_lt hq _).symm
  rw [hX]
  have f1 : (BitVec.ofInt 64 (q : Int)).toNat = q := by
    rw [BitVec.ofInt_natCast, BitVec.toNat_ofNat]; exact Nat.mod_eq_of_lt (by omega)
  have f2 : (BitVec.ofInt 64 (X : Int)).toNat = X := by
    rw [BitVec.ofInt_natCast, BitVec.toNat_ofNat]; exact Nat.mod_eq_of_lt (by omega)
  show IntKind.i64.wrap ((BitVec.ofInt 64 (q : Int) ||| BitVec.ofInt 64 (X : Int)).toNat : Int) = _
  rw [BitVec.toNat_or, f1, f2, hor]
  exact IntWalk.i64_in _ (by omega)
def RVat (s : ByteArray) (j q : Nat) : Prop := q = leVal ((bytes s).take j) ∧ (∀ c ∈ (bytes s).take j, 128 ≤ c.toNat) ∧ readVar s = rv s (j + 1)
theorem RVat.lt {s : ByteArray} {j q : Nat} (h : RVat s j q) (hj : j ≤ s.size) : q < 128 ^ j := by
  have := leVal_lt ((bytes s).take j)
  rw [List.length_take, bytes_length, Nat.min_eq_left hj] at this
  rw [h.1]; exact this
theorem RVat.val {s : ByteArray} {j q : Nat} (h : RVat s j q) (hj : j < s.size) : leVal ((bytes s).take (j + 1)) = q + 128 ^ j * (s[j].toNat % 128) := by
  rw [take_succ s j hj, leVal_append, ← h.1, List.length_take, bytes_length, Nat.min_eq_left (by omega)]
theorem RVat.next {s : ByteArray} {j q : Nat} (h : RVat s j q) (hj : j < s.size) (h7 : j < 7) (hb : 128 ≤ (s[j]).toNat) : RVat s (j + 1) (q + 128 ^ j * (s[j].toNat % 128)) := by
  refine ⟨(h.val hj).symm, ?_, ?_⟩
  · rw [take_succ s j hj]
    intro c hc
    rw [List.mem_append, List.mem_singleton] at hc
    rcases hc with hc | rfl
    · exact h.2.1 c hc
    · exact hb
  · rw [h.2.2]
    refine rv_no (by omega) (fun hp => ?_)
    rw [take_succ s j hj] at hp
    have := (proper_last _ _ hp).1
    omega
theorem RVat.found {s : ByteArray} {j q : Nat} (h : RVat s j q) (hj : j < s.size) (h7 : j < 7) (hb : (s[j]).toNat < 128) (h0 : j = 0 ∨ (s[j]).toNat ≠ 0) : readVar s = (((q + 128 ^ j * (s[j].toNat % 128) : Nat) : Int), ((j + 1 : Nat) : Int)) := by
  rw [h.2.2, rv_yes (by omega), h.val hj]
  rw [take_succ s j hj]
  refine proper_of _ _ h.2.1 hb ?_
  rcases h0 with h0 | h0
  · subst h0; exact .inl rfl
  · exact .inr h0
theorem RVat.dead {s : ByteArray} {j q : Nat} (h : RVat s j q) (hj : j < s.size) (h7 : j < 7) (h0 : 0 < j) (hb : (s[j]).toNat = 0) : readVar s = (0, 0) := by
  rw [h.2.2, rv_no (by omega)]
  · exact rv_dead s j hj (by omega) _ (by omega)
  · intro hp
    rw [take_succ s j hj] at hp
    have := (proper_last _ _ hp).2
    rcases this with h1 | h1
    · have hlen : ((bytes s).take j).length = j := by rw [List.length_take, bytes_length]; omega
      rw [h1] at hlen
      simp at hlen
      omega
    · omega
theorem RVat.end_ {s : ByteArray} {j q : Nat} (h : RVat s j q) (hj : ¬ (j < 7 ∧ j < s.size)) : readVar s = (0, 0) := by
  rw [h.2.2]; exact rv_out (by omega)
set_option maxRecDepth 100000 in
set_option maxHeartbeats 1000000 in
theorem i_readVar (s : ByteArray) (w : World) (hs : s.size ≤ 16777216) : Calls Tryd.prog 36 #[.string s] w fun e w' => e = .returned (.tuple #[.int .i64 (readVar s).1, .int .i64 (readVar s).2]) ∧ w = w' := by
  by_cases h7 : 7 < s.size
  all_goals
    go_enter Tryd.func36, Tryd.ntmps36
    go_wp2
    go_loop [4, 9] (fun x i => ∃ (j q : Nat), (j ≤ 7 ∧ j ≤ s.size) ∧ Hid (RVat s j q) ∧ x = .int .i64 q ∧ i = .int .i64 j) (fun _ i => (s.size - (intOf i).toNat))
    case atStart => exact ⟨0, 0, by omega, ⟨rfl, by simp, rfl⟩, rfl, by go_num⟩
    case round =>
      obtain ⟨j, q, hj, hd, rfl, rfl⟩ := hrel
      by_cases hlt : j < 7 ∧ j < s.size
      · obtain ⟨hlt7, hlts⟩ := hlt
        obtain ⟨b, h8⟩ : ∃ b : Nat, s[j].toNat = b := ⟨_, rfl⟩
        have hb0 : b < 256 := by have := s[j].toNat_lt; omega
        have hN := or_shift q b j (hd.out.lt hj.2) (by omega) hb0
        have h8' := Lib.hid h8
        obtain ⟨n, hn⟩ : ∃ n : Nat, q + 128 ^ j * (b % 128) = n := ⟨_, rfl⟩
        rw [hn] at hN
        have hn := Lib.hid hn
        by_cases hb : b < 128
        · by_cases hz : 0 < j ∧ b = 0
          · have hR := Lib.hid (hd.out.dead hlts hlt7 hz.1 (h8.trans hz.2))
            have h0j := hz.1
            have hbz : ((b : Int) == 0) = true := by rw [beq_iff_eq]; omega
            clear hz
            go_wp2
            go_ret2
            exact ⟨ret2_ii (by rw [hR.out]) (by rw [hR.out]), rfl⟩
          · have hR := Lib.hid (hd.out.found hlts hlt7 (by omega) (by omega))
            have hR1 : Hid ((n : Int) = (readVar s).1) := by show _ = _; rw [hR.out, h8'.out, hn.out]
            have hR2 : Hid ((j : Int) + 1 = (readVar s).2) := by show _ = _; rw [hR.out]; rfl
            by_cases hj0 : j = 0
            · subst hj0
              simp only [Nat.mul_zero, Int.pow_zero, Int.mul_one] at hN
              go_wp2
              go_ret2
              exact ⟨ret2_ii hR1.out hR2.out, rfl⟩
            · have h0j : 0 < j := by omega
              have hbz : ((b : Int) == 0) = false := by rw [beq_eq_false_iff_ne]; omega
              clear hz
              go_wp2
              go_ret2
              exact ⟨ret2_ii hR1.out hR2.out, rfl⟩
        · have hR : Hid (RVat s (j + 1) n) := by
            show RVat s (j + 1) n
            have := hd.out.next hlts hlt7 (by omega)
            rwa [h8'.out, hn.out] at this
          go_wp2
          go_round
          case rel => exact ⟨j + 1, n, by omega, hR, rfl, by go_num⟩
          case measure => simp [intOf]; omega
      · have hR := Lib.hid (hd.out.end_ hlt)
        go_wp2
        go_ret2
        exact ⟨ret2_ii (by rw [hR.out]) (by rw [hR.out]), rfl⟩
end Go.Proofs.YtdajhcammnlonaaDoor
