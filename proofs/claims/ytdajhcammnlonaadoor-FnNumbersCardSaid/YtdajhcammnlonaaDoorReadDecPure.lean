/- Reading decimal numbers, both ways, as plain data, and that the two agree. No program is in sight here. -/
import Derived.Test.YtdajhcammnlonaaDoorMem
import Derived.Lib.ItoaNum
import Derived.Lib.AtoiAllCases
import Derived.Lib.Strings
namespace Go.Proofs.YtdajhcammnlonaaDoor
open Go.RowKit
set_option linter.unusedVariables false

theorem dd_small {u : Nat} (h : u < 10) : Lib.decDigits u = [UInt8.ofNat (48 + u)] := by rw [Lib.decDigits, dif_pos h]
theorem dd_big {u : Nat} (h : ¬ u < 10) : Lib.decDigits u = Lib.decDigits (u / 10) ++ [UInt8.ofNat (48 + u % 10)] := by rw [Lib.decDigits, dif_neg h]
theorem dig_toNat (d : Nat) (h : d < 10) : (UInt8.ofNat (48 + d)).toNat = 48 + d := by
  rw [UInt8.toNat_ofNat']
  omega
theorem dd_ind {P : Nat → List UInt8 → Prop} (h1 : ∀ u, u < 10 → P u [UInt8.ofNat (48 + u)]) (h2 : ∀ u l, ¬ u < 10 → P (u / 10) l → P u (l ++ [UInt8.ofNat (48 + u % 10)])) : ∀ u, P u (Lib.decDigits u) := by
  intro u
  induction u using Nat.strongRecOn with
  | _ u ih =>
    by_cases h : u < 10
    · rw [dd_small h]; exact h1 u h
    · rw [dd_big h]; exact h2 u _ h (ih (u / 10) (by omega))
theorem dd_ne (u : Nat) : Lib.decDigits u ≠ [] := dd_ind (P := fun _ l => l ≠ []) (fun u _ => by simp) (fun u l _ _ => by simp) u
theorem dd_all (u : Nat) : ∀ c ∈ Lib.decDigits u, 48 ≤ c.toNat ∧ c.toNat ≤ 57 := by
  refine dd_ind (P := fun _ l => ∀ c ∈ l, 48 ≤ c.toNat ∧ c.toNat ≤ 57) (fun u h c hc => ?_) (fun u l h ih c hc => ?_) u
  · obtain rfl := List.mem_singleton.1 hc
    rw [dig_toNat u h]; omega
  · rcases List.mem_append.1 hc with hc | hc
    · exact ih c hc
    · obtain rfl := List.mem_singleton.1 hc
      rw [dig_toNat (u % 10) (by omega)]; omega
theorem dd_lt (u : Nat) : u < 10 ^ (Lib.decDigits u).length := by
  refine dd_ind (P := fun u l => u < 10 ^ l.length) (fun u h => by simpa using h) (fun u l h ih => ?_) u
  rw [List.length_append, List.length_singleton, Nat.pow_succ]
  omega
theorem dd_len (u : Nat) : ∀ k, u < 10 ^ (k + 1) → (Lib.decDigits u).length ≤ k + 1 := by
  refine dd_ind (P := fun u l => ∀ k, u < 10 ^ (k + 1) → l.length ≤ k + 1) (fun u h k _ => by simp) (fun u l h ih k hk => ?_) u
  rw [List.length_append, List.length_singleton]
  cases k with
  | zero => simp at hk; omega
  | succ k =>
    have := ih k (by rw [Nat.pow_succ] at hk; omega)
    omega
/-- what the reference gathers: the digits' number, and how many digits -/
def digStep (a : Nat × Nat) (c : UInt8) : Nat × Nat := if 48 ≤ c.toNat ∧ c.toNat ≤ 57 then (a.1 * 10 + (c.toNat - 48), a.2 + 1) else a
def digScan (l : List UInt8) : Nat × Nat := l.foldl digStep (0, 0)
theorem digScan_snoc (l : List UInt8) (c : UInt8) : digScan (l ++ [c]) = digStep (digScan l) c := by simp [digScan]
theorem digScan_dd (u : Nat) : digScan (Lib.decDigits u) = (u, (Lib.decDigits u).length) := by
  refine dd_ind (P := fun u l => digScan l = (u, l.length)) (fun u h => ?_) (fun u l h ih => ?_) u
  · simp only [digScan, List.foldl_cons, List.foldl_nil, digStep, dig_toNat u h]
    rw [if_pos (by omega)]
    simp
  · rw [digScan_snoc, ih, digStep, dig_toNat _ (by omega), if_pos (by omega)]
    simp
    omega
theorem digScan_le (l : List UInt8) : (digScan l).1 < 10 ^ (digScan l).2 ∧ (digScan l).2 ≤ l.length := by
  have e : ∀ (r : List UInt8), (digScan r.reverse).1 < 10 ^ (digScan r.reverse).2 ∧ (digScan r.reverse).2 ≤ r.length := by
    intro r
    induction r with
    | nil => simp [digScan]
    | cons c r ih =>
      rw [List.reverse_cons, digScan_snoc]
      unfold digStep
      split
      · simp only [List.length_cons]
        rw [Nat.pow_succ]
        omega
      · simp only [List.length_cons]; omega
  have := e l.reverse
  simpa using this
/-- what the reference finds -/
def numOf (l : List UInt8) : Int := if l.head? = some 45 then -((digScan (l.take 11)).1 : Int) else ((digScan (l.take 11)).1 : Int)
def readDecOk (l : List UInt8) : Bool := decide ((digScan (l.take 11)).2 ≤ 9) && decide (l.length ≤ 10) && (Lib.itoa (numOf l) == l)
def readDec (l : List UInt8) : Int × Bool := if readDecOk l then (numOf l, true) else (0, false)
def smallI (n : Int) : Prop := -1000000000 < n ∧ n < 1000000000
theorem numOf_bound (l : List UInt8) : -100000000000 < numOf l ∧ numOf l < 100000000000 := by
  have h := digScan_le (l.take 11)
  have h2 : (l.take 11).length ≤ 11 := List.length_take_le _ _
  have h3 : (10 : Nat) ^ (digScan (l.take 11)).2 ≤ 10 ^ 11 := Nat.pow_le_pow_right (by omega) (by omega)
  unfold numOf
  split <;> omega
theorem itoa_len {n : Int} (h : smallI n) : (Lib.itoa n).length ≤ 10 := by
  unfold Lib.itoa
  obtain ⟨h1, h2⟩ := h
  split
  · have := dd_len n.natAbs 8 (by omega)
    simp; omega
  · have := dd_len n.toNat 8 (by omega)
    omega
theorem first_dig (u : Nat) : ∃ c r, Lib.decDigits u = c :: r ∧ 48 ≤ c.toNat ∧ c.toNat ≤ 57 := by
  cases h : Lib.decDigits u with
  | nil => exact absurd h (dd_ne u)
  | cons c r => exact ⟨c, r, rfl, dd_all u c (by rw [h]; simp)⟩
theorem readDec_yes {n : Int} (h : smallI n) : readDec (Lib.itoa n) = (n, true) := by
  have hl := itoa_len h
  have ht : (Lib.itoa n).take 11 = Lib.itoa n := List.take_of_length_le (by omega)
  have key : digScan (Lib.itoa n) = (n.natAbs, (Lib.decDigits n.natAbs).length) ∧ numOf (Lib.itoa n) = n := by
    unfold numOf
    rw [ht]
    unfold Lib.itoa
    by_cases hn : n < 0
    · rw [if_pos hn]
      have e : digScan (45 :: Lib.decDigits n.natAbs) = digScan (Lib.decDigits n.natAbs) := by
        unfold digScan
        rw [List.foldl_cons]
        rfl
      rw [e, digScan_dd]
      refine ⟨rfl, ?_⟩
      rw [List.head?_cons, if_pos rfl]
      show -((n.natAbs : Nat) : Int) = n
      omega
    · rw [if_neg hn]
      obtain ⟨c, r, e, h1, h2⟩ := first_dig n.toNat
      have en : n.toNat = n.natAbs := by omega
      rw [digScan_dd, en]
      refine ⟨rfl, ?_⟩
      rw [← en, e, List.head?_cons, if_neg (by intro q; have := Option.some.inj q; subst this; simp at h1)]
      show ((n.toNat : Nat) : Int) = n
      omega
  have hk : (Lib.decDigits n.natAbs).length ≤ 9 := dd_len n.natAbs 8 (by unfold smallI at h; omega)
  have hok : readDecOk (Lib.itoa n) = true := by
    unfold readDecOk
    rw [key.2, ht, key.1]
    simp
    omega
  unfold readDec
  rw [if_pos hok, key.2]
theorem readDec_no {l : List UInt8} (h : ∀ n, smallI n → Lib.itoa n ≠ l) : readDec l = (0, false) := by
  unfold readDec
  by_cases hk : readDecOk l = true
  · exfalso
    unfold readDecOk at hk
    simp only [Bool.and_eq_true, decide_eq_true_eq, beq_iff_eq] at hk
    refine h (numOf l) ?_ hk.2
    have h1 := digScan_le (l.take 11)
    have h3 : (10 : Nat) ^ (digScan (l.take 11)).2 ≤ 10 ^ 9 := Nat.pow_le_pow_right (by omega) hk.1.1
    unfold smallI numOf
    split <;> omega
  · rw [if_neg hk]
/-- what the program finds -/
def trimLen (l : List UInt8) : Nat := (Lib.trimPrefix l [45]).length
def readDecI (l : List UInt8) : Int × Bool := match Lib.atoiAll l with
  | .ok v => if Lib.itoa v = l ∧ trimLen l ≤ 9 then (v, true) else (0, false)
  | _ => (0, false)
theorem pu_snoc (c : UInt8) : ∀ (l : List UInt8) (acc v : Nat), Lib.parseUint10 acc l = .ok v → Lib.parseUint10 acc (l ++ [c]) = Lib.parseUint10 v [c]
  | [], acc, v, h => by
    rw [Lib.parseUint10] at h
    injection h with h
    subst h
    rfl
  | d :: r, acc, v, h => by
    rw [List.cons_append, Lib.parseUint10]
    rw [Lib.parseUint10] at h
    split at h
    · rename_i h1
      rw [if_pos h1]
      split at h
      · cases h
      · rename_i h2
        rw [if_neg h2]
        split at h
        · cases h
        · rename_i h3
          rw [if_neg h3]
          exact pu_snoc c r _ v h
    · cases h
theorem pu_dd (u : Nat) : u < 1000000000000 → Lib.parseUint10 0 (Lib.decDigits u) = .ok u := by
  refine dd_ind (P := fun u l => u < 1000000000000 → Lib.parseUint10 0 l = .ok u) (fun u h _ => ?_) (fun u l h ih hu => ?_) u
  · rw [Lib.parseUint10, dig_toNat u h, if_pos (by omega), if_neg (by omega), if_neg (by omega), Lib.parseUint10]
    congr 1
    omega
  · rw [pu_snoc _ _ _ _ (ih (by omega)), Lib.parseUint10, dig_toNat _ (by omega), if_pos (by omega), if_neg (by omega), if_neg (by omega), Lib.parseUint10]
    congr 1
    omega
theorem trim_minus (l : List UInt8) : trimLen (45 :: l) = l.length := by
  simp [trimLen, Lib.trimPrefix, Lib.hasPrefix, List.isPrefixOf]
theorem trim_other (c : UInt8) (l : List UInt8) (h : c ≠ 45) : trimLen (c :: l) = l.length + 1 := by
  have e : ((45 : UInt8) == c) = false := by
    rw [beq_eq_false_iff_ne]
    exact fun q => h q.symm
  simp [trimLen, Lib.trimPrefix, Lib.hasPrefix, List.isPrefixOf, e]
theorem readDecI_yes {n : Int} (h : smallI n) : readDecI (Lib.itoa n) = (n, true) := by
  have hk : (Lib.decDigits n.natAbs).length ≤ 9 := dd_len n.natAbs 8 (by unfold smallI at h; omega)
  have hp := pu_dd n.natAbs (by unfold smallI at h; omega)
  have key : Lib.atoiAll (Lib.itoa n) = .ok n ∧ trimLen (Lib.itoa n) ≤ 9 := by
    unfold Lib.itoa
    by_cases hn : n < 0
    · rw [if_pos hn]
      refine ⟨?_, by rw [trim_minus]; exact hk⟩
      rw [Lib.atoiAll_minus, Lib.parseMag, if_neg (dd_ne _), hp]
      unfold smallI at h
      show (if 9223372036854775808 < n.natAbs then _ else _) = _
      rw [if_neg (by omega)]
      congr 1
      omega
    · rw [if_neg hn]
      obtain ⟨c, r, e, h1, h2⟩ := first_dig n.toNat
      have en : n.toNat = n.natAbs := by omega
      rw [en] at e ⊢
      refine ⟨?_, ?_⟩
      · rw [e, Lib.atoiAll_plain c r (by omega) (by omega), ← e, Lib.parseMag, if_neg (dd_ne _), hp]
        unfold smallI at h
        show (if 9223372036854775808 ≤ n.natAbs then _ else _) = _
        rw [if_neg (by omega)]
        congr 1
        omega
      · rw [e] at hk ⊢
        rw [trim_other c r (by intro q; subst q; simp at h1)]
        simpa using hk
  unfold readDecI
  rw [key.1]
  exact if_pos ⟨rfl, key.2⟩
theorem readDecI_no {l : List UInt8} (h : ∀ n, smallI n → Lib.itoa n ≠ l) : readDecI l = (0, false) := by
  unfold readDecI
  split
  · rename_i v hv
    rw [if_neg]
    rintro ⟨h1, h2⟩
    refine h v ?_ h1
    subst h1
    unfold Lib.itoa at h2
    unfold smallI
    by_cases hn : v < 0
    · rw [if_pos hn, trim_minus] at h2
      have := dd_lt v.natAbs
      have h3 : (10 : Nat) ^ (Lib.decDigits v.natAbs).length ≤ 10 ^ 9 := Nat.pow_le_pow_right (by omega) h2
      omega
    · rw [if_neg hn] at h2
      obtain ⟨c, r, e, h4, h5⟩ := first_dig v.toNat
      have := dd_lt v.toNat
      rw [e] at h2 this
      rw [trim_other c r (by intro q; subst q; simp at h4)] at h2
      have h3 : (10 : Nat) ^ (c :: r).length ≤ 10 ^ 9 := Nat.pow_le_pow_right (by omega) (by simpa using h2)
      omega
  · rfl
theorem readDec_eq (l : List UInt8) : readDecI l = readDec l := by
  by_cases h : ∃ n, smallI n ∧ Lib.itoa n = l
  · obtain ⟨n, h1, rfl⟩ := h
    rw [readDecI_yes h1, readDec_yes h1]
  · have h' : ∀ n, smallI n → Lib.itoa n ≠ l := fun n h1 h2 => h ⟨n, h1, h2⟩
    rw [readDecI_no h', readDec_no h']
end Go.Proofs.YtdajhcammnlonaaDoor
