/- The numbers that a draw mixes in: a state of 64 bits, its next one, and that every state leads to every other. No program is in sight here. -/
import Derived.Test.YtlabmboedjnpmaaPure
namespace Go.Proofs.Ytlabmboedjnpmaa
open Go.RowKit
set_option linter.unusedVariables false

def lcgN (n : Nat) : Nat := (n * 6364136223846793005 + 1442695040888963407) % 18446744073709551616
def iterF (f : Nat → Nat) : Nat → Nat → Nat
  | 0, n => n
  | k + 1, n => iterF f k (f n)
theorem iterF_zero (f : Nat → Nat) (n : Nat) : iterF f 0 n = n := rfl
theorem iterF_succ (f : Nat → Nat) (k n : Nat) : iterF f (k + 1) n = iterF f k (f n) := rfl
def iterN (k n : Nat) : Nat := iterF lcgN k n
def mS : Nat := 18446744073709551616
theorem iterN_zero (n : Nat) : iterN 0 n = n := iterF_zero lcgN n
theorem iterN_succ (k n : Nat) : iterN (k + 1) n = iterN k (lcgN n) := iterF_succ lcgN k n
theorem lcgN_lt (n : Nat) : lcgN n < mS := by unfold lcgN mS; exact Nat.mod_lt _ (by omega)
theorem iterN_lt (k : Nat) : ∀ n : Nat, n < mS → iterN k n < mS := by
  induction k with
  | zero => intro n h; rw [iterN_zero]; exact h
  | succ k ih => intro n h; rw [iterN_succ]; exact ih _ (lcgN_lt n)
theorem iterN_add (a : Nat) : ∀ b n : Nat, iterN (a + b) n = iterN b (iterN a n) := by
  induction a with
  | zero => intro b n; rw [Nat.zero_add, iterN_zero]
  | succ a ih => intro b n; rw [Nat.add_right_comm, iterN_succ, iterN_succ]; exact ih b (lcgN n)
/-- what 2^k steps do: a factor and a term -/
def acL : List (Nat × Nat) := [(6364136223846793005, 1442695040888963407), (7520897724310334953, 1876011003808476466), (18108194425815612945, 7401132627792533940), (13086856194709077281, 6566661184467396264), (10186629832379121217, 3646985772805368400), (10828933358287359105, 982119659650238624), (4910590176156014849, 10607473198416945472), (9908147928152388097, 6914523672464851584), (146241703003251713, 4689171378020353280), (7321387688379467777, 8103286608563669504), (12255457568021647361, 7710372194127975424), (9867978473775767553, 16043993925053589504), (5088048636545613825, 1993901509916512256), (2150478223927705601, 13175896319671181312), (9196835419631190017, 1993366741509554176), (5957860013156466689, 7241871532530761728), (10389140232424652801, 9829074100562493440), (13023643825678581761, 7211655632440131584), (288945459443007489, 14014807304630960128), (13413133364217511937, 15586959662575517696), (8991946233350193153, 5614651135149211648), (1986842707489718273, 10449321915693662208), (13772462672974970881, 17778722412968280064), (11399802156803424257, 4631015078550831104), (13559343778149433345, 14683519683525607424), (8604389488178757633, 14159509325327892480), (16938562998715285505, 4382386631181598720), (14349518013152100353, 5251965553014210560), (5928836310318972929, 14899444342342025216), (13010594125244792833, 10487453482519363584), (12186130195207421953, 17516142451218186240), (5925516316705292289, 2750482773444657152), (11851032633410584577, 5500965546889314304), (5255321193111617537, 11001931093778628608), (10510642386223235073, 3557118113847705600), (2574540698736918529, 7114236227695411200), (5149081397473837057, 14228472455390822400), (10298162794947674113, 10010200837072093184), (2149581516185796609, 1573657600434634752), (4299163032371593217, 3147315200869269504), (8598326064743186433, 6294630401738539008), (17196652129486372865, 12589260803477078016), (15946560185263194113, 6731777533244604416), (13446376296816836609, 13463555066489208832), (8446008519924121601, 8480366059268866048), (16892017039848243201, 16960732118537732096), (15337290005986934785, 15474720163365912576), (12227835938264317953, 12502696253022273536), (6008927802819084289, 6558648432334995456), (12017855605638168577, 13117296864669990912), (5588967137566785537, 7787849655630430208), (11177934275133571073, 15575699311260860416), (3909124476557590529, 12704654548812169216), (7818248953115181057, 6962565023914786816), (15636497906230362113, 13925130047829573632), (12826251738751172609, 9403516021949595648), (7205759403792793601, 360287970189639680), (14411518807585587201, 720575940379279360), (10376293541461622785, 1441151880758558720), (2305843009213693953, 2882303761517117440), (4611686018427387905, 5764607523034234880), (9223372036854775809, 11529215046068469760), (1, 4611686018427387904), (1, 9223372036854775808)]
def acN (k : Nat) : Nat × Nat := acL.getD k (0, 0)
theorem ac_step : ∀ k, k < 63 → acN (k + 1) = ((acN k).1 * (acN k).1 % 18446744073709551616, ((acN k).1 + 1) * (acN k).2 % 18446744073709551616) := by decide +kernel
theorem aff_two (a c x M : Nat) : (a * ((a * x + c) % M) + c) % M = ((a * a % M) * x + ((a + 1) * c % M)) % M := by
  have e1 : (a * ((a * x + c) % M) + c) % M = (a * (a * x + c) + c) % M := by
    rw [Nat.add_mod, Nat.mul_mod, Nat.mod_mod, ← Nat.mul_mod, ← Nat.add_mod]
  have e2 : ((a * a % M) * x + ((a + 1) * c % M)) % M = (a * a * x + (a + 1) * c) % M := by
    rw [Nat.add_mod, Nat.mul_mod, Nat.mod_mod, ← Nat.mul_mod, Nat.mod_mod, ← Nat.add_mod]
  rw [e1, e2]
  congr 1
  rw [Nat.mul_add, Nat.add_mul, Nat.one_mul, Nat.mul_assoc, Nat.add_assoc]
theorem iter_pow (k : Nat) : ∀ x : Nat, k < 64 → iterN (2 ^ k) x = ((acN k).1 * x + (acN k).2) % mS := by
  induction k with
  | zero =>
    intro x _
    have e1 : (acN 0).1 = 6364136223846793005 := by decide
    have e2 : (acN 0).2 = 1442695040888963407 := by decide
    rw [e1, e2, Nat.pow_zero, show (1 : Nat) = 0 + 1 from rfl, iterN_succ, iterN_zero]
    unfold lcgN mS
    rw [Nat.mul_comm x]
  | succ k ih =>
    intro x h
    have e := ac_step k (by omega)
    have e1 : (acN (k + 1)).1 = (acN k).1 * (acN k).1 % mS := by rw [e]; rfl
    have e2 : (acN (k + 1)).2 = ((acN k).1 + 1) * (acN k).2 % mS := by rw [e]; rfl
    rw [Nat.pow_succ, Nat.mul_two, iterN_add, ih _ (by omega), ih _ (by omega), aff_two, e1, e2]
theorem ac_facts : ∀ k, k < 64 → (acN k).1 % 2 ^ (k + 1) = 1 ∧ (acN k).2 % 2 ^ (k + 1) = 2 ^ k := by decide +kernel
theorem mS_pow : mS = 2 ^ 64 := by decide
theorem pow_dvd64 {k : Nat} (h : k ≤ 64) : 2 ^ k ∣ mS := by rw [mS_pow]; exact Nat.pow_dvd_pow 2 h
theorem step_pow {k : Nat} (h : k < 64) (x : Nat) : iterN (2 ^ k) x % 2 ^ (k + 1) = (x + 2 ^ k) % 2 ^ (k + 1) := by
  obtain ⟨h1, h2⟩ := ac_facts k h
  rw [iter_pow k x h, Nat.mod_mod_of_dvd _ (pow_dvd64 (show k + 1 ≤ 64 by omega)), Nat.add_mod, Nat.mul_mod, h1, h2, Nat.one_mul, Nat.mod_mod]
  conv => rhs; rw [Nat.add_mod]
  congr 1
  rw [Nat.mod_eq_of_lt (show 2 ^ k < 2 ^ (k + 1) by rw [Nat.pow_succ]; have := Nat.pow_pos (n := k) (show 0 < 2 by omega); omega)]
theorem next_bit (x t p : Nat) (hp : 0 < p) (h : x % p = t % p) : x % (p * 2) = t % (p * 2) ∨ (x + p) % (p * 2) = t % (p * 2) := by
  have ex : x % (p * 2) = x % p + p * (x / p % 2) := Nat.mod_mul
  have et : t % (p * 2) = t % p + p * (t / p % 2) := Nat.mod_mul
  have ey : (x + p) % (p * 2) = (x + p) % p + p * ((x + p) / p % 2) := Nat.mod_mul
  rw [Nat.add_mod_right, Nat.add_div_right _ hp] at ey
  rw [ex, et, ey, h]
  rcases Nat.mod_two_eq_zero_or_one (x / p) with a | a <;> rcases Nat.mod_two_eq_zero_or_one (t / p) with b | b
  · left; rw [a, b]
  · right; rw [b, show (x / p).succ % 2 = 1 by omega]
  · right; rw [b, show (x / p).succ % 2 = 0 by omega]
  · left; rw [a, b]
theorem lcg_reach_mod (x t k : Nat) : k ≤ 64 → ∃ n, iterN n x % 2 ^ k = t % 2 ^ k := by
  induction k with
  | zero => intro _; exact ⟨0, by rw [Nat.pow_zero, Nat.mod_one, Nat.mod_one]⟩
  | succ k ih =>
    intro h
    obtain ⟨n, hn⟩ := ih (by omega)
    rcases next_bit (iterN n x) t (2 ^ k) (Nat.pow_pos (show 0 < 2 by omega)) hn with h1 | h1
    · exact ⟨n, by rw [Nat.pow_succ]; exact h1⟩
    · exact ⟨n + 2 ^ k, by rw [iterN_add, step_pow (by omega), Nat.pow_succ]; exact h1⟩
theorem lcg_reach (x t : Nat) (hx : x < mS) (ht : t < mS) : ∃ n, iterN n x = t := by
  obtain ⟨n, hn⟩ := lcg_reach_mod x t 64 (Nat.le_refl _)
  refine ⟨n, ?_⟩
  have h1 := iterN_lt n x hx
  rw [mS_pow] at h1 ht
  rw [Nat.mod_eq_of_lt h1, Nat.mod_eq_of_lt ht] at hn
  exact hn

/-- the byte of a state -/
def byteN (n : Nat) : Nat := (n / 8589934592 ^^^ n / 35184372088832) % 256
theorem byteN_lt (n : Nat) : byteN n < 256 := Nat.mod_lt _ (by omega)
theorem ofInt_wrap (x : Int) : BitVec.ofInt 64 (IntKind.i64.wrap x) = BitVec.ofInt 64 x := by
  apply BitVec.eq_of_toNat_eq
  simp only [BitVec.toNat_ofInt]
  congr 1
  unfold IntKind.wrap
  simp [IntKind.bits, IntKind.signed]
  try omega
end Go.Proofs.Ytlabmboedjnpmaa
