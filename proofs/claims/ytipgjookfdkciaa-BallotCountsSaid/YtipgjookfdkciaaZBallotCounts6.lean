/- Texts of this seat, one behind the other: what BallotCounts leans on. No condition beyond those that each names. -/
import Derived.Test.YtipgjookfdkciaaZBallotCounts5
import Derived.Test.YtipgjookfdkciaaRows
import Derived.ProofKit
import Derived.SizedLaws
import Derived.Lib.SmallJoins
import Derived.Deep.Slices
import Derived.Deep.Fields

/- Number theory from the ground: Fermat's little theorem, and two certificates of primality (Proth, Pocklington). No condition. -/
namespace Go.Proofs.Ytipgjookfdkciaa

def IsPrime (p : Nat) : Prop := 2 ≤ p ∧ ∀ d, d ∣ p → d = 1 ∨ d = p

theorem IsPrime.coprime_of_not_dvd {p a : Nat} (hp : IsPrime p) (h : ¬ p ∣ a) : Nat.Coprime p a := by
  rcases hp.2 (Nat.gcd p a) (Nat.gcd_dvd_left p a) with h1 | h1
  · exact h1
  · exact absurd (h1 ▸ Nat.gcd_dvd_right p a) h

theorem IsPrime.dvd_mul {p a b : Nat} (hp : IsPrime p) (h : p ∣ a * b) : p ∣ a ∨ p ∣ b := by
  by_cases ha : p ∣ a
  · exact Or.inl ha
  · exact Or.inr ((hp.coprime_of_not_dvd ha).dvd_of_dvd_mul_left h)

theorem exists_prime_dvd : ∀ n : Nat, 2 ≤ n → ∃ p, IsPrime p ∧ p ∣ n := by
  intro n
  induction n using Nat.strongRecOn with
  | ind n ih =>
    intro hn
    by_cases h : ∃ d, d ∣ n ∧ d ≠ 1 ∧ d ≠ n
    · obtain ⟨d, hd, h1, h2⟩ := h
      have hd0 : d ≠ 0 := by
        intro e; subst e; have := Nat.eq_zero_of_zero_dvd hd; omega
      have hle := Nat.le_of_dvd (by omega) hd
      obtain ⟨p, hp, hpd⟩ := ih d (by omega) (by omega)
      exact ⟨p, hp, Nat.dvd_trans hpd hd⟩
    · refine ⟨n, ⟨hn, fun d hd => ?_⟩, Nat.dvd_refl n⟩
      by_cases h1 : d = 1
      · exact Or.inl h1
      · by_cases h2 : d = n
        · exact Or.inr h2
        · exact absurd ⟨d, hd, h1, h2⟩ h

/-- The least factor is not above the root. -/
theorem exists_small_prime {n : Nat} (hn : 2 ≤ n) (h : ¬ IsPrime n) : ∃ p, IsPrime p ∧ p ∣ n ∧ p * p ≤ n := by
  have : ∃ d, d ∣ n ∧ d ≠ 1 ∧ d ≠ n := by
    apply Classical.byContradiction
    intro hc
    apply h
    refine ⟨hn, fun d hd => ?_⟩
    by_cases h1 : d = 1
    · exact Or.inl h1
    · by_cases h2 : d = n
      · exact Or.inr h2
      · exact absurd ⟨d, hd, h1, h2⟩ hc
  obtain ⟨d, ⟨c, hc⟩, h1, h2⟩ := this
  have hd0 : d ≠ 0 := by intro e; subst e; simp at hc; omega
  have hc0 : c ≠ 0 := by intro e; subst e; simp at hc; omega
  have hc1 : c ≠ 1 := by intro e; subst e; simp at hc; omega
  rcases Nat.le_total d c with hdc | hdc
  · obtain ⟨p, hp, hpd⟩ := exists_prime_dvd d (by omega)
    refine ⟨p, hp, Nat.dvd_trans hpd ⟨c, hc⟩, ?_⟩
    have := Nat.le_of_dvd (by omega) hpd
    calc p * p ≤ d * d := Nat.mul_le_mul this this
      _ ≤ d * c := Nat.mul_le_mul_left d hdc
      _ = n := hc.symm
  · obtain ⟨p, hp, hpd⟩ := exists_prime_dvd c (by omega)
    refine ⟨p, hp, Nat.dvd_trans hpd ⟨d, by rw [hc, Nat.mul_comm]⟩, ?_⟩
    have := Nat.le_of_dvd (by omega) hpd
    calc p * p ≤ c * c := Nat.mul_le_mul this this
      _ ≤ d * c := Nat.mul_le_mul_right c hdc
      _ = n := hc.symm

/-! Binomial numbers. -/
def choose : Nat → Nat → Nat
  | _, 0 => 1
  | 0, _ + 1 => 0
  | n + 1, k + 1 => choose n k + choose n (k + 1)

theorem choose_zero (n : Nat) : choose n 0 = 1 := by cases n <;> rfl
theorem choose_big : ∀ n k, n < k → choose n k = 0
  | 0, _ + 1, _ => rfl
  | n + 1, k + 1, h => by rw [choose, choose_big n k (by omega), choose_big n (k + 1) (by omega)]
theorem choose_self : ∀ n, choose n n = 1
  | 0 => rfl
  | n + 1 => by rw [choose, choose_self n, choose_big n (n + 1) (by omega)]
theorem choose_mul : ∀ n k, choose (n + 1) (k + 1) * (k + 1) = (n + 1) * choose n k
  | 0, 0 => rfl
  | 0, k + 1 => by simp [choose]
  | n + 1, 0 => by
    have h := choose_mul n 0
    have e : choose (n + 1 + 1) (0 + 1) = choose (n + 1) 0 + choose (n + 1) (0 + 1) := rfl
    rw [e]
    simp only [choose_zero, Nat.mul_one, Nat.zero_add] at h ⊢
    omega
  | n + 1, k + 1 => by
    have h1 := choose_mul n k
    have h2 := choose_mul n (k + 1)
    have e : choose (n + 1) (k + 1) = choose n k + choose n (k + 1) := rfl
    have e2 : choose (n + 1 + 1) (k + 1 + 1) = choose (n + 1) (k + 1) + choose (n + 1) (k + 1 + 1) := rfl
    rw [e2, Nat.add_mul, h2]
    have : choose (n + 1) (k + 1) * (k + 1 + 1) = choose (n + 1) (k + 1) * (k + 1) + choose (n + 1) (k + 1) := by
      rw [Nat.mul_add, Nat.mul_one]
    rw [this, h1]
    have : (n + 1 + 1) * choose (n + 1) (k + 1) = (n + 1) * choose (n + 1) (k + 1) + choose (n + 1) (k + 1) := by
      rw [Nat.add_mul (n + 1) 1, Nat.one_mul]
    rw [this, e, Nat.mul_add]
    omega

/-- The sum of the first m terms of (a + 1)^n. -/
def binom (a n : Nat) : Nat → Nat
  | 0 => 0
  | m + 1 => binom a n m + choose n m * a ^ m

theorem binom_succ (a n : Nat) : ∀ m, binom a (n + 1) (m + 1) = binom a n (m + 1) + a * binom a n m
  | 0 => by simp [binom, choose_zero]
  | m + 1 => by
    have ih := binom_succ a n m
    rw [binom, ih]
    have e : choose (n + 1) (m + 1) = choose n m + choose n (m + 1) := rfl
    rw [e]
    have e1 : binom a n (m + 1 + 1) = binom a n (m + 1) + choose n (m + 1) * a ^ (m + 1) := rfl
    have e2 : binom a n (m + 1) = binom a n m + choose n m * a ^ m := rfl
    rw [e1, Nat.add_mul]
    have e3 : a * binom a n (m + 1) = a * binom a n m + choose n m * a ^ (m + 1) := by
      rw [e2, Nat.mul_add, Nat.pow_succ]
      have : a * (choose n m * a ^ m) = choose n m * (a ^ m * a) := by
        rw [Nat.mul_left_comm, Nat.mul_comm a]
      rw [this]
    rw [e3]
    omega

theorem binom_all (a : Nat) : ∀ n, (a + 1) ^ n = binom a n (n + 1)
  | 0 => by simp [binom, choose]
  | n + 1 => by
    rw [binom_succ, Nat.pow_succ, binom_all a n]
    have e : binom a n (n + 1 + 1) = binom a n (n + 1) := by
      show binom a n (n + 1) + choose n (n + 1) * a ^ (n + 1) = _
      rw [choose_big n (n + 1) (by omega)]; simp
    rw [e, Nat.mul_add, Nat.mul_one, Nat.mul_comm, Nat.add_comm]

theorem prime_dvd_choose {p : Nat} (hp : IsPrime p) {k : Nat} (h0 : 0 < k) (h1 : k < p) : p ∣ choose p k := by
  obtain ⟨n, rfl⟩ : ∃ n, p = n + 1 := ⟨p - 1, by have := hp.1; omega⟩
  obtain ⟨j, rfl⟩ : ∃ j, k = j + 1 := ⟨k - 1, by omega⟩
  have h := choose_mul n j
  have : (n + 1) ∣ choose (n + 1) (j + 1) * (j + 1) := ⟨choose n j, h⟩
  rcases hp.dvd_mul this with h | h
  · exact h
  · have := Nat.le_of_dvd (by omega) h; omega

theorem binom_mod {p : Nat} (hp : IsPrime p) (a : Nat) : ∀ m, m < p → binom a p (m + 1) % p = 1 % p
  | 0, _ => by simp [binom, choose_zero]
  | m + 1, h => by
    rw [binom, Nat.add_mod, binom_mod hp a m (by omega)]
    have : choose p (m + 1) * a ^ (m + 1) % p = 0 :=
      Nat.mod_eq_zero_of_dvd (Nat.dvd_trans (prime_dvd_choose hp (by omega) h) ⟨_, rfl⟩)
    rw [this]; simp

theorem succ_pow_mod {p : Nat} (hp : IsPrime p) (a : Nat) : (a + 1) ^ p % p = (a ^ p + 1) % p := by
  have h2 := hp.1
  rw [binom_all]
  show (binom a p p + choose p p * a ^ p) % p = _
  have e := binom_mod hp a (p - 1) (by omega)
  rw [show p - 1 + 1 = p by omega] at e
  rw [choose_self, Nat.one_mul, Nat.add_mod, e, ← Nat.add_mod, Nat.add_comm]

theorem pow_prime_mod {p : Nat} (hp : IsPrime p) : ∀ a : Nat, a ^ p % p = a % p
  | 0 => by rw [Nat.zero_pow (by have := hp.1; omega)]
  | a + 1 => by rw [succ_pow_mod hp, Nat.add_mod, pow_prime_mod hp a, ← Nat.add_mod]

/-! Congruences. -/
theorem mod_eq_iff_dvd_sub {a b n : Nat} (h : b ≤ a) : a % n = b % n ↔ n ∣ a - b := by
  constructor
  · intro e
    exact Nat.dvd_of_mod_eq_zero (Nat.sub_mod_eq_zero_of_mod_eq e)
  · rintro ⟨c, hc⟩
    have : a = b + n * c := by omega
    rw [this, Nat.add_mul_mod_self_left]

theorem mul_cancel_mod {p a x y : Nat} (hp : Nat.Coprime p a) (h : a * x % p = a * y % p) : x % p = y % p := by
  rcases Nat.le_total y x with hxy | hxy
  · rw [mod_eq_iff_dvd_sub (Nat.mul_le_mul_left a hxy), ← Nat.mul_sub] at h
    exact (mod_eq_iff_dvd_sub hxy).2 (hp.dvd_of_dvd_mul_left h)
  · have h := h.symm
    rw [mod_eq_iff_dvd_sub (Nat.mul_le_mul_left a hxy), ← Nat.mul_sub] at h
    exact ((mod_eq_iff_dvd_sub hxy).2 (hp.dvd_of_dvd_mul_left h)).symm

/-- Fermat's little theorem. -/
theorem fermat {p a : Nat} (hp : IsPrime p) (h : ¬ p ∣ a) : a ^ (p - 1) % p = 1 % p := by
  have h2 := hp.1
  apply mul_cancel_mod (hp.coprime_of_not_dvd h)
  have e := pow_prime_mod hp a
  rw [show p = p - 1 + 1 by omega, Nat.pow_succ, Nat.mul_comm] at e
  rw [show p - 1 + 1 = p by omega] at e
  rw [e, Nat.mul_one]

theorem pow_mod_one {p a m : Nat} (h : a ^ m % p = 1 % p) (k : Nat) : a ^ (m * k) % p = 1 % p := by
  rw [Nat.pow_mul, Nat.pow_mod, h, ← Nat.pow_mod, Nat.one_pow]

/-- What is 1 to two powers is 1 to their greatest common measure. -/
theorem pow_gcd {p a : Nat} : ∀ m n : Nat, a ^ m % p = 1 % p → a ^ n % p = 1 % p → a ^ (Nat.gcd m n) % p = 1 % p := by
  intro m
  induction m using Nat.strongRecOn with
  | ind m ih =>
    intro n hm hn
    by_cases h0 : m = 0
    · subst h0; simpa using hn
    · rw [Nat.gcd_rec]
      refine ih (n % m) (Nat.mod_lt _ (by omega)) m ?_ hm
      have e : a ^ n = a ^ (m * (n / m)) * a ^ (n % m) := by rw [← Nat.pow_add, Nat.div_add_mod]
      rw [e] at hn
      rw [Nat.mul_mod, pow_mod_one hm, ← Nat.mul_mod, Nat.one_mul] at hn
      exact hn

theorem coprime_of_pow {p a m : Nat} (hp : IsPrime p) (hm : 0 < m) (h : a ^ m % p = 1 % p) : ¬ p ∣ a := by
  intro hd
  have : p ∣ a ^ m := Nat.dvd_trans hd (Nat.dvd_trans ⟨a ^ (m - 1), by rw [← Nat.pow_succ', show (m - 1).succ = m by omega]⟩ (Nat.dvd_refl _))
  rw [Nat.mod_eq_zero_of_dvd this, Nat.mod_eq_of_lt hp.1] at h
  omega

/-- Proth: h 2^k + 1, h odd or even, with 2^k above h, is a prime if some a to the half of what is one less is -1. -/
theorem proth {h k a : Nat} (hk : 0 < k) (hh : 0 < h) (hlt : h < 2 ^ k) (hw : (a ^ (h * 2 ^ (k - 1)) + 1) % (h * 2 ^ k + 1) = 0) : IsPrime (h * 2 ^ k + 1) := by
  have h2k : 2 ^ k = 2 * 2 ^ (k - 1) := by rw [← Nat.pow_succ', show (k - 1).succ = k by omega]
  have hpos : 0 < 2 ^ (k - 1) := Nat.pow_pos (by omega)
  apply Classical.byContradiction
  intro hn
  have hbig : 2 ≤ h * 2 ^ k + 1 := by have := Nat.mul_pos hh (show 0 < 2 ^ k by omega); omega
  obtain ⟨p, hp, hpd, hpp⟩ := exists_small_prime hbig hn
  have hdw : p ∣ a ^ (h * 2 ^ (k - 1)) + 1 := Nat.dvd_trans hpd (Nat.dvd_of_mod_eq_zero hw)
  have hp2 := hp.1
  -- p is odd
  have hodd : p ≠ 2 := by
    intro e; subst e
    obtain ⟨c, hc⟩ := hpd
    have : h * 2 ^ k = 2 * (h * 2 ^ (k - 1)) := by rw [h2k, Nat.mul_left_comm]
    omega
  -- a^(N-1) is 1
  have hx : a ^ (h * 2 ^ k) % p = 1 % p := by
    have e : a ^ (h * 2 ^ k) = a ^ (h * 2 ^ (k - 1)) * a ^ (h * 2 ^ (k - 1)) := by
      rw [← Nat.pow_add]; congr 1; rw [h2k, Nat.mul_left_comm]; omega
    rw [e]
    generalize a ^ (h * 2 ^ (k - 1)) = A at hdw
    have hA : A ≠ 0 := by
      intro e0; subst e0
      have := Nat.le_of_dvd (by omega) hdw; omega
    obtain ⟨B, rfl⟩ : ∃ B, A = B + 1 := ⟨A - 1, by omega⟩
    have e2 : (B + 1) * (B + 1) = (B + 1 + 1) * B + 1 := by
      rw [Nat.add_mul, Nat.mul_add, Nat.add_mul (B + 1), Nat.add_mul B]; omega
    rw [e2, mod_eq_iff_dvd_sub (by omega)]
    exact Nat.dvd_trans hdw ⟨B, by omega⟩
  have hcop := coprime_of_pow hp (Nat.mul_pos hh (by omega : 0 < 2 ^ k)) hx
  have hfer := fermat hp hcop
  have hg := pow_gcd _ _ hx hfer
  -- if 2^k does not divide the gcd, the half power is 1 as well
  have hdiv : 2 ^ k ∣ Nat.gcd (h * 2 ^ k) (p - 1) := by
    apply Classical.byContradiction
    intro hnd
    have hgd : Nat.gcd (h * 2 ^ k) (p - 1) ∣ h * 2 ^ k := Nat.gcd_dvd_left _ _
    generalize Nat.gcd (h * 2 ^ k) (p - 1) = g at hg hnd hgd
    have key : ∀ k, 0 < k → ∀ g, g ∣ h * 2 ^ k → ¬ 2 ^ k ∣ g → g ∣ h * 2 ^ (k - 1) := by
      intro k
      induction k with
      | zero => intro h0; omega
      | succ k ihk =>
        intro _ g hgd hnd
        show g ∣ h * 2 ^ k
        by_cases hev : 2 ∣ g
        · obtain ⟨g', rfl⟩ := hev
          rw [Nat.pow_succ] at hgd hnd
          have h1 : g' ∣ h * 2 ^ k := by
            obtain ⟨c, hc⟩ := hgd
            refine ⟨c, ?_⟩
            have : 2 * (h * 2 ^ k) = 2 * (g' * c) := by
              rw [← Nat.mul_assoc 2 g' c, ← hc, Nat.mul_comm 2, Nat.mul_assoc]
            omega
          have h2 : ¬ 2 ^ k ∣ g' := by
            rintro ⟨c, rfl⟩
            exact hnd ⟨c, by rw [Nat.mul_comm (2 ^ k) 2, Nat.mul_assoc]⟩
          by_cases hk0 : k = 0
          · subst hk0; exact absurd (Nat.one_dvd g') h2
          · have := ihk (by omega) g' h1 h2
            rw [show k = k - 1 + 1 by omega, Nat.pow_succ, ← Nat.mul_assoc, Nat.mul_comm 2]
            exact Nat.mul_dvd_mul_right this 2
        · have hc2 : Nat.Coprime g 2 := by
            have p2 : IsPrime 2 := ⟨by omega, fun d hd => by have := Nat.le_of_dvd (by omega) hd; have : d ≠ 0 := (by intro e; subst e; simp at hd); omega⟩
            exact (p2.coprime_of_not_dvd hev).symm
          rw [Nat.pow_succ, ← Nat.mul_assoc] at hgd
          exact hc2.dvd_of_dvd_mul_right hgd
    obtain ⟨c, hc⟩ := key k hk g hgd hnd
    have h1 := pow_mod_one hg c
    rw [← hc] at h1
    have : (a ^ (h * 2 ^ (k - 1)) + 1) % p = 2 % p := by rw [Nat.add_mod, h1, ← Nat.add_mod]
    rw [Nat.mod_eq_zero_of_dvd hdw] at this
    rw [Nat.mod_eq_of_lt (by omega)] at this
    omega
  have h1 : 2 ^ k ∣ p - 1 := Nat.dvd_trans hdiv (Nat.gcd_dvd_right _ _)
  have h2 := Nat.le_of_dvd (by omega) h1
  have h3 : (2 ^ k + 1) * (2 ^ k + 1) ≤ p * p := Nat.mul_le_mul (by omega) (by omega)
  have h4 : h * 2 ^ k ≤ 2 ^ k * 2 ^ k := Nat.mul_le_mul_right _ (by omega)
  have h5 : (2 ^ k + 1) * (2 ^ k + 1) = 2 ^ k * 2 ^ k + 2 ^ k + 2 ^ k + 1 := by rw [Nat.add_mul, Nat.mul_add]; omega
  omega

/-- Pocklington for 2 q + 1, q a prime. -/
theorem pocklington {q a : Nat} (hq : IsPrime q) (ha : 2 ≤ a) (h1 : a ^ (2 * q) % (2 * q + 1) = 1) (h2 : Nat.gcd (a ^ 2 - 1) (2 * q + 1) = 1) : IsPrime (2 * q + 1) := by
  have hq2 := hq.1
  apply Classical.byContradiction
  intro hn
  obtain ⟨p, hp, hpd, hpp⟩ := exists_small_prime (by omega) hn
  have hp2 := hp.1
  have hx : a ^ (2 * q) % p = 1 % p := by
    rw [← Nat.mod_mod_of_dvd _ hpd, h1]
  have hcop := coprime_of_pow hp (by omega) hx
  have hfer := fermat hp hcop
  have hg := pow_gcd _ _ hx hfer
  have hdiv : q ∣ Nat.gcd (2 * q) (p - 1) := by
    apply Classical.byContradiction
    intro hnd
    have hgd : Nat.gcd (2 * q) (p - 1) ∣ 2 * q := Nat.gcd_dvd_left _ _
    generalize Nat.gcd (2 * q) (p - 1) = g at hg hnd hgd
    have : g ∣ 2 := (hq.coprime_of_not_dvd hnd).symm.dvd_of_dvd_mul_right hgd
    obtain ⟨c, hc⟩ := this
    have h3 := pow_mod_one hg c
    rw [← hc] at h3
    have hpos : 1 ≤ a ^ 2 := Nat.pow_pos (by omega)
    have h4 := (mod_eq_iff_dvd_sub hpos).1 h3
    have h5 := Nat.dvd_gcd h4 hpd
    rw [h2] at h5
    have := Nat.le_of_dvd (by omega) h5
    omega
  have h3 : q ∣ p - 1 := Nat.dvd_trans hdiv (Nat.gcd_dvd_right _ _)
  have h4 := Nat.le_of_dvd (by omega) h3
  have h5 : (q + 1) * (q + 1) ≤ p * p := Nat.mul_le_mul (by omega) (by omega)
  have h6 : (q + 1) * (q + 1) = q * q + q + q + 1 := by rw [Nat.add_mul, Nat.mul_add]; omega
  have : 2 * q ≤ q * q := Nat.mul_le_mul_right q hq2
  omega

/-! Powers modulo a number, by squares: what the kernel reckons. -/
def powMod (a m : Nat) : Nat → Nat → Nat
  | 0, _ => 1 % m
  | f + 1, n => if n = 0 then 1 % m else
      let h := powMod a m f (n / 2)
      if n % 2 = 0 then h * h % m else h * h % m * a % m

theorem powMod_eq (a m : Nat) : ∀ f n, n < 2 ^ f → powMod a m f n = a ^ n % m
  | 0, n, h => by
    have : n = 0 := by simpa using h
    subst this; rfl
  | f + 1, n, h => by
    rw [powMod]
    by_cases h0 : n = 0
    · subst h0; simp
    · rw [if_neg h0]
      have ih := powMod_eq a m f (n / 2) (by rw [Nat.pow_succ] at h; omega)
      simp only [ih]
      have hn : n = n / 2 * 2 + n % 2 := by omega
      have e : (a ^ (n / 2) % m) * (a ^ (n / 2) % m) % m = a ^ (n / 2 * 2) % m := by
        rw [← Nat.mul_mod, ← Nat.pow_add]; congr 2; omega
      rw [e]
      by_cases h2 : n % 2 = 0
      · rw [if_pos h2]; congr 2; omega
      · rw [if_neg h2, Nat.mod_mul_mod, ← Nat.pow_succ]; congr 2; omega


theorem proth_by {h k a : Nat} (f : Nat) (hk : 0 < k) (hh : 0 < h) (hlt : h < 2 ^ k) (hf : h * 2 ^ (k - 1) < 2 ^ f)
    (hw : (powMod a (h * 2 ^ k + 1) f (h * 2 ^ (k - 1)) + 1) % (h * 2 ^ k + 1) = 0) : IsPrime (h * 2 ^ k + 1) := by
  rw [powMod_eq _ _ _ _ hf] at hw
  refine proth (a := a) hk hh hlt ?_
  rw [Nat.add_mod, Nat.mod_mod, ← Nat.add_mod] at hw
  exact hw

theorem pocklington_by {q a : Nat} (f : Nat) (hq : IsPrime q) (ha : 2 ≤ a) (hf : 2 * q < 2 ^ f) (h1 : powMod a (2 * q + 1) f (2 * q) = 1)
    (h2 : Nat.gcd (a ^ 2 - 1) (2 * q + 1) = 1) : IsPrime (2 * q + 1) := by
  rw [powMod_eq _ _ _ _ hf] at h1
  exact pocklington hq ha h1 h2

/-! The moduli of the three groups. -/
theorem prime_q1 : IsPrime 641 := proth_by (h := 5) (k := 7) (a := 3) 10 (by decide +kernel) (by decide +kernel) (by decide +kernel) (by decide +kernel) (by decide +kernel)
theorem prime_p1 : IsPrime 1283 := pocklington_by (q := 641) (a := 2) 11 prime_q1 (by decide +kernel) (by decide +kernel) (by decide +kernel) (by decide +kernel)
theorem prime_q2 : IsPrime 576465431670292481 := proth_by (h := 268437635) (k := 31) (a := 3) 60 (by decide +kernel) (by decide +kernel) (by decide +kernel) (by decide +kernel) (by decide +kernel)
theorem prime_p2 : IsPrime 1152930863340584963 := pocklington_by (q := 576465431670292481) (a := 2) 61 prime_q2 (by decide +kernel) (by decide +kernel) (by decide +kernel) (by decide +kernel)
theorem prime_q3 : IsPrime 7237005577332262213973186563042995786902308146886443998308627866733439352833 := proth_by (h := 42535295865117307932921825928971035519) (k := 127) (a := 3) 253 (by decide +kernel) (by decide +kernel) (by decide +kernel) (by decide +kernel) (by decide +kernel)
theorem prime_p3 : IsPrime 14474011154664524427946373126085991573804616293772887996617255733466878705667 := pocklington_by (q := 7237005577332262213973186563042995786902308146886443998308627866733439352833) (a := 2) 254 prime_q3 (by decide +kernel) (by decide +kernel) (by decide +kernel) (by decide +kernel)

end Go.Proofs.Ytipgjookfdkciaa

/- The package group: the faces Add, Sub, Mul, Inv, Times, Under. No condition. -/
namespace Go.Proofs.Ytipgjookfdkciaa
open Go.RowKit

theorem box2 (w : World) (v1 v2 : Value) (t1 t2 : TypeId) :
    Below w.heap.size w ((w.alloc (.cells #[v1] t1)).alloc (.cells #[v2] t2)) ∧ Bx ((w.alloc (.cells #[v1] t1)).alloc (.cells #[v2] t2)) w.heap.size t1 [v1] ∧ Bx ((w.alloc (.cells #[v1] t1)).alloc (.cells #[v2] t2)) (w.heap.size + 1) t2 [v2] := by
  have a1 : Below w.heap.size w (w.alloc (.cells #[v1] t1)) := (Below.refl _ _).alloc (Nat.le_refl _) _
  have a2 : Below (w.alloc (.cells #[v1] t1)).heap.size (w.alloc (.cells #[v1] t1)) ((w.alloc (.cells #[v1] t1)).alloc (.cells #[v2] t2)) := (Below.refl _ _).alloc (Nat.le_refl _) _
  refine ⟨below_up a1 a2, (Bx.new w _ _ _ rfl).up a2, ?_⟩
  have h := Bx.new (w.alloc (.cells #[v1] t1)) t2 [v2] _ rfl
  rwa [World.size_alloc] at h

theorem box3 (w : World) (v1 v2 v3 : Value) (t1 t2 t3 : TypeId) :
    Below w.heap.size w (((w.alloc (.cells #[v1] t1)).alloc (.cells #[v2] t2)).alloc (.cells #[v3] t3)) ∧ Bx (((w.alloc (.cells #[v1] t1)).alloc (.cells #[v2] t2)).alloc (.cells #[v3] t3)) w.heap.size t1 [v1]
      ∧ Bx (((w.alloc (.cells #[v1] t1)).alloc (.cells #[v2] t2)).alloc (.cells #[v3] t3)) (w.heap.size + 1) t2 [v2] ∧ Bx (((w.alloc (.cells #[v1] t1)).alloc (.cells #[v2] t2)).alloc (.cells #[v3] t3)) (w.heap.size + 2) t3 [v3] := by
  obtain ⟨h1, h2, h3⟩ := box2 w v1 v2 t1 t2
  have a2 : Below ((w.alloc (.cells #[v1] t1)).alloc (.cells #[v2] t2)).heap.size ((w.alloc (.cells #[v1] t1)).alloc (.cells #[v2] t2)) (((w.alloc (.cells #[v1] t1)).alloc (.cells #[v2] t2)).alloc (.cells #[v3] t3)) := (Below.refl _ _).alloc (Nat.le_refl _) _
  refine ⟨below_up h1 a2, h2.up a2, h3.up a2, ?_⟩
  have h := Bx.new ((w.alloc (.cells #[v1] t1)).alloc (.cells #[v2] t2)) t3 [v3] _ rfl
  rwa [World.size_alloc, World.size_alloc] at h


def recV (G : GP) (a b : ByteArray) (z : Nat) : ByteArray := if (isSc G.q.m G.size a && isSc G.q.m G.size b) = true then textS (z % G.q.m) G.size else ⟨#[]⟩
def recE (G : GP) (a b : ByteArray) : Int := if (isSc G.q.m G.size a && isSc G.q.m G.size b) = true then 0 else 6

set_option maxRecDepth 100000 in
set_option maxHeartbeats 400000 in
theorem reckon_none (k : Int) (hk : ¬ (1 ≤ k ∧ k ≤ 3)) (a b : ByteArray) (f : FuncId) (w : World) : Calls Try.prog 96 #[.int .i64 k, .string a, .string b, .func (.func f) #[] #[]] w (Ans (.string ⟨#[]⟩) 1 w) := by
  go_enter Try.func96, Try.ntmps96
  go_wp2_with fail
  obtain ⟨W0, hW0⟩ : ∃ W9 : World, (((w.alloc (.cells #[.string a] 9)).alloc (.cells #[.string b] 9)).alloc (.cells #[.func (.func f) #[] #[]] 140)) = W9 := ⟨_, rfl⟩
  have hz := box3 w (.string a) (.string b) (.func (.func f) #[] #[]) 9 9 140
  rw [hW0] at hz
  have HZ := Lib.hid hz
  clear hz
  simp only [hW0]
  clear hW0
  refine (withS_none k hk _ W0).mono ?_
  rintro e w1 ⟨rfl, hb⟩
  have HB := Lib.hid (below_up HZ.out.1 hb)
  clear hb
  go_wp2_with fail
  go_ret2
  exact ⟨rfl, HB.out⟩

set_option maxRecDepth 100000 in
set_option maxHeartbeats 400000 in
theorem reckon_some (k : Nat) (h1 : 1 ≤ k) (h3 : k ≤ 3) (a b : ByteArray) (f : FuncId) (z : Nat) (hent : Enters Try.prog f) (w : World)
    (hcall : isSc (grp k).q.m (grp k).size b = true → ∀ gb w1, GroupAt w1 gb (grp k) → Calls Try.prog f #[.pointer (some ⟨gb, 0, none⟩), scV (grp k) (numOf a), scV (grp k) (numOf b)] w1 fun e w' => e = .returned (scV (grp k) z) ∧ Below w1.heap.size w1 w') :
    Calls Try.prog 96 #[.int .i64 (k : Int), .string a, .string b, .func (.func f) #[] #[]] w (Ans (.string (recV (grp k) a b z)) (recE (grp k) a b) w) := by
  have HC := Lib.hid hcall
  have HE := Lib.hid hent
  have OK := Lib.hid (grp_ok k h1 h3)
  clear hcall hent
  go_enter Try.func96, Try.ntmps96
  go_wp2_with fail
  obtain ⟨W0, hW0⟩ : ∃ W9 : World, (((w.alloc (.cells #[.string a] 9)).alloc (.cells #[.string b] 9)).alloc (.cells #[.func (.func f) #[] #[]] 140)) = W9 := ⟨_, rfl⟩
  have hz := box3 w (.string a) (.string b) (.func (.func f) #[] #[]) 9 9 140
  rw [hW0] at hz
  have HZ := Lib.hid hz
  clear hz
  simp only [hW0]
  clear hW0
  refine (withS_some k h1 h3 149 #[.pointer (some ⟨w.heap.size, 0, none⟩), .pointer (some ⟨w.heap.size + 1, 0, none⟩), .pointer (some ⟨w.heap.size + 2, 0, none⟩)] (.string (recV (grp k) a b z)) (recE (grp k) a b) (enters_of Try.func149 (by kernel_rfl) rfl) W0 (fun w1 hb hg => ?_)).mono ?_
  · have z1 := HZ.out.2.1.up hb
    have z2 := HZ.out.2.2.1.up hb
    have z3 := HZ.out.2.2.2.up hb
    unfold recV recE
    by_cases hy : (isSc (grp k).q.m (grp k).size a && isSc (grp k).q.m (grp k).size b) = true
    · rw [if_pos hy, if_pos hy]
      obtain ⟨ya, yb⟩ := Bool.and_eq_true_iff.1 hy
      exact reckon1_yes (grp k) OK.out _ _ _ _ f a b z ya yb HE.out w1 hg z1 z2 z3 (fun w2 hg2 => HC.out yb _ w2 hg2)
    · rw [if_neg hy, if_neg hy]
      exact reckon1_no (grp k) OK.out _ _ _ _ a b _ _ rfl rfl (by simpa using hy) w1 hg z1 z2
  · rintro e w2 ⟨rfl, hb2⟩
    have HB2 := Lib.hid (below_up HZ.out.1 hb2)
    clear hb2
    go_wp2_with fail
    go_ret2
    exact ⟨rfl, HB2.out⟩


theorem isSc_lt {q size : Nat} {s : ByteArray} (h : isSc q size s = true) : numOf s < q := by
  unfold isSc at h
  simp at h
  exact h.2

set_option maxRecDepth 100000 in
set_option maxHeartbeats 400000 in
theorem Add_none (k : Int) (hk : ¬ (1 ≤ k ∧ k ≤ 3)) (a b : ByteArray) (w : World) : Calls Try.prog 34 #[.int .i64 k, .string a, .string b] w (Ans (.string ⟨#[]⟩) 1 w) := by
  go_enter Try.func34, Try.ntmps34
  go_wp2_with fail
  refine (reckon_none k hk a b 75 w).mono ?_
  rintro e w1 ⟨rfl, hb⟩
  have HB := Lib.hid hb
  clear hb
  go_wp2_with fail
  go_ret2
  exact ⟨rfl, HB.out⟩

set_option maxRecDepth 100000 in
set_option maxHeartbeats 400000 in
theorem Add_some (k : Nat) (h1 : 1 ≤ k) (h3 : k ≤ 3) (a b : ByteArray) (w : World) : Calls Try.prog 34 #[.int .i64 (k : Int), .string a, .string b] w (Ans (.string (recV (grp k) a b (numOf a + numOf b))) (recE (grp k) a b) w) := by
  have OK := Lib.hid (grp_ok k h1 h3)
  go_enter Try.func34, Try.ntmps34
  go_wp2_with fail
  refine (reckon_some k h1 h3 a b 75 (numOf a + numOf b) (enters_of Try.func75 (by kernel_rfl) rfl) w (fun hb gb w1 hg => gAdd_any (grp k) OK.out gb (numOf a) (numOf b) w1 hg)).mono ?_
  rintro e w1 ⟨rfl, hb⟩
  have HB := Lib.hid hb
  clear hb
  go_wp2_with fail
  go_ret2
  exact ⟨rfl, HB.out⟩

set_option maxRecDepth 100000 in
set_option maxHeartbeats 400000 in
theorem Sub_none (k : Int) (hk : ¬ (1 ≤ k ∧ k ≤ 3)) (a b : ByteArray) (w : World) : Calls Try.prog 35 #[.int .i64 k, .string a, .string b] w (Ans (.string ⟨#[]⟩) 1 w) := by
  go_enter Try.func35, Try.ntmps35
  go_wp2_with fail
  refine (reckon_none k hk a b 61 w).mono ?_
  rintro e w1 ⟨rfl, hb⟩
  have HB := Lib.hid hb
  clear hb
  go_wp2_with fail
  go_ret2
  exact ⟨rfl, HB.out⟩

set_option maxRecDepth 100000 in
set_option maxHeartbeats 400000 in
theorem Sub_some (k : Nat) (h1 : 1 ≤ k) (h3 : k ≤ 3) (a b : ByteArray) (w : World) : Calls Try.prog 35 #[.int .i64 (k : Int), .string a, .string b] w (Ans (.string (recV (grp k) a b (numOf a + ((grp k).q.m - numOf b)))) (recE (grp k) a b) w) := by
  have OK := Lib.hid (grp_ok k h1 h3)
  go_enter Try.func35, Try.ntmps35
  go_wp2_with fail
  refine (reckon_some k h1 h3 a b 61 (numOf a + ((grp k).q.m - numOf b)) (enters_of Try.func61 (by kernel_rfl) rfl) w (fun hb gb w1 hg => gSub_any (grp k) OK.out gb (numOf a) (numOf b) (Nat.le_of_lt (isSc_lt hb)) w1 hg)).mono ?_
  rintro e w1 ⟨rfl, hb⟩
  have HB := Lib.hid hb
  clear hb
  go_wp2_with fail
  go_ret2
  exact ⟨rfl, HB.out⟩

set_option maxRecDepth 100000 in
set_option maxHeartbeats 400000 in
theorem Mul_none (k : Int) (hk : ¬ (1 ≤ k ∧ k ≤ 3)) (a b : ByteArray) (w : World) : Calls Try.prog 33 #[.int .i64 k, .string a, .string b] w (Ans (.string ⟨#[]⟩) 1 w) := by
  go_enter Try.func33, Try.ntmps33
  go_wp2_with fail
  refine (reckon_none k hk a b 63 w).mono ?_
  rintro e w1 ⟨rfl, hb⟩
  have HB := Lib.hid hb
  clear hb
  go_wp2_with fail
  go_ret2
  exact ⟨rfl, HB.out⟩

set_option maxRecDepth 100000 in
set_option maxHeartbeats 400000 in
theorem Mul_some (k : Nat) (h1 : 1 ≤ k) (h3 : k ≤ 3) (a b : ByteArray) (w : World) : Calls Try.prog 33 #[.int .i64 (k : Int), .string a, .string b] w (Ans (.string (recV (grp k) a b (numOf a * numOf b))) (recE (grp k) a b) w) := by
  have OK := Lib.hid (grp_ok k h1 h3)
  go_enter Try.func33, Try.ntmps33
  go_wp2_with fail
  refine (reckon_some k h1 h3 a b 63 (numOf a * numOf b) (enters_of Try.func63 (by kernel_rfl) rfl) w (fun hb gb w1 hg => gMul_any (grp k) OK.out gb (numOf a) (numOf b) w1 hg)).mono ?_
  rintro e w1 ⟨rfl, hb⟩
  have HB := Lib.hid hb
  clear hb
  go_wp2_with fail
  go_ret2
  exact ⟨rfl, HB.out⟩

theorem box1 (w : World) (v1 : Value) (t1 : TypeId) : Below w.heap.size w (w.alloc (.cells #[v1] t1)) ∧ Bx (w.alloc (.cells #[v1] t1)) w.heap.size t1 [v1] :=
  ⟨(Below.refl _ _).alloc (Nat.le_refl _) _, Bx.new w _ _ _ rfl⟩

set_option maxRecDepth 100000 in
set_option maxHeartbeats 400000 in
theorem Inv_none (k : Int) (hk : ¬ (1 ≤ k ∧ k ≤ 3)) (a : ByteArray) (w : World) : Calls Try.prog 31 #[.int .i64 k, .string a] w (Ans (.string ⟨#[]⟩) 1 w) := by
  go_enter Try.func31, Try.ntmps31
  go_wp2_with fail
  obtain ⟨W0, hW0⟩ : ∃ W9 : World, (w.alloc (.cells #[.string a] 9)) = W9 := ⟨_, rfl⟩
  have hz := box1 w (.string a) 9
  rw [hW0] at hz
  have HZ := Lib.hid hz
  clear hz
  simp only [hW0]
  clear hW0
  refine (withS_none k hk _ W0).mono ?_
  rintro e w1 ⟨rfl, hb⟩
  have HB := Lib.hid (below_up HZ.out.1 hb)
  clear hb
  go_wp2_with fail
  go_ret2
  exact ⟨rfl, HB.out⟩

def invV (G : GP) (a : ByteArray) : ByteArray := if isSc G.q.m G.size a = true ∧ numOf a ≠ 0 then textS (numOf a ^ (G.q.m - 2) % G.q.m) G.size else ⟨#[]⟩
def invE (G : GP) (a : ByteArray) : Int := if isSc G.q.m G.size a = true then (if numOf a = 0 then 5 else 0) else 6
def undV (G : GP) (a : ByteArray) : ByteArray := if isEl G.q.m G.size a = true then textS (lowN G (numOf a ^ (G.p.m - 2))) G.size else ⟨#[]⟩
def undE (G : GP) (a : ByteArray) : Int := if isEl G.q.m G.size a = true then 0 else 7
def timV (G : GP) (a b : ByteArray) : ByteArray := if (isEl G.q.m G.size a && isEl G.q.m G.size b) = true then textS (lowN G (numOf a * numOf b)) G.size else ⟨#[]⟩
def timE (G : GP) (a b : ByteArray) : Int := if (isEl G.q.m G.size a && isEl G.q.m G.size b) = true then 0 else 7

theorem Inv_call {k : Nat} (h1 : 1 ≤ k) (h3 : k ≤ 3) {a : ByteArray} {w W0 w1 : World} (hz : Below w.heap.size w W0 ∧ Bx W0 w.heap.size 9 [.string a]) (hb : Below W0.heap.size W0 w1) (hg : GroupAt w1 W0.heap.size (grp k)) :
    Calls Try.prog 94 #[.pointer (some ⟨W0.heap.size, 0, none⟩), .pointer (some ⟨w.heap.size, 0, none⟩)] w1 (Ans (.string (invV (grp k) a)) (invE (grp k) a) w1) := by
  have ok := grp_ok k h1 h3
  have z1 := hz.2.up hb
  unfold invV invE
  by_cases hy : isSc (grp k).q.m (grp k).size a = true
  · have hl := isSc_lt hy
    by_cases h0 : numOf a = 0
    · rw [if_neg (by simp [h0]), if_pos hy, if_pos h0]
      exact inv1_zero _ ok _ _ a hy (by rw [h0, Nat.zero_mod]) w1 hg z1
    · rw [if_pos ⟨hy, h0⟩, if_pos hy, if_neg h0]
      exact inv1_yes _ ok _ _ a hy (by rwa [Nat.mod_eq_of_lt hl]) w1 hg z1
  · rw [if_neg (fun h => hy h.1), if_neg hy]
    exact inv1_no _ ok _ _ a (by simpa using hy) w1 hg z1

set_option maxRecDepth 100000 in
set_option maxHeartbeats 400000 in
theorem Inv_some (k : Nat) (h1 : 1 ≤ k) (h3 : k ≤ 3) (a : ByteArray) (w : World) : Calls Try.prog 31 #[.int .i64 (k : Int), .string a] w (Ans (.string (invV (grp k) a)) (invE (grp k) a) w) := by
  go_enter Try.func31, Try.ntmps31
  go_wp2_with fail
  obtain ⟨W0, hW0⟩ : ∃ W9 : World, (w.alloc (.cells #[.string a] 9)) = W9 := ⟨_, rfl⟩
  have hz := box1 w (.string a) 9
  rw [hW0] at hz
  have HZ := Lib.hid hz
  clear hz
  simp only [hW0]
  clear hW0
  refine (withS_some k h1 h3 94 #[.pointer (some ⟨w.heap.size, 0, none⟩)] (.string (invV (grp k) a)) (invE (grp k) a) (enters_of Try.func94 (by kernel_rfl) rfl) W0 (fun w1 hb hg => Inv_call h1 h3 HZ.out hb hg)).mono ?_
  rintro e w2 ⟨rfl, hb2⟩
  have HB2 := Lib.hid (below_up HZ.out.1 hb2)
  clear hb2
  go_wp2_with fail
  go_ret2
  exact ⟨rfl, HB2.out⟩

end Go.Proofs.Ytipgjookfdkciaa

/- The package group: Product. No condition. -/
namespace Go.Proofs.Ytipgjookfdkciaa
open Go.RowKit

/-- What a product of powers answers: its bytes, and an errno. -/
def prodV (G : GP) : List ByteArray → List ByteArray → Nat → ByteArray
  | a :: xs, n :: ys, z => if isEl G.q.m G.size a = false then ⟨#[]⟩ else if isSc G.q.m G.size n = false then ⟨#[]⟩ else prodV G xs ys (z * numOf a ^ numOf n)
  | _, _, z => textS (lowN G z) G.size
def prodE (G : GP) : List ByteArray → List ByteArray → Int
  | a :: xs, n :: ys => if isEl G.q.m G.size a = false then 7 else if isSc G.q.m G.size n = false then 6 else prodE G xs ys
  | _, _ => 0


set_option maxRecDepth 100000 in
set_option maxHeartbeats 400000 in
theorem product1_long (gb b1 b2 la ln : Nat) (aa an : Option Addr) (ca cn : Nat) (hl : 256 < la ∨ 256 < ln) (w : World)
    (hc1 : Bx w b1 22 [.slice aa la ca]) (hc2 : Bx w b2 22 [.slice an ln cn]) :
    Calls Try.prog 151 #[.pointer (some ⟨gb, 0, none⟩), .pointer (some ⟨b1, 0, none⟩), .pointer (some ⟨b2, 0, none⟩)] w (Ans (.string ⟨#[]⟩) 3 w) := by
  have hk1 := hc1.cell (i := 0) rfl
  have hk2 := hc2.cell (i := 0) rfl
  clear hc1 hc2
  by_cases ha : 256 < la
  · have hd : decide ((la : Int) > 256) = true := by simp; omega
    go_enter Try.func151, Try.ntmps151
    go_wp2_with fail
    go_ret2
    exact ⟨rfl, Below.refl _ _⟩
  · have hd : decide ((la : Int) > 256) = false := by simp; omega
    have hd2 : decide ((ln : Int) > 256) = true := by simp; omega
    go_enter Try.func151, Try.ntmps151
    go_wp2_with fail
    go_ret2
    exact ⟨rfl, Below.refl _ _⟩

set_option maxRecDepth 100000 in
set_option maxHeartbeats 400000 in
theorem product1_form (gb b1 b2 la ln : Nat) (aa an : Option Addr) (ca cn : Nat) (h1 : la ≤ 256) (h2 : ln ≤ 256) (hne : la ≠ ln) (w : World)
    (hc1 : Bx w b1 22 [.slice aa la ca]) (hc2 : Bx w b2 22 [.slice an ln cn]) :
    Calls Try.prog 151 #[.pointer (some ⟨gb, 0, none⟩), .pointer (some ⟨b1, 0, none⟩), .pointer (some ⟨b2, 0, none⟩)] w (Ans (.string ⟨#[]⟩) 2 w) := by
  have hk1 := hc1.cell (i := 0) rfl
  have hk2 := hc2.cell (i := 0) rfl
  clear hc1 hc2
  have hd : decide ((la : Int) > 256) = false := by simp; omega
  have hd2 : decide ((ln : Int) > 256) = false := by simp; omega
  have hd3 : ((la : Int) != (ln : Int)) = true := by rw [bne_iff_ne]; intro h; exact hne (by exact_mod_cast h)
  go_enter Try.func151, Try.ntmps151
  go_wp2_with fail
  go_ret2
  exact ⟨rfl, Below.refl _ _⟩

theorem drop_cons {α : Type} {l : List α} {i : Nat} (h : i < l.length) : l.drop i = l[i] :: l.drop (i + 1) := List.drop_eq_getElem_cons h

set_option maxRecDepth 100000 in
set_option maxHeartbeats 1000000 in
theorem product1_any (G : GP) (ok : G.Ok) (gb b1 b2 L : Nat) (xs ys : List ByteArray) (aa an : Option Addr) (ca cn : Nat) (ha : xs.length = L) (hn : ys.length = L) (hL : L ≤ 256) (w : World) (hG : GroupAt w gb G)
    (hc1 : Bx w b1 22 [.slice aa L ca]) (hc2 : Bx w b2 22 [.slice an L cn]) (hA : Sl w w.heap.size aa (xs.map Value.string)) (hN : Sl w w.heap.size an (ys.map Value.string)) :
    Calls Try.prog 151 #[.pointer (some ⟨gb, 0, none⟩), .pointer (some ⟨b1, 0, none⟩), .pointer (some ⟨b2, 0, none⟩)] w (Ans (.string (prodV G xs ys 1)) (prodE G xs ys) w) := by
  have HLA := Lib.hid ha
  have HLN := Lib.hid hn
  have HC1 := Lib.hid hc1
  have HC2 := Lib.hid hc2
  have HA := Lib.hid hA
  have HNN := Lib.hid hN
  have HG := Lib.hid hG
  have OK := Lib.hid ok
  have hk1 := hc1.cell (i := 0) rfl
  have hk2 := hc2.cell (i := 0) rfl
  clear ha hn hc1 hc2 hA hN hG ok
  have hd : decide ((L : Int) > 256) = false := by simp; omega
  have hd3 : ((L : Int) != (L : Int)) = false := by simp
  go_enter Try.func151, Try.ntmps151
  go_wp2_with fail
  refine (gOne_any G OK.out gb w HG.out).mono ?_
  rintro e w1 ⟨rfl, hb1⟩
  have HB1 := Lib.hid hb1
  clear hb1
  unfold elV limbV
  have hlb : Below w1.heap.size w1 (w1.alloc (.cells #[.int .u64 (dig (mont G.p.m 1) 0 : Int), .int .u64 (dig (mont G.p.m 1) 1 : Int), .int .u64 (dig (mont G.p.m 1) 2 : Int), .int .u64 (dig (mont G.p.m 1) 3 : Int)] 111)) := (Below.refl _ _).alloc (Nat.le_refl _) _
  have hlz : Blk (w1.alloc (.cells #[.int .u64 (dig (mont G.p.m 1) 0 : Int), .int .u64 (dig (mont G.p.m 1) 1 : Int), .int .u64 (dig (mont G.p.m 1) 2 : Int), .int .u64 (dig (mont G.p.m 1) 3 : Int)] 111)) w1.heap.size 111 (lim (mont G.p.m 1)) := Blk.new _ _ _ _ rfl
  obtain ⟨w2, hlw⟩ : ∃ W9 : World, (w1.alloc (.cells #[.int .u64 (dig (mont G.p.m 1) 0 : Int), .int .u64 (dig (mont G.p.m 1) 1 : Int), .int .u64 (dig (mont G.p.m 1) 2 : Int), .int .u64 (dig (mont G.p.m 1) 3 : Int)] 111)) = W9 := ⟨_, rfl⟩
  rw [hlw] at hlb hlz
  have HLw2 := Lib.hid hlb
  have HXw2 := Lib.hid hlz
  clear hlb hlz
  have HB2 := Lib.hid (below_up HB1.out HLw2.out)
  have hwb : w.heap.size ≤ w1.heap.size := HB1.out.size
  clear hk1 hk2
  have hk1 := (HC1.out.up HB2.out).cell (i := 0) rfl
  go_wp2_with fail
  go_loopw [7, 8, 9, 10, 30] (fun _ _ _ _ x wr => ∃ i z : Nat, i ≤ L ∧ x = .int .i64 (i : Int) ∧ Hid (Below w.heap.size w wr) ∧ Hid (Blk wr w1.heap.size 111 (lim (mont G.p.m z))) ∧ Hid (prodV G xs ys 1 = prodV G (xs.drop i) (ys.drop i) z) ∧ Hid (prodE G xs ys = prodE G (xs.drop i) (ys.drop i))) (fun _ _ _ _ x _ => L - (intOf x).toNat)
  case atStart => exact ⟨0, 1, Nat.zero_le _, rfl, HB2.out, HXw2.out, rfl, rfl⟩
  case round =>
    obtain ⟨i, z, hi, hxi, HB, HZ, HV, HE⟩ := hrel
    subst hxi
    clear hk1
    have hk1 := (HC1.out.up HB.out).cell (i := 0) rfl
    have hk2 := (HC2.out.up HB.out).cell (i := 0) rfl
    by_cases hiL : i < L
    · obtain ⟨s, hs⟩ : ∃ s, xs[i]'(by rw [HLA.out]; exact hiL) = s := ⟨_, rfl⟩
      obtain ⟨t, ht⟩ : ∃ t, ys[i]'(by rw [HLN.out]; exact hiL) = t := ⟨_, rfl⟩
      obtain ⟨b3, o3, rfl, hb3, hc3⟩ := HA.out.at i (by rw [List.length_map, HLA.out]; exact hiL)
      obtain ⟨b4, o4, rfl, hb4, hc4⟩ := HNN.out.at i (by rw [List.length_map, HLN.out]; exact hiL)
      rw [List.getElem_map, hs] at hc3
      rw [List.getElem_map, ht] at hc4
      have hx3 : wr.cell? ⟨b3, o3 + i, none⟩ = some (.string s) := by rw [HB.out.cell (p := ⟨b3, o3 + i, none⟩) hb3]; exact hc3
      have HC4 := Lib.hid hc4
      have hdx := drop_cons (show i < xs.length by rw [HLA.out]; exact hiL)
      have hdy := drop_cons (show i < ys.length by rw [HLN.out]; exact hiL)
      rw [hs] at hdx
      rw [ht] at hdy
      have HDX := Lib.hid hdx
      have HDY := Lib.hid hdy
      clear hs ht hc3 hc4 hdx hdy
      obtain ⟨ba, hba⟩ : ∃ b, isEl G.q.m G.size s = b := ⟨_, rfl⟩
      obtain ⟨bb, hbb⟩ : ∃ b, isSc G.q.m G.size t = b := ⟨_, rfl⟩
      have HBA := Lib.hid hba
      have HBB := Lib.hid hbb
      clear hba hbb
      go_wp2_with fail
      refine (gElem_m G OK.out gb s ba HBA.out wr (HG.out.up HB.out)).mono ?_
      rintro e w3 ⟨x, rfl, hb3', hx⟩
      have HX := Lib.hid hx
      have HB3 := Lib.hid (below_up HB.out hb3')
      have HZ3 := Lib.hid (HZ.out.below hb3' HZ.out.lt)
      clear hb3' hx hx3 hk1 hk2
      unfold limbV
      have hlb : Below w3.heap.size w3 (w3.alloc (.cells #[.int .u64 (dig x 0 : Int), .int .u64 (dig x 1 : Int), .int .u64 (dig x 2 : Int), .int .u64 (dig x 3 : Int)] 111)) := (Below.refl _ _).alloc (Nat.le_refl _) _
      have hlz : Blk (w3.alloc (.cells #[.int .u64 (dig x 0 : Int), .int .u64 (dig x 1 : Int), .int .u64 (dig x 2 : Int), .int .u64 (dig x 3 : Int)] 111)) w3.heap.size 111 (lim x) := Blk.new _ _ _ _ rfl
      obtain ⟨w4, hlw⟩ : ∃ W9 : World, (w3.alloc (.cells #[.int .u64 (dig x 0 : Int), .int .u64 (dig x 1 : Int), .int .u64 (dig x 2 : Int), .int .u64 (dig x 3 : Int)] 111)) = W9 := ⟨_, rfl⟩
      rw [hlw] at hlb hlz
      have HLw4 := Lib.hid hlb
      have HXw4 := Lib.hid hlz
      clear hlb hlz
      have HB4 := Lib.hid (below_up HB3.out HLw4.out)
      have HZ4 := Lib.hid (HZ3.out.below HLw4.out HZ3.out.lt)
      have hk2 := (HC2.out.up HB4.out).cell (i := 0) rfl
      have hx4 : w4.cell? ⟨b4, o4 + i, none⟩ = some (.string t) := by rw [HB4.out.cell (p := ⟨b4, o4 + i, none⟩) hb4]; exact HC4.out
      cases ba
      · go_wp2_with fail
        go_ret2
        exact ⟨by rw [HV.out, HE.out, HDX.out, HDY.out]; unfold prodV prodE; rw [if_pos HBA.out, if_pos HBA.out]; rfl, HB4.out⟩
      · obtain rfl : x = mont G.p.m (numOf s) := HX.out rfl
        go_wp2_with fail
        refine (gScalar_m G OK.out gb t bb HBB.out w4 (HG.out.up HB4.out)).mono ?_
        rintro e w5 ⟨y, rfl, hb5, hy⟩
        have HY := Lib.hid hy
        have HB5 := Lib.hid (below_up HB4.out hb5)
        have HZ5 := Lib.hid (HZ4.out.below hb5 HZ4.out.lt)
        have HX5 := Lib.hid (HXw4.out.below hb5 HXw4.out.lt)
        clear hb5 hy hx4 hk2 hlw
        unfold limbV
        have hlb : Below w5.heap.size w5 (w5.alloc (.cells #[.int .u64 (dig y 0 : Int), .int .u64 (dig y 1 : Int), .int .u64 (dig y 2 : Int), .int .u64 (dig y 3 : Int)] 91)) := (Below.refl _ _).alloc (Nat.le_refl _) _
        have hlz : Blk (w5.alloc (.cells #[.int .u64 (dig y 0 : Int), .int .u64 (dig y 1 : Int), .int .u64 (dig y 2 : Int), .int .u64 (dig y 3 : Int)] 91)) w5.heap.size 91 (lim y) := Blk.new _ _ _ _ rfl
        obtain ⟨w6, hlw⟩ : ∃ W9 : World, (w5.alloc (.cells #[.int .u64 (dig y 0 : Int), .int .u64 (dig y 1 : Int), .int .u64 (dig y 2 : Int), .int .u64 (dig y 3 : Int)] 91)) = W9 := ⟨_, rfl⟩
        rw [hlw] at hlb hlz
        have HLw6 := Lib.hid hlb
        have HXw6 := Lib.hid hlz
        clear hlb hlz
        have HB6 := Lib.hid (below_up HB5.out HLw6.out)
        have HZ6 := Lib.hid (HZ5.out.below HLw6.out HZ5.out.lt)
        have HX6 := Lib.hid (HX5.out.below HLw6.out HX5.out.lt)
        cases bb
        · go_wp2_with fail
          go_ret2
          exact ⟨by rw [HV.out, HE.out, HDX.out, HDY.out]; unfold prodV prodE; rw [if_neg (by rw [HBA.out]; decide), if_pos HBB.out, if_neg (by rw [HBA.out]; decide), if_pos HBB.out]; rfl, HB6.out⟩
        · obtain rfl : y = mont G.q.m (numOf t) := HY.out rfl
          have HV2 : Hid (prodV G xs ys 1 = prodV G (xs.drop (i + 1)) (ys.drop (i + 1)) (z * numOf s ^ numOf t)) := by
            show _ = _
            rw [HV.out, HDX.out, HDY.out, prodV, if_neg (by rw [HBA.out]; decide), if_neg (by rw [HBB.out]; decide)]
          have HE2 : Hid (prodE G xs ys = prodE G (xs.drop (i + 1)) (ys.drop (i + 1))) := by
            show _ = _
            rw [HE.out, HDX.out, HDY.out, prodE, if_neg (by rw [HBA.out]; decide), if_neg (by rw [HBB.out]; decide)]
          have HM : Hid (numOf t % G.q.m = numOf t) := Nat.mod_eq_of_lt (isSc_lt HBB.out)
          go_wp2_with fail
          have hz_0 := HZ6.out.cell (i := 0) (x := (dig (mont G.p.m z) 0 : Int)) rfl
          have hz_1 := HZ6.out.cell (i := 1) (x := (dig (mont G.p.m z) 1 : Int)) rfl
          have hz_2 := HZ6.out.cell (i := 2) (x := (dig (mont G.p.m z) 2 : Int)) rfl
          have hz_3 := HZ6.out.cell (i := 3) (x := (dig (mont G.p.m z) 3 : Int)) rfl
          have hx_0 := HX6.out.cell (i := 0) (x := (dig (mont G.p.m (numOf s)) 0 : Int)) rfl
          have hx_1 := HX6.out.cell (i := 1) (x := (dig (mont G.p.m (numOf s)) 1 : Int)) rfl
          have hx_2 := HX6.out.cell (i := 2) (x := (dig (mont G.p.m (numOf s)) 2 : Int)) rfl
          have hx_3 := HX6.out.cell (i := 3) (x := (dig (mont G.p.m (numOf s)) 3 : Int)) rfl
          have hy_0 := HXw6.out.cell (i := 0) (x := (dig (mont G.q.m (numOf t)) 0 : Int)) rfl
          have hy_1 := HXw6.out.cell (i := 1) (x := (dig (mont G.q.m (numOf t)) 1 : Int)) rfl
          have hy_2 := HXw6.out.cell (i := 2) (x := (dig (mont G.q.m (numOf t)) 2 : Int)) rfl
          have hy_3 := HXw6.out.cell (i := 3) (x := (dig (mont G.q.m (numOf t)) 3 : Int)) rfl
          have hl1 := HZ6.out.lt
          have hl2 := HX6.out.lt
          have hl3 := HXw6.out.lt
          refine wp_region_otail 7 (by kernel_rfl) (by kernel_rfl) ?_
          simp only [List.take_succ_cons, List.take_zero, List.drop_succ_cons, List.drop_zero]
          have hov1 := fun (E : Over w6) o => E.cell (b := w1.heap.size) o hl1
          have hov2 := fun (E : Over w6) o => E.cell (b := w3.heap.size) o hl2
          have hov3 := fun (E : Over w6) o => E.cell (b := w5.heap.size) o hl3
          have hpow := fun (E : Over w6) => gPower_any G OK.out gb (numOf s) (numOf t) E.w (HG.out.up (below_up HB6.out E.h))
          rw [HM.out] at hpow
          have HPOW := Lib.hid hpow
          clear hpow
          repeat (go_big_quiet_step (first | (go_at_call 109; exact calls_over (HPOW.out _)) | (go_at_call 108; exact calls_over (gTimes_any G OK.out gb z (numOf s ^ numOf t) _ (HG.out.up (below_up HB6.out (Over.h _)))))))
          all_goals (try unfold elV limbV)
          repeat (go_big_quiet_step (first | (go_at_call 109; exact calls_over (HPOW.out _)) | (go_at_call 108; exact calls_over (gTimes_any G OK.out gb z (numOf s ^ numOf t) _ (HG.out.up (below_up HB6.out (Over.h _)))))))
          all_goals (try unfold elV limbV)
          repeat (go_big_quiet_step (first | (go_at_call 109; exact calls_over (HPOW.out _)) | (go_at_call 108; exact calls_over (gTimes_any G OK.out gb z (numOf s ^ numOf t) _ (HG.out.up (below_up HB6.out (Over.h _)))))))
          refine wpQuiet_nil ?_
          rintro _ ⟨E, rfl⟩
          have HZ7 := Lib.hid (HZ6.out.below E.h HZ6.out.lt)
          have HB7 := Lib.hid (below_up HB6.out E.h)
          clear hov1 hov2 hov3 hz_0 hz_1 hz_2 hz_3
          generalize E.w = w7 at *
          have hz_0 := HZ7.out.cell (i := 0) (x := (dig (mont G.p.m z) 0 : Int)) rfl
          have hz_1 := HZ7.out.cell (i := 1) (x := (dig (mont G.p.m z) 1 : Int)) rfl
          have hz_2 := HZ7.out.cell (i := 2) (x := (dig (mont G.p.m z) 2 : Int)) rfl
          have hz_3 := HZ7.out.cell (i := 3) (x := (dig (mont G.p.m z) 3 : Int)) rfl
          have hzf_0 := HZ7.out.frozen 0
          have hzf_1 := HZ7.out.frozen 1
          have hzf_2 := HZ7.out.frozen 2
          have hzf_3 := HZ7.out.frozen 3
          have HB8 : Hid (Below w.heap.size w (((((w7).setCell ⟨w1.heap.size, 0, none⟩ (.int .u64 (dig (mont G.p.m (z * numOf s ^ numOf t)) 0 : Int))).setCell ⟨w1.heap.size, 1, none⟩ (.int .u64 (dig (mont G.p.m (z * numOf s ^ numOf t)) 1 : Int))).setCell ⟨w1.heap.size, 2, none⟩ (.int .u64 (dig (mont G.p.m (z * numOf s ^ numOf t)) 2 : Int))).setCell ⟨w1.heap.size, 3, none⟩ (.int .u64 (dig (mont G.p.m (z * numOf s ^ numOf t)) 3 : Int)))) := below_fill HB7.out hwb
          have HZ8 : Hid (Blk (((((w7).setCell ⟨w1.heap.size, 0, none⟩ (.int .u64 (dig (mont G.p.m (z * numOf s ^ numOf t)) 0 : Int))).setCell ⟨w1.heap.size, 1, none⟩ (.int .u64 (dig (mont G.p.m (z * numOf s ^ numOf t)) 1 : Int))).setCell ⟨w1.heap.size, 2, none⟩ (.int .u64 (dig (mont G.p.m (z * numOf s ^ numOf t)) 2 : Int))).setCell ⟨w1.heap.size, 3, none⟩ (.int .u64 (dig (mont G.p.m (z * numOf s ^ numOf t)) 3 : Int))) w1.heap.size 111 (lim (mont G.p.m (z * numOf s ^ numOf t)))) := HZ7.out.fill rfl _
          go_wp2_with fail
          go_roundw
          case rel => exact ⟨i + 1, z * numOf s ^ numOf t, by omega, by go_num, HB8.out, HZ8.out, HV2.out, HE2.out⟩
          case measure => simp [intOf]; omega
    · have hil : i = L := by omega
      subst hil
      have hz_0 := HZ.out.cell (i := 0) (x := (dig (mont G.p.m z) 0 : Int)) rfl
      have hz_1 := HZ.out.cell (i := 1) (x := (dig (mont G.p.m z) 1 : Int)) rfl
      have hz_2 := HZ.out.cell (i := 2) (x := (dig (mont G.p.m z) 2 : Int)) rfl
      have hz_3 := HZ.out.cell (i := 3) (x := (dig (mont G.p.m z) 3 : Int)) rfl
      go_wp2_with fail
      refine (gText_any G OK.out gb z wr (HG.out.up HB.out)).mono ?_
      rintro e w3 ⟨rfl, hb3⟩
      have HB3 := Lib.hid (below_up HB.out hb3)
      clear hb3
      go_wp2_with fail
      go_ret2
      refine ⟨?_, HB3.out⟩
      rw [HV.out, HE.out, List.drop_eq_nil_of_le (by rw [HLA.out]; exact Nat.le_refl _)]
      rfl

def proV (G : GP) (xs ys : List ByteArray) : ByteArray := if 256 < xs.length ∨ 256 < ys.length then ⟨#[]⟩ else if xs.length ≠ ys.length then ⟨#[]⟩ else prodV G xs ys 1
def proE (G : GP) (xs ys : List ByteArray) : Int := if 256 < xs.length ∨ 256 < ys.length then 3 else if xs.length ≠ ys.length then 2 else prodE G xs ys

theorem Product_call {k : Nat} (h1 : 1 ≤ k) (h3 : k ≤ 3) {xs ys : List ByteArray} {aa an : Option Addr} {la ln ca cn : Nat} (ha : xs.length = la) (hn : ys.length = ln) {w W0 w1 : World}
    (hA : Sl w w.heap.size aa (xs.map Value.string)) (hN : Sl w w.heap.size an (ys.map Value.string))
    (hz : Below w.heap.size w W0 ∧ Bx W0 w.heap.size 22 [.slice aa la ca] ∧ Bx W0 (w.heap.size + 1) 22 [.slice an ln cn]) (hb : Below W0.heap.size W0 w1) (hg : GroupAt w1 W0.heap.size (grp k)) :
    Calls Try.prog 151 #[.pointer (some ⟨W0.heap.size, 0, none⟩), .pointer (some ⟨w.heap.size, 0, none⟩), .pointer (some ⟨w.heap.size + 1, 0, none⟩)] w1 (Ans (.string (proV (grp k) xs ys)) (proE (grp k) xs ys) w1) := by
  have ok := grp_ok k h1 h3
  have z1 := hz.2.1.up hb
  have z2 := hz.2.2.up hb
  have hu := below_up hz.1 hb
  unfold proV proE
  rw [ha, hn]
  by_cases hl : 256 < la ∨ 256 < ln
  · rw [if_pos hl, if_pos hl]
    exact product1_long _ _ _ la ln aa an ca cn hl w1 z1 z2
  · rw [if_neg hl, if_neg hl]
    by_cases he : la = ln
    · subst he
      rw [if_neg (by simp), if_neg (by simp)]
      exact product1_any _ ok _ _ _ la xs ys aa an ca cn ha hn (by omega) w1 hg z1 z2 (hA.up hu) (hN.up hu)
    · rw [if_pos he, if_pos he]
      exact product1_form _ _ _ la ln aa an ca cn (by omega) (by omega) he w1 z1 z2

set_option maxRecDepth 100000 in
set_option maxHeartbeats 400000 in
theorem Product_none (k : Int) (hk : ¬ (1 ≤ k ∧ k ≤ 3)) (aa an : Option Addr) (la ln ca cn : Nat) (w : World) : Calls Try.prog 100 #[.int .i64 k, .slice aa la ca, .slice an ln cn] w (Ans (.string ⟨#[]⟩) 1 w) := by
  go_enter Try.func100, Try.ntmps100
  go_wp2_with fail
  obtain ⟨W0, hW0⟩ : ∃ W9 : World, ((w.alloc (.cells #[.slice aa la ca] 22)).alloc (.cells #[.slice an ln cn] 22)) = W9 := ⟨_, rfl⟩
  have hz := box2 w (.slice aa la ca) (.slice an ln cn) 22 22
  rw [hW0] at hz
  have HZ := Lib.hid hz
  clear hz
  simp only [hW0]
  clear hW0
  refine (withS_none k hk _ W0).mono ?_
  rintro e w1 ⟨rfl, hb⟩
  have HB := Lib.hid (below_up HZ.out.1 hb)
  clear hb
  go_wp2_with fail
  go_ret2
  exact ⟨rfl, HB.out⟩

set_option maxRecDepth 100000 in
set_option maxHeartbeats 400000 in
theorem Product_some (k : Nat) (h1 : 1 ≤ k) (h3 : k ≤ 3) (xs ys : List ByteArray) (aa an : Option Addr) (la ln ca cn : Nat) (ha : xs.length = la) (hn : ys.length = ln) (w : World)
    (hA : Sl w w.heap.size aa (xs.map Value.string)) (hN : Sl w w.heap.size an (ys.map Value.string)) :
    Calls Try.prog 100 #[.int .i64 (k : Int), .slice aa la ca, .slice an ln cn] w (Ans (.string (proV (grp k) xs ys)) (proE (grp k) xs ys) w) := by
  have HLA := Lib.hid ha
  have HLN := Lib.hid hn
  have HA := Lib.hid hA
  have HN := Lib.hid hN
  clear ha hn hA hN
  go_enter Try.func100, Try.ntmps100
  go_wp2_with fail
  obtain ⟨W0, hW0⟩ : ∃ W9 : World, ((w.alloc (.cells #[.slice aa la ca] 22)).alloc (.cells #[.slice an ln cn] 22)) = W9 := ⟨_, rfl⟩
  have hz := box2 w (.slice aa la ca) (.slice an ln cn) 22 22
  rw [hW0] at hz
  have HZ := Lib.hid hz
  clear hz
  simp only [hW0]
  clear hW0
  refine (withS_some k h1 h3 151 #[.pointer (some ⟨w.heap.size, 0, none⟩), .pointer (some ⟨w.heap.size + 1, 0, none⟩)] (.string (proV (grp k) xs ys)) (proE (grp k) xs ys) (enters_of Try.func151 (by kernel_rfl) rfl) W0 (fun w1 hb hg => Product_call h1 h3 HLA.out HLN.out HA.out HN.out HZ.out hb hg)).mono ?_
  rintro e w2 ⟨rfl, hb2⟩
  have HB2 := Lib.hid (below_up HZ.out.1 hb2)
  clear hb2
  go_wp2_with fail
  go_ret2
  exact ⟨rfl, HB2.out⟩

end Go.Proofs.Ytipgjookfdkciaa

/- The package group: Power. No condition. -/
namespace Go.Proofs.Ytipgjookfdkciaa
open Go.RowKit

def powV (G : GP) (a n : ByteArray) : ByteArray := if isEl G.q.m G.size a = false then ⟨#[]⟩ else if isSc G.q.m G.size n = false then ⟨#[]⟩ else textS (lowN G (numOf a ^ numOf n)) G.size
def powE (G : GP) (a n : ByteArray) : Int := if isEl G.q.m G.size a = false then 7 else if isSc G.q.m G.size n = false then 6 else 0

theorem powV_eq (G : GP) (a n : ByteArray) : proV G [a] [n] = powV G a n := by
  unfold proV powV
  rw [if_neg (by simp), if_neg (by simp)]
  unfold prodV
  rw [Nat.one_mul]
  rfl
theorem powE_eq (G : GP) (a n : ByteArray) : proE G [a] [n] = powE G a n := by
  unfold proE powE
  rw [if_neg (by simp), if_neg (by simp)]
  rfl

set_option maxRecDepth 100000 in
set_option maxHeartbeats 400000 in
theorem Power_none (k : Int) (hk : ¬ (1 ≤ k ∧ k ≤ 3)) (a n : ByteArray) (w : World) : Calls Try.prog 37 #[.int .i64 k, .string a, .string n] w (Ans (.string ⟨#[]⟩) 1 w) := by
  go_enter Try.func37, Try.ntmps37
  go_wp2_with fail
  have hz := (box2 w (.string a) (.string n) 9 9).1
  refine (Product_none k hk _ _ 1 1 1 1 _).mono ?_
  rintro e w1 ⟨rfl, hb⟩
  have HB := Lib.hid (below_up hz hb)
  clear hb hz
  go_wp2_with fail
  go_ret2
  exact ⟨rfl, HB.out⟩

theorem Sl.of_bx {W : World} {b : Nat} {t : TypeId} {cs : List Value} (h : Bx W b t cs) : Sl W W.heap.size (some ⟨b, 0, none⟩) cs := by
  have h1 := Sl.of_block h
  simpa using h1

set_option maxRecDepth 100000 in
set_option maxHeartbeats 400000 in
theorem Power_some (k : Nat) (h1 : 1 ≤ k) (h3 : k ≤ 3) (a n : ByteArray) (w : World) : Calls Try.prog 37 #[.int .i64 (k : Int), .string a, .string n] w (Ans (.string (powV (grp k) a n)) (powE (grp k) a n) w) := by
  go_enter Try.func37, Try.ntmps37
  go_wp2_with fail
  have hz := box2 w (.string a) (.string n) 9 9
  have hp := Product_some k h1 h3 [a] [n] (some ⟨w.heap.size, 0, none⟩) (some ⟨w.heap.size + 1, 0, none⟩) 1 1 1 1 rfl rfl _ (Sl.of_bx hz.2.1) (Sl.of_bx hz.2.2)
  rw [powV_eq, powE_eq] at hp
  refine hp.mono ?_
  rintro e w1 ⟨rfl, hb⟩
  have HB := Lib.hid (below_up hz.1 hb)
  clear hb hz hp
  go_wp2_with fail
  go_ret2
  exact ⟨rfl, HB.out⟩

end Go.Proofs.Ytipgjookfdkciaa

/- The group's numbers, in plain words: the lower of a number and its opposite. No condition. -/
namespace Go.Proofs.Ytipgjookfdkciaa

theorem grp_prime_q (k : Nat) (h1 : 1 ≤ k) (h3 : k ≤ 3) : IsPrime (grp k).q.m := by
  obtain rfl | rfl | rfl : k = 1 ∨ k = 2 ∨ k = 3 := by omega
  · exact prime_q1
  · exact prime_q2
  · exact prime_q3
theorem grp_prime_p (k : Nat) (h1 : 1 ≤ k) (h3 : k ≤ 3) : IsPrime (grp k).p.m := by
  obtain rfl | rfl | rfl : k = 1 ∨ k = 2 ∨ k = 3 := by omega
  · exact prime_p1
  · exact prime_p2
  · exact prime_p3

/-- Two numbers are one or opposite, modulo p. -/
def PM (p x y : Nat) : Prop := (p : Int) ∣ (x : Int) - y ∨ (p : Int) ∣ (x : Int) + y

theorem PM.refl (p x : Nat) : PM p x x := Or.inl ⟨0, by omega⟩
theorem PM.of_mod {p x y : Nat} (h : x % p = y % p) : PM p x y := Or.inl (by
  have h1 := Nat.div_add_mod x p
  have h2 := Nat.div_add_mod y p
  refine ⟨(x / p : Nat) - (y / p : Nat), ?_⟩
  have e1 : (x : Int) = p * (x / p : Nat) + (x % p : Nat) := by exact_mod_cast h1.symm
  have e2 : (y : Int) = p * (y / p : Nat) + (y % p : Nat) := by exact_mod_cast h2.symm
  rw [e1, e2, h]
  generalize ((x / p : Nat) : Int) = a
  generalize ((y / p : Nat) : Int) = b
  grind)
theorem PM.symm {p x y : Nat} (h : PM p x y) : PM p y x := by
  rcases h with ⟨c, h⟩ | ⟨c, h⟩
  · exact Or.inl ⟨-c, by grind⟩
  · exact Or.inr ⟨c, by grind⟩
theorem PM.trans {p x y z : Nat} (h : PM p x y) (g : PM p y z) : PM p x z := by
  rcases h with ⟨c, h⟩ | ⟨c, h⟩ <;> rcases g with ⟨d, g⟩ | ⟨d, g⟩
  · exact Or.inl ⟨c + d, by grind⟩
  · exact Or.inr ⟨c + d, by grind⟩
  · exact Or.inr ⟨c - d, by grind⟩
  · exact Or.inl ⟨c - d, by grind⟩
theorem PM.mul {p x y u v : Nat} (h : PM p x y) (g : PM p u v) : PM p (x * u) (y * v) := by
  have e1 : ((x * u : Nat) : Int) = x * u := by simp
  have e2 : ((y * v : Nat) : Int) = y * v := by simp
  unfold PM
  rw [e1, e2]
  rcases h with ⟨c, h⟩ | ⟨c, h⟩ <;> rcases g with ⟨d, g⟩ | ⟨d, g⟩
  · exact Or.inl ⟨c * u + y * d, by grind⟩
  · exact Or.inr ⟨c * u + y * d, by grind⟩
  · exact Or.inr ⟨c * u - y * d, by grind⟩
  · exact Or.inl ⟨c * u - y * d, by grind⟩
theorem PM.pow {p x y : Nat} (h : PM p x y) : ∀ n : Nat, PM p (x ^ n) (y ^ n)
  | 0 => PM.refl _ _
  | n + 1 => by rw [Nat.pow_succ, Nat.pow_succ]; exact PM.mul (PM.pow h n) h
theorem PM.mod (p x : Nat) : PM p (x % p) x := PM.of_mod (Nat.mod_mod _ _)

theorem lowR_pm (q p x : Nat) (hx : x < p) : PM p (lowR q p x) x := by
  unfold lowR
  split
  · exact Or.inr ⟨1, by omega⟩
  · exact PM.refl _ _
theorem lowR_leq {q p x : Nat} (hp : p = 2 * q + 1) (hx : x < p) : lowR q p x ≤ q := by
  unfold lowR
  split <;> omega
theorem lowR_fix {q p x : Nat} (hx : x ≤ q) : lowR q p x = x := by
  unfold lowR
  rw [if_neg (by omega)]
theorem lowR_pos {q p x : Nat} (hx : x < p) (h0 : 0 < x) : 0 < lowR q p x := by
  unfold lowR
  split <;> omega

/-- Low numbers that are one or opposite are one. -/
theorem low_unique {q p x y : Nat} (hp : p = 2 * q + 1) (hx : x ≤ q) (hy : y ≤ q) (h : PM p x y) : x = y := by
  rcases h with h | h
  · have := Int.eq_zero_of_dvd_of_natAbs_lt_natAbs h (by omega)
    omega
  · have := Int.eq_zero_of_dvd_of_natAbs_lt_natAbs h (by omega)
    omega

theorem low_eq {q p x y : Nat} (hq : 0 < q) (hp : p = 2 * q + 1) (h : PM p x y) : lowR q p (x % p) = lowR q p (y % p) := by
  have hx := Nat.mod_lt x (show 0 < p by omega)
  have hy := Nat.mod_lt y (show 0 < p by omega)
  exact low_unique hp (lowR_leq hp hx) (lowR_leq hp hy) ((((lowR_pm q p _ hx).trans (PM.mod p x)).trans h).trans (((lowR_pm q p _ hy).trans (PM.mod p y)).symm))

theorem pm_low {q p : Nat} (hp : 0 < p) (x : Nat) : PM p (lowR q p (x % p)) x := (lowR_pm q p _ (Nat.mod_lt x hp)).trans (PM.mod p x)

/-- Fermat and Euler: a to the q is 1 or its opposite. -/
theorem pm_euler {q p a : Nat} (hpp : IsPrime p) (hp : p = 2 * q + 1) (h0 : 0 < a) (ha : a < p) : PM p (a ^ q) 1 := by
  have hnd : ¬ p ∣ a := fun h => by have := Nat.le_of_dvd h0 h; omega
  have hf := fermat hpp hnd
  rw [show p - 1 = q * 2 by omega, Nat.pow_mul] at hf
  obtain ⟨b, hb⟩ : ∃ b, a ^ q = b := ⟨_, rfl⟩
  rw [hb] at hf ⊢
  have hb0 : 0 < b := by rw [← hb]; exact Nat.pow_pos h0
  have h2 : p ∣ b ^ 2 - 1 := (mod_eq_iff_dvd_sub (Nat.pow_pos hb0)).1 hf
  have h3 : b ^ 2 - 1 = (b - 1) * (b + 1) := by
    obtain ⟨c, rfl⟩ : ∃ c, b = c + 1 := ⟨b - 1, by omega⟩
    rw [Nat.add_sub_cancel, Nat.pow_two]
    have : (c + 1) * (c + 1) = c * (c + 1 + 1) + 1 := by grind
    omega
  rw [h3] at h2
  rcases hpp.dvd_mul h2 with ⟨c, h⟩ | ⟨c, h⟩
  · refine Or.inl ⟨c, ?_⟩
    have : ((b - 1 : Nat) : Int) = p * c := by rw [h]; simp
    omega
  · refine Or.inr ⟨c, ?_⟩
    have : ((b + 1 : Nat) : Int) = p * c := by rw [h]; simp
    omega

theorem under_low {q p a : Nat} (hpp : IsPrime p) (hp : p = 2 * q + 1) (hq : 0 < q) (h0 : 0 < a) (ha : a ≤ q) : lowR q p (a ^ (p - 2) % p) = lowR q p (a ^ (q - 1) % p) := by
  refine low_eq hq hp ?_
  rw [show p - 2 = q + (q - 1) by omega, Nat.pow_add]
  have h := PM.mul (pm_euler hpp hp h0 (by omega)) (PM.refl p (a ^ (q - 1)))
  rwa [Nat.one_mul] at h

theorem low_mul {q p : Nat} (hq : 0 < q) (hp : p = 2 * q + 1) (x y : Nat) : lowR q p (lowR q p (x % p) * lowR q p (y % p) % p) = lowR q p (x * y % p) :=
  low_eq hq hp (PM.mul (pm_low (by omega) x) (pm_low (by omega) y))

end Go.Proofs.Ytipgjookfdkciaa

/- Numbers in so many bytes, there and back; the group's faces on such texts. No condition. -/
namespace Go.Proofs.Ytipgjookfdkciaa
open Go.RowKit

theorem numL_inj : ∀ l m : List UInt8, l.length = m.length → numL l = numL m → l = m
  | [], [], _, _ => rfl
  | [], _ :: _, h, _ => by simp at h
  | _ :: _, [], h, _ => by simp at h
  | a :: l, b :: m, h, e => by
    have hl : l.length = m.length := by simpa using h
    have h1 := numL_lt l
    have h2 := numL_lt m
    simp only [numL] at e
    rw [hl] at e h1
    have hP : 0 < 256 ^ m.length := Nat.pow_pos (by decide)
    have hd := congrArg (· / 256 ^ m.length) e
    have hm := congrArg (· % 256 ^ m.length) e
    simp only [Nat.mul_comm _ (256 ^ m.length), Nat.mul_add_div hP, Nat.mul_add_mod, Nat.div_eq_of_lt h1, Nat.div_eq_of_lt h2, Nat.mod_eq_of_lt h1, Nat.mod_eq_of_lt h2, Nat.add_zero] at hd hm
    rw [numL_inj l m hl hm, UInt8.toNat_inj.1 hd]

theorem numOf_inj {s t : ByteArray} (h : s.size = t.size) (e : numOf s = numOf t) : s = t := by
  have h1 := numL_inj s.data.toList t.data.toList (by simpa using h) e
  cases s; cases t
  simp at h1
  rw [h1]

theorem text_numOf (s : ByteArray) : textS (numOf s) s.size = s := by
  refine numOf_inj (textS_size _ _) ?_
  rw [numOf_textS]
  exact Nat.mod_eq_of_lt (by have := numL_lt s.data.toList; simpa [numOf] using this)

/-- A number as a text of the group. -/
def T (G : GP) (n : Nat) : ByteArray := textS n G.size

theorem T_size (G : GP) (n : Nat) : (T G n).size = G.size := textS_size _ _
theorem T_num {G : GP} (_ok : G.Ok) {n : Nat} (h : n ≤ G.q.m) (hne : G.q.m < 256 ^ G.size) : numOf (T G n) = n := by
  unfold T
  rw [numOf_textS]
  exact Nat.mod_eq_of_lt (by omega)

theorem T_of {G : GP} {s : ByteArray} (h : s.size = G.size) : s = T G (numOf s) := by
  unfold T
  rw [← h]
  exact (text_numOf s).symm

theorem T_sc {G : GP} (ok : G.Ok) (hne : G.q.m < 256 ^ G.size) {n : Nat} (h : n < G.q.m) : isSc G.q.m G.size (T G n) = true := by
  unfold isSc
  rw [T_size, T_num ok (Nat.le_of_lt h) hne]
  simp [h]
theorem T_el {G : GP} (ok : G.Ok) (hne : G.q.m < 256 ^ G.size) {n : Nat} (h0 : 0 < n) (h : n ≤ G.q.m) : isEl G.q.m G.size (T G n) = true := by
  unfold isEl
  rw [T_size, T_num ok h hne]
  simp [h, h0]

theorem grp_fits (k : Nat) (h1 : 1 ≤ k) (h3 : k ≤ 3) : (grp k).q.m < 256 ^ (grp k).size := by
  obtain rfl | rfl | rfl : k = 1 ∨ k = 2 ∨ k = 3 := by omega
  all_goals decide


theorem recV_t {k : Nat} (h1 : 1 ≤ k) (h3 : k ≤ 3) {x y z r : Nat} (hx : x < (grp k).q.m) (hy : y < (grp k).q.m) (hr : z % (grp k).q.m = r) : recV (grp k) (T (grp k) x) (T (grp k) y) z = T (grp k) r := by
  unfold recV
  rw [T_sc (grp_ok k h1 h3) (grp_fits k h1 h3) hx, T_sc (grp_ok k h1 h3) (grp_fits k h1 h3) hy, hr]
  rfl
theorem recE_t {k : Nat} (h1 : 1 ≤ k) (h3 : k ≤ 3) {x y : Nat} (hx : x < (grp k).q.m) (hy : y < (grp k).q.m) : recE (grp k) (T (grp k) x) (T (grp k) y) = 0 := by
  unfold recE
  rw [T_sc (grp_ok k h1 h3) (grp_fits k h1 h3) hx, T_sc (grp_ok k h1 h3) (grp_fits k h1 h3) hy]
  rfl

theorem sub_t (k : Nat) (h1 : 1 ≤ k) (h3 : k ≤ 3) (x y r : Nat) (hx : x < (grp k).q.m) (hy : y < (grp k).q.m) (hr : (x + ((grp k).q.m - y)) % (grp k).q.m = r) (w : World) :
    Calls Try.prog 35 #[.int .i64 (k : Int), .string (T (grp k) x), .string (T (grp k) y)] w (Ans (.string (T (grp k) r)) 0 w) := by
  have hA := Sub_some k h1 h3 (T (grp k) x) (T (grp k) y) w
  rwa [recV_t (r := r) h1 h3 hx hy (by rw [T_num (grp_ok k h1 h3) (Nat.le_of_lt hx) (grp_fits k h1 h3), T_num (grp_ok k h1 h3) (Nat.le_of_lt hy) (grp_fits k h1 h3)]; exact hr), recE_t h1 h3 hx hy] at hA

theorem inv_zero_t (k : Nat) (h1 : 1 ≤ k) (h3 : k ≤ 3) (w : World) : Calls Try.prog 31 #[.int .i64 (k : Int), .string (T (grp k) 0)] w (Ans (.string ⟨#[]⟩) 5 w) := by
  have hq : 0 < (grp k).q.m := (grp_ok k h1 h3).q.pos
  have hA := Inv_some k h1 h3 (T (grp k) 0) w
  have e1 : numOf (T (grp k) 0) = 0 := T_num (grp_ok k h1 h3) (Nat.zero_le _) (grp_fits k h1 h3)
  have e2 := T_sc (grp_ok k h1 h3) (grp_fits k h1 h3) hq
  rwa [show invV (grp k) (T (grp k) 0) = ⟨#[]⟩ by unfold invV; rw [if_neg (by simp [e1])], show invE (grp k) (T (grp k) 0) = 5 by unfold invE; rw [if_pos e2, if_pos e1]] at hA

theorem inv_t (k : Nat) (h1 : 1 ≤ k) (h3 : k ≤ 3) (x r : Nat) (h0 : 0 < x) (hx : x < (grp k).q.m) (hr : x ^ ((grp k).q.m - 2) % (grp k).q.m = r) (w : World) : Calls Try.prog 31 #[.int .i64 (k : Int), .string (T (grp k) x)] w (Ans (.string (T (grp k) r)) 0 w) := by
  have hA := Inv_some k h1 h3 (T (grp k) x) w
  have e1 : numOf (T (grp k) x) = x := T_num (grp_ok k h1 h3) (Nat.le_of_lt hx) (grp_fits k h1 h3)
  have e2 := T_sc (grp_ok k h1 h3) (grp_fits k h1 h3) hx
  rwa [show invV (grp k) (T (grp k) x) = T (grp k) r by unfold invV; rw [if_pos ⟨e2, by omega⟩, e1, hr]; rfl, show invE (grp k) (T (grp k) x) = 0 by unfold invE; rw [if_pos e2, if_neg (by omega)]] at hA

theorem number_t (k : Nat) (h1 : 1 ≤ k) (h3 : k ≤ 3) (n : Int) (r : Nat) (hn1 : -9223372036854775808 ≤ n) (hn2 : n ≤ 9223372036854775807) (hr : modI (grp k).q.m n = r) (w : World) : Calls Try.prog 53 #[.int .i64 (k : Int), .int .i64 n] w (Ans (.string (T (grp k) r)) 0 w) := by
  subst hr
  exact Number_some k h1 h3 n hn1 hn2 w

theorem scal_t (k : Nat) (h1 : 1 ≤ k) (h3 : k ≤ 3) (x : Nat) (hx : x < (grp k).q.m) (w : World) : Calls Try.prog 32 #[.int .i64 (k : Int), .string (T (grp k) x)] w fun e w' => e = .returned (.bool true) ∧ Below w.heap.size w w' := by
  have h9 := Scalar_some k h1 h3 (T (grp k) x) w
  rwa [T_sc (grp_ok k h1 h3) (grp_fits k h1 h3) hx] at h9

end Go.Proofs.Ytipgjookfdkciaa

/- The group's faces on texts of elements; what powers of elements are. No condition. -/
namespace Go.Proofs.Ytipgjookfdkciaa
open Go.RowKit

/-- The element that a number stands for. -/
def Lw (q p v : Nat) : Nat := lowR q p (v % p)

section
variable {q p : Nat} (hq : 0 < q) (hp : p = 2 * q + 1)
include hq hp
theorem Lw_eq {x y : Nat} (h : PM p x y) : Lw q p x = Lw q p y := low_eq hq hp h
omit hq in
theorem Lw_pm (x : Nat) : PM p (Lw q p x) x := pm_low (by omega) x
omit hq in
theorem Lw_le (x : Nat) : Lw q p x ≤ q := lowR_leq hp (Nat.mod_lt _ (by omega))
omit hq in
theorem Lw_fix {x : Nat} (h : x ≤ q) : Lw q p x = x := by
  unfold Lw
  rw [Nat.mod_eq_of_lt (by omega), lowR_fix h]
omit hq in
theorem Lw_pos {x : Nat} (h : ¬ p ∣ x) : 0 < Lw q p x := by
  unfold Lw
  refine lowR_pos (Nat.mod_lt _ (by omega)) ?_
  rcases Nat.eq_zero_or_pos (x % p) with h0 | h0
  · exact absurd (Nat.dvd_of_mod_eq_zero h0) h
  · exact h0
end

theorem IsPrime.not_dvd_mul {p a b : Nat} (hp : IsPrime p) (ha : ¬ p ∣ a) (hb : ¬ p ∣ b) : ¬ p ∣ a * b := fun h => (hp.dvd_mul h).elim ha hb
theorem IsPrime.not_dvd_pow {p a : Nat} (hp : IsPrime p) (ha : ¬ p ∣ a) : ∀ n, ¬ p ∣ a ^ n
  | 0 => fun h => by rw [Nat.pow_zero] at h; have := Nat.le_of_dvd (by decide) h; have := hp.1; omega
  | n + 1 => by rw [Nat.pow_succ]; exact hp.not_dvd_mul (IsPrime.not_dvd_pow hp ha n) ha
theorem not_dvd_small {p a : Nat} (h0 : 0 < a) (h : a < p) : ¬ p ∣ a := fun hd => by have := Nat.le_of_dvd h0 hd; omega

/-- Powers of an element go by the order. -/
theorem pm_pow_mod {q p a : Nat} (hpp : IsPrime p) (hp : p = 2 * q + 1) (h0 : 0 < a) (ha : a < p) (n : Nat) : PM p (a ^ (n % q)) (a ^ n) := by
  have h1 : a ^ n = a ^ (n % q) * (a ^ q) ^ (n / q) := by
    rw [← Nat.pow_mul, ← Nat.pow_add, Nat.mod_add_div]
  rw [h1]
  have h2 := PM.mul (PM.refl p (a ^ (n % q))) ((pm_euler hpp hp h0 ha).pow (n / q))
  rw [Nat.one_pow, Nat.mul_one] at h2
  exact h2.symm

theorem memb_t (k : Nat) (h1 : 1 ≤ k) (h3 : k ≤ 3) (x : Nat) (h0 : 0 < x) (hx : x ≤ (grp k).q.m) (w : World) : Calls Try.prog 122 #[.int .i64 (k : Int), .string (T (grp k) x)] w fun e w' => e = .returned (.bool true) ∧ Below w.heap.size w w' := by
  have h9 := Member_some k h1 h3 (T (grp k) x) w
  rwa [T_el (grp_ok k h1 h3) (grp_fits k h1 h3) h0 hx] at h9

theorem timV_t {k : Nat} (h1 : 1 ≤ k) (h3 : k ≤ 3) {x y r : Nat} (h0 : 0 < x) (hx : x ≤ (grp k).q.m) (g0 : 0 < y) (hy : y ≤ (grp k).q.m) (hr : Lw (grp k).q.m (grp k).p.m (x * y) = r) : timV (grp k) (T (grp k) x) (T (grp k) y) = T (grp k) r ∧ timE (grp k) (T (grp k) x) (T (grp k) y) = 0 := by
  unfold timV timE
  rw [T_el (grp_ok k h1 h3) (grp_fits k h1 h3) h0 hx, T_el (grp_ok k h1 h3) (grp_fits k h1 h3) g0 hy, T_num (grp_ok k h1 h3) hx (grp_fits k h1 h3), T_num (grp_ok k h1 h3) hy (grp_fits k h1 h3)]
  exact ⟨congrArg (textS · _) hr, rfl⟩
theorem powV_t {k : Nat} (h1 : 1 ≤ k) (h3 : k ≤ 3) {x n r : Nat} (h0 : 0 < x) (hx : x ≤ (grp k).q.m) (hn : n < (grp k).q.m) (hr : Lw (grp k).q.m (grp k).p.m (x ^ n) = r) : powV (grp k) (T (grp k) x) (T (grp k) n) = T (grp k) r ∧ powE (grp k) (T (grp k) x) (T (grp k) n) = 0 := by
  unfold powV powE
  rw [T_el (grp_ok k h1 h3) (grp_fits k h1 h3) h0 hx, T_sc (grp_ok k h1 h3) (grp_fits k h1 h3) hn, T_num (grp_ok k h1 h3) hx (grp_fits k h1 h3), T_num (grp_ok k h1 h3) (Nat.le_of_lt hn) (grp_fits k h1 h3)]
  exact ⟨congrArg (textS · _) hr, rfl⟩

theorem power_t (k : Nat) (h1 : 1 ≤ k) (h3 : k ≤ 3) (x n r : Nat) (h0 : 0 < x) (hx : x ≤ (grp k).q.m) (hn : n < (grp k).q.m) (hr : Lw (grp k).q.m (grp k).p.m (x ^ n) = r) (w : World) : Calls Try.prog 37 #[.int .i64 (k : Int), .string (T (grp k) x), .string (T (grp k) n)] w (Ans (.string (T (grp k) r)) 0 w) := by
  have h9 := Power_some k h1 h3 (T (grp k) x) (T (grp k) n) w
  obtain ⟨e1, e2⟩ := powV_t h1 h3 h0 hx hn hr
  rwa [e1, e2] at h9
theorem addF_t (k : Nat) (h1 : 1 ≤ k) (h3 : k ≤ 3) (x y r : Nat) (hx : x < (grp k).q.m) (hy : y < (grp k).q.m) (hr : (x + y) % (grp k).q.m = r) (w : World) :
    Calls Try.prog 34 #[.int .i64 (k : Int), .string (T (grp k) x), .string (T (grp k) y)] w (Ans (.string (T (grp k) r)) 0 w) := by
  have hA := Add_some k h1 h3 (T (grp k) x) (T (grp k) y) w
  rwa [recV_t (r := r) h1 h3 hx hy (by rw [T_num (grp_ok k h1 h3) (Nat.le_of_lt hx) (grp_fits k h1 h3), T_num (grp_ok k h1 h3) (Nat.le_of_lt hy) (grp_fits k h1 h3)]; exact hr), recE_t h1 h3 hx hy] at hA
theorem mulF_t (k : Nat) (h1 : 1 ≤ k) (h3 : k ≤ 3) (x y r : Nat) (hx : x < (grp k).q.m) (hy : y < (grp k).q.m) (hr : x * y % (grp k).q.m = r) (w : World) :
    Calls Try.prog 33 #[.int .i64 (k : Int), .string (T (grp k) x), .string (T (grp k) y)] w (Ans (.string (T (grp k) r)) 0 w) := by
  have hA := Mul_some k h1 h3 (T (grp k) x) (T (grp k) y) w
  rwa [recV_t (r := r) h1 h3 hx hy (by rw [T_num (grp_ok k h1 h3) (Nat.le_of_lt hx) (grp_fits k h1 h3), T_num (grp_ok k h1 h3) (Nat.le_of_lt hy) (grp_fits k h1 h3)]; exact hr), recE_t h1 h3 hx hy] at hA


end Go.Proofs.Ytipgjookfdkciaa

/- The least power of the base that a number is: small steps, then great ones. No condition. -/
namespace Go.Proofs.Ytipgjookfdkciaa

/-- The least n up to most with which 2 to the n is x. -/
def logF (q p x most : Nat) : Option Nat := (List.range (most + 1)).find? (fun n => decide (Lw q p (2 ^ n) = x))

/-- The least small step whose text is s. -/
def smallF (G : GP) (i : Nat) (s : ByteArray) : Option Nat := (List.range i).find? (fun j => decide (T G (Lw G.q.m G.p.m (2 ^ j)) = s))

theorem smallF_zero (G : GP) (s : ByteArray) : smallF G 0 s = none := rfl
theorem smallF_succ (G : GP) (i : Nat) (s : ByteArray) : smallF G (i + 1) s = (smallF G i s).or (if T G (Lw G.q.m G.p.m (2 ^ i)) = s then some i else none) := by
  unfold smallF
  rw [List.range_succ, List.find?_append]
  congr 1
  by_cases h : T G (Lw G.q.m G.p.m (2 ^ i)) = s <;> simp [h]

theorem find_range_some {f : Nat → Bool} {n i : Nat} (h : (List.range n).find? f = some i) : i < n ∧ f i = true ∧ ∀ j, j < i → f j = false := by
  have h1 := List.find?_some h
  have h2 : i ∈ List.range n := List.mem_of_find?_eq_some h
  refine ⟨by simpa using h2, h1, fun j hj => ?_⟩
  rw [List.find?_eq_some_iff_getElem] at h
  obtain ⟨_, k, hk, he, hl⟩ := h
  simp at he
  subst he
  have := hl j hj
  simpa using this
theorem find_range_none {f : Nat → Bool} {n : Nat} (h : (List.range n).find? f = none) : ∀ j, j < n → f j = false := by
  intro j hj
  have := List.find?_eq_none.1 h j (by simpa using hj)
  simpa using this

theorem logF_some {q p x most n : Nat} (hn : n ≤ most) (h : Lw q p (2 ^ n) = x) (hl : ∀ j, j < n → Lw q p (2 ^ j) ≠ x) : logF q p x most = some n := by
  unfold logF
  cases he : (List.range (most + 1)).find? (fun n => decide (Lw q p (2 ^ n) = x)) with
  | none => have := find_range_none he n (by omega); simp [h] at this
  | some i =>
    obtain ⟨h1, h2, h3⟩ := find_range_some he
    rcases Nat.lt_trichotomy i n with hc | hc | hc
    · exact absurd (by simpa using h2) (hl i hc)
    · rw [hc]
    · have := h3 n hc; simp [h] at this
theorem logF_none {q p x most : Nat} (hl : ∀ j, j ≤ most → Lw q p (2 ^ j) ≠ x) : logF q p x most = none := by
  unfold logF
  rw [List.find?_eq_none]
  intro j hj
  simp at hj
  simpa using hl j (by omega)

theorem Lw_iff {q p : Nat} (hq : 0 < q) (hp : p = 2 * q + 1) (u v : Nat) : Lw q p u = Lw q p v ↔ PM p u v :=
  ⟨fun h => ((Lw_pm hp u).symm.trans (by rw [h]; exact PM.refl _ _)).trans (Lw_pm hp v), fun h => Lw_eq hq hp h⟩

theorem giant {q p x back step : Nat} (hq : 0 < q) (hp : p = 2 * q + 1) (hx : x ≤ q) (hb : PM p (back * 2 ^ step) 1) (k j : Nat) : Lw q p (2 ^ j) = Lw q p (x * back ^ k) ↔ Lw q p (2 ^ (k * step + j)) = x := by
  have h1 : PM p (back ^ k * 2 ^ (k * step)) 1 := by
    have := hb.pow k
    rwa [Nat.one_pow, Nat.mul_pow, ← Nat.pow_mul, Nat.mul_comm step k] at this
  have hx' : Lw q p (2 ^ (k * step + j)) = x ↔ PM p (2 ^ (k * step + j)) x := by
    rw [← Lw_iff hq hp, Lw_fix hp hx]
  rw [hx', Lw_iff hq hp, Nat.pow_add]
  constructor
  · intro h
    have h2 := (PM.refl p (2 ^ (k * step))).mul h
    refine h2.trans ?_
    have h3 := (PM.refl p x).mul h1
    rw [Nat.mul_one] at h3
    rwa [show 2 ^ (k * step) * (x * back ^ k) = x * (back ^ k * 2 ^ (k * step)) by grind]
  · intro h
    have h2 := h.mul (PM.refl p (back ^ k))
    refine (PM.symm ?_).trans h2
    have h3 := (PM.refl p (2 ^ j)).mul h1
    rw [Nat.mul_one] at h3
    rwa [show 2 ^ (k * step) * 2 ^ j * back ^ k = 2 ^ j * (back ^ k * 2 ^ (k * step)) by grind]

theorem T_inj {G : GP} (ok : G.Ok) (fit : G.q.m < 256 ^ G.size) {u v : Nat} (hu : u ≤ G.q.m) (hv : v ≤ G.q.m) (h : T G u = T G v) : u = v := by
  have := congrArg numOf h
  rwa [T_num ok hu fit, T_num ok hv fit] at this

/-- What a look among the small steps says of x. -/
theorem look_some {G : GP} (ok : G.Ok) (fit : G.q.m < 256 ^ G.size) {x back step k i : Nat} (hx : x ≤ G.q.m) (hb : PM G.p.m (back * 2 ^ step) 1) (h : smallF G step (T G (Lw G.q.m G.p.m (x * back ^ k))) = some i)
    (hl : ∀ n, n < k * step → Lw G.q.m G.p.m (2 ^ n) ≠ x) : i < step ∧ Lw G.q.m G.p.m (2 ^ (k * step + i)) = x ∧ ∀ j, j < k * step + i → Lw G.q.m G.p.m (2 ^ j) ≠ x := by
  obtain ⟨h1, h2, h3⟩ := find_range_some h
  have hq := ok.q.pos
  have le := fun v => Lw_le (q := G.q.m) ok.twice v
  refine ⟨h1, (giant hq ok.twice hx hb k i).1 (T_inj ok fit (le _) (le _) (by simpa using h2)), fun j hj => ?_⟩
  rcases Nat.lt_or_ge j (k * step) with hc | hc
  · exact hl j hc
  · obtain ⟨d, rfl⟩ : ∃ d, j = k * step + d := ⟨j - k * step, by omega⟩
    have := h3 d (by omega)
    intro he
    have h5 := (giant hq ok.twice hx hb k d).2 he
    simp [h5] at this

theorem look_none {G : GP} (ok : G.Ok) {x back step k : Nat} (hx : x ≤ G.q.m) (hb : PM G.p.m (back * 2 ^ step) 1) (h : smallF G step (T G (Lw G.q.m G.p.m (x * back ^ k))) = none)
    (hl : ∀ n, n < k * step → Lw G.q.m G.p.m (2 ^ n) ≠ x) : ∀ n, n < (k + 1) * step → Lw G.q.m G.p.m (2 ^ n) ≠ x := by
  intro n hn
  rcases Nat.lt_or_ge n (k * step) with hc | hc
  · exact hl n hc
  · obtain ⟨d, rfl⟩ : ∃ d, n = k * step + d := ⟨n - k * step, by omega⟩
    rw [Nat.add_mul, Nat.one_mul] at hn
    have := find_range_none h d (by omega)
    intro he
    have h5 := (giant ok.q.pos ok.twice hx hb k d).2 he
    simp [h5] at this

theorem back_ok {q p step : Nat} (hpp : IsPrime p) (hp : p = 2 * q + 1) (hq : 1 < q) : PM p ((2 ^ step) ^ (p - 2) * 2 ^ step) 1 := by
  rw [← Nat.pow_succ]
  refine PM.of_mod ?_
  rw [show (p - 2).succ = p - 1 by omega]
  exact fermat hpp (hpp.not_dvd_pow (not_dvd_small (by decide) (by omega)) _)

end Go.Proofs.Ytipgjookfdkciaa

/- The document's group as a value: its contracts in short; what low numbers do. No condition. -/
namespace Go.Proofs.Ytipgjookfdkciaa
open Go.RowKit

section
variable {G : GP}
theorem lowN_eq (ok : G.Ok) {x y : Nat} (h : PM G.p.m x y) : lowN G x = lowN G y := low_eq ok.q.pos ok.twice h
theorem lowN_pm (ok : G.Ok) (x : Nat) : PM G.p.m (lowN G x) x := Lw_pm ok.twice x
theorem lowN_le (ok : G.Ok) (x : Nat) : lowN G x ≤ G.q.m := Lw_le ok.twice x
theorem lowN_16 (ok : G.Ok) (x : Nat) : lowN G x < DD ^ 16 := Nat.lt_of_le_of_lt (lowN_le ok x) ok.q.lt4
theorem lowN_mul (ok : G.Ok) (x y : Nat) : lowN G (lowN G x * lowN G y) = lowN G (x * y) := lowN_eq ok (PM.mul (lowN_pm ok x) (lowN_pm ok y))
theorem lowN_mulL (ok : G.Ok) (x y : Nat) : lowN G (lowN G x * y) = lowN G (x * y) := lowN_eq ok (PM.mul (lowN_pm ok x) (PM.refl _ y))
theorem lowN_mulR (ok : G.Ok) (x y : Nat) : lowN G (x * lowN G y) = lowN G (x * y) := lowN_eq ok (PM.mul (PM.refl _ x) (lowN_pm ok y))
theorem lowN_pow (ok : G.Ok) (x n : Nat) : lowN G (lowN G x ^ n) = lowN G (x ^ n) := lowN_eq ok (PM.pow (lowN_pm ok x) n)
theorem lowN_fix (ok : G.Ok) {x : Nat} (h : x ≤ G.q.m) : lowN G x = x := Lw_fix ok.twice h

/-- The document's group lies in memory. -/
structure RG (W : World) (G : GP) (aq ap : Option Addr) : Prop where
  q : NumAt W aq G.q.m
  p : NumAt W ap G.p.m
theorem RG.up {W W' : World} {aq ap : Option Addr} (h : RG W G aq ap) (hb : Below W.heap.size W W') : RG W' G aq ap := ⟨h.q.up hb, h.p.up hb⟩

theorem q_dl (ok : G.Ok) {n : Nat} (h : n ≤ G.q.m) : dl n ≤ 65536 := Nat.le_trans (dl_of_lt n 16 (Nat.lt_of_le_of_lt h ok.q.lt4)) (by decide)

variable {aq ap : Option Addr} {cq cp : Nat}

theorem rProd (ok : G.Ok) {a b : Nat} {aa ab : Option Addr} {ca cb : Nat} (ha : a < DD ^ 16) (hb : b < DD ^ 16) (w : World) (hG : RG w G aq ap) (hA : NumAt w aa a) (hB : NumAt w ab b) :
    Calls Try.prog 110 #[.agg #[.int .i64 (G.size : Int), .slice aq (dl G.q.m) cq, .slice ap (dl G.p.m) cp], .slice aa (dl a) ca, .slice ab (dl b) cb] w fun e w' => NumR w e w' (lowN G (a * b)) :=
  refProduct_any a b G.size G.q.m G.p.m aa ab aq ap ca cb cq cp ha hb ok.p.pos ok.p.lt4 w hA hB hG.q hG.p
theorem rPow (ok : G.Ok) {a n : Nat} {aa an : Option Addr} {ca cn : Nat} (ha : a < DD ^ 16) (hn : dl n ≤ 65536) (w : World) (hG : RG w G aq ap) (hA : NumAt w aa a) (hN : NumAt w an n) :
    Calls Try.prog 111 #[.agg #[.int .i64 (G.size : Int), .slice aq (dl G.q.m) cq, .slice ap (dl G.p.m) cp], .slice aa (dl a) ca, .slice an (dl n) cn] w fun e w' => NumR w e w' (lowN G (a ^ n)) :=
  refPow_any a n G.size G.q.m G.p.m aa an aq ap ca cn cq cp ha hn (by have := ok.twice; have := ok.q.pos; omega) ok.p.lt4 w hA hN hG.q hG.p
theorem rUnder (ok : G.Ok) {a : Nat} {aa : Option Addr} {ca : Nat} (ha : a < DD ^ 16) (w : World) (hG : RG w G aq ap) (hA : NumAt w aa a) :
    Calls Try.prog 148 #[.agg #[.int .i64 (G.size : Int), .slice aq (dl G.q.m) cq, .slice ap (dl G.p.m) cp], .slice aa (dl a) ca] w fun e w' => NumR w e w' (lowN G (a ^ (G.q.m - 1))) :=
  refUnder_any a G.size G.q.m G.p.m aa aq ap ca cq cp ha ok.q.pos ok.q.lt4 (by have := ok.twice; have := ok.q.pos; omega) ok.p.lt4 w hA hG.q hG.p
theorem rIsSc (ok : G.Ok) (s : ByteArray) (w : World) (hG : RG w G aq ap) :
    Calls Try.prog 66 #[.agg #[.int .i64 (G.size : Int), .slice aq (dl G.q.m) cq, .slice ap (dl G.p.m) cp], .string s] w fun e w' => e = .returned (.bool (isSc G.q.m G.size s)) ∧ Below w.heap.size w w' :=
  refIsScalar_any s G.size G.q.m G.p.m aq ap cq cp ok.size_le w hG.q
theorem rIsEl (ok : G.Ok) (s : ByteArray) (w : World) (hG : RG w G aq ap) :
    Calls Try.prog 79 #[.agg #[.int .i64 (G.size : Int), .slice aq (dl G.q.m) cq, .slice ap (dl G.p.m) cp], .string s] w fun e w' => e = .returned (.bool (isEl G.q.m G.size s)) ∧ Below w.heap.size w w' :=
  refIsElem_any s G.size G.q.m G.p.m aq ap cq cp ok.size_le w hG.q
theorem rAdd (ok : G.Ok) {a b : Nat} {aa ab : Option Addr} {ca cb : Nat} (ha : a < DD ^ 16) (hb : b < DD ^ 16) (w : World) (hG : RG w G aq ap) (hA : NumAt w aa a) (hB : NumAt w ab b) :
    Calls Try.prog 152 #[.agg #[.int .i64 (G.size : Int), .slice aq (dl G.q.m) cq, .slice ap (dl G.p.m) cp], .slice aa (dl a) ca, .slice ab (dl b) cb] w fun e w' => NumR w e w' ((a + b) % G.q.m) :=
  refAdd_any a b G.size G.q.m G.p.m aa ab aq ap ca cb cq cp ha hb ok.q.pos w hA hB hG.q
theorem rMul (ok : G.Ok) {a b : Nat} {aa ab : Option Addr} {ca cb : Nat} (ha : a < DD ^ 16) (hb : b < DD ^ 16) (w : World) (hG : RG w G aq ap) (hA : NumAt w aa a) (hB : NumAt w ab b) :
    Calls Try.prog 71 #[.agg #[.int .i64 (G.size : Int), .slice aq (dl G.q.m) cq, .slice ap (dl G.p.m) cp], .slice aa (dl a) ca, .slice ab (dl b) cb] w fun e w' => NumR w e w' (a * b % G.q.m) :=
  refMul_any a b G.size G.q.m G.p.m aa ab aq ap ca cb cq cp ha hb ok.q.pos w hA hB hG.q
theorem rSub (ok : G.Ok) {a b : Nat} {aa ab : Option Addr} {ca cb : Nat} (ha : a < DD ^ 16) (hb : b ≤ G.q.m) (w : World) (hG : RG w G aq ap) (hA : NumAt w aa a) (hB : NumAt w ab b) :
    Calls Try.prog 68 #[.agg #[.int .i64 (G.size : Int), .slice aq (dl G.q.m) cq, .slice ap (dl G.p.m) cp], .slice aa (dl a) ca, .slice ab (dl b) cb] w fun e w' => NumR w e w' ((a + (G.q.m - b)) % G.q.m) :=
  by have h := refSub_any a b G.size G.q.m G.p.m aa ab aq ap ca cb cq cp ha hb ok.q.pos ok.q.lt4 w hA hB hG.q
     rwa [Nat.add_sub_assoc hb] at h
theorem rInv (ok : G.Ok) (h2 : 2 ≤ G.q.m) {a : Nat} {aa : Option Addr} {ca : Nat} (ha : a < DD ^ 16) (w : World) (hG : RG w G aq ap) (hA : NumAt w aa a) :
    Calls Try.prog 67 #[.agg #[.int .i64 (G.size : Int), .slice aq (dl G.q.m) cq, .slice ap (dl G.p.m) cp], .slice aa (dl a) ca] w fun e w' => NumR w e w' (a ^ (G.q.m - 2) % G.q.m) :=
  refInv_any a G.size G.q.m G.p.m aa aq ap ca cq cp ha h2 ok.q.lt4 w hA hG.q
theorem rText (ok : G.Ok) {n : Nat} {an : Option Addr} {cn : Nat} (hn : n < DD ^ 16) (w : World) (hN : NumAt w an n) :
    Calls Try.prog 70 #[.slice an (dl n) cn, .int .i64 (G.size : Int)] w fun e w' => e = .returned (.string (textS n G.size)) ∧ Below w.heap.size w w' :=
  refText_any n G.size an cn (small_dl n hn) (by have := ok.size_le; omega) w hN
end

end Go.Proofs.Ytipgjookfdkciaa

/- Powers of elements: what is one says that exponents are one modulo the order. No condition beyond those that each fact names. -/
namespace Go.Proofs.Ytipgjookfdkciaa
open Go.RowKit

theorem pm_sq {p x : Nat} (h0 : 0 < x) (h : PM p x 1) : x ^ 2 % p = 1 % p := by
  have h1 : p ∣ x ^ 2 - 1 := by
    obtain ⟨c, rfl⟩ : ∃ c, x = c + 1 := ⟨x - 1, by omega⟩
    have e : (c + 1) ^ 2 - 1 = c * (c + 2) := by
      have : (c + 1) ^ 2 = c * (c + 2) + 1 := by grind
      omega
    rw [e]
    rcases h with ⟨d, h⟩ | ⟨d, h⟩
    · have : (p : Int) ∣ ((c : Nat) : Int) := ⟨d, by omega⟩
      exact Nat.dvd_mul_right_of_dvd (Int.natCast_dvd_natCast.1 this) _
    · have : (p : Int) ∣ ((c + 2 : Nat) : Int) := ⟨d, by omega⟩
      exact Nat.dvd_mul_left_of_dvd (Int.natCast_dvd_natCast.1 this) _
  exact (mod_eq_iff_dvd_sub (Nat.pow_pos h0)).2 h1

theorem pm_inv {q p a : Nat} (hpp : IsPrime p) (hp : p = 2 * q + 1) (hq : 1 < q) (ha : ¬ p ∣ a) : PM p (a ^ (p - 2) * a) 1 := by
  rw [← Nat.pow_succ, show (p - 2).succ = p - 1 by omega]
  exact PM.of_mod (fermat hpp ha)

/-- What a factor that is no multiple of p is taken from. -/
theorem pm_cancel {q p a x y : Nat} (hpp : IsPrime p) (hp : p = 2 * q + 1) (hq : 1 < q) (ha : ¬ p ∣ a) (h : PM p (a * x) (a * y)) : PM p x y := by
  have h1 := (PM.refl p (a ^ (p - 2))).mul h
  rw [← Nat.mul_assoc, ← Nat.mul_assoc] at h1
  have hi := pm_inv hpp hp hq ha
  have hx := hi.mul (PM.refl p x)
  have hy := hi.mul (PM.refl p y)
  rw [Nat.one_mul] at hx hy
  exact (hx.symm.trans h1).trans hy

/-- Powers of an element that is not 1 which are one element differ by a multiple of the order. -/
theorem order_any {q p a m n : Nat} (hqp : IsPrime q) (hpp : IsPrime p) (hp : p = 2 * q + 1) (hq : 1 < q) (ha : 1 < a) (haq : a ≤ q) (hmn : m ≤ n) (h : PM p (a ^ m) (a ^ n)) : m % q = n % q := by
  have hda : ¬ p ∣ a := not_dvd_small (by omega) (by omega)
  have h1 : PM p (a ^ (n - m)) 1 := by
    refine (pm_cancel hpp hp hq (hpp.not_dvd_pow hda m) ?_).symm
    rw [Nat.mul_one, ← Nat.pow_add, show m + (n - m) = n by omega]
    exact h
  have h6 := pm_sq (Nat.pow_pos (by omega)) h1
  rw [← Nat.pow_mul, Nat.mul_comm, Nat.pow_mul] at h6
  have h7 : (a ^ 2) ^ q % p = 1 % p := by
    rw [← Nat.pow_mul, show 2 * q = p - 1 by omega]
    exact fermat hpp hda
  have h8 := pow_gcd _ _ h6 h7
  rcases hqp.2 (Nat.gcd (n - m) q) (Nat.gcd_dvd_right _ _) with hg | hg
  · rw [hg, Nat.pow_one] at h8
    exfalso
    have hd := (mod_eq_iff_dvd_sub (Nat.pow_pos (by omega))).1 h8
    have e : a ^ 2 - 1 = (a - 1) * (a + 1) := by
      obtain ⟨c, rfl⟩ : ∃ c, a = c + 1 := ⟨a - 1, by omega⟩
      have : (c + 1) ^ 2 = (c + 1 - 1) * (c + 1 + 1) + 1 := by rw [Nat.add_sub_cancel]; grind
      omega
    rw [e] at hd
    rcases hpp.dvd_mul hd with h9 | h9
    · have := Nat.le_of_dvd (by omega) h9; omega
    · have := Nat.le_of_dvd (by omega) h9; omega
  · have hd : q ∣ n - m := by
      have := Nat.gcd_dvd_left (n - m) q
      rwa [hg] at this
    exact ((mod_eq_iff_dvd_sub hmn).2 hd).symm

/-- Below the order the exponents themselves are one. -/
theorem order_lt {q p a m n : Nat} (hqp : IsPrime q) (hpp : IsPrime p) (hp : p = 2 * q + 1) (hq : 1 < q) (ha : 1 < a) (haq : a ≤ q) (hm : m < q) (hn : n < q) (h : PM p (a ^ m) (a ^ n)) : m = n := by
  rcases Nat.le_total m n with h9 | h9
  · have := order_any hqp hpp hp hq ha haq h9 h
    rwa [Nat.mod_eq_of_lt hm, Nat.mod_eq_of_lt hn] at this
  · have := order_any hqp hpp hp hq ha haq h9 h.symm
    rw [Nat.mod_eq_of_lt hm, Nat.mod_eq_of_lt hn] at this
    exact this.symm

section
variable {G : GP}
theorem lowN_iff (ok : G.Ok) (x y : Nat) : lowN G x = lowN G y ↔ PM G.p.m x y := Lw_iff ok.q.pos ok.twice x y
theorem lowN_pos (ok : G.Ok) (hpp : IsPrime G.p.m) {x : Nat} (h : ¬ G.p.m ∣ x) : 0 < lowN G x := Lw_pos ok.twice h
theorem pow2_nd (ok : G.Ok) (hpp : IsPrime G.p.m) (n : Nat) : ¬ G.p.m ∣ 2 ^ n := hpp.not_dvd_pow (not_dvd_small (by decide) (by have := ok.twice; have := ok.odd; omega)) n
theorem low_nd (ok : G.Ok) (hpp : IsPrime G.p.m) {x : Nat} (h : ¬ G.p.m ∣ x) : ¬ G.p.m ∣ lowN G x := not_dvd_small (lowN_pos ok hpp h) (by have := lowN_le ok x; have := ok.twice; have := ok.q.pos; omega)

/-- A cipher opened: what comes out, whatever stands for its parts. -/
theorem opens (ok : G.Ok) (hpp : IsPrime G.p.m) {A B K S T X : Nat} (hK : PM G.p.m K (2 ^ S)) (hA : PM G.p.m A (2 ^ T)) (hB : PM G.p.m B (K ^ T * 2 ^ X)) (hd : ¬ G.p.m ∣ A) : lowN G (B * (A ^ S) ^ (G.p.m - 2)) = lowN G (2 ^ X) := by
  have hq : 1 < G.q.m := by have := ok.odd; omega
  refine lowN_eq ok ?_
  have hi := pm_inv hpp ok.twice hq (hpp.not_dvd_pow hd S)
  have h1 : PM G.p.m B (A ^ S * 2 ^ X) := by
    refine hB.trans (PM.mul ?_ (PM.refl _ _))
    refine (hK.pow T).trans ?_
    rw [← Nat.pow_mul, Nat.mul_comm, Nat.pow_mul]
    exact (hA.pow S).symm
  have h2 := h1.mul (PM.refl G.p.m ((A ^ S) ^ (G.p.m - 2)))
  refine h2.trans ?_
  rw [Nat.mul_comm, ← Nat.mul_assoc]
  have h3 := hi.mul (PM.refl G.p.m (2 ^ X))
  rwa [Nat.one_mul] at h3

/-- One cipher hides one number with one nonce. -/
theorem binds (ok : G.Ok) (hpp : IsPrime G.p.m) (hqp : IsPrime G.q.m) {K V W X Y : Nat} (hk : ¬ G.p.m ∣ K) (hV : V < G.q.m) (hW : W < G.q.m) (hX : X < G.q.m) (hY : Y < G.q.m)
    (h1 : lowN G (2 ^ V) = lowN G (2 ^ W)) (h2 : lowN G (K ^ V * 2 ^ X) = lowN G (K ^ W * 2 ^ Y)) : V = W ∧ X = Y := by
  have hq : 1 < G.q.m := by have := ok.odd; omega
  have h2q : 2 ≤ G.q.m := hq
  have e1 := order_lt hqp hpp ok.twice hq (by decide) h2q hV hW ((lowN_iff ok _ _).1 h1)
  subst e1
  refine ⟨rfl, ?_⟩
  exact order_lt hqp hpp ok.twice hq (by decide) h2q hX hY (pm_cancel hpp ok.twice hq (hpp.not_dvd_pow hk V) ((lowN_iff ok _ _).1 h2))
end

end Go.Proofs.Ytipgjookfdkciaa

/- The public key of a secret. No condition. -/
namespace Go.Proofs.Ytipgjookfdkciaa
open Go.RowKit

set_option maxRecDepth 100000 in
set_option maxHeartbeats 1000000 in
theorem pub_none (k : Int) (hk : ¬ (1 ≤ k ∧ k ≤ 3)) (x : ByteArray) (w : World) : Calls Try.prog 30 #[.int .i64 k, .string x] w (Gives (strE 1) w) := by
  unfold Gives strE
  go_enter Try.func30, Try.ntmps30
  go_wp2_with fail
  refine (of_none k hk _).mono ?_
  rintro e w2 ⟨rfl, rfl⟩
  go_wp2_with fail
  go_ret2
  exact ⟨rfl, Below.refl _ _⟩

set_option maxRecDepth 100000 in
set_option maxHeartbeats 1000000 in
theorem pub_some (k : Nat) (h1 : 1 ≤ k) (h3 : k ≤ 3) (x : ByteArray) (bx : Bool) (hx : isSc (grp k).q.m (grp k).size x = bx) (w : World) :
    Calls Try.prog 30 #[.int .i64 (k : Int), .string x] w (Gives (if bx then .tuple #[.string (textS (lowN (grp k) (2 ^ (numOf x % (grp k).q.m))) (grp k).size), .int .i64 0] else strE 6) w) := by
  have HX := Lib.hid hx
  have OK := Lib.hid (grp_ok k h1 h3)
  clear hx
  unfold Gives strE
  go_enter Try.func30, Try.ntmps30
  go_wp2_with fail
  refine (of_some k h1 h3 w).mono ?_
  rintro e w1 ⟨rfl, hg9, hb9⟩
  have HB := Lib.hid hb9
  have Hs1 := Lib.hid (show w.heap.size ≤ w1.heap.size from hb9.size)
  have HG := Lib.hid hg9
  clear hg9
  clear hb9
  go_wp2_with fail
  refine (gScalar_m (grp k) OK.out _ x bx HX.out w1 HG.out).mono ?_
  rintro e w2 ⟨sn, rfl, hb9, hn9⟩
  replace HG := Lib.hid (HG.out.up hb9)
  replace HB := Lib.hid (below_up HB.out hb9)
  have Hs2 := Lib.hid (show w1.heap.size ≤ w2.heap.size from hb9.size)
  have HSN := Lib.hid hn9
  clear hn9
  clear hb9
  unfold limbV
  have hb9 : Below w2.heap.size w2 (w2.alloc (Obj.cells #[.int .u64 (dig (sn) 0 : Int), .int .u64 (dig (sn) 1 : Int), .int .u64 (dig (sn) 2 : Int), .int .u64 (dig (sn) 3 : Int)] 91)) := ((Below.refl _ _).alloc (Nat.le_refl _) _)
  have hx90 : Bx (w2.alloc (Obj.cells #[.int .u64 (dig (sn) 0 : Int), .int .u64 (dig (sn) 1 : Int), .int .u64 (dig (sn) 2 : Int), .int .u64 (dig (sn) 3 : Int)] 91)) (w2.heap.size) 91 [.int .u64 (dig (sn) 0 : Int), .int .u64 (dig (sn) 1 : Int), .int .u64 (dig (sn) 2 : Int), .int .u64 (dig (sn) 3 : Int)] := by
    have h := (Bx.new w2 91 [.int .u64 (dig (sn) 0 : Int), .int .u64 (dig (sn) 1 : Int), .int .u64 (dig (sn) 2 : Int), .int .u64 (dig (sn) 3 : Int)] _ rfl)
    exact h
  have hz9 : (w2.alloc (Obj.cells #[.int .u64 (dig (sn) 0 : Int), .int .u64 (dig (sn) 1 : Int), .int .u64 (dig (sn) 2 : Int), .int .u64 (dig (sn) 3 : Int)] 91)).heap.size = w2.heap.size + 1 := by simp
  obtain ⟨w3, hq3⟩ : ∃ W9 : World, (w2.alloc (Obj.cells #[.int .u64 (dig (sn) 0 : Int), .int .u64 (dig (sn) 1 : Int), .int .u64 (dig (sn) 2 : Int), .int .u64 (dig (sn) 3 : Int)] 91)) = W9 := ⟨_, rfl⟩
  rw [hq3] at hb9 hz9 hx90
  replace HG := Lib.hid (HG.out.up hb9)
  replace HB := Lib.hid (below_up HB.out hb9)
  have Hs3 := Lib.hid hz9
  have Hbn := Lib.hid hx90
  clear hb9 hz9 hx90
  have bn_0 := Hbn.out.cell (i := 0) rfl
  have bn_1 := Hbn.out.cell (i := 1) rfl
  have bn_2 := Hbn.out.cell (i := 2) rfl
  have bn_3 := Hbn.out.cell (i := 3) rfl
  cases bx
  · go_wp2_with fail
    clear hq3
    go_ret2
    exact ⟨rfl, HB.out⟩
  · obtain rfl := HSN.out rfl
    go_wp2_with fail
    clear hq3
    refine (gRaise_any (grp k) OK.out _ _ w3 HG.out).mono ?_
    rintro e w4 ⟨rfl, hb9⟩
    clear bn_0 bn_1 bn_2 bn_3
    replace Hbn := Lib.hid (Hbn.out.up hb9)
    replace HG := Lib.hid (HG.out.up hb9)
    replace HB := Lib.hid (below_up HB.out hb9)
    have Hs4 := Lib.hid (show w3.heap.size ≤ w4.heap.size from hb9.size)
    clear hb9
    have bn_0 := Hbn.out.cell (i := 0) rfl
    have bn_1 := Hbn.out.cell (i := 1) rfl
    have bn_2 := Hbn.out.cell (i := 2) rfl
    have bn_3 := Hbn.out.cell (i := 3) rfl
    go_wp2_with fail
    refine (gText_any (grp k) OK.out _ _ w4 HG.out).mono ?_
    rintro e w5 ⟨rfl, hb9⟩
    clear bn_0 bn_1 bn_2 bn_3
    replace Hbn := Lib.hid (Hbn.out.up hb9)
    replace HG := Lib.hid (HG.out.up hb9)
    replace HB := Lib.hid (below_up HB.out hb9)
    have Hs5 := Lib.hid (show w4.heap.size ≤ w5.heap.size from hb9.size)
    clear hb9
    have bn_0 := Hbn.out.cell (i := 0) rfl
    have bn_1 := Hbn.out.cell (i := 1) rfl
    have bn_2 := Hbn.out.cell (i := 2) rfl
    have bn_3 := Hbn.out.cell (i := 3) rfl
    go_wp2_with fail
    go_ret2
    exact ⟨rfl, HB.out⟩

end Go.Proofs.Ytipgjookfdkciaa

/- What every law's row wants: two closed facts, and small words for opening arguments. -/
namespace Go.Proofs.Ytipgjookfdkciaa
open Go.ChangeShapes Go.WideShapes Go.ChangeAt Go.RowKit

theorem law_own : ownKnob Try.prog.godebug = none := by kernel_rfl
theorem law_laidOut : laidOutB Try.prog = true := by kernel_rfl

section
variable {H : Type} {enc : TypeId × Value → H} {P : Program} {w : World}

theorem add_plain (b off i : Nat) : (⟨b, off, none⟩ : Addr).add i = ⟨b, off + i, none⟩ := by unfold Addr.add; split <;> simp_all

/-- An argument that is a slice of integers: its numbers, and that it reads. -/
theorem open_Sl_ints {k : IntKind} {t e : TypeId} {a : Option Addr} {len cap : Nat} {d : DataW H} {p : List MemPlace} (ht : P.underlying t = some (.slice e)) (he : P.underlying e = some (.int k)) (hc : P.cellsOf e = 1)
    (h : DataW.Trod enc P w 0 (fun _ => true) true t (.slice a len cap) d p) (hlt : ∀ x ∈ p, x.block < w.heap.size) :
    ∃ xs : List Int, len = xs.length ∧ Sl w w.heap.size a (xs.map (Value.int k)) ∧ (∀ x ∈ xs, (Lit.int k x).wf = true) ∧ ((len = 0) ∨ ∃ zs : List Int, len ≤ zs.length ∧ d = .slice (lits k (zs.take len)) (lits k (zs.drop len))) := by
  obtain ⟨fuel, hf⟩ := h
  rcases open_ints ht he hc hf with ⟨hcs, _⟩ | ⟨x, l, c, zs, hcs, _, hl, hm, hz, hx, hcell, hwz⟩
  · simp [Value.cells] at hcs
    obtain ⟨rfl, rfl, rfl⟩ := hcs
    exact ⟨[], rfl, Or.inl rfl, by simp, Or.inl rfl⟩
  · simp [Value.cells] at hcs
    obtain ⟨rfl, rfl, rfl⟩ := hcs
    simp only [Prod.mk.injEq] at hx
    obtain ⟨hd, rfl⟩ := hx
    simp only [if_true] at hz
    by_cases h0 : len = 0
    · subst h0
      exact ⟨[], rfl, Or.inl rfl, by simp, Or.inl rfl⟩
    · obtain ⟨b, off, spot⟩ := x
      have hspot : spot = none := by simpa [Addr.add] using World.cell?_spot (hcell 0 (by omega))
      subst hspot
      have hbW : b < w.heap.size := hlt (.cell b off) (MemPlace.mem_row.2 ⟨0, by omega, by simp⟩)
      refine ⟨zs.take len, by rw [List.length_take]; omega, Or.inr ⟨b, off, rfl, hbW, ?_⟩, fun x hx => hwz x (List.mem_of_mem_take hx), Or.inr ⟨zs, by omega, hd⟩⟩
      intro i v hv
      have hi : i < len := by
        have := (List.getElem?_eq_some_iff.1 hv).1
        simp at this; omega
      have := hcell i (by omega)
      rw [add_plain] at this
      rw [this, ← hv]
      simp [List.getD, hi, List.getElem?_eq_getElem (show i < zs.length by omega)]

/-- An argument that is a slice of one-cell elements of any kind: its cells, each with its own reading. -/
theorem open_Sl_any {t e : TypeId} {a : Option Addr} {len cap : Nat} {d : DataW H} {p : List MemPlace} (ht : P.underlying t = some (.slice e)) (hc : P.cellsOf e = 1)
    (h : DataW.Trod enc P w 0 (fun _ => true) true t (.slice a len cap) d p) (hlt : ∀ x ∈ p, x.block < w.heap.size) :
    ∃ cs : List Value, len = cs.length ∧ Sl w w.heap.size a cs ∧
      ((len = 0) ∨ ∃ (n : Nat) (ys rest : List (DataW H × List MemPlace)), d = .slice (ys.map (·.1)) (rest.map (·.1)) ∧ ys.length = len ∧ (∀ y ∈ ys, ∀ q ∈ y.2, q ∈ p) ∧
        ∀ (i : Nat) (c : Value), cs[i]? = some c → ∃ y, ys[i]? = some y ∧ DataW.trod enc P w 0 (fun _ => true) true n e [c] = some y) := by
  obtain ⟨fuel, hf⟩ := h
  rcases DataW.trod_slice ht hf with ⟨hcs, _⟩ | ⟨x, l, c, elems, rest, n, _, hcs, hx, hb, hl, hm, hlen, hel, _, _⟩
  · simp [Value.cells] at hcs
    obtain ⟨rfl, rfl, rfl⟩ := hcs
    exact ⟨[], rfl, Or.inl rfl, Or.inl rfl⟩
  · simp [Value.cells] at hcs
    obtain ⟨rfl, rfl, rfl⟩ := hcs
    simp only [Prod.mk.injEq] at hx
    obtain ⟨hd, rfl⟩ := hx
    by_cases h0 : len = 0
    · subst h0
      exact ⟨[], rfl, Or.inl rfl, Or.inl rfl⟩
    have each : ∀ i, i < len → ∃ c y, w.cell? (x.add i) = some c ∧ elems[i]? = some y ∧ DataW.trod enc P w 0 (fun _ => true) true n e [c] = some y := by
      intro i hi
      have h1 := hel i hi
      rw [hc, Nat.mul_one] at h1
      have h2 : elems[i]? = some (elems[i]'(by omega)) := List.getElem?_eq_getElem (by omega)
      rw [h2, Option.bind_eq_some_iff] at h1
      obtain ⟨cs', hcs', hy⟩ := h1
      obtain ⟨h3, h4, h5⟩ := World.cells?_some hcs'
      obtain ⟨c, rfl⟩ : ∃ c, cs' = [c] := by
        match cs', h3 with
        | [c], _ => exact ⟨c, rfl⟩
      exact ⟨c, _, cell_of_cells?_one hcs', h2, hy⟩
    obtain ⟨b, off, spot⟩ := x
    obtain ⟨c0, y0, hc0, _⟩ := each 0 (by omega)
    have hspot : spot = none := by simpa [Addr.add] using World.cell?_spot hc0
    subst hspot
    have hbW : b < w.heap.size := hlt (.cell b off) (List.mem_append_left _ (MemPlace.mem_row.2 ⟨0, by rw [hc]; omega, by simp⟩))
    have hget : ∀ i c, ((List.range len).map (fun i => (w.cell? ⟨b, off + i, none⟩).getD (.bool false)))[i]? = some c → i < len ∧ w.cell? ⟨b, off + i, none⟩ = some c := by
      intro i c hi
      have hil : i < len := by
        have := (List.getElem?_eq_some_iff.1 hi).1
        simpa using this
      obtain ⟨c', y, h1, _⟩ := each i hil
      rw [add_plain] at h1
      simp [hil, h1] at hi
      exact ⟨hil, by rw [h1, hi]⟩
    refine ⟨(List.range len).map (fun i => (w.cell? ⟨b, off + i, none⟩).getD (.bool false)), by simp, Or.inr ⟨b, off, rfl, hbW, fun i v hv => (hget i v hv).2⟩, Or.inr ⟨n, elems, rest, hd, hlen, ?_, ?_⟩⟩
    · intro y hy q hq
      exact List.mem_append_right _ (List.mem_flatMap.2 ⟨y, List.mem_append_left _ hy, hq⟩)
    · intro i c hi
      obtain ⟨hil, hcell⟩ := hget i c hi
      obtain ⟨c', y, h1, h2, h3⟩ := each i hil
      rw [add_plain, hcell] at h1
      simp only [Option.some.injEq] at h1
      exact ⟨y, h2, by rw [h1]; exact h3⟩

/-- A list of values each of which is of one shape. -/
theorem list_shape {α : Type} (mk : α → Value) : ∀ cs : List Value, (∀ c ∈ cs, ∃ a, c = mk a) → ∃ xs : List α, cs = xs.map mk
  | [], _ => ⟨[], rfl⟩
  | c :: cs, h => by
    obtain ⟨a, rfl⟩ := h c (by simp)
    obtain ⟨xs, rfl⟩ := list_shape mk cs (fun c hc => h c (by simp [hc]))
    exact ⟨a :: xs, rfl⟩

/-- An argument that is a slice of booleans. -/
theorem open_Sl_bools {t e : TypeId} {a : Option Addr} {len cap : Nat} {d : DataW H} {p : List MemPlace} (ht : P.underlying t = some (.slice e)) (he : P.underlying e = some .bool) (hc : P.cellsOf e = 1)
    (h : DataW.Trod enc P w 0 (fun _ => true) true t (.slice a len cap) d p) (hlt : ∀ x ∈ p, x.block < w.heap.size) :
    ∃ bs : List Bool, len = bs.length ∧ Sl w w.heap.size a (bs.map Value.bool) := by
  obtain ⟨cs, hl, hs, hk⟩ := open_Sl_any ht hc h hlt
  obtain ⟨bs, rfl⟩ := list_shape Value.bool cs (by
    intro c hcm
    obtain ⟨i, hi⟩ := List.getElem?_of_mem hcm
    rcases hk with h0 | ⟨n, ys, rest, _, _, _, hy⟩
    · rw [h0] at hl
      have := List.eq_nil_of_length_eq_zero hl.symm
      subst this
      simp at hcm
    · obtain ⟨y, _, ht2⟩ := hy i c hi
      obtain ⟨b, hb, _⟩ := DataW.trod_bool he ht2
      exact ⟨b, by simpa using hb⟩)
  exact ⟨bs, by simpa using hl, hs⟩

/-- A struct of one-cell fields, by value: its cells, each with its own reading. -/
theorem open_fields {r : Reach} {b0 base : Nat} {spare : Nat → Bool} {held : Bool} {t : TypeId} {fs : Array Go.Field} {v : Value} {d : DataW H} {p : List MemPlace} (hs : P.underlying t = some (.struct fs)) (hone : Go.Deep.oneCellFields P fs = true) (hC : P.cellsOf t = fs.size)
    (hv : Value.okWide P w r b0 t v) (h : DataW.Trod enc P w base spare held t v d p) :
    ∃ (cs : Array Value) (ys : List (DataW H × List MemPlace)) (n : Nat), v = .agg cs ∧ cs.size = fs.size ∧ d = .agg (ys.map (·.1)) ∧ p = ys.flatMap (·.2) ∧ ys.length = fs.size ∧
      ∀ (j : Nat) (f : Go.Field), fs[j]? = some f → ∃ c y, cs[j]? = some c ∧ ys[j]? = some y ∧ DataW.trod enc P w base spare held n f.type [c] = some y := by
  obtain ⟨cs, rfl, hsz⟩ := okWide_struct hs hv
  obtain ⟨fuel, hf⟩ := h
  obtain ⟨ys, n, _, hx, hcl, hlen, hg⟩ := DataW.trod_struct hs hf
  simp only [Prod.mk.injEq] at hx
  refine ⟨cs, ys, n, rfl, by omega, hx.1, hx.2, hlen, fun j f hj => ?_⟩
  obtain ⟨ho, hk⟩ := Go.Deep.hone_of hone j f hj
  have hjf : j < fs.size := (Array.getElem?_eq_some_iff.1 hj).1
  have hjc : j < cs.size := by omega
  have h1 := hg j f hj
  have e : ((Value.agg cs).cells.toList.drop f.offset).take (P.cellsOf f.type) = [cs[j]] := by
    rw [ho, hk]
    show (cs.toList.drop j).take 1 = _
    rw [List.drop_eq_getElem_cons (by simpa using hjc)]
    simp
  rw [e] at h1
  have hys : ys[j]? = some (ys[j]'(by omega)) := List.getElem?_eq_getElem (by omega)
  exact ⟨cs[j], _, by simp [hjc], hys, h1.trans hys⟩

/-- A field that is a slice: its value's form. -/
theorem field_slice {base fuel : Nat} {spare : Nat → Bool} {held : Bool} {t e : TypeId} {c : Value} {y : DataW H × List MemPlace} (ht : P.underlying t = some (.slice e)) (h : DataW.trod enc P w base spare held fuel t [c] = some y) :
    ∃ a len cap, c = .slice a len cap := by
  rcases DataW.trod_slice ht h with ⟨hc, _⟩ | ⟨a, len, cap, _, _, _, _, hc, _⟩
  · simp at hc; exact ⟨_, _, _, hc⟩
  · simp at hc; exact ⟨_, _, _, hc⟩

theorem field_int {k : IntKind} {base fuel : Nat} {spare : Nat → Bool} {held : Bool} {t : TypeId} {c : Value} {y : DataW H × List MemPlace} (ht : P.underlying t = some (.int k)) (h : DataW.trod enc P w base spare held fuel t [c] = some y) :
    ∃ n, c = .int k n ∧ (Lit.int k n).wf = true := by
  obtain ⟨n, hc, _, hw⟩ := DataW.trod_int ht h
  simp at hc; exact ⟨n, hc, hw⟩

theorem array5 {cs : Array Value} (h : cs.size = 5) : ∃ a b c d e, cs = #[a, b, c, d, e] := by
  obtain ⟨l⟩ := cs
  match l, h with
  | [a, b, c, d, e], _ => exact ⟨a, b, c, d, e, rfl⟩

end
end Go.Proofs.Ytipgjookfdkciaa

/- Small words for opening arguments of deep types: slices of elements of any size, whatever each element is. No condition. -/
namespace Go.Proofs.Ytipgjookfdkciaa
open Go.ChangeShapes Go.WideShapes Go.ChangeAt Go.RowKit

/-! What the bound of the second form gives. -/
theorem bulk_one {H : Type} (d : DataW H) : 1 ≤ Rows.uptoBulk d := by
  cases d with
  | lit l => cases l <;> simp [Rows.uptoBulk]
  | nil => simp [Rows.uptoBulk]
  | ptr d => simp [Rows.uptoBulk]
  | slice elems spare => simp [Rows.uptoBulk]
  | agg parts => simp [Rows.uptoBulk]
  | iface t d => simp [Rows.uptoBulk]
  | map entries => simp [Rows.uptoBulk]
  | held h => simp [Rows.uptoBulk]
theorem bulk_part {H : Type} {d : DataW H} {l : List (DataW H)} (h : d ∈ l) : Rows.uptoBulk d ≤ Rows.uptoBulkAll l := by
  induction l with
  | nil => cases h
  | cons x r ih =>
    simp only [Rows.uptoBulkAll]
    rcases List.mem_cons.1 h with rfl | e
    · omega
    · have := ih e; omega
theorem bulk_length {H : Type} (l : List (DataW H)) : l.length ≤ Rows.uptoBulkAll l := by
  induction l with
  | nil => simp [Rows.uptoBulkAll]
  | cons x r ih => have := bulk_one x; simp only [Rows.uptoBulkAll, List.length_cons]; omega
theorem bulk_slice {H : Type} {elems spare : List (DataW H)} {B : Nat} (h : Rows.uptoBulk (.slice elems spare) ≤ B) : elems.length ≤ B ∧ ∀ d ∈ elems, Rows.uptoBulk d ≤ B := by
  simp only [Rows.uptoBulk] at h
  refine ⟨by have := bulk_length elems; omega, fun d hd => by have := bulk_part hd; omega⟩
theorem bulk_agg {H : Type} {parts : List (DataW H)} {B : Nat} (h : Rows.uptoBulk (.agg parts) ≤ B) : ∀ d ∈ parts, Rows.uptoBulk d ≤ B := by
  simp only [Rows.uptoBulk] at h
  exact fun d hd => by have := bulk_part hd; omega

theorem flat_range (g : Nat → Value) (k len : Nat) : ((List.range len).map fun i => (List.range k).map fun j => g (i * k + j)).flatten = (List.range (len * k)).map g := by
  induction len with
  | zero => simp
  | succ m ih =>
    rw [List.range_succ, List.map_append, List.flatten_append, ih, Nat.succ_mul, List.range_add, List.map_append]
    simp [List.map_map, Function.comp_def]

section
variable {H : Type} {enc : TypeId × Value → H} {P : Program} {w : World}

/-- A cell that is a slice of elements of k cells: all its elements' cells, each element with its own reading. -/
theorem open_flat {sp : Nat → Bool} {held : Bool} {t e : TypeId} {k fuel : Nat} {c : Value} {y : DataW H × List MemPlace} (ht : P.underlying t = some (.slice e)) (hk : P.cellsOf e = k) (hk0 : 0 < k) {B : Nat} (hB : Rows.uptoBulk y.1 ≤ B)
    (h : DataW.trod enc P w 0 sp held fuel t [c] = some y) :
    ∃ (a : Option Addr) (cap : Nat) (css : List (List Value)), c = .slice a css.length cap ∧ css.length ≤ B ∧ (∀ l ∈ css, l.length = k) ∧ Sl w w.heap.size a css.flatten ∧
      ∀ l ∈ css, ∃ n y', Rows.uptoBulk y'.1 ≤ B ∧ DataW.trod enc P w 0 sp held n e l = some y' := by
  have hlt := DataW.trod_lt _ _ _ _ h
  rcases DataW.trod_slice ht h with ⟨hcs, _⟩ | ⟨x, len, cap, elems, rest, n, _, hcs, hx, hb, hl, hm, hlen, hel, _, _⟩
  · simp only [List.cons.injEq, and_true] at hcs
    exact ⟨none, 0, [], hcs, by simp, by simp, Or.inl rfl, by simp⟩
  simp only [List.cons.injEq, and_true] at hcs
  subst hcs
  by_cases h0 : len = 0
  · subst h0
    exact ⟨some x, cap, [], rfl, by simp, by simp, Or.inl rfl, by simp⟩
  have hbk := bulk_slice (elems := elems.map (·.1)) (spare := rest.map (·.1)) (B := B) (by rw [hx] at hB; exact hB)
  have each : ∀ i, i < len → ∃ l y', w.cells? 0 (x.add (i * k)) k = some l ∧ Rows.uptoBulk y'.1 ≤ B ∧ DataW.trod enc P w 0 sp held n e l = some y' := by
    intro i hi
    have h1 := hel i hi
    rw [hk, show elems[i]? = some (elems[i]'(by omega)) from List.getElem?_eq_getElem (by omega), Option.bind_eq_some_iff] at h1
    obtain ⟨l, hl, hy⟩ := h1
    exact ⟨l, _, hl, hbk.2 _ (List.mem_map.2 ⟨_, List.getElem_mem _, rfl⟩), hy⟩
  obtain ⟨b, off, spot⟩ := x
  have hspot : spot = none := by
    obtain ⟨l, _, h1, _⟩ := each 0 (by omega)
    obtain ⟨_, h2, h3⟩ := World.cells?_some h1
    have h4 := h3 0 hk0
    obtain ⟨v, hv⟩ : ∃ v, l[0]? = some v := ⟨_, List.getElem?_eq_getElem (by omega)⟩
    rw [hv, Deep.add_add, Nat.zero_mul, Nat.zero_add] at h4
    simpa [Addr.add] using World.cell?_spot h4
  subst hspot
  have hbW : b < w.heap.size := hlt (.cell b off) (by
    rw [hx]
    exact List.mem_append_left _ (MemPlace.mem_row.2 ⟨0, by rw [hk]; have : 0 < (elems.length + rest.length) * k := Nat.mul_pos (by omega) hk0; omega, by simp⟩))
  have hL : ∀ i, i < len → ((List.range k).map fun j => (w.cell? ⟨b, off + (i * k + j), none⟩).getD (.bool false)).length = k ∧
      (∀ j, j < k → w.cell? ⟨b, off + (i * k + j), none⟩ = some ((w.cell? ⟨b, off + (i * k + j), none⟩).getD (.bool false))) ∧
      ∃ y', Rows.uptoBulk y'.1 ≤ B ∧ DataW.trod enc P w 0 sp held n e ((List.range k).map fun j => (w.cell? ⟨b, off + (i * k + j), none⟩).getD (.bool false)) = some y' := by
    intro i hi
    obtain ⟨l, y', h1, h2b, h2⟩ := each i hi
    obtain ⟨_, h3, h4⟩ := World.cells?_some h1
    have h5 : ∀ j, j < k → w.cell? ⟨b, off + (i * k + j), none⟩ = l[j]? := by
      intro j hj
      have := h4 j hj
      rwa [Deep.add_add, add_plain] at this
    have e1 : (List.range k).map (fun j => (w.cell? ⟨b, off + (i * k + j), none⟩).getD (.bool false)) = l := by
      apply List.ext_getElem?
      intro j
      by_cases hj : j < k
      · rw [List.getElem?_map, List.getElem?_range hj, Option.map_some, h5 j hj, List.getElem?_eq_getElem (show j < l.length by omega), Option.getD_some]
      · rw [List.getElem?_eq_none (by simp; omega), List.getElem?_eq_none (by omega)]
    refine ⟨by simp, ?_, ?_⟩
    · intro j hj
      rw [h5 j hj, List.getElem?_eq_getElem (show j < l.length by omega), Option.getD_some]
    · rw [e1]; exact ⟨y', h2b, h2⟩
  refine ⟨some ⟨b, off, none⟩, cap, (List.range len).map fun i => (List.range k).map fun j => (w.cell? ⟨b, off + (i * k + j), none⟩).getD (.bool false), by simp, ?_, ?_, Or.inr ⟨b, off, rfl, hbW, ?_⟩, ?_⟩
  · have := hbk.1; rw [List.length_map] at this; simp; omega
  · intro l hl
    obtain ⟨i, _, rfl⟩ := List.mem_map.1 hl
    simp
  · have hflat := flat_range (fun m => (w.cell? ⟨b, off + m, none⟩).getD (.bool false)) k len
    intro i v hv
    rw [hflat] at hv
    have hi : i < len * k := by have := (List.getElem?_eq_some_iff.1 hv).1; simpa using this
    have hq : i / k < len := Nat.div_lt_of_lt_mul (by rwa [Nat.mul_comm] at hi)
    have hc := (hL (i / k) hq).2.1 (i % k) (Nat.mod_lt _ hk0)
    rw [show i / k * k + i % k = i by rw [Nat.mul_comm]; exact Nat.div_add_mod i k] at hc
    rw [hc, ← hv, List.getElem?_map, List.getElem?_range hi, Option.map_some]
  · intro l hl
    obtain ⟨i, hi, rfl⟩ := List.mem_map.1 hl
    obtain ⟨y', hyb, hy⟩ := (hL i (List.mem_range.1 hi)).2.2
    exact ⟨n, y', hyb, hy⟩

/-- A list of lists of values each of which is of one shape. -/
theorem list_shapes {α : Type} (f : α → List Value) (R : α → Prop) : ∀ css : List (List Value), (∀ l ∈ css, ∃ x, l = f x ∧ R x) → ∃ xs : List α, xs.length = css.length ∧ css.flatten = xs.flatMap f ∧ ∀ x ∈ xs, R x
  | [], _ => ⟨[], rfl, rfl, by simp⟩
  | l :: css, h => by
    obtain ⟨x, rfl, hR⟩ := h l (by simp)
    obtain ⟨xs, h1, h2, h3⟩ := list_shapes f R css (fun c hc => h c (by simp [hc]))
    refine ⟨x :: xs, by simp [h1], by simp [h2], ?_⟩
    intro y hy
    rcases List.mem_cons.1 hy with rfl | hy
    · exact hR
    · exact h3 y hy

/-- The same, each element of a shape that is known. -/
theorem open_els {α : Type} (f : α → List Value) (R : α → Prop) {sp : Nat → Bool} {held : Bool} {t e : TypeId} {k fuel : Nat} {c : Value} {y : DataW H × List MemPlace} (ht : P.underlying t = some (.slice e)) (hk : P.cellsOf e = k) (hk0 : 0 < k) {B : Nat} (hB : Rows.uptoBulk y.1 ≤ B)
    (hel : ∀ n l y', l.length = k → Rows.uptoBulk y'.1 ≤ B → DataW.trod enc P w 0 sp held n e l = some y' → ∃ x, l = f x ∧ R x) (h : DataW.trod enc P w 0 sp held fuel t [c] = some y) :
    ∃ (a : Option Addr) (cap : Nat) (xs : List α), c = .slice a xs.length cap ∧ xs.length ≤ B ∧ Sl w w.heap.size a (xs.flatMap f) ∧ ∀ x ∈ xs, R x := by
  obtain ⟨a, cap, css, rfl, hlB, hl, hs, he⟩ := open_flat ht hk hk0 hB h
  obtain ⟨xs, h1, h2, h3⟩ := list_shapes f R css (fun l hm => by
    obtain ⟨n, y', hyb, hy⟩ := he l hm
    exact hel n l y' (hl l hm) hyb hy)
  exact ⟨a, cap, xs, by rw [h1], by omega, h2 ▸ hs, h3⟩

/-- A struct whose fields are of one cell each. -/
theorem open_cells {sp : Nat → Bool} {held : Bool} {t : TypeId} {fs : Array Go.Field} {fuel : Nat} {cs : List Value} {y : DataW H × List MemPlace} (hs : P.underlying t = some (.struct fs)) (hone : Go.Deep.oneCellFields P fs = true) (hC : P.cellsOf t = fs.size) {B : Nat} (hB : Rows.uptoBulk y.1 ≤ B)
    (h : DataW.trod enc P w 0 sp held fuel t cs = some y) :
    cs.length = fs.size ∧ ∀ (j : Nat) (f : Go.Field) (c : Value), fs[j]? = some f → cs[j]? = some c → ∃ n y', Rows.uptoBulk y'.1 ≤ B ∧ DataW.trod enc P w 0 sp held n f.type [c] = some y' := by
  obtain ⟨ys, n, _, hy, hcl, hlen, hg⟩ := DataW.trod_struct hs h
  have hbk := bulk_agg (parts := ys.map (·.1)) (B := B) (by rw [hy] at hB; exact hB)
  refine ⟨by omega, fun j f c hj hc => ?_⟩
  obtain ⟨ho, hk⟩ := Go.Deep.hone_of hone j f hj
  have hjf : j < fs.size := (Array.getElem?_eq_some_iff.1 hj).1
  have h1 := hg j f hj
  have hjc := (List.getElem?_eq_some_iff.1 hc).1
  rw [ho, hk, List.drop_eq_getElem_cons hjc, List.take_succ_cons, List.take_zero, (List.getElem?_eq_some_iff.1 hc).2, List.getElem?_eq_getElem (show j < ys.length by omega)] at h1
  exact ⟨n, _, hbk _ (List.mem_map.2 ⟨_, List.getElem_mem _, rfl⟩), h1⟩

theorem list2 {cs : List Value} (h : cs.length = 2) : ∃ a b, cs = [a, b] := by
  match cs, h with
  | [a, b], _ => exact ⟨a, b, rfl⟩
theorem list3 {cs : List Value} (h : cs.length = 3) : ∃ a b c, cs = [a, b, c] := by
  match cs, h with
  | [a, b, c], _ => exact ⟨a, b, c, rfl⟩

/-- A cell that is a string. -/
theorem open_str {sp : Nat → Bool} {held : Bool} {t : TypeId} {fuel : Nat} {c : Value} {y : DataW H × List MemPlace} (ht : P.underlying t = some .string) (h : DataW.trod enc P w 0 sp held fuel t [c] = some y) : ∃ s : ByteArray, c = .string s := by
  obtain ⟨s, hs, _⟩ := DataW.trod_string ht h
  simp only [List.cons.injEq, and_true] at hs
  exact ⟨s, hs⟩

/-- A cell that is a slice of strings. -/
theorem open_strs {sp : Nat → Bool} {held : Bool} {t e : TypeId} {fuel : Nat} {c : Value} {y : DataW H × List MemPlace} (ht : P.underlying t = some (.slice e)) (he : P.underlying e = some .string) (hk : P.cellsOf e = 1) {B : Nat} (hB : Rows.uptoBulk y.1 ≤ B) (h : DataW.trod enc P w 0 sp held fuel t [c] = some y) :
    ∃ (a : Option Addr) (cap : Nat) (bs : List ByteArray), c = .slice a bs.length cap ∧ bs.length ≤ B ∧ Sl w w.heap.size a (bs.map Value.string) := by
  obtain ⟨a, cap, xs, h1, hb, h2, _⟩ := open_els (fun s : ByteArray => [Value.string s]) (fun _ => True) ht hk (by omega) hB (fun n l y' hl _ hy => by
    match l, hl with
    | [c'], _ =>
      obtain ⟨s, rfl⟩ := open_str he hy
      exact ⟨s, rfl, trivial⟩) h
  refine ⟨a, cap, xs, h1, hb, ?_⟩
  rw [← List.flatMap_singleton' (xs.map Value.string), List.flatMap_map]
  exact h2

/-- The reading of a slice has as many parts as the slice has elements. -/
theorem trod_len {sp : Nat → Bool} {held : Bool} {t e : TypeId} {fuel : Nat} {a : Option Addr} {len cap : Nat} {y : DataW H × List MemPlace} (ht : P.underlying t = some (.slice e)) (h : DataW.trod enc P w 0 sp held fuel t [.slice a len cap] = some y) :
    len = 0 ∨ ∃ es rs, y.1 = .slice es rs ∧ es.length = len := by
  rcases DataW.trod_slice ht h with ⟨hcs, _⟩ | ⟨x, l, c, elems, rest, n, _, hcs, hx, _, _, _, hlen, _⟩
  · simp only [List.cons.injEq, Value.slice.injEq, and_true] at hcs
    exact Or.inl hcs.2.1
  · simp only [List.cons.injEq, Value.slice.injEq, and_true] at hcs
    exact Or.inr ⟨_, _, by rw [hx], by rw [List.length_map, hlen, hcs.2.1]⟩

end

end Go.Proofs.Ytipgjookfdkciaa

/- The document's ciphers. No condition. -/
namespace Go.Proofs.Ytipgjookfdkciaa
open Go.RowKit

section
variable {G : GP} {aq ap : Option Addr} {cq cp : Nat}


set_option maxRecDepth 100000 in
set_option maxHeartbeats 1000000 in
theorem rRaise (ok : G.Ok) {n : Nat} {an : Option Addr} {cn : Nat} (hn : dl n ≤ 65536) (w : World) (hG : RG w G aq ap) (hN : NumAt w an n) :
    Calls Try.prog 146 #[.agg #[.int .i64 (G.size : Int), .slice aq (dl G.q.m) cq, .slice ap (dl G.p.m) cp], .slice an (dl n) cn] w fun e w' => NumR w e w' (lowN G (2 ^ n)) := by
  have OK := Lib.hid ok
  have HG := Lib.hid hG
  have HN := Lib.hid hN
  clear ok hG hN
  go_enter Try.func146, Try.ntmps146
  go_wp2_with fail
  have hb9 : Below w.heap.size w (w.alloc (Obj.cells #[.int .i64 (G.size : Int), .slice aq (dl G.q.m) cq, .slice ap (dl G.p.m) cp] 98)) := ((Below.refl _ _).alloc (Nat.le_refl _) _)
  have hx90 : Bx (w.alloc (Obj.cells #[.int .i64 (G.size : Int), .slice aq (dl G.q.m) cq, .slice ap (dl G.p.m) cp] 98)) (w.heap.size) 98 [.int .i64 (G.size : Int), .slice aq (dl G.q.m) cq, .slice ap (dl G.p.m) cp] := by
    have h := (Bx.new w 98 [.int .i64 (G.size : Int), .slice aq (dl G.q.m) cq, .slice ap (dl G.p.m) cp] _ rfl)
    exact h
  have hz9 : (w.alloc (Obj.cells #[.int .i64 (G.size : Int), .slice aq (dl G.q.m) cq, .slice ap (dl G.p.m) cp] 98)).heap.size = w.heap.size + 1 := by simp
  obtain ⟨w1, hq1⟩ : ∃ W9 : World, (w.alloc (Obj.cells #[.int .i64 (G.size : Int), .slice aq (dl G.q.m) cq, .slice ap (dl G.p.m) cp] 98)) = W9 := ⟨_, rfl⟩
  rw [hq1] at hb9 hz9 hx90
  rw [hq1]
  clear hq1
  have HB := Lib.hid hb9
  have Hs1 := Lib.hid hz9
  have Hbg := Lib.hid hx90
  clear hb9 hz9 hx90
  have bg_0 := Hbg.out.cell (i := 0) rfl
  have bg_1 := Hbg.out.cell (i := 1) rfl
  have bg_2 := Hbg.out.cell (i := 2) rfl
  go_wp2_with fail
  have HT := Lib.hid (show Below w1.heap.size w1 w1.drew from (Below.refl _ _).drew)
  have hl_bg := Hbg.out.lt
  refine wp_region_tree (fun w9 => ∃ E : Over w1, w9 = E.w) ((.qs [0, 2] (.a 1 (.a 3 (.qs [4] .done))))) (by kernel_rfl) (by kernel_rfl) (fun _ _ d _ _ h => by cases d <;> exact h) ⟨⟨_, HT.out⟩, rfl⟩ ?_
  have hov_bg := fun (E : Over w1) o => E.cell (b := w.heap.size) o hl_bg
  simp only [Tree.qs]
  repeat (refine tree_q rfl rfl ?_; go_big_quiet_step (fail); refine wpQuiet_nil ?_)
  refine tree_a rfl (fun K hK => ?_)
  go_simp
  refine (refOf_any 2 (by omega) _).mono ?_
  rintro e w2 ⟨a4, c4, rfl, hn9, hb9⟩
  replace HT := Lib.hid (below_up HT.out hb9)
  have Hs2 := Lib.hid (show w1.heap.size ≤ w2.heap.size from HT.out.size)
  clear hb9
  have HN4 := Lib.hid hn9
  clear hn9
  refine hK _ _ ⟨⟨⟨w2, HT.out⟩, rfl⟩, ?_⟩
  clear hK K
  repeat (refine tree_q rfl rfl ?_; go_big_quiet_step (fail); refine wpQuiet_nil ?_)
  refine tree_a rfl (fun K hK => ?_)
  go_simp
  refine (rPow OK.out (by decide) hn _ (HG.out.up (below_up HB.out HT.out)) HN4.out (HN.out.up (below_up HB.out HT.out))).mono ?_
  rintro e w3 ⟨a5, c5, rfl, hn9, hb9⟩
  replace HN4 := Lib.hid (HN4.out.up hb9)
  replace HT := Lib.hid (below_up HT.out hb9)
  have Hs3 := Lib.hid (show w1.heap.size ≤ w3.heap.size from HT.out.size)
  clear hb9
  have HN5 := Lib.hid hn9
  clear hn9
  refine hK _ _ ⟨⟨⟨w3, HT.out⟩, rfl⟩, ?_⟩
  clear hK K
  repeat (refine tree_q rfl rfl ?_; go_big_quiet_step (fail); refine wpQuiet_nil ?_)
  refine tree_end ?_
  clear hov_bg hl_bg
  clear bg_0 bg_1 bg_2
  replace Hbg := Lib.hid (Hbg.out.up HT.out)
  replace HB := Lib.hid (below_up HB.out HT.out)
  have Hs3 := Lib.hid (show w1.heap.size ≤ w3.heap.size from HT.out.size)
  clear HT
  have bg_0 := Hbg.out.cell (i := 0) rfl
  have bg_1 := Hbg.out.cell (i := 1) rfl
  have bg_2 := Hbg.out.cell (i := 2) rfl
  go_wp2_with fail
  go_ret
  exact ⟨a5, c5, rfl, HN5.out, HB.out⟩

theorem rProd2 (ok : G.Ok) {x y : Nat} {aa ab : Option Addr} {ca cb : Nat} (w : World) (hG : RG w G aq ap) (hA : NumAt w aa (lowN G x)) (hB : NumAt w ab (lowN G y)) :
    Calls Try.prog 110 #[.agg #[.int .i64 (G.size : Int), .slice aq (dl G.q.m) cq, .slice ap (dl G.p.m) cp], .slice aa (dl (lowN G x)) ca, .slice ab (dl (lowN G y)) cb] w fun e w' => NumR w e w' (lowN G (x * y)) := by
  have h := rProd (cq := cq) (cp := cp) (ca := ca) (cb := cb) ok (lowN_16 ok x) (lowN_16 ok y) w hG hA hB
  rwa [lowN_mul ok] at h
theorem rProdR (ok : G.Ok) {x y : Nat} (hx : x < DD ^ 16) {aa ab : Option Addr} {ca cb : Nat} (w : World) (hG : RG w G aq ap) (hA : NumAt w aa x) (hB : NumAt w ab (lowN G y)) :
    Calls Try.prog 110 #[.agg #[.int .i64 (G.size : Int), .slice aq (dl G.q.m) cq, .slice ap (dl G.p.m) cp], .slice aa (dl x) ca, .slice ab (dl (lowN G y)) cb] w fun e w' => NumR w e w' (lowN G (x * y)) := by
  have h := rProd (cq := cq) (cp := cp) (ca := ca) (cb := cb) ok hx (lowN_16 ok y) w hG hA hB
  rwa [lowN_mulR ok] at h
theorem rUnder2 (ok : G.Ok) {x : Nat} {aa : Option Addr} {ca : Nat} (w : World) (hG : RG w G aq ap) (hA : NumAt w aa (lowN G x)) :
    Calls Try.prog 148 #[.agg #[.int .i64 (G.size : Int), .slice aq (dl G.q.m) cq, .slice ap (dl G.p.m) cp], .slice aa (dl (lowN G x)) ca] w fun e w' => NumR w e w' (lowN G (x ^ (G.q.m - 1))) := by
  have h := rUnder (cq := cq) (cp := cp) (ca := ca) ok (lowN_16 ok x) w hG hA
  rwa [lowN_pow ok] at h
theorem rText2 (ok : G.Ok) {x : Nat} {an : Option Addr} {cn : Nat} (w : World) (hN : NumAt w an (lowN G x)) :
    Calls Try.prog 70 #[.slice an (dl (lowN G x)) cn, .int .i64 (G.size : Int)] w fun e w' => e = .returned (.string (textS (lowN G x) G.size)) ∧ Below w.heap.size w w' :=
  rText ok (lowN_16 ok x) w hN
theorem isEl_size {q n : Nat} {s : ByteArray} (h : isEl q n s = true) : s.size = n := by
  unfold isEl at h
  simp only [Bool.and_eq_true, decide_eq_true_eq] at h
  exact h.1.1
theorem isSc_size {q n : Nat} {s : ByteArray} (h : isSc q n s = true) : s.size = n := by
  unfold isSc at h
  simp only [Bool.and_eq_true, decide_eq_true_eq] at h
  exact h.1

set_option maxRecDepth 100000 in
set_option maxHeartbeats 1000000 in
theorem rHide (ok : G.Ok) (key : ByteArray) (hk : key.size ≤ 32) {x n : Nat} {ax an : Option Addr} {cx cn : Nat} (hx : dl x ≤ 65536) (hn : dl n ≤ 65536) (w : World) (hG : RG w G aq ap) (hX : NumAt w ax x) (hN : NumAt w an n) :
    Calls Try.prog 80 #[.agg #[.int .i64 (G.size : Int), .slice aq (dl G.q.m) cq, .slice ap (dl G.p.m) cp], .string key, .slice ax (dl x) cx, .slice an (dl n) cn] w (Gives (ciphV (textS (lowN G (2 ^ n)) G.size) (textS (lowN G (2 ^ x * numOf key ^ n)) G.size)) w) := by
  have OK := Lib.hid ok
  have HG := Lib.hid hG
  have HX := Lib.hid hX
  have HN := Lib.hid hN
  clear ok hG hN hX
  unfold Gives ciphV
  go_enter Try.func80, Try.ntmps80
  go_wp2_with fail
  have hb9 : Below w.heap.size w ((w.alloc (Obj.cells #[.int .i64 (G.size : Int), .slice aq (dl G.q.m) cq, .slice ap (dl G.p.m) cp] 98)).alloc (Obj.cells #[.string ⟨#[]⟩, .string ⟨#[]⟩] 41)) := (((Below.refl _ _).alloc (Nat.le_refl _) _).alloc (by simp) _)
  have hx90 : Bx ((w.alloc (Obj.cells #[.int .i64 (G.size : Int), .slice aq (dl G.q.m) cq, .slice ap (dl G.p.m) cp] 98)).alloc (Obj.cells #[.string ⟨#[]⟩, .string ⟨#[]⟩] 41)) (w.heap.size) 98 [.int .i64 (G.size : Int), .slice aq (dl G.q.m) cq, .slice ap (dl G.p.m) cp] := by
    have h := ((Bx.new w 98 [.int .i64 (G.size : Int), .slice aq (dl G.q.m) cq, .slice ap (dl G.p.m) cp] _ rfl).alloc (Obj.cells #[.string ⟨#[]⟩, .string ⟨#[]⟩] 41))
    exact h
  have hx91 : Bx ((w.alloc (Obj.cells #[.int .i64 (G.size : Int), .slice aq (dl G.q.m) cq, .slice ap (dl G.p.m) cp] 98)).alloc (Obj.cells #[.string ⟨#[]⟩, .string ⟨#[]⟩] 41)) (w.heap.size + 1) 41 [.string ⟨#[]⟩, .string ⟨#[]⟩] := by
    have h := (Bx.new (w.alloc (Obj.cells #[.int .i64 (G.size : Int), .slice aq (dl G.q.m) cq, .slice ap (dl G.p.m) cp] 98)) 41 [.string ⟨#[]⟩, .string ⟨#[]⟩] _ rfl)
    rw [World.size_alloc] at h
    exact h
  have hz9 : ((w.alloc (Obj.cells #[.int .i64 (G.size : Int), .slice aq (dl G.q.m) cq, .slice ap (dl G.p.m) cp] 98)).alloc (Obj.cells #[.string ⟨#[]⟩, .string ⟨#[]⟩] 41)).heap.size = w.heap.size + 2 := by simp
  obtain ⟨w1, hq1⟩ : ∃ W9 : World, ((w.alloc (Obj.cells #[.int .i64 (G.size : Int), .slice aq (dl G.q.m) cq, .slice ap (dl G.p.m) cp] 98)).alloc (Obj.cells #[.string ⟨#[]⟩, .string ⟨#[]⟩] 41)) = W9 := ⟨_, rfl⟩
  rw [hq1] at hb9 hz9 hx90 hx91
  rw [hq1]
  clear hq1
  have HB := Lib.hid hb9
  have Hs1 := Lib.hid hz9
  have Hbg := Lib.hid hx90
  have Hbc := Lib.hid hx91
  clear hb9 hz9 hx90 hx91
  have bg_0 := Hbg.out.cell (i := 0) rfl
  have bg_1 := Hbg.out.cell (i := 1) rfl
  have bg_2 := Hbg.out.cell (i := 2) rfl
  have bc_0 := Hbc.out.cell (i := 0) rfl
  have bc_1 := Hbc.out.cell (i := 1) rfl
  go_wp2_with fail
  have HT := Lib.hid (show Below w1.heap.size w1 w1.drew from (Below.refl _ _).drew)
  have hl_bg := Hbg.out.lt
  have hl_bc := Hbc.out.lt
  refine wp_region_tree (fun w9 => ∃ E : Over w1, w9 = E.w) ((.qs [0, 1, 2, 4, 5, 7] (.a 3 (.a 6 (.a 8 (.a 9 (.qs [10] .done))))))) (by kernel_rfl) (by kernel_rfl) (fun _ _ d _ _ h => by cases d <;> exact h) ⟨⟨_, HT.out⟩, rfl⟩ ?_
  have hov_bg := fun (E : Over w1) o => E.cell (b := w.heap.size) o hl_bg
  have hov_bc := fun (E : Over w1) o => E.cell (b := w.heap.size + 1) o hl_bc
  simp only [Tree.qs]
  repeat (refine tree_q rfl rfl ?_; go_big_quiet_step (fail); refine wpQuiet_nil ?_)
  refine tree_a rfl (fun K hK => ?_)
  go_simp
  refine (rRaise OK.out hx _ (HG.out.up (below_up HB.out HT.out)) (HX.out.up (below_up HB.out HT.out))).mono ?_
  rintro e w2 ⟨a4, c4, rfl, hn9, hb9⟩
  replace HT := Lib.hid (below_up HT.out hb9)
  have Hs2 := Lib.hid (show w1.heap.size ≤ w2.heap.size from HT.out.size)
  clear hb9
  have HN4 := Lib.hid hn9
  clear hn9
  refine hK _ _ ⟨⟨⟨w2, HT.out⟩, rfl⟩, ?_⟩
  clear hK K
  repeat (refine tree_q rfl rfl ?_; go_big_quiet_step (fail); refine wpQuiet_nil ?_)
  refine tree_a rfl (fun K hK => ?_)
  go_simp
  refine (refRead_any key (by omega) _).mono ?_
  rintro e w3 ⟨a5, c5, rfl, hn9, hb9⟩
  replace HN4 := Lib.hid (HN4.out.up hb9)
  replace HT := Lib.hid (below_up HT.out hb9)
  have Hs3 := Lib.hid (show w1.heap.size ≤ w3.heap.size from HT.out.size)
  clear hb9
  have HN5 := Lib.hid hn9
  clear hn9
  refine hK _ _ ⟨⟨⟨w3, HT.out⟩, rfl⟩, ?_⟩
  clear hK K
  repeat (refine tree_q rfl rfl ?_; go_big_quiet_step (fail); refine wpQuiet_nil ?_)
  refine tree_a rfl (fun K hK => ?_)
  go_simp
  refine (rPow OK.out (numOf_16 key hk) hn _ (HG.out.up (below_up HB.out HT.out)) HN5.out (HN.out.up (below_up HB.out HT.out))).mono ?_
  rintro e w4 ⟨a6, c6, rfl, hn9, hb9⟩
  replace HN4 := Lib.hid (HN4.out.up hb9)
  replace HN5 := Lib.hid (HN5.out.up hb9)
  replace HT := Lib.hid (below_up HT.out hb9)
  have Hs4 := Lib.hid (show w1.heap.size ≤ w4.heap.size from HT.out.size)
  clear hb9
  have HN6 := Lib.hid hn9
  clear hn9
  refine hK _ _ ⟨⟨⟨w4, HT.out⟩, rfl⟩, ?_⟩
  clear hK K
  repeat (refine tree_q rfl rfl ?_; go_big_quiet_step (fail); refine wpQuiet_nil ?_)
  refine tree_a rfl (fun K hK => ?_)
  go_simp
  refine (rProd2 OK.out _ (HG.out.up (below_up HB.out HT.out)) HN4.out HN6.out).mono ?_
  rintro e w5 ⟨a7, c7, rfl, hn9, hb9⟩
  replace HN4 := Lib.hid (HN4.out.up hb9)
  replace HN5 := Lib.hid (HN5.out.up hb9)
  replace HN6 := Lib.hid (HN6.out.up hb9)
  replace HT := Lib.hid (below_up HT.out hb9)
  have Hs5 := Lib.hid (show w1.heap.size ≤ w5.heap.size from HT.out.size)
  clear hb9
  have HN7 := Lib.hid hn9
  clear hn9
  refine hK _ _ ⟨⟨⟨w5, HT.out⟩, rfl⟩, ?_⟩
  clear hK K
  repeat (refine tree_q rfl rfl ?_; go_big_quiet_step (fail); refine wpQuiet_nil ?_)
  refine tree_end ?_
  clear hov_bg hl_bg hov_bc hl_bc
  clear bg_0 bg_1 bg_2
  replace Hbg := Lib.hid (Hbg.out.up HT.out)
  clear bc_0 bc_1
  replace Hbc := Lib.hid (Hbc.out.up HT.out)
  replace HB := Lib.hid (below_up HB.out HT.out)
  have Hs5 := Lib.hid (show w1.heap.size ≤ w5.heap.size from HT.out.size)
  clear HT
  have bg_0 := Hbg.out.cell (i := 0) rfl
  have bg_1 := Hbg.out.cell (i := 1) rfl
  have bg_2 := Hbg.out.cell (i := 2) rfl
  have bc_0 := Hbc.out.cell (i := 0) rfl
  have bc_1 := Hbc.out.cell (i := 1) rfl
  go_wp2_with fail
  have HT := Lib.hid (show Below w5.heap.size w5 w5.drew from (Below.refl _ _).drew)
  have hl_bg := Hbg.out.lt
  refine wp_region_tree (fun w9 => ∃ E : But w5 (some (w.heap.size + 1)), w9 = E.w) ((.qs [0, 1, 3, 4, 6, 7, 8] (.a 2 (.a 5 (.a 9 (.qs [10] (.a 11 .done))))))) (by kernel_rfl) (by kernel_rfl) (fun _ _ d _ _ h => by cases d <;> exact h) ⟨⟨_, ((below_grown HT.out).but _)⟩, rfl⟩ ?_
  have hov_bg := fun (E : But w5 (some (w.heap.size + 1))) o => E.cell (b := w.heap.size) o hl_bg (by intro e9; have a0 := Option.some.inj e9; have g0 := Hs1.out; have g1 := Hs2.out; have g2 := Hs3.out; have g3 := Hs4.out; have g4 := Hs5.out; have g5 := Hs5.out; omega)
  simp only [Tree.qs]
  repeat (refine tree_q rfl rfl ?_; go_big_quiet_step (fail); refine wpQuiet_nil ?_)
  refine tree_a rfl (fun K hK => ?_)
  go_simp
  refine (rRaise OK.out hn _ (HG.out.up (below_up HB.out HT.out)) (HN.out.up (below_up HB.out HT.out))).mono ?_
  rintro e w6 ⟨a8, c8, rfl, hn9, hb9⟩
  replace HT := Lib.hid (below_up HT.out hb9)
  have Hs6 := Lib.hid (show w5.heap.size ≤ w6.heap.size from HT.out.size)
  clear hb9
  have HN8 := Lib.hid hn9
  clear hn9
  refine hK _ _ ⟨⟨⟨w6, ((below_grown HT.out).but _)⟩, rfl⟩, ?_⟩
  clear hK K
  repeat (refine tree_q rfl rfl ?_; go_big_quiet_step (fail); refine wpQuiet_nil ?_)
  refine tree_a rfl (fun K hK => ?_)
  go_simp
  refine (rText2 OK.out _ HN8.out).mono ?_
  rintro e w7 ⟨rfl, hb9⟩
  replace HN8 := Lib.hid (HN8.out.up hb9)
  replace HT := Lib.hid (below_up HT.out hb9)
  have Hs7 := Lib.hid (show w5.heap.size ≤ w7.heap.size from HT.out.size)
  clear hb9
  refine hK _ _ ⟨⟨⟨w7, ((below_grown HT.out).but _)⟩, rfl⟩, ?_⟩
  clear hK K
  repeat (refine tree_q rfl rfl ?_; go_big_quiet_step (fail); refine wpQuiet_nil ?_)
  refine tree_a rfl (fun K hK => ?_)
  go_simp
  refine (rText2 OK.out _ (HN7.out.up HT.out)).mono ?_
  rintro e w8 ⟨rfl, hb9⟩
  replace HN8 := Lib.hid (HN8.out.up hb9)
  replace HT := Lib.hid (below_up HT.out hb9)
  have Hs8 := Lib.hid (show w5.heap.size ≤ w8.heap.size from HT.out.size)
  clear hb9
  refine hK _ _ ⟨⟨⟨w8, ((below_grown HT.out).but _)⟩, rfl⟩, ?_⟩
  clear hK K
  repeat (refine tree_q rfl rfl ?_; go_big_quiet_step (fail); refine wpQuiet_nil ?_)
  clear hov_bg hl_bg
  refine tree_a rfl (fun K hK => ?_)
  clear bg_0 bg_1 bg_2
  replace Hbg := Lib.hid (Hbg.out.up HT.out)
  clear bc_0 bc_1
  replace Hbc := Lib.hid (Hbc.out.up HT.out)
  replace HN4 := Lib.hid (HN4.out.up HT.out)
  replace HN5 := Lib.hid (HN5.out.up HT.out)
  replace HN6 := Lib.hid (HN6.out.up HT.out)
  replace HN7 := Lib.hid (HN7.out.up HT.out)
  replace HB := Lib.hid (below_up HB.out HT.out)
  have Hs8 := Lib.hid (show w5.heap.size ≤ w8.heap.size from HT.out.size)
  have bg_0 := Hbg.out.cell (i := 0) rfl
  have bg_1 := Hbg.out.cell (i := 1) rfl
  have bg_2 := Hbg.out.cell (i := 2) rfl
  have bc_0 := Hbc.out.cell (i := 0) rfl
  have bc_1 := Hbc.out.cell (i := 1) rfl
  have hgr9 : w5.grownBy ((w8.setCell ⟨w.heap.size + 1, 0, none⟩ (.string (textS (lowN G (2 ^ n)) G.size))).setCell ⟨w.heap.size + 1, 1, none⟩ (.string (textS (lowN G (2 ^ x * numOf key ^ n)) G.size))) (some (w.heap.size + 1)) := (((below_grown HT.out).but (some (w.heap.size + 1))).trans (grown_set w8 (w.heap.size + 1) 0 (.string (textS (lowN G (2 ^ n)) G.size)))).trans (grown_set (w8.setCell ⟨w.heap.size + 1, 0, none⟩ (.string (textS (lowN G (2 ^ n)) G.size))) (w.heap.size + 1) 1 (.string (textS (lowN G (2 ^ x * numOf key ^ n)) G.size)))
  have HGR := Lib.hid hgr9
  clear hgr9 HT
  clear HN8
  have f9_bc_0 := Hbc.out.frozen 0
  have f9_bc_1 := Hbc.out.frozen 1
  have o9_bg_0 := bg_0; clear bg_0
  have o9_bg_1 := bg_1; clear bg_1
  have o9_bg_2 := bg_2; clear bg_2
  have o9_bc_0 := bc_0; clear bc_0
  have o9_bc_1 := bc_1; clear bc_1
  have hx9 : Bx ((w8.setCell ⟨w.heap.size + 1, 0, none⟩ (.string (textS (lowN G (2 ^ n)) G.size))).setCell ⟨w.heap.size + 1, 1, none⟩ (.string (textS (lowN G (2 ^ x * numOf key ^ n)) G.size))) (w.heap.size + 1) 41 [.string (textS (lowN G (2 ^ n)) G.size), .string (textS (lowN G (2 ^ x * numOf key ^ n)) G.size)] := ((Hbc.out.set 0 (.string (textS (lowN G (2 ^ n)) G.size))).set 1 (.string (textS (lowN G (2 ^ x * numOf key ^ n)) G.size)))
  have hb9 : Below w.heap.size w ((w8.setCell ⟨w.heap.size + 1, 0, none⟩ (.string (textS (lowN G (2 ^ n)) G.size))).setCell ⟨w.heap.size + 1, 1, none⟩ (.string (textS (lowN G (2 ^ x * numOf key ^ n)) G.size))) := ((HB.out.setCell (show w.heap.size ≤ w.heap.size + 1 by have g0 := Hs1.out; have g1 := Hs2.out; have g2 := Hs3.out; have g3 := Hs4.out; have g4 := Hs5.out; have g5 := Hs5.out; have g6 := Hs6.out; have g7 := Hs7.out; have g8 := Hs8.out; have g9 := Hs8.out; omega) _).setCell (show w.heap.size ≤ w.heap.size + 1 by have g0 := Hs1.out; have g1 := Hs2.out; have g2 := Hs3.out; have g3 := Hs4.out; have g4 := Hs5.out; have g5 := Hs5.out; have g6 := Hs6.out; have g7 := Hs7.out; have g8 := Hs8.out; have g9 := Hs8.out; omega) _)
  have hz9 : ((w8.setCell ⟨w.heap.size + 1, 0, none⟩ (.string (textS (lowN G (2 ^ n)) G.size))).setCell ⟨w.heap.size + 1, 1, none⟩ (.string (textS (lowN G (2 ^ x * numOf key ^ n)) G.size))).heap.size = w8.heap.size := by simp [World.setCell]
  have ho9Hbg := ((Hbg.out.other (show _ ≠ w.heap.size + 1 by have g0 := Hs1.out; have g1 := Hs2.out; have g2 := Hs3.out; have g3 := Hs4.out; have g4 := Hs5.out; have g5 := Hs5.out; have g6 := Hs6.out; have g7 := Hs7.out; have g8 := Hs8.out; have g9 := Hs8.out; omega) 0 (.string (textS (lowN G (2 ^ n)) G.size))).other (show _ ≠ w.heap.size + 1 by have g0 := Hs1.out; have g1 := Hs2.out; have g2 := Hs3.out; have g3 := Hs4.out; have g4 := Hs5.out; have g5 := Hs5.out; have g6 := Hs6.out; have g7 := Hs7.out; have g8 := Hs8.out; have g9 := Hs8.out; omega) 1 (.string (textS (lowN G (2 ^ x * numOf key ^ n)) G.size)))
  clear HN4 HN5 HN6 HN7
  obtain ⟨w9, hq9⟩ : ∃ W9 : World, ((w8.setCell ⟨w.heap.size + 1, 0, none⟩ (.string (textS (lowN G (2 ^ n)) G.size))).setCell ⟨w.heap.size + 1, 1, none⟩ (.string (textS (lowN G (2 ^ x * numOf key ^ n)) G.size))) = W9 := ⟨_, rfl⟩
  rw [hq9] at hx9 hb9 hz9 ho9Hbg
  clear Hbc HB
  have Hbc := Lib.hid hx9
  have HB := Lib.hid hb9
  have Hs9 := Lib.hid hz9
  replace Hbg := Lib.hid ho9Hbg
  clear hx9 hb9 hz9 ho9Hbg
  have bg_0 := Hbg.out.cell (i := 0) rfl
  have bg_1 := Hbg.out.cell (i := 1) rfl
  have bg_2 := Hbg.out.cell (i := 2) rfl
  have bc_0 := Hbc.out.cell (i := 0) rfl
  have bc_1 := Hbc.out.cell (i := 1) rfl
  replace HGR := Lib.hid (by have h9 := HGR.out; rw [hq9] at h9; exact h9)
  go_simp
  try rw [hq9]
  refine hK _ _ ⟨⟨⟨w9, HGR.out⟩, rfl⟩, ?_⟩
  clear hK K HGR
  clear hq9 o9_bc_1 o9_bc_0 o9_bg_2 o9_bg_1 o9_bg_0 f9_bc_1 f9_bc_0
  repeat (refine tree_q rfl rfl ?_; go_big_quiet_step (fail); refine wpQuiet_nil ?_)
  refine tree_end ?_
  go_wp2_with fail
  simp [bodyPost, results, Try.results80, go_sem, bc_0, bc_1]
  exact HB.out

set_option maxRecDepth 100000 in
set_option maxHeartbeats 1000000 in
theorem rElems (ok : G.Ok) (c : ByteArray × ByteArray) (w : World) (hG : RG w G aq ap) :
    Calls Try.prog 84 #[.agg #[.int .i64 (G.size : Int), .slice aq (dl G.q.m) cq, .slice ap (dl G.p.m) cp], ciphV c.1 c.2] w (Gives (.bool (cipOk G c)) w) := by
  obtain ⟨ba, hba⟩ : ∃ x, isEl G.q.m G.size c.1 = x := ⟨_, rfl⟩
  obtain ⟨bb, hbb⟩ : ∃ x, isEl G.q.m G.size c.2 = x := ⟨_, rfl⟩
  have hea := fun W h => rIsEl (cq := cq) (cp := cp) (aq := aq) (ap := ap) (G := G) ok c.1 W h
  have heb := fun W h => rIsEl (cq := cq) (cp := cp) (aq := aq) (ap := ap) (G := G) ok c.2 W h
  rw [hba] at hea
  rw [hbb] at heb
  have HG := Lib.hid hG
  have HEA := Lib.hid hea
  have HEB := Lib.hid heb
  have HR : Hid (cipOk G c = (ba && bb)) := by show _ = _; unfold cipOk; rw [hba, hbb]
  clear hba hbb hea heb hG ok
  rw [HR.out]
  clear HR
  unfold Gives ciphV
  go_enter Try.func84, Try.ntmps84
  go_wp2_with fail
  have hb9 : Below w.heap.size w ((w.alloc (Obj.cells #[.int .i64 (G.size : Int), .slice aq (dl G.q.m) cq, .slice ap (dl G.p.m) cp] 98)).alloc (Obj.cells #[.string c.1, .string c.2] 41)) := (((Below.refl _ _).alloc (Nat.le_refl _) _).alloc (by simp) _)
  have hx90 : Bx ((w.alloc (Obj.cells #[.int .i64 (G.size : Int), .slice aq (dl G.q.m) cq, .slice ap (dl G.p.m) cp] 98)).alloc (Obj.cells #[.string c.1, .string c.2] 41)) (w.heap.size) 98 [.int .i64 (G.size : Int), .slice aq (dl G.q.m) cq, .slice ap (dl G.p.m) cp] := by
    have h := ((Bx.new w 98 [.int .i64 (G.size : Int), .slice aq (dl G.q.m) cq, .slice ap (dl G.p.m) cp] _ rfl).alloc (Obj.cells #[.string c.1, .string c.2] 41))
    exact h
  have hx91 : Bx ((w.alloc (Obj.cells #[.int .i64 (G.size : Int), .slice aq (dl G.q.m) cq, .slice ap (dl G.p.m) cp] 98)).alloc (Obj.cells #[.string c.1, .string c.2] 41)) (w.heap.size + 1) 41 [.string c.1, .string c.2] := by
    have h := (Bx.new (w.alloc (Obj.cells #[.int .i64 (G.size : Int), .slice aq (dl G.q.m) cq, .slice ap (dl G.p.m) cp] 98)) 41 [.string c.1, .string c.2] _ rfl)
    rw [World.size_alloc] at h
    exact h
  have hz9 : ((w.alloc (Obj.cells #[.int .i64 (G.size : Int), .slice aq (dl G.q.m) cq, .slice ap (dl G.p.m) cp] 98)).alloc (Obj.cells #[.string c.1, .string c.2] 41)).heap.size = w.heap.size + 2 := by simp
  obtain ⟨w1, hq1⟩ : ∃ W9 : World, ((w.alloc (Obj.cells #[.int .i64 (G.size : Int), .slice aq (dl G.q.m) cq, .slice ap (dl G.p.m) cp] 98)).alloc (Obj.cells #[.string c.1, .string c.2] 41)) = W9 := ⟨_, rfl⟩
  rw [hq1] at hb9 hz9 hx90 hx91
  rw [hq1]
  clear hq1
  have HB := Lib.hid hb9
  have Hs1 := Lib.hid hz9
  have Hbg := Lib.hid hx90
  have Hbc := Lib.hid hx91
  clear hb9 hz9 hx90 hx91
  have bg_0 := Hbg.out.cell (i := 0) rfl
  have bg_1 := Hbg.out.cell (i := 1) rfl
  have bg_2 := Hbg.out.cell (i := 2) rfl
  have bc_0 := Hbc.out.cell (i := 0) rfl
  have bc_1 := Hbc.out.cell (i := 1) rfl
  go_wp2_with fail
  refine (HEA.out w1 (HG.out.up HB.out)).mono ?_
  rintro e w2 ⟨rfl, hb9⟩
  clear bg_0 bg_1 bg_2
  replace Hbg := Lib.hid (Hbg.out.up hb9)
  clear bc_0 bc_1
  replace Hbc := Lib.hid (Hbc.out.up hb9)
  replace HB := Lib.hid (below_up HB.out hb9)
  have Hs2 := Lib.hid (show w1.heap.size ≤ w2.heap.size from hb9.size)
  clear hb9
  have bg_0 := Hbg.out.cell (i := 0) rfl
  have bg_1 := Hbg.out.cell (i := 1) rfl
  have bg_2 := Hbg.out.cell (i := 2) rfl
  have bc_0 := Hbc.out.cell (i := 0) rfl
  have bc_1 := Hbc.out.cell (i := 1) rfl
  cases ba
  · go_wp2_with fail
    go_ret
    exact ⟨rfl, HB.out⟩
  · go_wp2_with fail
    refine (HEB.out w2 (HG.out.up HB.out)).mono ?_
    rintro e w3 ⟨rfl, hb9⟩
    clear bg_0 bg_1 bg_2
    replace Hbg := Lib.hid (Hbg.out.up hb9)
    clear bc_0 bc_1
    replace Hbc := Lib.hid (Hbc.out.up hb9)
    replace HB := Lib.hid (below_up HB.out hb9)
    have Hs3 := Lib.hid (show w2.heap.size ≤ w3.heap.size from hb9.size)
    clear hb9
    have bg_0 := Hbg.out.cell (i := 0) rfl
    have bg_1 := Hbg.out.cell (i := 1) rfl
    have bg_2 := Hbg.out.cell (i := 2) rfl
    have bc_0 := Hbc.out.cell (i := 0) rfl
    have bc_1 := Hbc.out.cell (i := 1) rfl
    go_wp2_with fail
    go_ret
    exact ⟨rfl, HB.out⟩

set_option maxRecDepth 100000 in
set_option maxHeartbeats 1000000 in
theorem rBoth (ok : G.Ok) (a b : ByteArray × ByteArray) (h1 : a.1.size ≤ 32) (h2 : a.2.size ≤ 32) (h3 : b.1.size ≤ 32) (h4 : b.2.size ≤ 32) (w : World) (hG : RG w G aq ap) :
    Calls Try.prog 85 #[.agg #[.int .i64 (G.size : Int), .slice aq (dl G.q.m) cq, .slice ap (dl G.p.m) cp], ciphV a.1 a.2, ciphV b.1 b.2] w (Gives (ciphV (textS (lowN G (numOf a.1 * numOf b.1)) G.size) (textS (lowN G (numOf a.2 * numOf b.2)) G.size)) w) := by
  have OK := Lib.hid ok
  have HG := Lib.hid hG
  clear ok hG
  unfold Gives ciphV
  go_enter Try.func85, Try.ntmps85
  go_wp2_with fail
  have hb9 : Below w.heap.size w ((((w.alloc (Obj.cells #[.int .i64 (G.size : Int), .slice aq (dl G.q.m) cq, .slice ap (dl G.p.m) cp] 98)).alloc (Obj.cells #[.string a.1, .string a.2] 41)).alloc (Obj.cells #[.string b.1, .string b.2] 41)).alloc (Obj.cells #[.string ⟨#[]⟩, .string ⟨#[]⟩] 41)) := (((((Below.refl _ _).alloc (Nat.le_refl _) _).alloc (by simp) _).alloc (by simp; omega) _).alloc (by simp; omega) _)
  have hx90 : Bx ((((w.alloc (Obj.cells #[.int .i64 (G.size : Int), .slice aq (dl G.q.m) cq, .slice ap (dl G.p.m) cp] 98)).alloc (Obj.cells #[.string a.1, .string a.2] 41)).alloc (Obj.cells #[.string b.1, .string b.2] 41)).alloc (Obj.cells #[.string ⟨#[]⟩, .string ⟨#[]⟩] 41)) (w.heap.size) 98 [.int .i64 (G.size : Int), .slice aq (dl G.q.m) cq, .slice ap (dl G.p.m) cp] := by
    have h := ((((Bx.new w 98 [.int .i64 (G.size : Int), .slice aq (dl G.q.m) cq, .slice ap (dl G.p.m) cp] _ rfl).alloc (Obj.cells #[.string a.1, .string a.2] 41)).alloc (Obj.cells #[.string b.1, .string b.2] 41)).alloc (Obj.cells #[.string ⟨#[]⟩, .string ⟨#[]⟩] 41))
    exact h
  have hx91 : Bx ((((w.alloc (Obj.cells #[.int .i64 (G.size : Int), .slice aq (dl G.q.m) cq, .slice ap (dl G.p.m) cp] 98)).alloc (Obj.cells #[.string a.1, .string a.2] 41)).alloc (Obj.cells #[.string b.1, .string b.2] 41)).alloc (Obj.cells #[.string ⟨#[]⟩, .string ⟨#[]⟩] 41)) (w.heap.size + 1) 41 [.string a.1, .string a.2] := by
    have h := (((Bx.new (w.alloc (Obj.cells #[.int .i64 (G.size : Int), .slice aq (dl G.q.m) cq, .slice ap (dl G.p.m) cp] 98)) 41 [.string a.1, .string a.2] _ rfl).alloc (Obj.cells #[.string b.1, .string b.2] 41)).alloc (Obj.cells #[.string ⟨#[]⟩, .string ⟨#[]⟩] 41))
    rw [World.size_alloc] at h
    exact h
  have hx92 : Bx ((((w.alloc (Obj.cells #[.int .i64 (G.size : Int), .slice aq (dl G.q.m) cq, .slice ap (dl G.p.m) cp] 98)).alloc (Obj.cells #[.string a.1, .string a.2] 41)).alloc (Obj.cells #[.string b.1, .string b.2] 41)).alloc (Obj.cells #[.string ⟨#[]⟩, .string ⟨#[]⟩] 41)) (w.heap.size + 2) 41 [.string b.1, .string b.2] := by
    have h := ((Bx.new ((w.alloc (Obj.cells #[.int .i64 (G.size : Int), .slice aq (dl G.q.m) cq, .slice ap (dl G.p.m) cp] 98)).alloc (Obj.cells #[.string a.1, .string a.2] 41)) 41 [.string b.1, .string b.2] _ rfl).alloc (Obj.cells #[.string ⟨#[]⟩, .string ⟨#[]⟩] 41))
    rw [World.size_alloc, World.size_alloc] at h
    exact h
  have hx93 : Bx ((((w.alloc (Obj.cells #[.int .i64 (G.size : Int), .slice aq (dl G.q.m) cq, .slice ap (dl G.p.m) cp] 98)).alloc (Obj.cells #[.string a.1, .string a.2] 41)).alloc (Obj.cells #[.string b.1, .string b.2] 41)).alloc (Obj.cells #[.string ⟨#[]⟩, .string ⟨#[]⟩] 41)) (w.heap.size + 3) 41 [.string ⟨#[]⟩, .string ⟨#[]⟩] := by
    have h := (Bx.new (((w.alloc (Obj.cells #[.int .i64 (G.size : Int), .slice aq (dl G.q.m) cq, .slice ap (dl G.p.m) cp] 98)).alloc (Obj.cells #[.string a.1, .string a.2] 41)).alloc (Obj.cells #[.string b.1, .string b.2] 41)) 41 [.string ⟨#[]⟩, .string ⟨#[]⟩] _ rfl)
    rw [World.size_alloc, World.size_alloc, World.size_alloc] at h
    exact h
  have hz9 : ((((w.alloc (Obj.cells #[.int .i64 (G.size : Int), .slice aq (dl G.q.m) cq, .slice ap (dl G.p.m) cp] 98)).alloc (Obj.cells #[.string a.1, .string a.2] 41)).alloc (Obj.cells #[.string b.1, .string b.2] 41)).alloc (Obj.cells #[.string ⟨#[]⟩, .string ⟨#[]⟩] 41)).heap.size = w.heap.size + 4 := by simp
  obtain ⟨w1, hq1⟩ : ∃ W9 : World, ((((w.alloc (Obj.cells #[.int .i64 (G.size : Int), .slice aq (dl G.q.m) cq, .slice ap (dl G.p.m) cp] 98)).alloc (Obj.cells #[.string a.1, .string a.2] 41)).alloc (Obj.cells #[.string b.1, .string b.2] 41)).alloc (Obj.cells #[.string ⟨#[]⟩, .string ⟨#[]⟩] 41)) = W9 := ⟨_, rfl⟩
  rw [hq1] at hb9 hz9 hx90 hx91 hx92 hx93
  rw [hq1]
  clear hq1
  have HB := Lib.hid hb9
  have Hs1 := Lib.hid hz9
  have Hbg := Lib.hid hx90
  have Hba := Lib.hid hx91
  have Hbb := Lib.hid hx92
  have Hbc := Lib.hid hx93
  clear hb9 hz9 hx90 hx91 hx92 hx93
  have bg_0 := Hbg.out.cell (i := 0) rfl
  have bg_1 := Hbg.out.cell (i := 1) rfl
  have bg_2 := Hbg.out.cell (i := 2) rfl
  have ba_0 := Hba.out.cell (i := 0) rfl
  have ba_1 := Hba.out.cell (i := 1) rfl
  have bb_0 := Hbb.out.cell (i := 0) rfl
  have bb_1 := Hbb.out.cell (i := 1) rfl
  have bc_0 := Hbc.out.cell (i := 0) rfl
  have bc_1 := Hbc.out.cell (i := 1) rfl
  go_wp2_with fail
  have HT := Lib.hid (show Below w1.heap.size w1 w1.drew from (Below.refl _ _).drew)
  have hl_bg := Hbg.out.lt
  have hl_ba := Hba.out.lt
  have hl_bb := Hbb.out.lt
  refine wp_region_tree (fun w9 => ∃ E : But w1 (some (w.heap.size + 3)), w9 = E.w) ((.qs [0, 1, 2, 4, 5, 8, 9, 11, 12, 13, 15, 16, 19, 20] (.a 3 (.a 6 (.a 7 (.a 10 (.a 14 (.a 17 (.a 18 (.a 21 (.qs [22] (.a 23 .done)))))))))))) (by kernel_rfl) (by kernel_rfl) (fun _ _ d _ _ h => by cases d <;> exact h) ⟨⟨_, ((below_grown HT.out).but _)⟩, rfl⟩ ?_
  have hov_bg := fun (E : But w1 (some (w.heap.size + 3))) o => E.cell (b := w.heap.size) o hl_bg (by intro e9; have a0 := Option.some.inj e9; have g0 := Hs1.out; omega)
  have hov_ba := fun (E : But w1 (some (w.heap.size + 3))) o => E.cell (b := w.heap.size + 1) o hl_ba (by intro e9; have a0 := Option.some.inj e9; have g0 := Hs1.out; omega)
  have hov_bb := fun (E : But w1 (some (w.heap.size + 3))) o => E.cell (b := w.heap.size + 2) o hl_bb (by intro e9; have a0 := Option.some.inj e9; have g0 := Hs1.out; omega)
  simp only [Tree.qs]
  repeat (refine tree_q rfl rfl ?_; go_big_quiet_step (fail); refine wpQuiet_nil ?_)
  refine tree_a rfl (fun K hK => ?_)
  go_simp
  refine (refRead_any a.1 (by omega) _).mono ?_
  rintro e w2 ⟨a4, c4, rfl, hn9, hb9⟩
  replace HT := Lib.hid (below_up HT.out hb9)
  have Hs2 := Lib.hid (show w1.heap.size ≤ w2.heap.size from HT.out.size)
  clear hb9
  have HN4 := Lib.hid hn9
  clear hn9
  refine hK _ _ ⟨⟨⟨w2, ((below_grown HT.out).but _)⟩, rfl⟩, ?_⟩
  clear hK K
  repeat (refine tree_q rfl rfl ?_; go_big_quiet_step (fail); refine wpQuiet_nil ?_)
  refine tree_a rfl (fun K hK => ?_)
  go_simp
  refine (refRead_any b.1 (by omega) _).mono ?_
  rintro e w3 ⟨a5, c5, rfl, hn9, hb9⟩
  replace HN4 := Lib.hid (HN4.out.up hb9)
  replace HT := Lib.hid (below_up HT.out hb9)
  have Hs3 := Lib.hid (show w1.heap.size ≤ w3.heap.size from HT.out.size)
  clear hb9
  have HN5 := Lib.hid hn9
  clear hn9
  refine hK _ _ ⟨⟨⟨w3, ((below_grown HT.out).but _)⟩, rfl⟩, ?_⟩
  clear hK K
  repeat (refine tree_q rfl rfl ?_; go_big_quiet_step (fail); refine wpQuiet_nil ?_)
  refine tree_a rfl (fun K hK => ?_)
  go_simp
  refine (rProd OK.out (numOf_16 a.1 h1) (numOf_16 b.1 h3) _ (HG.out.up (below_up HB.out HT.out)) HN4.out HN5.out).mono ?_
  rintro e w4 ⟨a6, c6, rfl, hn9, hb9⟩
  replace HN4 := Lib.hid (HN4.out.up hb9)
  replace HN5 := Lib.hid (HN5.out.up hb9)
  replace HT := Lib.hid (below_up HT.out hb9)
  have Hs4 := Lib.hid (show w1.heap.size ≤ w4.heap.size from HT.out.size)
  clear hb9
  have HN6 := Lib.hid hn9
  clear hn9
  refine hK _ _ ⟨⟨⟨w4, ((below_grown HT.out).but _)⟩, rfl⟩, ?_⟩
  clear hK K
  repeat (refine tree_q rfl rfl ?_; go_big_quiet_step (fail); refine wpQuiet_nil ?_)
  refine tree_a rfl (fun K hK => ?_)
  go_simp
  refine (rText2 OK.out _ HN6.out).mono ?_
  rintro e w5 ⟨rfl, hb9⟩
  replace HN4 := Lib.hid (HN4.out.up hb9)
  replace HN5 := Lib.hid (HN5.out.up hb9)
  replace HN6 := Lib.hid (HN6.out.up hb9)
  replace HT := Lib.hid (below_up HT.out hb9)
  have Hs5 := Lib.hid (show w1.heap.size ≤ w5.heap.size from HT.out.size)
  clear hb9
  refine hK _ _ ⟨⟨⟨w5, ((below_grown HT.out).but _)⟩, rfl⟩, ?_⟩
  clear hK K
  repeat (refine tree_q rfl rfl ?_; go_big_quiet_step (fail); refine wpQuiet_nil ?_)
  refine tree_a rfl (fun K hK => ?_)
  go_simp
  refine (refRead_any a.2 (by omega) _).mono ?_
  rintro e w6 ⟨a7, c7, rfl, hn9, hb9⟩
  replace HN4 := Lib.hid (HN4.out.up hb9)
  replace HN5 := Lib.hid (HN5.out.up hb9)
  replace HN6 := Lib.hid (HN6.out.up hb9)
  replace HT := Lib.hid (below_up HT.out hb9)
  have Hs6 := Lib.hid (show w1.heap.size ≤ w6.heap.size from HT.out.size)
  clear hb9
  have HN7 := Lib.hid hn9
  clear hn9
  refine hK _ _ ⟨⟨⟨w6, ((below_grown HT.out).but _)⟩, rfl⟩, ?_⟩
  clear hK K
  repeat (refine tree_q rfl rfl ?_; go_big_quiet_step (fail); refine wpQuiet_nil ?_)
  refine tree_a rfl (fun K hK => ?_)
  go_simp
  refine (refRead_any b.2 (by omega) _).mono ?_
  rintro e w7 ⟨a8, c8, rfl, hn9, hb9⟩
  replace HN4 := Lib.hid (HN4.out.up hb9)
  replace HN5 := Lib.hid (HN5.out.up hb9)
  replace HN6 := Lib.hid (HN6.out.up hb9)
  replace HN7 := Lib.hid (HN7.out.up hb9)
  replace HT := Lib.hid (below_up HT.out hb9)
  have Hs7 := Lib.hid (show w1.heap.size ≤ w7.heap.size from HT.out.size)
  clear hb9
  have HN8 := Lib.hid hn9
  clear hn9
  refine hK _ _ ⟨⟨⟨w7, ((below_grown HT.out).but _)⟩, rfl⟩, ?_⟩
  clear hK K
  repeat (refine tree_q rfl rfl ?_; go_big_quiet_step (fail); refine wpQuiet_nil ?_)
  refine tree_a rfl (fun K hK => ?_)
  go_simp
  refine (rProd OK.out (numOf_16 a.2 h2) (numOf_16 b.2 h4) _ (HG.out.up (below_up HB.out HT.out)) HN7.out HN8.out).mono ?_
  rintro e w8 ⟨a9, c9, rfl, hn9, hb9⟩
  replace HN4 := Lib.hid (HN4.out.up hb9)
  replace HN5 := Lib.hid (HN5.out.up hb9)
  replace HN6 := Lib.hid (HN6.out.up hb9)
  replace HN7 := Lib.hid (HN7.out.up hb9)
  replace HN8 := Lib.hid (HN8.out.up hb9)
  replace HT := Lib.hid (below_up HT.out hb9)
  have Hs8 := Lib.hid (show w1.heap.size ≤ w8.heap.size from HT.out.size)
  clear hb9
  have HN9 := Lib.hid hn9
  clear hn9
  refine hK _ _ ⟨⟨⟨w8, ((below_grown HT.out).but _)⟩, rfl⟩, ?_⟩
  clear hK K
  repeat (refine tree_q rfl rfl ?_; go_big_quiet_step (fail); refine wpQuiet_nil ?_)
  refine tree_a rfl (fun K hK => ?_)
  go_simp
  refine (rText2 OK.out _ HN9.out).mono ?_
  rintro e w9 ⟨rfl, hb9⟩
  replace HN4 := Lib.hid (HN4.out.up hb9)
  replace HN5 := Lib.hid (HN5.out.up hb9)
  replace HN6 := Lib.hid (HN6.out.up hb9)
  replace HN7 := Lib.hid (HN7.out.up hb9)
  replace HN8 := Lib.hid (HN8.out.up hb9)
  replace HN9 := Lib.hid (HN9.out.up hb9)
  replace HT := Lib.hid (below_up HT.out hb9)
  have Hs9 := Lib.hid (show w1.heap.size ≤ w9.heap.size from HT.out.size)
  clear hb9
  refine hK _ _ ⟨⟨⟨w9, ((below_grown HT.out).but _)⟩, rfl⟩, ?_⟩
  clear hK K
  repeat (refine tree_q rfl rfl ?_; go_big_quiet_step (fail); refine wpQuiet_nil ?_)
  clear hov_bg hl_bg hov_ba hl_ba hov_bb hl_bb
  refine tree_a rfl (fun K hK => ?_)
  clear bg_0 bg_1 bg_2
  replace Hbg := Lib.hid (Hbg.out.up HT.out)
  clear ba_0 ba_1
  replace Hba := Lib.hid (Hba.out.up HT.out)
  clear bb_0 bb_1
  replace Hbb := Lib.hid (Hbb.out.up HT.out)
  clear bc_0 bc_1
  replace Hbc := Lib.hid (Hbc.out.up HT.out)
  replace HB := Lib.hid (below_up HB.out HT.out)
  have Hs9 := Lib.hid (show w1.heap.size ≤ w9.heap.size from HT.out.size)
  have bg_0 := Hbg.out.cell (i := 0) rfl
  have bg_1 := Hbg.out.cell (i := 1) rfl
  have bg_2 := Hbg.out.cell (i := 2) rfl
  have ba_0 := Hba.out.cell (i := 0) rfl
  have ba_1 := Hba.out.cell (i := 1) rfl
  have bb_0 := Hbb.out.cell (i := 0) rfl
  have bb_1 := Hbb.out.cell (i := 1) rfl
  have bc_0 := Hbc.out.cell (i := 0) rfl
  have bc_1 := Hbc.out.cell (i := 1) rfl
  have hgr9 : w1.grownBy ((w9.setCell ⟨w.heap.size + 3, 0, none⟩ (.string (textS (lowN G (numOf a.1 * numOf b.1)) G.size))).setCell ⟨w.heap.size + 3, 1, none⟩ (.string (textS (lowN G (numOf a.2 * numOf b.2)) G.size))) (some (w.heap.size + 3)) := (((below_grown HT.out).but (some (w.heap.size + 3))).trans (grown_set w9 (w.heap.size + 3) 0 (.string (textS (lowN G (numOf a.1 * numOf b.1)) G.size)))).trans (grown_set (w9.setCell ⟨w.heap.size + 3, 0, none⟩ (.string (textS (lowN G (numOf a.1 * numOf b.1)) G.size))) (w.heap.size + 3) 1 (.string (textS (lowN G (numOf a.2 * numOf b.2)) G.size)))
  have HGR := Lib.hid hgr9
  clear hgr9 HT
  clear HN4 HN5 HN6 HN7 HN8 HN9
  have f10_bc_0 := Hbc.out.frozen 0
  have f10_bc_1 := Hbc.out.frozen 1
  have o10_bg_0 := bg_0; clear bg_0
  have o10_bg_1 := bg_1; clear bg_1
  have o10_bg_2 := bg_2; clear bg_2
  have o10_ba_0 := ba_0; clear ba_0
  have o10_ba_1 := ba_1; clear ba_1
  have o10_bb_0 := bb_0; clear bb_0
  have o10_bb_1 := bb_1; clear bb_1
  have o10_bc_0 := bc_0; clear bc_0
  have o10_bc_1 := bc_1; clear bc_1
  have hx9 : Bx ((w9.setCell ⟨w.heap.size + 3, 0, none⟩ (.string (textS (lowN G (numOf a.1 * numOf b.1)) G.size))).setCell ⟨w.heap.size + 3, 1, none⟩ (.string (textS (lowN G (numOf a.2 * numOf b.2)) G.size))) (w.heap.size + 3) 41 [.string (textS (lowN G (numOf a.1 * numOf b.1)) G.size), .string (textS (lowN G (numOf a.2 * numOf b.2)) G.size)] := ((Hbc.out.set 0 (.string (textS (lowN G (numOf a.1 * numOf b.1)) G.size))).set 1 (.string (textS (lowN G (numOf a.2 * numOf b.2)) G.size)))
  have hb9 : Below w.heap.size w ((w9.setCell ⟨w.heap.size + 3, 0, none⟩ (.string (textS (lowN G (numOf a.1 * numOf b.1)) G.size))).setCell ⟨w.heap.size + 3, 1, none⟩ (.string (textS (lowN G (numOf a.2 * numOf b.2)) G.size))) := ((HB.out.setCell (show w.heap.size ≤ w.heap.size + 3 by have g0 := Hs1.out; have g1 := Hs2.out; have g2 := Hs3.out; have g3 := Hs4.out; have g4 := Hs5.out; have g5 := Hs6.out; have g6 := Hs7.out; have g7 := Hs8.out; have g8 := Hs9.out; have g9 := Hs9.out; omega) _).setCell (show w.heap.size ≤ w.heap.size + 3 by have g0 := Hs1.out; have g1 := Hs2.out; have g2 := Hs3.out; have g3 := Hs4.out; have g4 := Hs5.out; have g5 := Hs6.out; have g6 := Hs7.out; have g7 := Hs8.out; have g8 := Hs9.out; have g9 := Hs9.out; omega) _)
  have hz9 : ((w9.setCell ⟨w.heap.size + 3, 0, none⟩ (.string (textS (lowN G (numOf a.1 * numOf b.1)) G.size))).setCell ⟨w.heap.size + 3, 1, none⟩ (.string (textS (lowN G (numOf a.2 * numOf b.2)) G.size))).heap.size = w9.heap.size := by simp [World.setCell]
  have ho9Hbg := ((Hbg.out.other (show _ ≠ w.heap.size + 3 by have g0 := Hs1.out; have g1 := Hs2.out; have g2 := Hs3.out; have g3 := Hs4.out; have g4 := Hs5.out; have g5 := Hs6.out; have g6 := Hs7.out; have g7 := Hs8.out; have g8 := Hs9.out; have g9 := Hs9.out; omega) 0 (.string (textS (lowN G (numOf a.1 * numOf b.1)) G.size))).other (show _ ≠ w.heap.size + 3 by have g0 := Hs1.out; have g1 := Hs2.out; have g2 := Hs3.out; have g3 := Hs4.out; have g4 := Hs5.out; have g5 := Hs6.out; have g6 := Hs7.out; have g7 := Hs8.out; have g8 := Hs9.out; have g9 := Hs9.out; omega) 1 (.string (textS (lowN G (numOf a.2 * numOf b.2)) G.size)))
  have ho9Hba := ((Hba.out.other (show _ ≠ w.heap.size + 3 by have g0 := Hs1.out; have g1 := Hs2.out; have g2 := Hs3.out; have g3 := Hs4.out; have g4 := Hs5.out; have g5 := Hs6.out; have g6 := Hs7.out; have g7 := Hs8.out; have g8 := Hs9.out; have g9 := Hs9.out; omega) 0 (.string (textS (lowN G (numOf a.1 * numOf b.1)) G.size))).other (show _ ≠ w.heap.size + 3 by have g0 := Hs1.out; have g1 := Hs2.out; have g2 := Hs3.out; have g3 := Hs4.out; have g4 := Hs5.out; have g5 := Hs6.out; have g6 := Hs7.out; have g7 := Hs8.out; have g8 := Hs9.out; have g9 := Hs9.out; omega) 1 (.string (textS (lowN G (numOf a.2 * numOf b.2)) G.size)))
  have ho9Hbb := ((Hbb.out.other (show _ ≠ w.heap.size + 3 by have g0 := Hs1.out; have g1 := Hs2.out; have g2 := Hs3.out; have g3 := Hs4.out; have g4 := Hs5.out; have g5 := Hs6.out; have g6 := Hs7.out; have g7 := Hs8.out; have g8 := Hs9.out; have g9 := Hs9.out; omega) 0 (.string (textS (lowN G (numOf a.1 * numOf b.1)) G.size))).other (show _ ≠ w.heap.size + 3 by have g0 := Hs1.out; have g1 := Hs2.out; have g2 := Hs3.out; have g3 := Hs4.out; have g4 := Hs5.out; have g5 := Hs6.out; have g6 := Hs7.out; have g7 := Hs8.out; have g8 := Hs9.out; have g9 := Hs9.out; omega) 1 (.string (textS (lowN G (numOf a.2 * numOf b.2)) G.size)))
  obtain ⟨w10, hq10⟩ : ∃ W9 : World, ((w9.setCell ⟨w.heap.size + 3, 0, none⟩ (.string (textS (lowN G (numOf a.1 * numOf b.1)) G.size))).setCell ⟨w.heap.size + 3, 1, none⟩ (.string (textS (lowN G (numOf a.2 * numOf b.2)) G.size))) = W9 := ⟨_, rfl⟩
  rw [hq10] at hx9 hb9 hz9 ho9Hbg ho9Hba ho9Hbb
  clear Hbc HB
  have Hbc := Lib.hid hx9
  have HB := Lib.hid hb9
  have Hs10 := Lib.hid hz9
  replace Hbg := Lib.hid ho9Hbg
  replace Hba := Lib.hid ho9Hba
  replace Hbb := Lib.hid ho9Hbb
  clear hx9 hb9 hz9 ho9Hbg ho9Hba ho9Hbb
  have bg_0 := Hbg.out.cell (i := 0) rfl
  have bg_1 := Hbg.out.cell (i := 1) rfl
  have bg_2 := Hbg.out.cell (i := 2) rfl
  have ba_0 := Hba.out.cell (i := 0) rfl
  have ba_1 := Hba.out.cell (i := 1) rfl
  have bb_0 := Hbb.out.cell (i := 0) rfl
  have bb_1 := Hbb.out.cell (i := 1) rfl
  have bc_0 := Hbc.out.cell (i := 0) rfl
  have bc_1 := Hbc.out.cell (i := 1) rfl
  replace HGR := Lib.hid (by have h9 := HGR.out; rw [hq10] at h9; exact h9)
  go_simp
  try rw [hq10]
  refine hK _ _ ⟨⟨⟨w10, HGR.out⟩, rfl⟩, ?_⟩
  clear hK K HGR
  clear hq10 o10_bc_1 o10_bc_0 o10_bb_1 o10_bb_0 o10_ba_1 o10_ba_0 o10_bg_2 o10_bg_1 o10_bg_0 f10_bc_1 f10_bc_0
  repeat (refine tree_q rfl rfl ?_; go_big_quiet_step (fail); refine wpQuiet_nil ?_)
  refine tree_end ?_
  go_wp2_with fail
  simp [bodyPost, results, Try.results85, go_sem, bc_0, bc_1]
  exact HB.out

set_option maxRecDepth 100000 in
set_option maxHeartbeats 1000000 in
theorem rShown (ok : G.Ok) (x : ByteArray) (c : ByteArray × ByteArray) (hx : x.size ≤ 32) (h1 : c.1.size ≤ 32) (h2 : c.2.size ≤ 32) (w : World) (hG : RG w G aq ap) :
    Calls Try.prog 91 #[.agg #[.int .i64 (G.size : Int), .slice aq (dl G.q.m) cq, .slice ap (dl G.p.m) cp], .string x, ciphV c.1 c.2] w fun e w' => NumR w e w' (lowN G (numOf c.2 * (numOf c.1 ^ numOf x) ^ (G.q.m - 1))) := by
  have OK := Lib.hid ok
  have HG := Lib.hid hG
  clear ok hG
  unfold ciphV
  go_enter Try.func91, Try.ntmps91
  go_wp2_with fail
  have hb9 : Below w.heap.size w ((w.alloc (Obj.cells #[.int .i64 (G.size : Int), .slice aq (dl G.q.m) cq, .slice ap (dl G.p.m) cp] 98)).alloc (Obj.cells #[.string c.1, .string c.2] 41)) := (((Below.refl _ _).alloc (Nat.le_refl _) _).alloc (by simp) _)
  have hx90 : Bx ((w.alloc (Obj.cells #[.int .i64 (G.size : Int), .slice aq (dl G.q.m) cq, .slice ap (dl G.p.m) cp] 98)).alloc (Obj.cells #[.string c.1, .string c.2] 41)) (w.heap.size) 98 [.int .i64 (G.size : Int), .slice aq (dl G.q.m) cq, .slice ap (dl G.p.m) cp] := by
    have h := ((Bx.new w 98 [.int .i64 (G.size : Int), .slice aq (dl G.q.m) cq, .slice ap (dl G.p.m) cp] _ rfl).alloc (Obj.cells #[.string c.1, .string c.2] 41))
    exact h
  have hx91 : Bx ((w.alloc (Obj.cells #[.int .i64 (G.size : Int), .slice aq (dl G.q.m) cq, .slice ap (dl G.p.m) cp] 98)).alloc (Obj.cells #[.string c.1, .string c.2] 41)) (w.heap.size + 1) 41 [.string c.1, .string c.2] := by
    have h := (Bx.new (w.alloc (Obj.cells #[.int .i64 (G.size : Int), .slice aq (dl G.q.m) cq, .slice ap (dl G.p.m) cp] 98)) 41 [.string c.1, .string c.2] _ rfl)
    rw [World.size_alloc] at h
    exact h
  have hz9 : ((w.alloc (Obj.cells #[.int .i64 (G.size : Int), .slice aq (dl G.q.m) cq, .slice ap (dl G.p.m) cp] 98)).alloc (Obj.cells #[.string c.1, .string c.2] 41)).heap.size = w.heap.size + 2 := by simp
  obtain ⟨w1, hq1⟩ : ∃ W9 : World, ((w.alloc (Obj.cells #[.int .i64 (G.size : Int), .slice aq (dl G.q.m) cq, .slice ap (dl G.p.m) cp] 98)).alloc (Obj.cells #[.string c.1, .string c.2] 41)) = W9 := ⟨_, rfl⟩
  rw [hq1] at hb9 hz9 hx90 hx91
  rw [hq1]
  clear hq1
  have HB := Lib.hid hb9
  have Hs1 := Lib.hid hz9
  have Hbg := Lib.hid hx90
  have Hbb := Lib.hid hx91
  clear hb9 hz9 hx90 hx91
  have bg_0 := Hbg.out.cell (i := 0) rfl
  have bg_1 := Hbg.out.cell (i := 1) rfl
  have bg_2 := Hbg.out.cell (i := 2) rfl
  have bb_0 := Hbb.out.cell (i := 0) rfl
  have bb_1 := Hbb.out.cell (i := 1) rfl
  go_wp2_with fail
  have HT := Lib.hid (show Below w1.heap.size w1 w1.drew from (Below.refl _ _).drew)
  have hl_bg := Hbg.out.lt
  have hl_bb := Hbb.out.lt
  refine wp_region_tree (fun w9 => ∃ E : Over w1, w9 = E.w) ((.qs [0, 1, 2, 4, 5, 6, 7, 9] (.a 3 (.a 8 (.a 10 (.a 11 (.a 12 (.a 13 (.qs [14] .done))))))))) (by kernel_rfl) (by kernel_rfl) (fun _ _ d _ _ h => by cases d <;> exact h) ⟨⟨_, HT.out⟩, rfl⟩ ?_
  have hov_bg := fun (E : Over w1) o => E.cell (b := w.heap.size) o hl_bg
  have hov_bb := fun (E : Over w1) o => E.cell (b := w.heap.size + 1) o hl_bb
  simp only [Tree.qs]
  repeat (refine tree_q rfl rfl ?_; go_big_quiet_step (fail); refine wpQuiet_nil ?_)
  refine tree_a rfl (fun K hK => ?_)
  go_simp
  refine (refRead_any c.2 (by omega) _).mono ?_
  rintro e w2 ⟨a4, c4, rfl, hn9, hb9⟩
  replace HT := Lib.hid (below_up HT.out hb9)
  have Hs2 := Lib.hid (show w1.heap.size ≤ w2.heap.size from HT.out.size)
  clear hb9
  have HN4 := Lib.hid hn9
  clear hn9
  refine hK _ _ ⟨⟨⟨w2, HT.out⟩, rfl⟩, ?_⟩
  clear hK K
  repeat (refine tree_q rfl rfl ?_; go_big_quiet_step (fail); refine wpQuiet_nil ?_)
  refine tree_a rfl (fun K hK => ?_)
  go_simp
  refine (refRead_any c.1 (by omega) _).mono ?_
  rintro e w3 ⟨a5, c5, rfl, hn9, hb9⟩
  replace HN4 := Lib.hid (HN4.out.up hb9)
  replace HT := Lib.hid (below_up HT.out hb9)
  have Hs3 := Lib.hid (show w1.heap.size ≤ w3.heap.size from HT.out.size)
  clear hb9
  have HN5 := Lib.hid hn9
  clear hn9
  refine hK _ _ ⟨⟨⟨w3, HT.out⟩, rfl⟩, ?_⟩
  clear hK K
  repeat (refine tree_q rfl rfl ?_; go_big_quiet_step (fail); refine wpQuiet_nil ?_)
  refine tree_a rfl (fun K hK => ?_)
  go_simp
  refine (refRead_any x (by omega) _).mono ?_
  rintro e w4 ⟨a6, c6, rfl, hn9, hb9⟩
  replace HN4 := Lib.hid (HN4.out.up hb9)
  replace HN5 := Lib.hid (HN5.out.up hb9)
  replace HT := Lib.hid (below_up HT.out hb9)
  have Hs4 := Lib.hid (show w1.heap.size ≤ w4.heap.size from HT.out.size)
  clear hb9
  have HN6 := Lib.hid hn9
  clear hn9
  refine hK _ _ ⟨⟨⟨w4, HT.out⟩, rfl⟩, ?_⟩
  clear hK K
  repeat (refine tree_q rfl rfl ?_; go_big_quiet_step (fail); refine wpQuiet_nil ?_)
  refine tree_a rfl (fun K hK => ?_)
  go_simp
  refine (rPow OK.out (numOf_16 c.1 h1) (Nat.le_trans (dl_of_lt _ 16 (numOf_16 x hx)) (by decide)) _ (HG.out.up (below_up HB.out HT.out)) HN5.out HN6.out).mono ?_
  rintro e w5 ⟨a7, c7, rfl, hn9, hb9⟩
  replace HN4 := Lib.hid (HN4.out.up hb9)
  replace HN5 := Lib.hid (HN5.out.up hb9)
  replace HN6 := Lib.hid (HN6.out.up hb9)
  replace HT := Lib.hid (below_up HT.out hb9)
  have Hs5 := Lib.hid (show w1.heap.size ≤ w5.heap.size from HT.out.size)
  clear hb9
  have HN7 := Lib.hid hn9
  clear hn9
  refine hK _ _ ⟨⟨⟨w5, HT.out⟩, rfl⟩, ?_⟩
  clear hK K
  repeat (refine tree_q rfl rfl ?_; go_big_quiet_step (fail); refine wpQuiet_nil ?_)
  refine tree_a rfl (fun K hK => ?_)
  go_simp
  refine (rUnder2 OK.out _ (HG.out.up (below_up HB.out HT.out)) HN7.out).mono ?_
  rintro e w6 ⟨a8, c8, rfl, hn9, hb9⟩
  replace HN4 := Lib.hid (HN4.out.up hb9)
  replace HN5 := Lib.hid (HN5.out.up hb9)
  replace HN6 := Lib.hid (HN6.out.up hb9)
  replace HN7 := Lib.hid (HN7.out.up hb9)
  replace HT := Lib.hid (below_up HT.out hb9)
  have Hs6 := Lib.hid (show w1.heap.size ≤ w6.heap.size from HT.out.size)
  clear hb9
  have HN8 := Lib.hid hn9
  clear hn9
  refine hK _ _ ⟨⟨⟨w6, HT.out⟩, rfl⟩, ?_⟩
  clear hK K
  repeat (refine tree_q rfl rfl ?_; go_big_quiet_step (fail); refine wpQuiet_nil ?_)
  refine tree_a rfl (fun K hK => ?_)
  go_simp
  refine (rProdR OK.out (numOf_16 c.2 h2) _ (HG.out.up (below_up HB.out HT.out)) HN4.out HN8.out).mono ?_
  rintro e w7 ⟨a9, c9, rfl, hn9, hb9⟩
  replace HN4 := Lib.hid (HN4.out.up hb9)
  replace HN5 := Lib.hid (HN5.out.up hb9)
  replace HN6 := Lib.hid (HN6.out.up hb9)
  replace HN7 := Lib.hid (HN7.out.up hb9)
  replace HN8 := Lib.hid (HN8.out.up hb9)
  replace HT := Lib.hid (below_up HT.out hb9)
  have Hs7 := Lib.hid (show w1.heap.size ≤ w7.heap.size from HT.out.size)
  clear hb9
  have HN9 := Lib.hid hn9
  clear hn9
  refine hK _ _ ⟨⟨⟨w7, HT.out⟩, rfl⟩, ?_⟩
  clear hK K
  repeat (refine tree_q rfl rfl ?_; go_big_quiet_step (fail); refine wpQuiet_nil ?_)
  refine tree_end ?_
  clear hov_bg hl_bg hov_bb hl_bb
  clear bg_0 bg_1 bg_2
  replace Hbg := Lib.hid (Hbg.out.up HT.out)
  clear bb_0 bb_1
  replace Hbb := Lib.hid (Hbb.out.up HT.out)
  replace HB := Lib.hid (below_up HB.out HT.out)
  have Hs7 := Lib.hid (show w1.heap.size ≤ w7.heap.size from HT.out.size)
  clear HT
  have bg_0 := Hbg.out.cell (i := 0) rfl
  have bg_1 := Hbg.out.cell (i := 1) rfl
  have bg_2 := Hbg.out.cell (i := 2) rfl
  have bb_0 := Hbb.out.cell (i := 0) rfl
  have bb_1 := Hbb.out.cell (i := 1) rfl
  go_wp2_with fail
  go_ret
  exact ⟨a9, c9, rfl, HN9.out, HB.out⟩

end
end Go.Proofs.Ytipgjookfdkciaa

/- BallotBinds: a cipher hides one number alone. No condition. -/
namespace Go.Proofs.Ytipgjookfdkciaa
open Go.ChangeShapes Go.WideShapes Go.ChangeAt Go.RowKit

theorem toList_inj {a b : ByteArray} (e : a.toList = b.toList) : a = b := by
  have h9 : (a == b) = true := by rw [beq_toListBytes]; exact beq_iff_eq.2 e
  obtain ⟨x⟩ := a
  obtain ⟨y⟩ := b
  have h10 : (x == y) = true := h9
  rw [eq_of_beq h10]
theorem isSc_lt' {G : GP} {s : ByteArray} (h : isSc G.q.m G.size s = true) : numOf s % G.q.m = numOf s ∧ numOf s < G.q.m := by
  unfold isSc at h
  simp only [Bool.and_eq_true, decide_eq_true_eq] at h
  exact ⟨Nat.mod_eq_of_lt h.2, h.2⟩
theorem isSc_inj {G : GP} {s t : ByteArray} (h : isSc G.q.m G.size s = true) (g : isSc G.q.m G.size t = true) (e : numOf s = numOf t) : s = t := numOf_inj (by rw [isSc_size h, isSc_size g]) e
theorem T_numOf {k : Nat} (h1 : 1 ≤ k) (h3 : k ≤ 3) (x : Nat) : numOf (textS (lowN (grp k) x) (grp k).size) = lowN (grp k) x := T_num (grp_ok k h1 h3) (lowN_le (grp_ok k h1 h3) x) (grp_fits k h1 h3)
theorem T_isEl {k : Nat} (h1 : 1 ≤ k) (h3 : k ≤ 3) {x : Nat} (h : ¬ (grp k).p.m ∣ x) : isEl (grp k).q.m (grp k).size (textS (lowN (grp k) x) (grp k).size) = true :=
  T_el (grp_ok k h1 h3) (grp_fits k h1 h3) (lowN_pos (grp_ok k h1 h3) (grp_prime_p k h1 h3) h) (lowN_le (grp_ok k h1 h3) x)
theorem T_eq {k : Nat} (h1 : 1 ≤ k) (h3 : k ≤ 3) {x y : Nat} : textS (lowN (grp k) x) (grp k).size = textS (lowN (grp k) y) (grp k).size ↔ lowN (grp k) x = lowN (grp k) y :=
  ⟨fun h => T_inj (grp_ok k h1 h3) (grp_fits k h1 h3) (lowN_le (grp_ok k h1 h3) x) (lowN_le (grp_ok k h1 h3) y) h, fun h => by rw [h]⟩

/-- What the statement meets where all is as it must be. -/
theorem bind_facts (k : Nat) (h1 : 1 ≤ k) (h3 : k ≤ 3) (s x y v u : ByteArray) (hs : isSc (grp k).q.m (grp k).size s = true) (hx : isSc (grp k).q.m (grp k).size x = true) (hy : isSc (grp k).q.m (grp k).size y = true) (hv : isSc (grp k).q.m (grp k).size v = true) (hu : isSc (grp k).q.m (grp k).size u = true) :
    ∃ K A B A' B' C D P Z : ByteArray, (∀ w, Calls Try.prog 30 #[.int .i64 (k : Int), .string s] w (Gives (.tuple #[.string K, .int .i64 0]) w)) ∧
      (∀ w, Calls Try.prog 21 #[.int .i64 (k : Int), .string K, .string x, .string v] w (Gives (.tuple #[ciphV A B, .int .i64 0]) w)) ∧
      (∀ w, Calls Try.prog 21 #[.int .i64 (k : Int), .string K, .string y, .string u] w (Gives (.tuple #[ciphV A' B', .int .i64 0]) w)) ∧
      (∀ w, Calls Try.prog 25 #[.int .i64 (k : Int), .string K, ciphV A B, .string u] w (Gives (.tuple #[ciphV C D, .int .i64 0]) w)) ∧
      (∀ w, Calls Try.prog 27 #[.int .i64 (k : Int), .string s, ciphV A B] w (Gives (.tuple #[.string P, .int .i64 0]) w)) ∧
      (∀ w, Calls Try.prog 27 #[.int .i64 (k : Int), .string s, ciphV C D] w (Gives (.tuple #[.string P, .int .i64 0]) w)) ∧
      (∀ w, Calls Try.prog 36 #[.int .i64 (k : Int)] w (Gives (.tuple #[.string Z, .int .i64 0]) w)) ∧
      (∀ w, Calls Try.prog 37 #[.int .i64 (k : Int), .string Z, .string x] w (Gives (.tuple #[.string P, .int .i64 0]) w)) ∧
      ((A = A' ∧ B = B') ↔ (x = y ∧ v = u)) := by
  have ok := grp_ok k h1 h3
  have hpp := grp_prime_p k h1 h3
  have fs := isSc_lt' hs
  have fx := isSc_lt' hx
  have fy := isSc_lt' hy
  have fv := isSc_lt' hv
  have fu := isSc_lt' hu
  have P1 := fun w => pub_some k h1 h3 s true hs w
  simp only [if_true, fs.1] at P1
  have dK : ¬ (grp k).p.m ∣ 2 ^ numOf s := pow2_nd ok hpp _
  have nK := T_numOf h1 h3 (2 ^ numOf s)
  have dk : ¬ (grp k).p.m ∣ lowN (grp k) (2 ^ numOf s) := low_nd ok hpp dK
  have E1 := fun w => enc_yes k h1 h3 _ x v (T_isEl h1 h3 dK) true true hx hv w
  have E2 := fun w => enc_yes k h1 h3 _ y u (T_isEl h1 h3 dK) true true hy hu w
  simp only [Bool.and_self, if_true, fx.1, fy.1, fv.1, fu.1, nK] at E1 E2
  have dA := pow2_nd ok hpp (numOf v)
  have dB : ¬ (grp k).p.m ∣ lowN (grp k) (2 ^ numOf s) ^ numOf v * 2 ^ numOf x := hpp.not_dvd_mul (hpp.not_dvd_pow dk _) (pow2_nd ok hpp _)
  have R1 := fun w => renew_yes k h1 h3 _ _ _ u (T_isEl h1 h3 dK) true true true (T_isEl h1 h3 dA) (T_isEl h1 h3 dB) hu w
  simp only [Bool.and_self, if_true, fu.1, nK, T_numOf h1 h3, lowN_mulL ok] at R1
  have D1 := fun w => decr_some k h1 h3 s _ _ true true true (T_isEl h1 h3 dA) (T_isEl h1 h3 dB) hs w
  simp only [Bool.and_self, if_true, fs.1, T_numOf h1 h3] at D1
  have dC : ¬ (grp k).p.m ∣ 2 ^ numOf v * 2 ^ numOf u := hpp.not_dvd_mul dA (pow2_nd ok hpp _)
  have dD : ¬ (grp k).p.m ∣ lowN (grp k) (2 ^ numOf s) ^ numOf v * 2 ^ numOf x * lowN (grp k) (2 ^ numOf s) ^ numOf u := hpp.not_dvd_mul dB (hpp.not_dvd_pow dk _)
  have D2 := fun w => decr_some k h1 h3 s _ _ true true true (T_isEl h1 h3 dC) (T_isEl h1 h3 dD) hs w
  simp only [Bool.and_self, if_true, fs.1, T_numOf h1 h3] at D2
  have o1 := opens ok hpp (A := lowN (grp k) (2 ^ numOf v)) (B := lowN (grp k) (lowN (grp k) (2 ^ numOf s) ^ numOf v * 2 ^ numOf x)) (S := numOf s) (T := numOf v) (X := numOf x) (lowN_pm ok (2 ^ numOf s)) (lowN_pm ok _) (lowN_pm ok _) (low_nd ok hpp dA)
  have o2 := opens ok hpp (A := lowN (grp k) (2 ^ numOf v * 2 ^ numOf u)) (B := lowN (grp k) (lowN (grp k) (2 ^ numOf s) ^ numOf v * 2 ^ numOf x * lowN (grp k) (2 ^ numOf s) ^ numOf u)) (K := lowN (grp k) (2 ^ numOf s)) (S := numOf s) (T := numOf v + numOf u) (X := numOf x) (lowN_pm ok (2 ^ numOf s)) (by rw [Nat.pow_add]; exact lowN_pm ok _) (by
    rw [Nat.pow_add, Nat.mul_right_comm]; exact lowN_pm ok _) (low_nd ok hpp dC)
  rw [o1] at D1
  rw [o2] at D2
  have e2 := low2 k h1 h3
  have h2el : isEl (grp k).q.m (grp k).size (textS (lowN (grp k) 2) (grp k).size) = true := T_isEl h1 h3 (by have := pow2_nd ok hpp 1; rwa [Nat.pow_one] at this)
  have n2 := T_numOf h1 h3 2
  have W1 := fun w => Power_some k h1 h3 (textS (lowN (grp k) 2) (grp k).size) x w
  have ev : powV (grp k) (textS (lowN (grp k) 2) (grp k).size) x = textS (lowN (grp k) (2 ^ numOf x)) (grp k).size := by
    unfold powV
    rw [h2el, hx, if_neg (by decide), if_neg (by decide), n2, e2]
  have ee : powE (grp k) (textS (lowN (grp k) 2) (grp k).size) x = 0 := by
    unfold powE
    rw [h2el, hx, if_neg (by decide), if_neg (by decide)]
  rw [ev, ee, e2] at W1
  refine ⟨_, _, _, _, _, _, _, _, _, P1, E1, E2, R1, D1, D2, fun w => Base_some k h1 h3 w, W1, ?_⟩
  rw [T_eq h1 h3, T_eq h1 h3]
  constructor
  · rintro ⟨a1, a2⟩
    obtain ⟨b1, b2⟩ := binds ok hpp (grp_prime_q k h1 h3) dk fv.2 fu.2 fx.2 fy.2 a1 a2
    exact ⟨isSc_inj hx hy b2, isSc_inj hv hu b1⟩
  · rintro ⟨rfl, rfl⟩
    exact ⟨rfl, rfl⟩

set_option maxRecDepth 100000 in
set_option maxHeartbeats 2000000 in
theorem ballotBinds_none (k : Int) (hk : ¬ (1 ≤ k ∧ k ≤ 3)) (s x y v u : ByteArray) (w : World) :
    Calls Try.prog 7 #[.int .i64 k, .string s, .string x, .string y, .string v, .string u] w fun e w' => e = .returned (.bool true) ∧ Below w.heap.size w w' := by
  go_enter Try.func7, Try.ntmps7
  go_wp2_with fail
  refine (pub_none k hk s w).mono ?_
  rintro e w1 ⟨rfl, hb9⟩
  have HB := Lib.hid hb9
  have Hs1 := Lib.hid (show w.heap.size ≤ w1.heap.size from hb9.size)
  clear hb9
  unfold strE
  go_wp2_with fail
  go_ret
  exact ⟨rfl, HB.out⟩

set_option maxRecDepth 100000 in
set_option maxHeartbeats 2000000 in
theorem ballotBinds_sec (k : Nat) (h1 : 1 ≤ k) (h3 : k ≤ 3) (s x y v u : ByteArray) (hs : isSc (grp k).q.m (grp k).size s = false) (w : World) :
    Calls Try.prog 7 #[.int .i64 (k : Int), .string s, .string x, .string y, .string v, .string u] w fun e w' => e = .returned (.bool true) ∧ Below w.heap.size w w' := by
  have hp := fun w => pub_some k h1 h3 s false hs w
  simp only [Bool.false_eq_true, if_false] at hp
  have HP := Lib.hid hp
  clear hp hs
  go_enter Try.func7, Try.ntmps7
  go_wp2_with fail
  refine (HP.out w).mono ?_
  rintro e w1 ⟨rfl, hb9⟩
  have HB := Lib.hid hb9
  have Hs1 := Lib.hid (show w.heap.size ≤ w1.heap.size from hb9.size)
  clear hb9
  unfold strE
  go_wp2_with fail
  go_ret
  exact ⟨rfl, HB.out⟩

/-- What Encrypt answers to a key that is right. -/
theorem enc_any (k : Nat) (h1 : 1 ≤ k) (h3 : k ≤ 3) (key x n : ByteArray) (hk : isEl (grp k).q.m (grp k).size key = true) (b : Bool) (hb : (isSc (grp k).q.m (grp k).size x && isSc (grp k).q.m (grp k).size n) = b) :
    ∃ A B : ByteArray, ∀ w, Calls Try.prog 21 #[.int .i64 (k : Int), .string key, .string x, .string n] w (Gives (.tuple #[ciphV A B, .int .i64 (if b then 0 else 6)]) w) := by
  have E := fun w => enc_yes k h1 h3 key x n hk _ _ rfl rfl w
  rw [hb] at E
  cases b with
  | false => exact ⟨_, _, E⟩
  | true => exact ⟨_, _, E⟩

set_option maxRecDepth 100000 in
set_option maxHeartbeats 2000000 in
theorem ballotBinds_no (k : Nat) (h1 : 1 ≤ k) (h3 : k ≤ 3) (s x y v u : ByteArray) (hs : isSc (grp k).q.m (grp k).size s = true) (bx by' : Bool) (hbx : (isSc (grp k).q.m (grp k).size x && isSc (grp k).q.m (grp k).size v) = bx) (hby : (isSc (grp k).q.m (grp k).size y && isSc (grp k).q.m (grp k).size u) = by') (hno : (bx && by') = false) (w : World) :
    Calls Try.prog 7 #[.int .i64 (k : Int), .string s, .string x, .string y, .string v, .string u] w fun e w' => e = .returned (.bool true) ∧ Below w.heap.size w w' := by
  have hp := fun w => pub_some k h1 h3 s true hs w
  simp only [if_true, (isSc_lt' hs).1] at hp
  have hel := T_isEl h1 h3 (pow2_nd (grp_ok k h1 h3) (grp_prime_p k h1 h3) (numOf s))
  obtain ⟨A, B, he⟩ := enc_any k h1 h3 _ x v hel bx hbx
  obtain ⟨A', B', hf⟩ := enc_any k h1 h3 _ y u hel by' hby
  generalize textS (lowN (grp k) (2 ^ numOf s)) (grp k).size = K at *
  have HP := Lib.hid hp
  have HE := Lib.hid he
  have HF := Lib.hid hf
  clear hp hs hel he hf hbx hby
  go_enter Try.func7, Try.ntmps7
  go_wp2_with fail
  refine (HP.out w).mono ?_
  rintro e w1 ⟨rfl, hb9⟩
  have HB := Lib.hid hb9
  have Hs1 := Lib.hid (show w.heap.size ≤ w1.heap.size from hb9.size)
  clear hb9
  go_wp2_with fail
  cases bx
  · replace HE := Lib.hid (show ∀ w, Calls Try.prog 21 #[.int .i64 (k : Int), .string K, .string x, .string v] w (Gives (.tuple #[ciphV A B, .int .i64 6]) w) from HE.out)
    refine (HE.out w1).mono ?_
    rintro e w2 ⟨rfl, hb9⟩
    replace HB := Lib.hid (below_up HB.out hb9)
    have Hs2 := Lib.hid (show w1.heap.size ≤ w2.heap.size from hb9.size)
    clear hb9
    unfold ciphV
    have hb9 : Below w2.heap.size w2 (w2.alloc (Obj.cells #[.string A, .string B] 41)) := ((Below.refl _ _).alloc (Nat.le_refl _) _)
    have hx90 : Bx (w2.alloc (Obj.cells #[.string A, .string B] 41)) (w2.heap.size) 41 [.string A, .string B] := by
      have h := (Bx.new w2 41 [.string A, .string B] _ rfl)
      exact h
    have hz9 : (w2.alloc (Obj.cells #[.string A, .string B] 41)).heap.size = w2.heap.size + 1 := by simp
    obtain ⟨w3, hq3⟩ : ∃ W9 : World, (w2.alloc (Obj.cells #[.string A, .string B] 41)) = W9 := ⟨_, rfl⟩
    rw [hq3] at hb9 hz9 hx90
    replace HB := Lib.hid (below_up HB.out hb9)
    have Hs3 := Lib.hid hz9
    have Hba := Lib.hid hx90
    clear hb9 hz9 hx90
    have ba_0 := Hba.out.cell (i := 0) rfl
    have ba_1 := Hba.out.cell (i := 1) rfl
    go_wp2_with fail
    clear hq3
    cases by'
    · replace HF := Lib.hid (show ∀ w, Calls Try.prog 21 #[.int .i64 (k : Int), .string K, .string y, .string u] w (Gives (.tuple #[ciphV A' B', .int .i64 6]) w) from HF.out)
      refine (HF.out w3).mono ?_
      rintro e w4 ⟨rfl, hb9⟩
      clear ba_0 ba_1
      replace Hba := Lib.hid (Hba.out.up hb9)
      replace HB := Lib.hid (below_up HB.out hb9)
      have Hs4 := Lib.hid (show w3.heap.size ≤ w4.heap.size from hb9.size)
      clear hb9
      have ba_0 := Hba.out.cell (i := 0) rfl
      have ba_1 := Hba.out.cell (i := 1) rfl
      unfold ciphV
      have o5_ba_0 := ba_0; clear ba_0
      have o5_ba_1 := ba_1; clear ba_1
      have hb9 : Below w4.heap.size w4 (w4.alloc (Obj.cells #[.string A', .string B'] 41)) := ((Below.refl _ _).alloc (Nat.le_refl _) _)
      have hx90 : Bx (w4.alloc (Obj.cells #[.string A', .string B'] 41)) (w4.heap.size) 41 [.string A', .string B'] := by
        have h := (Bx.new w4 41 [.string A', .string B'] _ rfl)
        exact h
      have hz9 : (w4.alloc (Obj.cells #[.string A', .string B'] 41)).heap.size = w4.heap.size + 1 := by simp
      obtain ⟨w5, hq5⟩ : ∃ W9 : World, (w4.alloc (Obj.cells #[.string A', .string B'] 41)) = W9 := ⟨_, rfl⟩
      rw [hq5] at hb9 hz9 hx90
      replace Hba := Lib.hid (Hba.out.up hb9)
      replace HB := Lib.hid (below_up HB.out hb9)
      have Hs5 := Lib.hid hz9
      have Hbb := Lib.hid hx90
      clear hb9 hz9 hx90
      have ba_0 := Hba.out.cell (i := 0) rfl
      have ba_1 := Hba.out.cell (i := 1) rfl
      have bb_0 := Hbb.out.cell (i := 0) rfl
      have bb_1 := Hbb.out.cell (i := 1) rfl
      go_wp2_with fail
      clear hq5 o5_ba_1 o5_ba_0
      go_ret
      exact ⟨rfl, HB.out⟩
    · replace HF := Lib.hid (show ∀ w, Calls Try.prog 21 #[.int .i64 (k : Int), .string K, .string y, .string u] w (Gives (.tuple #[ciphV A' B', .int .i64 0]) w) from HF.out)
      refine (HF.out w3).mono ?_
      rintro e w4 ⟨rfl, hb9⟩
      clear ba_0 ba_1
      replace Hba := Lib.hid (Hba.out.up hb9)
      replace HB := Lib.hid (below_up HB.out hb9)
      have Hs4 := Lib.hid (show w3.heap.size ≤ w4.heap.size from hb9.size)
      clear hb9
      have ba_0 := Hba.out.cell (i := 0) rfl
      have ba_1 := Hba.out.cell (i := 1) rfl
      unfold ciphV
      have o5_ba_0 := ba_0; clear ba_0
      have o5_ba_1 := ba_1; clear ba_1
      have hb9 : Below w4.heap.size w4 (w4.alloc (Obj.cells #[.string A', .string B'] 41)) := ((Below.refl _ _).alloc (Nat.le_refl _) _)
      have hx90 : Bx (w4.alloc (Obj.cells #[.string A', .string B'] 41)) (w4.heap.size) 41 [.string A', .string B'] := by
        have h := (Bx.new w4 41 [.string A', .string B'] _ rfl)
        exact h
      have hz9 : (w4.alloc (Obj.cells #[.string A', .string B'] 41)).heap.size = w4.heap.size + 1 := by simp
      obtain ⟨w5, hq5⟩ : ∃ W9 : World, (w4.alloc (Obj.cells #[.string A', .string B'] 41)) = W9 := ⟨_, rfl⟩
      rw [hq5] at hb9 hz9 hx90
      replace Hba := Lib.hid (Hba.out.up hb9)
      replace HB := Lib.hid (below_up HB.out hb9)
      have Hs5 := Lib.hid hz9
      have Hbb := Lib.hid hx90
      clear hb9 hz9 hx90
      have ba_0 := Hba.out.cell (i := 0) rfl
      have ba_1 := Hba.out.cell (i := 1) rfl
      have bb_0 := Hbb.out.cell (i := 0) rfl
      have bb_1 := Hbb.out.cell (i := 1) rfl
      go_wp2_with fail
      clear hq5 o5_ba_1 o5_ba_0
      go_ret
      exact ⟨rfl, HB.out⟩
  · obtain rfl : by' = false := by simpa using hno
    replace HE := Lib.hid (show ∀ w, Calls Try.prog 21 #[.int .i64 (k : Int), .string K, .string x, .string v] w (Gives (.tuple #[ciphV A B, .int .i64 0]) w) from HE.out)
    replace HF := Lib.hid (show ∀ w, Calls Try.prog 21 #[.int .i64 (k : Int), .string K, .string y, .string u] w (Gives (.tuple #[ciphV A' B', .int .i64 6]) w) from HF.out)
    refine (HE.out w1).mono ?_
    rintro e w2 ⟨rfl, hb9⟩
    replace HB := Lib.hid (below_up HB.out hb9)
    have Hs2 := Lib.hid (show w1.heap.size ≤ w2.heap.size from hb9.size)
    clear hb9
    unfold ciphV
    have hb9 : Below w2.heap.size w2 (w2.alloc (Obj.cells #[.string A, .string B] 41)) := ((Below.refl _ _).alloc (Nat.le_refl _) _)
    have hx90 : Bx (w2.alloc (Obj.cells #[.string A, .string B] 41)) (w2.heap.size) 41 [.string A, .string B] := by
      have h := (Bx.new w2 41 [.string A, .string B] _ rfl)
      exact h
    have hz9 : (w2.alloc (Obj.cells #[.string A, .string B] 41)).heap.size = w2.heap.size + 1 := by simp
    obtain ⟨w3, hq3⟩ : ∃ W9 : World, (w2.alloc (Obj.cells #[.string A, .string B] 41)) = W9 := ⟨_, rfl⟩
    rw [hq3] at hb9 hz9 hx90
    replace HB := Lib.hid (below_up HB.out hb9)
    have Hs3 := Lib.hid hz9
    have Hba := Lib.hid hx90
    clear hb9 hz9 hx90
    have ba_0 := Hba.out.cell (i := 0) rfl
    have ba_1 := Hba.out.cell (i := 1) rfl
    go_wp2_with fail
    clear hq3
    refine (HF.out w3).mono ?_
    rintro e w4 ⟨rfl, hb9⟩
    clear ba_0 ba_1
    replace Hba := Lib.hid (Hba.out.up hb9)
    replace HB := Lib.hid (below_up HB.out hb9)
    have Hs4 := Lib.hid (show w3.heap.size ≤ w4.heap.size from hb9.size)
    clear hb9
    have ba_0 := Hba.out.cell (i := 0) rfl
    have ba_1 := Hba.out.cell (i := 1) rfl
    unfold ciphV
    have o5_ba_0 := ba_0; clear ba_0
    have o5_ba_1 := ba_1; clear ba_1
    have hb9 : Below w4.heap.size w4 (w4.alloc (Obj.cells #[.string A', .string B'] 41)) := ((Below.refl _ _).alloc (Nat.le_refl _) _)
    have hx90 : Bx (w4.alloc (Obj.cells #[.string A', .string B'] 41)) (w4.heap.size) 41 [.string A', .string B'] := by
      have h := (Bx.new w4 41 [.string A', .string B'] _ rfl)
      exact h
    have hz9 : (w4.alloc (Obj.cells #[.string A', .string B'] 41)).heap.size = w4.heap.size + 1 := by simp
    obtain ⟨w5, hq5⟩ : ∃ W9 : World, (w4.alloc (Obj.cells #[.string A', .string B'] 41)) = W9 := ⟨_, rfl⟩
    rw [hq5] at hb9 hz9 hx90
    replace Hba := Lib.hid (Hba.out.up hb9)
    replace HB := Lib.hid (below_up HB.out hb9)
    have Hs5 := Lib.hid hz9
    have Hbb := Lib.hid hx90
    clear hb9 hz9 hx90
    have ba_0 := Hba.out.cell (i := 0) rfl
    have ba_1 := Hba.out.cell (i := 1) rfl
    have bb_0 := Hbb.out.cell (i := 0) rfl
    have bb_1 := Hbb.out.cell (i := 1) rfl
    go_wp2_with fail
    clear hq5 o5_ba_1 o5_ba_0
    go_ret
    exact ⟨rfl, HB.out⟩

set_option maxRecDepth 100000 in
set_option maxHeartbeats 2000000 in
theorem ballotBinds_yes (k : Nat) (h1 : 1 ≤ k) (h3 : k ≤ 3) (s x y v u : ByteArray) (hs : isSc (grp k).q.m (grp k).size s = true) (hx : isSc (grp k).q.m (grp k).size x = true) (hy : isSc (grp k).q.m (grp k).size y = true) (hv : isSc (grp k).q.m (grp k).size v = true) (hu : isSc (grp k).q.m (grp k).size u = true) (w : World) :
    Calls Try.prog 7 #[.int .i64 (k : Int), .string s, .string x, .string y, .string v, .string u] w fun e w' => e = .returned (.bool true) ∧ Below w.heap.size w w' := by
  obtain ⟨K, A, B, A', B', C, D, P, Z, q1, q2, q3, q4, q5, q6, q7, q8, q9⟩ := bind_facts k h1 h3 s x y v u hs hx hy hv hu
  have Q1 := Lib.hid q1
  have Q2 := Lib.hid q2
  have Q3 := Lib.hid q3
  have Q4 := Lib.hid q4
  have Q5 := Lib.hid q5
  have Q6 := Lib.hid q6
  have Q7 := Lib.hid q7
  have Q8 := Lib.hid q8
  have Q9 := Lib.hid q9
  clear q1 q2 q3 q4 q5 q6 q7 q8 q9 hs hx hy hv hu
  go_enter Try.func7, Try.ntmps7
  go_wp2_with fail
  refine (Q1.out w).mono ?_
  rintro e w1 ⟨rfl, hb9⟩
  have HB := Lib.hid hb9
  have Hs1 := Lib.hid (show w.heap.size ≤ w1.heap.size from hb9.size)
  clear hb9
  go_wp2_with fail
  refine (Q2.out w1).mono ?_
  rintro e w2 ⟨rfl, hb9⟩
  replace HB := Lib.hid (below_up HB.out hb9)
  have Hs2 := Lib.hid (show w1.heap.size ≤ w2.heap.size from hb9.size)
  clear hb9
  unfold ciphV
  have hb9 : Below w2.heap.size w2 (w2.alloc (Obj.cells #[.string A, .string B] 41)) := ((Below.refl _ _).alloc (Nat.le_refl _) _)
  have hx90 : Bx (w2.alloc (Obj.cells #[.string A, .string B] 41)) (w2.heap.size) 41 [.string A, .string B] := by
    have h := (Bx.new w2 41 [.string A, .string B] _ rfl)
    exact h
  have hz9 : (w2.alloc (Obj.cells #[.string A, .string B] 41)).heap.size = w2.heap.size + 1 := by simp
  obtain ⟨w3, hq3⟩ : ∃ W9 : World, (w2.alloc (Obj.cells #[.string A, .string B] 41)) = W9 := ⟨_, rfl⟩
  rw [hq3] at hb9 hz9 hx90
  replace HB := Lib.hid (below_up HB.out hb9)
  have Hs3 := Lib.hid hz9
  have Hba := Lib.hid hx90
  clear hb9 hz9 hx90
  have ba_0 := Hba.out.cell (i := 0) rfl
  have ba_1 := Hba.out.cell (i := 1) rfl
  go_wp2_with fail
  clear hq3
  refine (Q3.out w3).mono ?_
  rintro e w4 ⟨rfl, hb9⟩
  clear ba_0 ba_1
  replace Hba := Lib.hid (Hba.out.up hb9)
  replace HB := Lib.hid (below_up HB.out hb9)
  have Hs4 := Lib.hid (show w3.heap.size ≤ w4.heap.size from hb9.size)
  clear hb9
  have ba_0 := Hba.out.cell (i := 0) rfl
  have ba_1 := Hba.out.cell (i := 1) rfl
  unfold ciphV
  have o5_ba_0 := ba_0; clear ba_0
  have o5_ba_1 := ba_1; clear ba_1
  have hb9 : Below w4.heap.size w4 (w4.alloc (Obj.cells #[.string A', .string B'] 41)) := ((Below.refl _ _).alloc (Nat.le_refl _) _)
  have hx90 : Bx (w4.alloc (Obj.cells #[.string A', .string B'] 41)) (w4.heap.size) 41 [.string A', .string B'] := by
    have h := (Bx.new w4 41 [.string A', .string B'] _ rfl)
    exact h
  have hz9 : (w4.alloc (Obj.cells #[.string A', .string B'] 41)).heap.size = w4.heap.size + 1 := by simp
  obtain ⟨w5, hq5⟩ : ∃ W9 : World, (w4.alloc (Obj.cells #[.string A', .string B'] 41)) = W9 := ⟨_, rfl⟩
  rw [hq5] at hb9 hz9 hx90
  replace Hba := Lib.hid (Hba.out.up hb9)
  replace HB := Lib.hid (below_up HB.out hb9)
  have Hs5 := Lib.hid hz9
  have Hbb := Lib.hid hx90
  clear hb9 hz9 hx90
  have ba_0 := Hba.out.cell (i := 0) rfl
  have ba_1 := Hba.out.cell (i := 1) rfl
  have bb_0 := Hbb.out.cell (i := 0) rfl
  have bb_1 := Hbb.out.cell (i := 1) rfl
  go_wp2_with fail
  clear hq5 o5_ba_1 o5_ba_0
  refine (Q4.out w5).mono ?_
  rintro e w6 ⟨rfl, hb9⟩
  clear ba_0 ba_1
  replace Hba := Lib.hid (Hba.out.up hb9)
  clear bb_0 bb_1
  replace Hbb := Lib.hid (Hbb.out.up hb9)
  replace HB := Lib.hid (below_up HB.out hb9)
  have Hs6 := Lib.hid (show w5.heap.size ≤ w6.heap.size from hb9.size)
  clear hb9
  have ba_0 := Hba.out.cell (i := 0) rfl
  have ba_1 := Hba.out.cell (i := 1) rfl
  have bb_0 := Hbb.out.cell (i := 0) rfl
  have bb_1 := Hbb.out.cell (i := 1) rfl
  unfold ciphV
  have o7_ba_0 := ba_0; clear ba_0
  have o7_ba_1 := ba_1; clear ba_1
  have o7_bb_0 := bb_0; clear bb_0
  have o7_bb_1 := bb_1; clear bb_1
  have hb9 : Below w6.heap.size w6 (w6.alloc (Obj.cells #[.string C, .string D] 41)) := ((Below.refl _ _).alloc (Nat.le_refl _) _)
  have hx90 : Bx (w6.alloc (Obj.cells #[.string C, .string D] 41)) (w6.heap.size) 41 [.string C, .string D] := by
    have h := (Bx.new w6 41 [.string C, .string D] _ rfl)
    exact h
  have hz9 : (w6.alloc (Obj.cells #[.string C, .string D] 41)).heap.size = w6.heap.size + 1 := by simp
  obtain ⟨w7, hq7⟩ : ∃ W9 : World, (w6.alloc (Obj.cells #[.string C, .string D] 41)) = W9 := ⟨_, rfl⟩
  rw [hq7] at hb9 hz9 hx90
  replace Hba := Lib.hid (Hba.out.up hb9)
  replace Hbb := Lib.hid (Hbb.out.up hb9)
  replace HB := Lib.hid (below_up HB.out hb9)
  have Hs7 := Lib.hid hz9
  have Hbc := Lib.hid hx90
  clear hb9 hz9 hx90
  have ba_0 := Hba.out.cell (i := 0) rfl
  have ba_1 := Hba.out.cell (i := 1) rfl
  have bb_0 := Hbb.out.cell (i := 0) rfl
  have bb_1 := Hbb.out.cell (i := 1) rfl
  have bc_0 := Hbc.out.cell (i := 0) rfl
  have bc_1 := Hbc.out.cell (i := 1) rfl
  go_wp2_with fail
  clear hq7 o7_bb_1 o7_bb_0 o7_ba_1 o7_ba_0
  refine (Q5.out w7).mono ?_
  rintro e w8 ⟨rfl, hb9⟩
  clear ba_0 ba_1
  replace Hba := Lib.hid (Hba.out.up hb9)
  clear bb_0 bb_1
  replace Hbb := Lib.hid (Hbb.out.up hb9)
  clear bc_0 bc_1
  replace Hbc := Lib.hid (Hbc.out.up hb9)
  replace HB := Lib.hid (below_up HB.out hb9)
  have Hs8 := Lib.hid (show w7.heap.size ≤ w8.heap.size from hb9.size)
  clear hb9
  have ba_0 := Hba.out.cell (i := 0) rfl
  have ba_1 := Hba.out.cell (i := 1) rfl
  have bb_0 := Hbb.out.cell (i := 0) rfl
  have bb_1 := Hbb.out.cell (i := 1) rfl
  have bc_0 := Hbc.out.cell (i := 0) rfl
  have bc_1 := Hbc.out.cell (i := 1) rfl
  go_wp2_with fail
  refine (Q6.out w8).mono ?_
  rintro e w9 ⟨rfl, hb9⟩
  clear ba_0 ba_1
  replace Hba := Lib.hid (Hba.out.up hb9)
  clear bb_0 bb_1
  replace Hbb := Lib.hid (Hbb.out.up hb9)
  clear bc_0 bc_1
  replace Hbc := Lib.hid (Hbc.out.up hb9)
  replace HB := Lib.hid (below_up HB.out hb9)
  have Hs9 := Lib.hid (show w8.heap.size ≤ w9.heap.size from hb9.size)
  clear hb9
  have ba_0 := Hba.out.cell (i := 0) rfl
  have ba_1 := Hba.out.cell (i := 1) rfl
  have bb_0 := Hbb.out.cell (i := 0) rfl
  have bb_1 := Hbb.out.cell (i := 1) rfl
  have bc_0 := Hbc.out.cell (i := 0) rfl
  have bc_1 := Hbc.out.cell (i := 1) rfl
  go_wp2_with fail
  refine (Q7.out w9).mono ?_
  rintro e w10 ⟨rfl, hb9⟩
  clear ba_0 ba_1
  replace Hba := Lib.hid (Hba.out.up hb9)
  clear bb_0 bb_1
  replace Hbb := Lib.hid (Hbb.out.up hb9)
  clear bc_0 bc_1
  replace Hbc := Lib.hid (Hbc.out.up hb9)
  replace HB := Lib.hid (below_up HB.out hb9)
  have Hs10 := Lib.hid (show w9.heap.size ≤ w10.heap.size from hb9.size)
  clear hb9
  have ba_0 := Hba.out.cell (i := 0) rfl
  have ba_1 := Hba.out.cell (i := 1) rfl
  have bb_0 := Hbb.out.cell (i := 0) rfl
  have bb_1 := Hbb.out.cell (i := 1) rfl
  have bc_0 := Hbc.out.cell (i := 0) rfl
  have bc_1 := Hbc.out.cell (i := 1) rfl
  go_wp2_with fail
  refine (Q8.out w10).mono ?_
  rintro e w11 ⟨rfl, hb9⟩
  clear ba_0 ba_1
  replace Hba := Lib.hid (Hba.out.up hb9)
  clear bb_0 bb_1
  replace Hbb := Lib.hid (Hbb.out.up hb9)
  clear bc_0 bc_1
  replace Hbc := Lib.hid (Hbc.out.up hb9)
  replace HB := Lib.hid (below_up HB.out hb9)
  have Hs11 := Lib.hid (show w10.heap.size ≤ w11.heap.size from hb9.size)
  clear hb9
  have ba_0 := Hba.out.cell (i := 0) rfl
  have ba_1 := Hba.out.cell (i := 1) rfl
  have bb_0 := Hbb.out.cell (i := 0) rfl
  have bb_1 := Hbb.out.cell (i := 1) rfl
  have bc_0 := Hbc.out.cell (i := 0) rfl
  have bc_1 := Hbc.out.cell (i := 1) rfl
  have tl := fun {a b : ByteArray} (h : ¬ a = b) (e : a.toList = b.toList) => h (toList_inj e)
  have hcase : (A = A' ∧ B = B' ∧ x = y ∧ v = u) ∨ ((¬ A.toList = A'.toList ∨ A = A' ∧ ¬ B.toList = B'.toList) ∧ (¬ x.toList = y.toList ∨ x = y ∧ ¬ v.toList = u.toList)) := by
    by_cases h : x = y ∧ v = u
    · have h9 := Q9.out.2 h
      exact Or.inl ⟨h9.1, h9.2, h.1, h.2⟩
    · right
      constructor
      · by_cases h1 : A = A'
        · exact Or.inr ⟨h1, tl (fun h2 => h (Q9.out.1 ⟨h1, h2⟩))⟩
        · exact Or.inl (tl h1)
      · by_cases h1 : x = y
        · exact Or.inr ⟨h1, tl (fun h2 => h ⟨h1, h2⟩)⟩
        · exact Or.inl (tl h1)
  clear tl
  rcases hcase with ⟨rfl, rfl, rfl, rfl⟩ | ⟨hA | ⟨rfl, hA⟩, hX | ⟨rfl, hX⟩⟩
  · go_wp2_with fail
    go_ret
    exact ⟨by simp, HB.out⟩
  · go_wp2_with fail
    go_ret
    exact ⟨by simp [hA, hX], HB.out⟩
  · go_wp2_with fail
    go_ret
    exact ⟨by simp [hA, hX], HB.out⟩
  · go_wp2_with fail
    go_ret
    exact ⟨by simp [hA, hX], HB.out⟩
  · go_wp2_with fail
    go_ret
    exact ⟨by simp [hA, hX], HB.out⟩

theorem ballotBinds_any (k : Int) (s x y v u : ByteArray) (w : World) :
    Calls Try.prog 7 #[.int .i64 k, .string s, .string x, .string y, .string v, .string u] w fun e w' => e = .returned (.bool true) ∧ Below w.heap.size w w' := by
  by_cases hk : 1 ≤ k ∧ k ≤ 3
  · obtain ⟨j, rfl⟩ : ∃ j : Nat, k = j := ⟨k.toNat, by omega⟩
    cases hs : isSc (grp j).q.m (grp j).size s with
    | false => exact ballotBinds_sec j (by omega) (by omega) s x y v u hs w
    | true =>
      cases h9 : ((isSc (grp j).q.m (grp j).size x && isSc (grp j).q.m (grp j).size v) && (isSc (grp j).q.m (grp j).size y && isSc (grp j).q.m (grp j).size u)) with
      | false => exact ballotBinds_no j (by omega) (by omega) s x y v u hs _ _ rfl rfl h9 w
      | true =>
        simp only [Bool.and_eq_true] at h9
        exact ballotBinds_yes j (by omega) (by omega) s x y v u hs h9.1.1 h9.2.1 h9.1.2 h9.2.2 w
  · exact ballotBinds_none k hk s x y v u w

set_option maxRecDepth 100000 in
theorem ballotBinds_calls {H : Type} (enc : TypeId × Value → H) (W : World) (base : Nat) {v0 v1 v2 v3 v4 v5 : Value} {d0 d1 d2 d3 d4 d5 : DataW H} {p0 p1 p2 p3 p4 p5 : List MemPlace}
    (h0 : DataW.Trod enc Try.prog W 0 (fun _ => true) true 3 v0 d0 p0) (h1 : DataW.Trod enc Try.prog W 0 (fun _ => true) true 9 v1 d1 p1) (h2 : DataW.Trod enc Try.prog W 0 (fun _ => true) true 9 v2 d2 p2) (h3 : DataW.Trod enc Try.prog W 0 (fun _ => true) true 9 v3 d3 p3) (h4 : DataW.Trod enc Try.prog W 0 (fun _ => true) true 9 v4 d4 p4) (h5 : DataW.Trod enc Try.prog W 0 (fun _ => true) true 9 v5 d5 p5)
    (k0 : Value.okWide Try.prog W .any base 3 v0) (k1 : Value.okWide Try.prog W .any base 9 v1) (k2 : Value.okWide Try.prog W .any base 9 v2) (k3 : Value.okWide Try.prog W .any base 9 v3) (k4 : Value.okWide Try.prog W .any base 9 v4) (k5 : Value.okWide Try.prog W .any base 9 v5)
    (_lt0 : ∀ x ∈ p0, x.block < W.heap.size) (_lt1 : ∀ x ∈ p1, x.block < W.heap.size) (_lt2 : ∀ x ∈ p2, x.block < W.heap.size) (_lt3 : ∀ x ∈ p3, x.block < W.heap.size) (_lt4 : ∀ x ∈ p4, x.block < W.heap.size) (_lt5 : ∀ x ∈ p5, x.block < W.heap.size)
    (_hsz : (DataW.weightsEach Try.prog ([3, 9, 9, 9, 9, 9] ++ Rows.ballotBindsSpec.plain.varTypes Try.prog) ([d0, d1, d2, d3, d4, d5] ++ [])).all (· ≤ reachBytes) = true) :
    Calls Try.prog 7 #[v0, v1, v2, v3, v4, v5] W fun e w' => e = .returned (.bool true) ∧ Below W.heap.size W w' := by
  obtain ⟨a0, rfl, _, _, _⟩ := open_int Try.underlying3 k0 h0
  obtain ⟨a1, rfl, _⟩ := Go.ChangeMaps.open_string Try.underlying9 k1 h1
  obtain ⟨a2, rfl, _⟩ := Go.ChangeMaps.open_string Try.underlying9 k2 h2
  obtain ⟨a3, rfl, _⟩ := Go.ChangeMaps.open_string Try.underlying9 k3 h3
  obtain ⟨a4, rfl, _⟩ := Go.ChangeMaps.open_string Try.underlying9 k4 h4
  obtain ⟨a5, rfl, _⟩ := Go.ChangeMaps.open_string Try.underlying9 k5 h5
  exact ballotBinds_any a0 a1 a2 a3 a4 a5 W

set_option maxRecDepth 100000 in
theorem ballotBinds_lifted (os : Os) (started : os.Started) (H : Type) (enc : TypeId × Value → H) :
    ReturnsInHanded {} Try.checked os 7 .any (Rows.ballotBindsSpec.pre6 enc Try.prog Try.f7 Rows.ballotBindsRow.domain false) (Rows.ballotBindsSpec.post enc Try.prog Try.f7 false true false false) := by
  refine returnsInHanded_of_change_sized (C := Try.checked) law_own started (by kernel_rfl) Try.func7
    (ChangeSpec.witness6 (enc := enc) (C := Try.checked) false ⟨#[], #[.int .i64 0, .string ⟨#[]⟩, .string ⟨#[]⟩, .string ⟨#[]⟩, .string ⟨#[]⟩, .string ⟨#[]⟩], []⟩ 8 (by kernel_rfl) (by kernel_rfl) (by kernel_rfl) (by kernel_rfl)) ?_
  intro W base args ds gs before hval0 hW _ hsz0 _
  have hsz : (DataW.weightsEach Try.prog (Try.f7.params.toList ++ Rows.ballotBindsSpec.plain.varTypes Try.prog) (ds ++ gs)).all (· ≤ reachBytes) = true := hsz0
  clear hsz0
  have hval : ∀ (j : Nat) t v, Try.f7.params[j]? = some t → args[j]? = some v → Value.okWide Try.prog W .any base t v := hval0
  have hW' := hW
  obtain ⟨p, q, hA0, hV, rfl, _, _⟩ := hW
  have hA : DataW.TrodAll enc Try.prog W 0 (fun _ => true) true Try.f7.params.toList args.toList ds p := hA0
  rw [Try.params7] at hA hval hsz
  obtain ⟨v0, vs0, d0, ds0, p0, q0, hargs, rfl, rfl, h0, r0⟩ := trodAll_cons hA
  obtain ⟨v1, vs1, d1, ds1, p1, q1, rfl, rfl, rfl, h1, r1⟩ := trodAll_cons r0
  obtain ⟨v2, vs2, d2, ds2, p2, q2, rfl, rfl, rfl, h2, r2⟩ := trodAll_cons r1
  obtain ⟨v3, vs3, d3, ds3, p3, q3, rfl, rfl, rfl, h3, r3⟩ := trodAll_cons r2
  obtain ⟨v4, vs4, d4, ds4, p4, q4, rfl, rfl, rfl, h4, r4⟩ := trodAll_cons r3
  obtain ⟨v5, vs5, d5, ds5, p5, q5, rfl, rfl, rfl, h5, r5⟩ := trodAll_cons r4
  obtain ⟨rfl, rfl, rfl⟩ := trodAll_nil r5
  obtain rfl : args = #[v0, v1, v2, v3, v4, v5] := by cases args; simp_all
  obtain ⟨rfl, rfl⟩ := trodVars_none hV
  have lt0 : ∀ x ∈ p0, x.block < W.heap.size := by obtain ⟨m, hm⟩ := h0; exact DataW.trod_lt m _ _ _ hm
  have lt1 : ∀ x ∈ p1, x.block < W.heap.size := by obtain ⟨m, hm⟩ := h1; exact DataW.trod_lt m _ _ _ hm
  have lt2 : ∀ x ∈ p2, x.block < W.heap.size := by obtain ⟨m, hm⟩ := h2; exact DataW.trod_lt m _ _ _ hm
  have lt3 : ∀ x ∈ p3, x.block < W.heap.size := by obtain ⟨m, hm⟩ := h3; exact DataW.trod_lt m _ _ _ hm
  have lt4 : ∀ x ∈ p4, x.block < W.heap.size := by obtain ⟨m, hm⟩ := h4; exact DataW.trod_lt m _ _ _ hm
  have lt5 : ∀ x ∈ p5, x.block < W.heap.size := by obtain ⟨m, hm⟩ := h5; exact DataW.trod_lt m _ _ _ hm
  clear hA0 hval0
  refine (ballotBinds_calls enc W base h0 h1 h2 h3 h4 h5 (hval 0 3 v0 rfl rfl) (hval 1 9 v1 rfl rfl) (hval 2 9 v2 rfl rfl) (hval 3 9 v3 rfl rfl) (hval 4 9 v4 rfl rfl) (hval 5 9 v5 rfl rfl) lt0 lt1 lt2 lt3 lt4 lt5 hsz).mono fun e W' ⟨he, bel⟩ => ?_
  subst he
  exact ⟨_, rfl, _, _, _, [], _, [], hW', trodAll_mk1 (shut_bool Try.underlying4 _), (trodAll_cons_mk (Below.trod law_laidOut (by kernel_rfl) (of_decide_eq_true (by kernel_rfl)) h0 bel lt0) (trodAll_cons_mk (Below.trod law_laidOut (by kernel_rfl) (of_decide_eq_true (by kernel_rfl)) h1 bel lt1) (trodAll_cons_mk (Below.trod law_laidOut (by kernel_rfl) (of_decide_eq_true (by kernel_rfl)) h2 bel lt2) (trodAll_cons_mk (Below.trod law_laidOut (by kernel_rfl) (of_decide_eq_true (by kernel_rfl)) h3 bel lt3) (trodAll_cons_mk (Below.trod law_laidOut (by kernel_rfl) (of_decide_eq_true (by kernel_rfl)) h4 bel lt4) (trodAll_cons_mk (Below.trod law_laidOut (by kernel_rfl) (of_decide_eq_true (by kernel_rfl)) h5 bel lt5) trodAll_mk0)))))), rfl, bel.frame _, fun h => by cases h⟩

theorem ballotBinds_holds : Rows.BallotBindsSaid :=
  OpenClaim.holds_of_wide 7 Try.f7 rfl rfl rfl rfl rfl rfl rfl ⟨rfl, rfl, rfl, rfl, rfl⟩ rfl rfl rfl rfl rfl (by kernel_rfl) Try.func7 (by kernel_rfl)
    (of_decide_eq_true (by kernel_rfl)) (by unfold Func.isWrapper; first | (rw [if_pos (by decide +kernel)]; kernel_rfl) | (rw [if_neg (by decide +kernel)]; exact ⟨rfl, rfl⟩))
    (fun os started H enc _ => ballotBinds_lifted os started H enc)
#print axioms ballotBinds_holds



end Go.Proofs.Ytipgjookfdkciaa
