/- Texts of this seat, one behind the other: what BoardBlocks leans on. No condition beyond those that each names. -/
import Derived.Test.YtdlnnkbigeiilaaZBoardBlocks5
import Derived.Shelf.Abstract
import Derived.Deep.LoopGhost
import Derived.Test.YtdlnnkbigeiilaaRows
import Derived.ProofKit
import Derived.SizedLaws
import Derived.Lib.SmallJoins
import Derived.Deep.Slices
import Derived.Deep.Fields

/- Number theory from the ground: Fermat's little theorem, and two certificates of primality (Proth, Pocklington). No condition. -/
namespace Go.Proofs.Ytdlnnkbigeiilaa

def IsPrime (p : Nat) : Prop := 2 ≤ p ∧ ∀ d, d ∣ p → d = 1 ∨ d = p

theorem IsPrime.coprime_of_not_dvd {p a : Nat} (hp : IsPrime p) (h : ¬ p ∣ a) : Nat.Coprime p a := by
  rcases hp.2 (Nat.gcd p a) (Nat.gcd_dvd_left p a) with h1 | h1
  · exact h1
  · exact absurd (h1 ▸ Nat.gcd_dvd_right p a) h

theorem IsPrime.dvd_mul {p a b : Nat} (hp : IsPrime p) (h : p ∣ a * b) : p ∣ a ∨ p ∣ b := by
  by_cases ha : p ∣ a
  · exact Or.inl ha
  · exact Or.inr ((hp.coprime_of_not_dvd ha).dvd_of_dvd_mul_left h)

theorem exists_prime_dvd : ∀ n : Nat, 2 ≤ n → ∃ p, IsPrime p ∧ p ∣ n := by
  intro n
  induction n using Nat.strongRecOn with
  | ind n ih =>
    intro hn
    by_cases h : ∃ d, d ∣ n ∧ d ≠ 1 ∧ d ≠ n
    · obtain ⟨d, hd, h1, h2⟩ := h
      have hd0 : d ≠ 0 := by
        intro e; subst e; have := Nat.eq_zero_of_zero_dvd hd; omega
      have hle := Nat.le_of_dvd (by omega) hd
      obtain ⟨p, hp, hpd⟩ := ih d (by omega) (by omega)
      exact ⟨p, hp, Nat.dvd_trans hpd hd⟩
    · refine ⟨n, ⟨hn, fun d hd => ?_⟩, Nat.dvd_refl n⟩
      by_cases h1 : d = 1
      · exact Or.inl h1
      · by_cases h2 : d = n
        · exact Or.inr h2
        · exact absurd ⟨d, hd, h1, h2⟩ h

/-- The least factor is not above the root. -/
theorem exists_small_prime {n : Nat} (hn : 2 ≤ n) (h : ¬ IsPrime n) : ∃ p, IsPrime p ∧ p ∣ n ∧ p * p ≤ n := by
  have : ∃ d, d ∣ n ∧ d ≠ 1 ∧ d ≠ n := by
    apply Classical.byContradiction
    intro hc
    apply h
    refine ⟨hn, fun d hd => ?_⟩
    by_cases h1 : d = 1
    · exact Or.inl h1
    · by_cases h2 : d = n
      · exact Or.inr h2
      · exact absurd ⟨d, hd, h1, h2⟩ hc
  obtain ⟨d, ⟨c, hc⟩, h1, h2⟩ := this
  have hd0 : d ≠ 0 := by intro e; subst e; simp at hc; omega
  have hc0 : c ≠ 0 := by intro e; subst e; simp at hc; omega
  have hc1 : c ≠ 1 := by intro e; subst e; simp at hc; omega
  rcases Nat.le_total d c with hdc | hdc
  · obtain ⟨p, hp, hpd⟩ := exists_prime_dvd d (by omega)
    refine ⟨p, hp, Nat.dvd_trans hpd ⟨c, hc⟩, ?_⟩
    have := Nat.le_of_dvd (by omega) hpd
    calc p * p ≤ d * d := Nat.mul_le_mul this this
      _ ≤ d * c := Nat.mul_le_mul_left d hdc
      _ = n := hc.symm
  · obtain ⟨p, hp, hpd⟩ := exists_prime_dvd c (by omega)
    refine ⟨p, hp, Nat.dvd_trans hpd ⟨d, by rw [hc, Nat.mul_comm]⟩, ?_⟩
    have := Nat.le_of_dvd (by omega) hpd
    calc p * p ≤ c * c := Nat.mul_le_mul this this
      _ ≤ d * c := Nat.mul_le_mul_right c hdc
      _ = n := hc.symm

/-! Binomial numbers. -/
def choose : Nat → Nat → Nat
  | _, 0 => 1
  | 0, _ + 1 => 0
  | n + 1, k + 1 => choose n k + choose n (k + 1)

theorem choose_zero (n : Nat) : choose n 0 = 1 := by cases n <;> rfl
theorem choose_big : ∀ n k, n < k → choose n k = 0
  | 0, _ + 1, _ => rfl
  | n + 1, k + 1, h => by rw [choose, choose_big n k (by omega), choose_big n (k + 1) (by omega)]
theorem choose_self : ∀ n, choose n n = 1
  | 0 => rfl
  | n + 1 => by rw [choose, choose_self n, choose_big n (n + 1) (by omega)]
theorem choose_mul : ∀ n k, choose (n + 1) (k + 1) * (k + 1) = (n + 1) * choose n k
  | 0, 0 => rfl
  | 0, k + 1 => by simp [choose]
  | n + 1, 0 => by
    have h := choose_mul n 0
    have e : choose (n + 1 + 1) (0 + 1) = choose (n + 1) 0 + choose (n + 1) (0 + 1) := rfl
    rw [e]
    simp only [choose_zero, Nat.mul_one, Nat.zero_add] at h ⊢
    omega
  | n + 1, k + 1 => by
    have h1 := choose_mul n k
    have h2 := choose_mul n (k + 1)
    have e : choose (n + 1) (k + 1) = choose n k + choose n (k + 1) := rfl
    have e2 : choose (n + 1 + 1) (k + 1 + 1) = choose (n + 1) (k + 1) + choose (n + 1) (k + 1 + 1) := rfl
    rw [e2, Nat.add_mul, h2]
    have : choose (n + 1) (k + 1) * (k + 1 + 1) = choose (n + 1) (k + 1) * (k + 1) + choose (n + 1) (k + 1) := by
      rw [Nat.mul_add, Nat.mul_one]
    rw [this, h1]
    have : (n + 1 + 1) * choose (n + 1) (k + 1) = (n + 1) * choose (n + 1) (k + 1) + choose (n + 1) (k + 1) := by
      rw [Nat.add_mul (n + 1) 1, Nat.one_mul]
    rw [this, e, Nat.mul_add]
    omega

/-- The sum of the first m terms of (a + 1)^n. -/
def binom (a n : Nat) : Nat → Nat
  | 0 => 0
  | m + 1 => binom a n m + choose n m * a ^ m

theorem binom_succ (a n : Nat) : ∀ m, binom a (n + 1) (m + 1) = binom a n (m + 1) + a * binom a n m
  | 0 => by simp [binom, choose_zero]
  | m + 1 => by
    have ih := binom_succ a n m
    rw [binom, ih]
    have e : choose (n + 1) (m + 1) = choose n m + choose n (m + 1) := rfl
    rw [e]
    have e1 : binom a n (m + 1 + 1) = binom a n (m + 1) + choose n (m + 1) * a ^ (m + 1) := rfl
    have e2 : binom a n (m + 1) = binom a n m + choose n m * a ^ m := rfl
    rw [e1, Nat.add_mul]
    have e3 : a * binom a n (m + 1) = a * binom a n m + choose n m * a ^ (m + 1) := by
      rw [e2, Nat.mul_add, Nat.pow_succ]
      have : a * (choose n m * a ^ m) = choose n m * (a ^ m * a) := by
        rw [Nat.mul_left_comm, Nat.mul_comm a]
      rw [this]
    rw [e3]
    omega

theorem binom_all (a : Nat) : ∀ n, (a + 1) ^ n = binom a n (n + 1)
  | 0 => by simp [binom, choose]
  | n + 1 => by
    rw [binom_succ, Nat.pow_succ, binom_all a n]
    have e : binom a n (n + 1 + 1) = binom a n (n + 1) := by
      show binom a n (n + 1) + choose n (n + 1) * a ^ (n + 1) = _
      rw [choose_big n (n + 1) (by omega)]; simp
    rw [e, Nat.mul_add, Nat.mul_one, Nat.mul_comm, Nat.add_comm]

theorem prime_dvd_choose {p : Nat} (hp : IsPrime p) {k : Nat} (h0 : 0 < k) (h1 : k < p) : p ∣ choose p k := by
  obtain ⟨n, rfl⟩ : ∃ n, p = n + 1 := ⟨p - 1, by have := hp.1; omega⟩
  obtain ⟨j, rfl⟩ : ∃ j, k = j + 1 := ⟨k - 1, by omega⟩
  have h := choose_mul n j
  have : (n + 1) ∣ choose (n + 1) (j + 1) * (j + 1) := ⟨choose n j, h⟩
  rcases hp.dvd_mul this with h | h
  · exact h
  · have := Nat.le_of_dvd (by omega) h; omega

theorem binom_mod {p : Nat} (hp : IsPrime p) (a : Nat) : ∀ m, m < p → binom a p (m + 1) % p = 1 % p
  | 0, _ => by simp [binom, choose_zero]
  | m + 1, h => by
    rw [binom, Nat.add_mod, binom_mod hp a m (by omega)]
    have : choose p (m + 1) * a ^ (m + 1) % p = 0 :=
      Nat.mod_eq_zero_of_dvd (Nat.dvd_trans (prime_dvd_choose hp (by omega) h) ⟨_, rfl⟩)
    rw [this]; simp

theorem succ_pow_mod {p : Nat} (hp : IsPrime p) (a : Nat) : (a + 1) ^ p % p = (a ^ p + 1) % p := by
  have h2 := hp.1
  rw [binom_all]
  show (binom a p p + choose p p * a ^ p) % p = _
  have e := binom_mod hp a (p - 1) (by omega)
  rw [show p - 1 + 1 = p by omega] at e
  rw [choose_self, Nat.one_mul, Nat.add_mod, e, ← Nat.add_mod, Nat.add_comm]

theorem pow_prime_mod {p : Nat} (hp : IsPrime p) : ∀ a : Nat, a ^ p % p = a % p
  | 0 => by rw [Nat.zero_pow (by have := hp.1; omega)]
  | a + 1 => by rw [succ_pow_mod hp, Nat.add_mod, pow_prime_mod hp a, ← Nat.add_mod]

/-! Congruences. -/
theorem mod_eq_iff_dvd_sub {a b n : Nat} (h : b ≤ a) : a % n = b % n ↔ n ∣ a - b := by
  constructor
  · intro e
    exact Nat.dvd_of_mod_eq_zero (Nat.sub_mod_eq_zero_of_mod_eq e)
  · rintro ⟨c, hc⟩
    have : a = b + n * c := by omega
    rw [this, Nat.add_mul_mod_self_left]

theorem mul_cancel_mod {p a x y : Nat} (hp : Nat.Coprime p a) (h : a * x % p = a * y % p) : x % p = y % p := by
  rcases Nat.le_total y x with hxy | hxy
  · rw [mod_eq_iff_dvd_sub (Nat.mul_le_mul_left a hxy), ← Nat.mul_sub] at h
    exact (mod_eq_iff_dvd_sub hxy).2 (hp.dvd_of_dvd_mul_left h)
  · have h := h.symm
    rw [mod_eq_iff_dvd_sub (Nat.mul_le_mul_left a hxy), ← Nat.mul_sub] at h
    exact ((mod_eq_iff_dvd_sub hxy).2 (hp.dvd_of_dvd_mul_left h)).symm

/-- Fermat's little theorem. -/
theorem fermat {p a : Nat} (hp : IsPrime p) (h : ¬ p ∣ a) : a ^ (p - 1) % p = 1 % p := by
  have h2 := hp.1
  apply mul_cancel_mod (hp.coprime_of_not_dvd h)
  have e := pow_prime_mod hp a
  rw [show p = p - 1 + 1 by omega, Nat.pow_succ, Nat.mul_comm] at e
  rw [show p - 1 + 1 = p by omega] at e
  rw [e, Nat.mul_one]

theorem pow_mod_one {p a m : Nat} (h : a ^ m % p = 1 % p) (k : Nat) : a ^ (m * k) % p = 1 % p := by
  rw [Nat.pow_mul, Nat.pow_mod, h, ← Nat.pow_mod, Nat.one_pow]

/-- What is 1 to two powers is 1 to their greatest common measure. -/
theorem pow_gcd {p a : Nat} : ∀ m n : Nat, a ^ m % p = 1 % p → a ^ n % p = 1 % p → a ^ (Nat.gcd m n) % p = 1 % p := by
  intro m
  induction m using Nat.strongRecOn with
  | ind m ih =>
    intro n hm hn
    by_cases h0 : m = 0
    · subst h0; simpa using hn
    · rw [Nat.gcd_rec]
      refine ih (n % m) (Nat.mod_lt _ (by omega)) m ?_ hm
      have e : a ^ n = a ^ (m * (n / m)) * a ^ (n % m) := by rw [← Nat.pow_add, Nat.div_add_mod]
      rw [e] at hn
      rw [Nat.mul_mod, pow_mod_one hm, ← Nat.mul_mod, Nat.one_mul] at hn
      exact hn

theorem coprime_of_pow {p a m : Nat} (hp : IsPrime p) (hm : 0 < m) (h : a ^ m % p = 1 % p) : ¬ p ∣ a := by
  intro hd
  have : p ∣ a ^ m := Nat.dvd_trans hd (Nat.dvd_trans ⟨a ^ (m - 1), by rw [← Nat.pow_succ', show (m - 1).succ = m by omega]⟩ (Nat.dvd_refl _))
  rw [Nat.mod_eq_zero_of_dvd this, Nat.mod_eq_of_lt hp.1] at h
  omega

/-- Proth: h 2^k + 1, h odd or even, with 2^k above h, is a prime if some a to the half of what is one less is -1. -/
theorem proth {h k a : Nat} (hk : 0 < k) (hh : 0 < h) (hlt : h < 2 ^ k) (hw : (a ^ (h * 2 ^ (k - 1)) + 1) % (h * 2 ^ k + 1) = 0) : IsPrime (h * 2 ^ k + 1) := by
  have h2k : 2 ^ k = 2 * 2 ^ (k - 1) := by rw [← Nat.pow_succ', show (k - 1).succ = k by omega]
  have hpos : 0 < 2 ^ (k - 1) := Nat.pow_pos (by omega)
  apply Classical.byContradiction
  intro hn
  have hbig : 2 ≤ h * 2 ^ k + 1 := by have := Nat.mul_pos hh (show 0 < 2 ^ k by omega); omega
  obtain ⟨p, hp, hpd, hpp⟩ := exists_small_prime hbig hn
  have hdw : p ∣ a ^ (h * 2 ^ (k - 1)) + 1 := Nat.dvd_trans hpd (Nat.dvd_of_mod_eq_zero hw)
  have hp2 := hp.1
  -- p is odd
  have hodd : p ≠ 2 := by
    intro e; subst e
    obtain ⟨c, hc⟩ := hpd
    have : h * 2 ^ k = 2 * (h * 2 ^ (k - 1)) := by rw [h2k, Nat.mul_left_comm]
    omega
  -- a^(N-1) is 1
  have hx : a ^ (h * 2 ^ k) % p = 1 % p := by
    have e : a ^ (h * 2 ^ k) = a ^ (h * 2 ^ (k - 1)) * a ^ (h * 2 ^ (k - 1)) := by
      rw [← Nat.pow_add]; congr 1; rw [h2k, Nat.mul_left_comm]; omega
    rw [e]
    generalize a ^ (h * 2 ^ (k - 1)) = A at hdw
    have hA : A ≠ 0 := by
      intro e0; subst e0
      have := Nat.le_of_dvd (by omega) hdw; omega
    obtain ⟨B, rfl⟩ : ∃ B, A = B + 1 := ⟨A - 1, by omega⟩
    have e2 : (B + 1) * (B + 1) = (B + 1 + 1) * B + 1 := by
      rw [Nat.add_mul, Nat.mul_add, Nat.add_mul (B + 1), Nat.add_mul B]; omega
    rw [e2, mod_eq_iff_dvd_sub (by omega)]
    exact Nat.dvd_trans hdw ⟨B, by omega⟩
  have hcop := coprime_of_pow hp (Nat.mul_pos hh (by omega : 0 < 2 ^ k)) hx
  have hfer := fermat hp hcop
  have hg := pow_gcd _ _ hx hfer
  -- if 2^k does not divide the gcd, the half power is 1 as well
  have hdiv : 2 ^ k ∣ Nat.gcd (h * 2 ^ k) (p - 1) := by
    apply Classical.byContradiction
    intro hnd
    have hgd : Nat.gcd (h * 2 ^ k) (p - 1) ∣ h * 2 ^ k := Nat.gcd_dvd_left _ _
    generalize Nat.gcd (h * 2 ^ k) (p - 1) = g at hg hnd hgd
    have key : ∀ k, 0 < k → ∀ g, g ∣ h * 2 ^ k → ¬ 2 ^ k ∣ g → g ∣ h * 2 ^ (k - 1) := by
      intro k
      induction k with
      | zero => intro h0; omega
      | succ k ihk =>
        intro _ g hgd hnd
        show g ∣ h * 2 ^ k
        by_cases hev : 2 ∣ g
        · obtain ⟨g', rfl⟩ := hev
          rw [Nat.pow_succ] at hgd hnd
          have h1 : g' ∣ h * 2 ^ k := by
            obtain ⟨c, hc⟩ := hgd
            refine ⟨c, ?_⟩
            have : 2 * (h * 2 ^ k) = 2 * (g' * c) := by
              rw [← Nat.mul_assoc 2 g' c, ← hc, Nat.mul_comm 2, Nat.mul_assoc]
            omega
          have h2 : ¬ 2 ^ k ∣ g' := by
            rintro ⟨c, rfl⟩
            exact hnd ⟨c, by rw [Nat.mul_comm (2 ^ k) 2, Nat.mul_assoc]⟩
          by_cases hk0 : k = 0
          · subst hk0; exact absurd (Nat.one_dvd g') h2
          · have := ihk (by omega) g' h1 h2
            rw [show k = k - 1 + 1 by omega, Nat.pow_succ, ← Nat.mul_assoc, Nat.mul_comm 2]
            exact Nat.mul_dvd_mul_right this 2
        · have hc2 : Nat.Coprime g 2 := by
            have p2 : IsPrime 2 := ⟨by omega, fun d hd => by have := Nat.le_of_dvd (by omega) hd; have : d ≠ 0 := (by intro e; subst e; simp at hd); omega⟩
            exact (p2.coprime_of_not_dvd hev).symm
          rw [Nat.pow_succ, ← Nat.mul_assoc] at hgd
          exact hc2.dvd_of_dvd_mul_right hgd
    obtain ⟨c, hc⟩ := key k hk g hgd hnd
    have h1 := pow_mod_one hg c
    rw [← hc] at h1
    have : (a ^ (h * 2 ^ (k - 1)) + 1) % p = 2 % p := by rw [Nat.add_mod, h1, ← Nat.add_mod]
    rw [Nat.mod_eq_zero_of_dvd hdw] at this
    rw [Nat.mod_eq_of_lt (by omega)] at this
    omega
  have h1 : 2 ^ k ∣ p - 1 := Nat.dvd_trans hdiv (Nat.gcd_dvd_right _ _)
  have h2 := Nat.le_of_dvd (by omega) h1
  have h3 : (2 ^ k + 1) * (2 ^ k + 1) ≤ p * p := Nat.mul_le_mul (by omega) (by omega)
  have h4 : h * 2 ^ k ≤ 2 ^ k * 2 ^ k := Nat.mul_le_mul_right _ (by omega)
  have h5 : (2 ^ k + 1) * (2 ^ k + 1) = 2 ^ k * 2 ^ k + 2 ^ k + 2 ^ k + 1 := by rw [Nat.add_mul, Nat.mul_add]; omega
  omega

/-- Pocklington for 2 q + 1, q a prime. -/
theorem pocklington {q a : Nat} (hq : IsPrime q) (ha : 2 ≤ a) (h1 : a ^ (2 * q) % (2 * q + 1) = 1) (h2 : Nat.gcd (a ^ 2 - 1) (2 * q + 1) = 1) : IsPrime (2 * q + 1) := by
  have hq2 := hq.1
  apply Classical.byContradiction
  intro hn
  obtain ⟨p, hp, hpd, hpp⟩ := exists_small_prime (by omega) hn
  have hp2 := hp.1
  have hx : a ^ (2 * q) % p = 1 % p := by
    rw [← Nat.mod_mod_of_dvd _ hpd, h1]
  have hcop := coprime_of_pow hp (by omega) hx
  have hfer := fermat hp hcop
  have hg := pow_gcd _ _ hx hfer
  have hdiv : q ∣ Nat.gcd (2 * q) (p - 1) := by
    apply Classical.byContradiction
    intro hnd
    have hgd : Nat.gcd (2 * q) (p - 1) ∣ 2 * q := Nat.gcd_dvd_left _ _
    generalize Nat.gcd (2 * q) (p - 1) = g at hg hnd hgd
    have : g ∣ 2 := (hq.coprime_of_not_dvd hnd).symm.dvd_of_dvd_mul_right hgd
    obtain ⟨c, hc⟩ := this
    have h3 := pow_mod_one hg c
    rw [← hc] at h3
    have hpos : 1 ≤ a ^ 2 := Nat.pow_pos (by omega)
    have h4 := (mod_eq_iff_dvd_sub hpos).1 h3
    have h5 := Nat.dvd_gcd h4 hpd
    rw [h2] at h5
    have := Nat.le_of_dvd (by omega) h5
    omega
  have h3 : q ∣ p - 1 := Nat.dvd_trans hdiv (Nat.gcd_dvd_right _ _)
  have h4 := Nat.le_of_dvd (by omega) h3
  have h5 : (q + 1) * (q + 1) ≤ p * p := Nat.mul_le_mul (by omega) (by omega)
  have h6 : (q + 1) * (q + 1) = q * q + q + q + 1 := by rw [Nat.add_mul, Nat.mul_add]; omega
  have : 2 * q ≤ q * q := Nat.mul_le_mul_right q hq2
  omega

/-! Powers modulo a number, by squares: what the kernel reckons. -/
def powMod (a m : Nat) : Nat → Nat → Nat
  | 0, _ => 1 % m
  | f + 1, n => if n = 0 then 1 % m else
      let h := powMod a m f (n / 2)
      if n % 2 = 0 then h * h % m else h * h % m * a % m

theorem powMod_eq (a m : Nat) : ∀ f n, n < 2 ^ f → powMod a m f n = a ^ n % m
  | 0, n, h => by
    have : n = 0 := by simpa using h
    subst this; rfl
  | f + 1, n, h => by
    rw [powMod]
    by_cases h0 : n = 0
    · subst h0; simp
    · rw [if_neg h0]
      have ih := powMod_eq a m f (n / 2) (by rw [Nat.pow_succ] at h; omega)
      simp only [ih]
      have hn : n = n / 2 * 2 + n % 2 := by omega
      have e : (a ^ (n / 2) % m) * (a ^ (n / 2) % m) % m = a ^ (n / 2 * 2) % m := by
        rw [← Nat.mul_mod, ← Nat.pow_add]; congr 2; omega
      rw [e]
      by_cases h2 : n % 2 = 0
      · rw [if_pos h2]; congr 2; omega
      · rw [if_neg h2, Nat.mod_mul_mod, ← Nat.pow_succ]; congr 2; omega


theorem proth_by {h k a : Nat} (f : Nat) (hk : 0 < k) (hh : 0 < h) (hlt : h < 2 ^ k) (hf : h * 2 ^ (k - 1) < 2 ^ f)
    (hw : (powMod a (h * 2 ^ k + 1) f (h * 2 ^ (k - 1)) + 1) % (h * 2 ^ k + 1) = 0) : IsPrime (h * 2 ^ k + 1) := by
  rw [powMod_eq _ _ _ _ hf] at hw
  refine proth (a := a) hk hh hlt ?_
  rw [Nat.add_mod, Nat.mod_mod, ← Nat.add_mod] at hw
  exact hw

theorem pocklington_by {q a : Nat} (f : Nat) (hq : IsPrime q) (ha : 2 ≤ a) (hf : 2 * q < 2 ^ f) (h1 : powMod a (2 * q + 1) f (2 * q) = 1)
    (h2 : Nat.gcd (a ^ 2 - 1) (2 * q + 1) = 1) : IsPrime (2 * q + 1) := by
  rw [powMod_eq _ _ _ _ hf] at h1
  exact pocklington hq ha h1 h2

/-! The moduli of the three groups. -/
theorem prime_q1 : IsPrime 641 := proth_by (h := 5) (k := 7) (a := 3) 10 (by decide +kernel) (by decide +kernel) (by decide +kernel) (by decide +kernel) (by decide +kernel)
theorem prime_p1 : IsPrime 1283 := pocklington_by (q := 641) (a := 2) 11 prime_q1 (by decide +kernel) (by decide +kernel) (by decide +kernel) (by decide +kernel)
theorem prime_q2 : IsPrime 576465431670292481 := proth_by (h := 268437635) (k := 31) (a := 3) 60 (by decide +kernel) (by decide +kernel) (by decide +kernel) (by decide +kernel) (by decide +kernel)
theorem prime_p2 : IsPrime 1152930863340584963 := pocklington_by (q := 576465431670292481) (a := 2) 61 prime_q2 (by decide +kernel) (by decide +kernel) (by decide +kernel) (by decide +kernel)
theorem prime_q3 : IsPrime 7237005577332262213973186563042995786902308146886443998308627866733439352833 := proth_by (h := 42535295865117307932921825928971035519) (k := 127) (a := 3) 253 (by decide +kernel) (by decide +kernel) (by decide +kernel) (by decide +kernel) (by decide +kernel)
theorem prime_p3 : IsPrime 14474011154664524427946373126085991573804616293772887996617255733466878705667 := pocklington_by (q := 7237005577332262213973186563042995786902308146886443998308627866733439352833) (a := 2) 254 prime_q3 (by decide +kernel) (by decide +kernel) (by decide +kernel) (by decide +kernel)

end Go.Proofs.Ytdlnnkbigeiilaa

/- The document's numbers, written down; compared. No condition. -/
namespace Go.Proofs.Ytdlnnkbigeiilaa
open Go.RowKit

theorem byteAt_nought (n i : Nat) (h : dl n ≤ i / 2) : byteAt n i = 0 := by
  rw [byte_dg, dg_nought n _ h]
  simp
theorem textL_skip (n size k : Nat) (h : byteAt n k = 0) : textL n size k = textL n size (k + 1) := by
  unfold textL
  refine List.map_congr_left fun p _ => ?_
  by_cases h1 : size - 1 - p < k
  · rw [if_pos h1, if_pos (by omega)]
  · rw [if_neg h1]
    by_cases h2 : size - 1 - p < k + 1
    · rw [if_pos h2, show size - 1 - p = k by omega, h]; rfl
    · rw [if_neg h2]


set_option maxHeartbeats 1000000 in
theorem refText_any (n size : Nat) (an : Option Addr) (cn : Nat) (hln : dl n ≤ 1048576) (hs : size ≤ 1024) (w : World) (hA : NumAt w an n) :
    Calls Try.prog 18 #[.slice an (dl n) cn, .int .i64 (size : Int)] w fun e w' => e = .returned (.string (textS n size)) ∧ Below w.heap.size w w' := by
  obtain ⟨i0, hi, hz0, hz1, hz2⟩ := info_parts infoByte
  have HA := Lib.hid hA
  clear hA
  go_enter Try.func18, Try.ntmps18
  go_wp2_with (at_make; refine wpList_make_full _ rfl _ _ 82 rfl 0 5 i0 (.int .u8 0) 1 Try.underlying82 hi hz0 hz1 _ _ _ _ size rfl rfl ?c1 ?c2 ?c3 ?c4 ?c5 ?_)
  case c1 => rfl
  case c2 => rfl
  case c3 => rw [hz2]; omega
  case c4 => unfold maxLen; omega
  case c5 => omega
  intro w1 hown hgrow
  have HB1 : Hid (Below w.heap.size w w1) := (Below.refl _ _).grown hgrow (Nat.le_refl _) (by simp)
  have HO1 : Hid (w1.ownsRow 0 5 1 (.slice (some ⟨w.heap.size, 0, none⟩) size size) size ((textL n size 0).map (Value.int .u8))) := by
    have h := hown
    show World.ownsRow _ _ _ _ _ _ _
    rw [textL_zero]
    rw [bytes_made] at h
    exact h
  clear hown hgrow hi hz0 hz1 hz2
  go_wp2_with fail
  go_loopw [6, 7] (fun x _ wr => ∃ k : Nat, k ≤ size ∧ x = .int .i64 k ∧ Hid (wr.ownsRow 0 5 1 (.slice (some ⟨w.heap.size, 0, none⟩) size size) size ((textL n size k).map (Value.int .u8))) ∧ Hid (Below w.heap.size w wr)) (fun x _ _ => size - (intOf x).toNat)
  case atStart => exact ⟨0, Nat.zero_le _, rfl, HO1.out, HB1.out⟩
  case round =>
    clear HO1 HB1
    obtain ⟨k, hk, rfl, HO, HN⟩ := hrel
    by_cases hkl : k < size
    · have hlen : size - 1 - k < ((textL n size k).map (Value.int .u8)).length := by simp [textL_length]; omega
      have hc := HO.out.cellAt (size - 1 - k) (by omega)
      rw [List.getElem?_eq_getElem hlen] at hc
      have hf := HO.out.frozenAt (size - 1 - k)
      generalize ((textL n size k).map (Value.int .u8))[size - 1 - k] = old at hc
      have hidx : (size : Int) - 1 - (k : Int) = ((size - 1 - k : Nat) : Int) := by omega
      clear hlen
      have hk2 : (k : Int) / 2 = ((k / 2 : Nat) : Int) := by omega
      by_cases hd : k / 2 < dl n
      · obtain ⟨b1, o1, rfl, hb1, hcell1⟩ := HA.out.all (by omega)
        have hx1 : wr.cell? ⟨b1, o1 + k / 2, none⟩ = some (.int .i64 (dg DD n (k / 2) : Int)) := by rw [HN.out.cell (p := ⟨b1, o1 + k / 2, none⟩) hb1]; exact hcell1 _ hd
        have hdb : dg DD n (k / 2) < 65536 := dg_lt (B := DD) (by decide) n _
        have hby := byte_dg n k
        clear hcell1 hk2
        generalize dg DD n (k / 2) = d at *
        have hk1 : k % 2 = 0 ∨ k % 2 = 1 := by omega
        rcases hk1 with hk1 | hk1
        · have hodd : ((k : Int) % 2 == 1) = false := by simp; omega
          have hbyte : (d : Int) % 256 = (byteAt n k : Int) := by rw [hby, hk1]; simp
          have HK1 := Lib.hid hk1
          clear hby hk1
          have hst := (HO.out.stored (size - 1 - k) (.int .u8 (byteAt n k : Int))).1
          rw [← List.map_set, textL_set _ _ _ hkl] at hst
          have HS := Lib.hid hst
          have HSB := Lib.hid (HN.out.setCell (p := ⟨w.heap.size, size - 1 - k, none⟩) (Nat.le_refl _) (.int .u8 (byteAt n k : Int)))
          clear hst
          go_wp2_with fail
          go_roundw
          case rel => exact ⟨k + 1, by omega, by go_num, HS.out, HSB.out⟩
          case measure => simp [intOf]; omega
        · have hodd : ((k : Int) % 2 == 1) = true := by simp; omega
          have hbyte : (d : Int) / 256 % 256 = (byteAt n k : Int) := by rw [hby, hk1]; simp
          have HK1 := Lib.hid hk1
          clear hby hk1
          have hst := (HO.out.stored (size - 1 - k) (.int .u8 (byteAt n k : Int))).1
          rw [← List.map_set, textL_set _ _ _ hkl] at hst
          have HS := Lib.hid hst
          have HSB := Lib.hid (HN.out.setCell (p := ⟨w.heap.size, size - 1 - k, none⟩) (Nat.le_refl _) (.int .u8 (byteAt n k : Int)))
          clear hst
          go_wp2_with fail
          go_roundw
          case rel => exact ⟨k + 1, by omega, by go_num, HS.out, HSB.out⟩
          case measure => simp [intOf]; omega
      · have h0 := byteAt_nought n k (by omega)
        have HSK := Lib.hid (textL_skip n size k h0)
        clear h0 hk2
        go_wp2_with fail
        go_roundw
        case rel => exact ⟨k + 1, by omega, by go_num, by rw [← HSK.out]; exact HO.out, HN.out⟩
        case measure => simp [intOf]; omega
    · have hks : k = size := by omega
      subst hks
      have hcv := run_convert_bytes_arg (P := Try.prog) wr 82 5 Try.underlying82 Try.underlying5 w.heap.size 0 k k (textL n k k) (textL_length _ _ _) (fun i hi => by
        have h := HO.out.cellAt i (by omega)
        rw [Nat.zero_add, h, List.getElem?_map, List.getElem?_eq_getElem (by rw [textL_length]; exact hi)]
        simp [List.getD, List.getElem?_eq_getElem (show i < (textL n k k).length by rw [textL_length]; exact hi)]) 9 Try.underlying9
      go_wp2_with fail
      go_ret
      exact ⟨rfl, HN.out⟩

end Go.Proofs.Ytdlnnkbigeiilaa

/- The package group: with. No condition. -/
namespace Go.Proofs.Ytdlnnkbigeiilaa
open Go.RowKit

/-- What a face of the group answers: a value and an errno. -/
def Ans (v : Value) (er : Int) (w : World) (e : Ending) (w' : World) : Prop := e = .returned (.tuple #[v, .int .i64 er]) ∧ Below w.heap.size w w'


set_option maxRecDepth 100000 in
set_option maxHeartbeats 1000000 in
theorem withS_none (k : Int) (hk : ¬ (1 ≤ k ∧ k ≤ 3)) (fv : Value) (w : World) : Calls Try.prog 84 #[.int .i64 k, fv] w (Ans (.string ⟨#[]⟩) 1 w) := by
  go_enter Try.func84, Try.ntmps84
  go_wp2_with fail
  refine (of_none k hk w).mono ?_
  rintro e w1 ⟨rfl, rfl⟩
  go_wp2_with fail
  go_ret2
  exact ⟨rfl, Below.refl _ _⟩

set_option maxRecDepth 100000 in
set_option maxHeartbeats 1000000 in
theorem withS_some (k : Nat) (h1 : 1 ≤ k) (h3 : k ≤ 3) (f : FuncId) (caps : Array Value) (v : Value) (er : Int) (hent : Enters Try.prog f) (w : World)
    (hcall : ∀ w1, Below w.heap.size w w1 → GroupAt w1 w.heap.size (grp k) → Calls Try.prog f (#[.pointer (some ⟨w.heap.size, 0, none⟩)] ++ caps) w1 (Ans v er w1)) :
    Calls Try.prog 84 #[.int .i64 (k : Int), .func (.func f) #[] caps] w (Ans v er w) := by
  have HC := Lib.hid hcall
  clear hcall
  have hcf : ∀ (args : Array Value) (w : World), (callFunc f args).run Try.prog w = .ok (.enter f args) w := hent
  clear hent
  go_enter Try.func84, Try.ntmps84
  go_wp2_with fail
  refine (of_some k h1 h3 w).mono ?_
  rintro e w1 ⟨rfl, hg, hb⟩
  have HG := Lib.hid hg
  have HB := Lib.hid hb
  clear hg hb
  go_wp2_with fail
  refine (HC.out w1 HB.out HG.out).mono ?_
  rintro e w2 ⟨rfl, hb2⟩
  have HB2 := Lib.hid (below_up HB.out hb2)
  clear hb2
  go_wp2_with fail
  go_ret2
  exact ⟨rfl, HB2.out⟩

end Go.Proofs.Ytdlnnkbigeiilaa

/- The package group: what a kind has. No condition. -/
namespace Go.Proofs.Ytdlnnkbigeiilaa
open Go.RowKit

set_option maxRecDepth 100000 in
set_option maxHeartbeats 1000000 in
theorem fixed1_any (gb b : Nat) (f : FuncId) (caps : Array Value) (s : ByteArray) (hent : Enters Try.prog f) (w : World) (hc : w.cell? ⟨b, 0, none⟩ = some (.func (.func f) #[] caps))
    (hcall : Calls Try.prog f (#[.pointer (some ⟨gb, 0, none⟩)] ++ caps) w fun e w' => e = .returned (.string s) ∧ Below w.heap.size w w') :
    Calls Try.prog 85 #[.pointer (some ⟨gb, 0, none⟩), .pointer (some ⟨b, 0, none⟩)] w (Ans (.string s) 0 w) := by
  have HC := Lib.hid hcall
  clear hcall
  have hcf : ∀ (args : Array Value) (w : World), (callFunc f args).run Try.prog w = .ok (.enter f args) w := hent
  clear hent
  go_enter Try.func85, Try.ntmps85
  go_wp2_with fail
  refine HC.out.mono ?_
  rintro e w2 ⟨rfl, hb2⟩
  have HB2 := Lib.hid hb2
  clear hb2 hc
  go_wp2_with fail
  go_ret2
  exact ⟨rfl, HB2.out⟩

set_option maxRecDepth 100000 in
set_option maxHeartbeats 1000000 in
theorem fixed_some (k : Nat) (h1 : 1 ≤ k) (h3 : k ≤ 3) (f : FuncId) (caps : Array Value) (s : ByteArray) (hent : Enters Try.prog f) (w : World)
    (hcall : ∀ w1 gb, Below w.heap.size w w1 → GroupAt w1 gb (grp k) → Calls Try.prog f (#[.pointer (some ⟨gb, 0, none⟩)] ++ caps) w1 fun e w' => e = .returned (.string s) ∧ Below w1.heap.size w1 w') :
    Calls Try.prog 37 #[.int .i64 (k : Int), .func (.func f) #[] caps] w (Ans (.string s) 0 w) := by
  have HC := Lib.hid hcall
  have HE := Lib.hid hent
  clear hcall hent
  go_enter Try.func37, Try.ntmps37
  go_wp2_with fail
  have hb0 : Below w.heap.size w (w.alloc (.cells #[.func (.func f) #[] caps] 80)) := (Below.refl _ _).alloc (Nat.le_refl _) _
  have hz0 : Bx (w.alloc (.cells #[.func (.func f) #[] caps] 80)) w.heap.size 80 [.func (.func f) #[] caps] := Bx.new w _ _ _ rfl
  obtain ⟨W0, hW0⟩ : ∃ W9 : World, (w.alloc (.cells #[.func (.func f) #[] caps] 80)) = W9 := ⟨_, rfl⟩
  rw [hW0] at hb0 hz0 ⊢
  have HB0 := Lib.hid hb0
  have HZ0 := Lib.hid hz0
  clear hW0 hb0 hz0
  refine (withS_some k h1 h3 85 #[.pointer (some ⟨w.heap.size, 0, none⟩)] (.string s) 0 (enters_of Try.func85 (by kernel_rfl) rfl) W0 (fun w1 hb hg => ?_)).mono ?_
  · exact fixed1_any _ _ f caps s HE.out w1 ((HZ0.out.up hb).cell (i := 0) rfl) (HC.out w1 _ (below_up HB0.out hb) hg)
  · rintro e w2 ⟨rfl, hb2⟩
    have HB2 := Lib.hid (below_up HB0.out hb2)
    clear hb2
    go_wp2_with fail
    go_ret2
    exact ⟨rfl, HB2.out⟩

set_option maxRecDepth 100000 in
set_option maxHeartbeats 1000000 in
theorem fixed_none (k : Int) (hk : ¬ (1 ≤ k ∧ k ≤ 3)) (f : FuncId) (caps : Array Value) (w : World) : Calls Try.prog 37 #[.int .i64 k, .func (.func f) #[] caps] w (Ans (.string ⟨#[]⟩) 1 w) := by
  go_enter Try.func37, Try.ntmps37
  go_wp2_with fail
  refine (withS_none k hk _ _).mono ?_
  rintro e w1 ⟨rfl, hb⟩
  have HB := Lib.hid (((Below.refl w.heap.size w).alloc (Nat.le_refl _) _).trans (hb.mono (by simp)))
  clear hb
  go_wp2_with fail
  go_ret2
  exact ⟨rfl, HB.out⟩


set_option maxHeartbeats 1000000 in
theorem base1_any (G : GP) (ok : G.Ok) (gb : Nat) (w : World) (hG : GroupAt w gb G) : Calls Try.prog 102 #[.pointer (some ⟨gb, 0, none⟩)] w fun e w' => e = .returned (.string (textS (lowN G 2) G.size)) ∧ Below w.heap.size w w' := by
  have HG := Lib.hid hG
  have OK := Lib.hid ok
  clear hG ok
  go_enter Try.func102, Try.ntmps102
  go_wp2_with fail
  refine (gBase_any G OK.out gb w HG.out).mono ?_
  rintro e w1 ⟨rfl, hb1⟩
  have HB1 := Lib.hid hb1
  clear hb1
  go_wp2_with fail
  refine (gText_any G OK.out gb 2 w1 (HG.out.up HB1.out)).mono ?_
  rintro e w2 ⟨rfl, hb2⟩
  have HB2 := Lib.hid (below_up HB1.out hb2)
  clear hb2
  go_wp2_with fail
  go_ret
  exact ⟨rfl, HB2.out⟩

theorem low2 (k : Nat) (h1 : 1 ≤ k) (h3 : k ≤ 3) : lowN (grp k) 2 = 2 := by
  obtain rfl | rfl | rfl : k = 1 ∨ k = 2 ∨ k = 3 := by omega
  all_goals decide

set_option maxRecDepth 100000 in
set_option maxHeartbeats 1000000 in
theorem Base_some (k : Nat) (h1 : 1 ≤ k) (h3 : k ≤ 3) (w : World) : Calls Try.prog 62 #[.int .i64 (k : Int)] w (Ans (.string (textS 2 (grp k).size)) 0 w) := by
  go_enter Try.func62, Try.ntmps62
  go_wp2_with fail
  refine (fixed_some k h1 h3 102 #[] ((textS 2 (grp k).size)) (enters_of Try.func102 (by kernel_rfl) rfl) w (fun w1 gb hb hg => by rw [← low2 k h1 h3]; exact base1_any (grp k) (grp_ok k h1 h3) gb w1 hg)).mono ?_
  rintro e w2 ⟨rfl, hb2⟩
  have HB2 := Lib.hid hb2
  clear hb2
  go_wp2_with fail
  go_ret2
  exact ⟨rfl, HB2.out⟩

set_option maxRecDepth 100000 in
set_option maxHeartbeats 1000000 in
theorem Base_none (k : Int) (hk : ¬ (1 ≤ k ∧ k ≤ 3)) (w : World) : Calls Try.prog 62 #[.int .i64 k] w (Ans (.string ⟨#[]⟩) 1 w) := by
  go_enter Try.func62, Try.ntmps62
  go_wp2_with fail
  refine (fixed_none k hk _ _ w).mono ?_
  rintro e w2 ⟨rfl, hb2⟩
  have HB2 := Lib.hid hb2
  clear hb2
  go_wp2_with fail
  go_ret2
  exact ⟨rfl, HB2.out⟩

def Ans3 (a b c : Int) (w : World) (e : Ending) (w' : World) : Prop := e = .returned (.tuple #[.int .i64 a, .int .i64 b, .int .i64 c]) ∧ Below w.heap.size w w'

set_option maxHeartbeats 1000000 in
theorem lawText_ok (s : ByteArray) (w : World) : Calls Try.prog 15 #[.string s, .int .i64 0, .int .i64 0, .string s] w fun e w' => e = .returned (.bool true) ∧ Below w.heap.size w w' := by
  go_enter Try.func15, Try.ntmps15
  go_wp2_with fail
  go_ret
  exact ⟨rfl, Below.refl _ _⟩

set_option maxHeartbeats 1000000 in
theorem lawText_err (s : ByteArray) (er : Int) (he : er ≠ 0) (w : World) : Calls Try.prog 15 #[.string ⟨#[]⟩, .int .i64 er, .int .i64 er, .string s] w fun e w' => e = .returned (.bool true) ∧ Below w.heap.size w w' := by
  have h1 : (er != 0) = true := by simpa using he
  go_enter Try.func15, Try.ntmps15
  go_wp2_with fail
  go_ret
  exact ⟨rfl, Below.refl _ _⟩

end Go.Proofs.Ytdlnnkbigeiilaa

/- The document's numbers: compared, and read. No condition. -/
namespace Go.Proofs.Ytdlnnkbigeiilaa
open Go.RowKit

set_option maxHeartbeats 1000000 in
theorem refCompare_len (a b : Nat) (aa ab : Option Addr) (ca cb : Nat) (h : dl a ≠ dl b) (w : World) :
    Calls Try.prog 89 #[.slice aa (dl a) ca, .slice ab (dl b) cb] w fun e w' => e = .returned (.int .i64 (cmpI a b)) ∧ Below w.heap.size w w' := by
  rcases Nat.lt_or_ge (dl a) (dl b) with h1 | h1
  · have HC : Hid (cmpI a b = -1) := by show _ = _; unfold cmpI; rw [if_pos (lt_of_dl a b h1)]
    have hne : ((dl a : Int) != (dl b : Int)) = true := by simp; omega
    clear h
    go_enter Try.func89, Try.ntmps89
    go_wp2_with fail
    go_ret
    exact ⟨ret_int HC.out.symm, Below.refl _ _⟩
  · have h2 : dl b < dl a := by omega
    have h3 := lt_of_dl b a h2
    have HC : Hid (cmpI a b = 1) := by show _ = _; unfold cmpI; rw [if_neg (by omega), if_pos h3]
    have hne : ((dl a : Int) != (dl b : Int)) = true := by simp; omega
    have h4 : ¬ dl a < dl b := by omega
    clear h h1 h3
    go_enter Try.func89, Try.ntmps89
    go_wp2_with fail
    go_ret
    exact ⟨ret_int HC.out.symm, Below.refl _ _⟩

set_option maxHeartbeats 1000000 in
theorem refCompare_same (a b : Nat) (aa ab : Option Addr) (ca cb L : Nat) (ha : dl a = L) (hb : dl b = L) (hL : L ≤ 1048576) (w : World) (hA : NumAt w aa a) (hB : NumAt w ab b) :
    Calls Try.prog 89 #[.slice aa L ca, .slice ab L cb] w fun e w' => e = .returned (.int .i64 (cmpI a b)) ∧ Below w.heap.size w w' := by
  have HDA := Lib.hid ha
  have HDB := Lib.hid hb
  have HA := Lib.hid hA
  have HB := Lib.hid hB
  clear ha hb hA hB
  have hne : ((L : Int) != (L : Int)) = false := by simp
  go_enter Try.func89, Try.ntmps89
  go_wp2_with fail
  go_loopw [5] (fun x wr => ∃ j : Nat, j ≤ L ∧ x = .int .i64 ((j : Int) - 1) ∧ Hid (a / DD ^ j = b / DD ^ j) ∧ Hid (Below w.heap.size w wr)) (fun x _ => (intOf x + 1).toNat)
  case atStart => exact ⟨L, Nat.le_refl _, rfl, by
    show _ = _
    have h1 := lt_dl a
    have h2 := lt_dl b
    rw [HDA.out] at h1
    rw [HDB.out] at h2
    rw [Nat.div_eq_of_lt h1, Nat.div_eq_of_lt h2], Below.refl _ _⟩
  case round =>
    obtain ⟨j, hj, hi, HE, HN⟩ := hrel
    rcases Nat.eq_zero_or_pos j with rfl | hjp
    · subst hi
      go_wp2_with fail
      go_ret
      have h := HE.out
      rw [Nat.pow_zero, Nat.div_one, Nat.div_one] at h
      exact ⟨ret_int (by unfold cmpI; rw [if_neg (by omega), if_neg (by omega)]), HN.out⟩
    · obtain ⟨p, rfl⟩ : ∃ p, j = p + 1 := ⟨j - 1, by omega⟩
      have ei : ((p + 1 : Nat) : Int) - 1 = (p : Int) := by omega
      rw [ei] at hi
      subst hi
      clear ei hjp
      obtain ⟨b1, o1, rfl, hb1, hcell1⟩ := HA.out.all (by rw [HDA.out]; omega)
      obtain ⟨b2, o2, rfl, hb2, hcell2⟩ := HB.out.all (by rw [HDB.out]; omega)
      have hx1 : wr.cell? ⟨b1, o1 + p, none⟩ = some (.int .i64 (dg DD a p : Int)) := by rw [HN.out.cell (p := ⟨b1, o1 + p, none⟩) hb1]; exact hcell1 _ (by rw [HDA.out]; omega)
      have hx2 : wr.cell? ⟨b2, o2 + p, none⟩ = some (.int .i64 (dg DD b p : Int)) := by rw [HN.out.cell (p := ⟨b2, o2 + p, none⟩) hb2]; exact hcell2 _ (by rw [HDB.out]; omega)
      clear hcell1 hcell2
      rcases Nat.lt_trichotomy (dg DD a p) (dg DD b p) with hd | hd | hd
      · have hcmp : Hid (a < b) := lt_of_dg a b p HE.out hd
        have hd1 : ((dg DD a p : Int) != (dg DD b p : Int)) = true := by simp; omega
        go_wp2_with fail
        go_quiet (fail)
        go_wp2_with fail
        go_quiet (fail)
        go_wp2_with fail
        go_ret
        exact ⟨ret_int (by unfold cmpI; rw [if_pos hcmp.out]), by first | exact below_drewN (below_drewN HN.out _) _ | exact below_drewN HN.out _⟩
      · have HE2 := Lib.hid (same_of_dg a b p HE.out hd)
        have hd1 : ((dg DD a p : Int) != (dg DD b p : Int)) = false := by simp; omega
        have hd2 : ¬ dg DD a p < dg DD b p := by omega
        have hd3 : ¬ dg DD b p < dg DD a p := by omega
        clear hd
        go_wp2_with fail
        go_quiet (fail)
        go_wp2_with fail
        go_roundw
        case rel => exact ⟨p, by omega, rfl, HE2.out, below_drewN HN.out _⟩
        case measure => first | (simp [intOf]; done) | (simp [intOf]; omega)
      · have hcmp : Hid (b < a) := lt_of_dg b a p HE.out.symm hd
        have hd1 : ((dg DD a p : Int) != (dg DD b p : Int)) = true := by simp; omega
        have hd2 : ¬ dg DD a p < dg DD b p := by omega
        go_wp2_with fail
        go_quiet (fail)
        go_wp2_with fail
        go_quiet (fail)
        go_wp2_with fail
        go_ret
        exact ⟨ret_int (by have := hcmp.out; unfold cmpI; rw [if_neg (by omega), if_pos this]), by first | exact below_drewN (below_drewN HN.out _) _ | exact below_drewN HN.out _⟩

theorem refCompare_any (a b : Nat) (aa ab : Option Addr) (ca cb : Nat) (hla : dl a ≤ 1048576) (w : World) (hA : NumAt w aa a) (hB : NumAt w ab b) :
    Calls Try.prog 89 #[.slice aa (dl a) ca, .slice ab (dl b) cb] w fun e w' => e = .returned (.int .i64 (cmpI a b)) ∧ Below w.heap.size w w' := by
  by_cases h : dl a = dl b
  · have h1 := refCompare_same a b aa ab ca cb (dl a) rfl h.symm hla w hA hB
    rw [← h]
    exact h1
  · exact refCompare_len a b aa ab ca cb h w


set_option maxHeartbeats 1000000 in
theorem refRead_any (s : ByteArray) (hs : s.size ≤ 1048576) (w : World) :
    Calls Try.prog 42 #[.string s] w fun e w' => NumR w e w' (numOf s) := by
  obtain ⟨i0, hi, hz0, hz1, hz2⟩ := info_parts infoInt3
  obtain ⟨K, hK⟩ : ∃ K, (s.size + 1) / 2 = K := ⟨_, rfl⟩
  have hK1 : ((s.size : Int) + 1) / 2 = (K : Int) := by omega
  go_enter Try.func42, Try.ntmps42
  go_wp2_with (at_make; refine wpList_make_full _ rfl _ _ 31 rfl 0 3 i0 (.int .i64 0) 1 Try.underlying31 hi hz0 hz1 _ _ _ _ K rfl rfl ?c1 ?c2 ?c3 ?c4 ?c5 ?_)
  case c1 => exact hK1
  case c2 => exact hK1
  case c3 => rw [hz2]; omega
  case c4 => unfold maxLen; omega
  case c5 => omega
  intro w1 hown hgrow
  have e0 : digsTo 0 K = digsTo (numTo s 0) K := by rw [numTo_zero]
  rw [zeros_made, e0] at hown
  have HO1 := Lib.hid hown
  have HB1 : Hid (Below w.heap.size w w1) := (Below.refl _ _).grown hgrow (Nat.le_refl _) (by simp)
  have HK := Lib.hid hK
  have hKs : K ≤ 1048576 := by omega
  clear hown hgrow hi hz0 hz1 hz2 e0 hK hK1
  go_wp2_with fail
  go_loopw [4, 5] (fun x _ wr => ∃ k : Nat, k ≤ s.size ∧ x = .int .i64 k ∧ Hid (wr.ownsRow 0 3 1 (.slice (some ⟨w.heap.size, 0, none⟩) K K) K ((digsTo (numTo s k) K).map dV)) ∧ Hid (Below w.heap.size w wr)) (fun x _ _ => s.size - (intOf x).toNat)
  case atStart => exact ⟨0, Nat.zero_le _, rfl, HO1.out, HB1.out⟩
  case round =>
    clear HO1 HB1
    obtain ⟨k, hk, rfl, HO, HN⟩ := hrel
    by_cases hkl : k < s.size
    · have hkK : k / 2 < K := by have := HK.out; omega
      have hx := HO.out.cellAt (k / 2) (by omega)
      have hxv : ((digsTo (numTo s k) K).map dV)[k / 2]? = some (.int .i64 (dg DD (numTo s k) (k / 2) : Int)) := by simp [digsTo, hkK, dV]
      rw [hxv] at hx
      have hf := HO.out.frozenAt (k / 2)
      have hidx : (s.size : Int) - 1 - (k : Int) = ((s.size - 1 - k : Nat) : Int) := by omega
      have hlt : s.size - 1 - k < s.size := by omega
      have hc256 := (s[s.size - 1 - k]'hlt).toNat_lt
      have hdlt : dg DD (numTo s k) (k / 2) < 65536 := dg_lt (B := DD) (by decide) _ _
      have HNS := Lib.hid (numTo_succ s k hkl)
      clear hxv
      generalize hcc : (s[s.size - 1 - k]'hlt).toNat = c at *
      have hk1 : k % 2 = 0 ∨ k % 2 = 1 := by omega
      rcases hk1 with hk1 | hk1
      · have hodd : ((k : Int) % 2 == 1) = false := by simp; omega
        have HK1 := Lib.hid hk1
        clear hk1
        have hput := digsTo_put (numTo s k) c k K (numTo_lt s k hk) hc256
        rw [← HNS.out, HK1.out, Nat.pow_zero, Nat.mul_one] at hput
        have hst := (HO.out.stored (k / 2) (.int .i64 ((dg DD (numTo s k) (k / 2) : Int) + (c : Int)))).1
        rw [show (Value.int .i64 ((dg DD (numTo s k) (k / 2) : Int) + (c : Int))) = dV (dg DD (numTo s k) (k / 2) + c) from by unfold dV; congr 1, ← List.map_set, hput] at hst
        have HS := Lib.hid hst
        have HSB := Lib.hid (HN.out.setCell (p := ⟨w.heap.size, k / 2, none⟩) (Nat.le_refl _) (.int .i64 ((dg DD (numTo s k) (k / 2) : Int) + (c : Int))))
        clear hst hput
        go_wp2_with fail
        go_roundw
        case rel => exact ⟨k + 1, by omega, by go_num, HS.out, HSB.out⟩
        case measure => simp [intOf]; omega
      · have hodd : ((k : Int) % 2 == 1) = true := by simp; omega
        have HK1 := Lib.hid hk1
        clear hk1
        have hput := digsTo_put (numTo s k) c k K (numTo_lt s k hk) hc256
        rw [← HNS.out, HK1.out, Nat.pow_one] at hput
        have hst := (HO.out.stored (k / 2) (.int .i64 ((dg DD (numTo s k) (k / 2) : Int) + (c : Int) * 256))).1
        rw [show (Value.int .i64 ((dg DD (numTo s k) (k / 2) : Int) + (c : Int) * 256)) = dV (dg DD (numTo s k) (k / 2) + c * 256) from by unfold dV; congr 1, ← List.map_set, hput] at hst
        have HS := Lib.hid hst
        have HSB := Lib.hid (HN.out.setCell (p := ⟨w.heap.size, k / 2, none⟩) (Nat.le_refl _) (.int .i64 ((dg DD (numTo s k) (k / 2) : Int) + (c : Int) * 256)))
        clear hst hput
        go_wp2_with fail
        go_roundw
        case rel => exact ⟨k + 1, by omega, by go_num, HS.out, HSB.out⟩
        case measure => simp [intOf]; omega
    · have hks : k = s.size := by omega
      subst hks
      rw [numTo_all] at HO
      have hlt : numOf s < DD ^ K := by
        have h := numL_lt s.data.toList
        have e : s.data.toList.length = s.size := rfl
        rw [e] at h
        refine Nat.lt_of_lt_of_le h ?_
        show 256 ^ s.size ≤ (256 ^ 2) ^ K
        rw [← Nat.pow_mul]
        exact Nat.pow_le_pow_right (by omega) (by have := HK.out; omega)
      have HLT := Lib.hid hlt
      clear hlt
      go_wp2_with fail
      refine (trim_own HO.out HLT.out (by omega)).mono ?_
      rintro e w' ⟨a', cap', rfl, hN, _, rfl⟩
      have HNN := Lib.hid hN
      clear hN
      go_wp2_with fail
      go_ret
      exact ⟨a', cap', rfl, HNN.out, HN.out⟩

end Go.Proofs.Ytdlnnkbigeiilaa

/- The document's numbers: what is taken off; what is left of a modulus. No condition. -/
namespace Go.Proofs.Ytdlnnkbigeiilaa
open Go.RowKit

/-- A row of K cells of which the first i are written. -/
def rowZ (n i K : Nat) : List Nat := (List.range K).map fun p => if p < i then dg DD n p else 0
theorem rowZ_zero (n K : Nat) : rowZ n 0 K = digsTo 0 K := by
  unfold rowZ digsTo
  refine List.map_congr_left fun p _ => ?_
  simp [dg]
theorem rowZ_at (n i K : Nat) (h : i < K) : ((rowZ n i K).map dV)[i]? = some (.int .i64 0) := by
  simp [rowZ, h, dV]
theorem rowZ_set (n i K : Nat) : ((rowZ n i K).map dV).set i (.int .i64 (dg DD n i : Int)) = (rowZ n (i + 1) K).map dV := by
  rw [show (Value.int .i64 (dg DD n i : Int)) = dV (dg DD n i) from rfl, ← List.map_set]
  congr 1
  refine List.ext_getElem (by simp [rowZ]) (fun p h1 h2 => ?_)
  rw [List.getElem_set]
  simp only [rowZ, List.getElem_map, List.getElem_range]
  by_cases h : i = p
  · subst h; rw [if_pos rfl, if_pos (by omega)]
  · rw [if_neg h]
    by_cases h3 : p < i
    · rw [if_pos h3, if_pos (by omega)]
    · rw [if_neg h3, if_neg (by omega)]
theorem rowZ_end (n K : Nat) : rowZ n K K = digsTo n K := by
  unfold rowZ digsTo
  refine List.map_congr_left fun p hp => ?_
  rw [if_pos (by simpa using hp)]

/-- What stands in a digit when something is taken off. -/
theorem take_digit (r s n i : Nat) : (dg DD (r + n * s) i : Int) - (mcB DD r s n i : Int) - (n : Int) * (dg DD s i : Int) = (dg DD r i : Int) - 65536 * (mcB DD r s n (i + 1) : Int) := by
  have h1 := mcB_dig (B := DD) (by decide) r s n i
  have h2 := mcB_succ (B := DD) (by decide) r s n i
  have h3 := Nat.div_add_mod (dg DD r i + n * dg DD s i + mcB DD r s n i) DD
  rw [h1, h2] at h3
  have h4 : (n : Int) * (dg DD s i : Int) = ((n * dg DD s i : Nat) : Int) := by simp
  rw [h4]
  have h5 : 65536 * mcB DD r s n (i + 1) + dg DD (r + n * s) i = dg DD r i + n * dg DD s i + mcB DD r s n i := h3
  omega


set_option maxHeartbeats 2000000 in
theorem refTake_any (a b n k R : Nat) (aa ab : Option Addr) (ca cb : Nat) (hla : dl a ≤ 1048576) (hlb : dl b ≤ 1048576) (hn : n ≤ 1099511627776) (hk : k ≤ 1048576) (hR : a = R + n * (b * DD ^ k)) (w : World) (hA : NumAt w aa a) (hB : NumAt w ab b) :
    Calls Try.prog 90 #[.slice aa (dl a) ca, .slice ab (dl b) cb, .int .i64 (n : Int), .int .i64 (k : Int)] w fun e w' => NumR w e w' R := by
  obtain ⟨i0, hi, hz0, hz1, hz2⟩ := info_parts infoInt3
  have HA := Lib.hid hA
  have HB := Lib.hid hB
  have HR := Lib.hid hR
  clear hA hB hR
  go_enter Try.func90, Try.ntmps90
  go_wp2_with (at_make; refine wpList_make_full _ rfl _ _ 31 rfl 0 3 i0 (.int .i64 0) 1 Try.underlying31 hi hz0 hz1 _ _ _ _ (dl a) rfl rfl ?c1 ?c2 ?c3 ?c4 ?c5 ?_)
  case c1 => rfl
  case c2 => rfl
  case c3 => rw [hz2]; omega
  case c4 => unfold maxLen; omega
  case c5 => omega
  intro w1 hown hgrow
  rw [zeros_made, ← rowZ_zero R] at hown
  have HO1 := Lib.hid hown
  have HB1 : Hid (Below w.heap.size w w1) := (Below.refl _ _).grown hgrow (Nat.le_refl _) (by simp)
  clear hown hgrow hi hz0 hz1 hz2
  go_wp2_with fail
  go_loopw [10, 11, 12] (fun c x _ wr => ∃ i : Nat, i ≤ dl a ∧ x = .int .i64 i ∧ c = .int .i64 (mcB DD R (b * DD ^ k) n i : Nat) ∧ Hid (wr.ownsRow 0 3 1 (.slice (some ⟨w.heap.size, 0, none⟩) (dl a) (dl a)) (dl a) ((rowZ R i (dl a)).map dV)) ∧ Hid (Below w.heap.size w wr)) (fun _ x _ _ => dl a - (intOf x).toNat)
  case atStart => exact ⟨0, Nat.zero_le _, rfl, by rw [mcB_zero]; rfl, HO1.out, HB1.out⟩
  case round =>
    clear HO1 HB1
    obtain ⟨i, hi, rfl, rfl, HO, HN⟩ := hrel
    by_cases hil : i < dl a
    · obtain ⟨b1, o1, rfl, hb1, hcell1⟩ := HA.out.all (by omega)
      have hx1 : wr.cell? ⟨b1, o1 + i, none⟩ = some (.int .i64 (dg DD a i : Int)) := by rw [HN.out.cell (p := ⟨b1, o1 + i, none⟩) hb1]; exact hcell1 _ hil
      have hda : dg DD a i < 65536 := dg_lt (B := DD) (by decide) _ _
      have hdr : dg DD R i < 65536 := dg_lt (B := DD) (by decide) _ _
      have hc1 := mcB_le (B := DD) (by decide) R (b * DD ^ k) n i
      have hc2 := mcB_le (B := DD) (by decide) R (b * DD ^ k) n (i + 1)
      have htd := take_digit R (b * DD ^ k) n i
      rw [← HR.out] at htd
      have hx3 := HO.out.cellAt i (by omega)
      rw [rowZ_at R i (dl a) hil] at hx3
      have hf3 := HO.out.frozenAt i
      generalize mcB DD R (b * DD ^ k) n i = c at *
      generalize hcc : mcB DD R (b * DD ^ k) n (i + 1) = c2 at *
      have HC2 : Hid (mcB DD R (b * DD ^ k) n (i + 1) = c2) := hcc
      clear hcell1 hcc
      by_cases hik : k ≤ i ∧ i - k < dl b
      · obtain ⟨hik1, hik2⟩ := hik
        obtain ⟨b2, o2, rfl, hb2, hcell2⟩ := HB.out.all (by omega)
        have hx2 : wr.cell? ⟨b2, o2 + (i - k), none⟩ = some (.int .i64 (dg DD b (i - k) : Int)) := by rw [HN.out.cell (p := ⟨b2, o2 + (i - k), none⟩) hb2]; exact hcell2 _ hik2
        have hdb : dg DD b (i - k) < 65536 := dg_lt (B := DD) (by decide) _ _
        have hsh := dg_shift b k (i - k)
        rw [show k + (i - k) = i by omega] at hsh
        rw [hsh] at htd
        have hidx : (i : Int) - (k : Int) = ((i - k : Nat) : Int) := by omega
        clear hcell2 hsh
        generalize dg DD b (i - k) = db at *
        generalize hda' : dg DD a i = da at *
        have hprod : n * db ≤ 1099511627776 * 65535 := Nat.mul_le_mul hn (by omega)
        have hpi : (n : Int) * (db : Int) = ((n * db : Nat) : Int) := by simp
        rw [hpi] at htd
        generalize hpr : n * db = pr at *
        have HDA := Lib.hid hda'
        have HPR := Lib.hid hpr
        clear hda' hpr
        have hkI : (k : Int) ≤ (i : Int) := by omega
        have hst := (HO.out.stored i (.int .i64 (dg DD R i : Int))).1
        rw [rowZ_set] at hst
        have HS := Lib.hid hst
        have HSB := Lib.hid (HN.out.setCell (p := ⟨w.heap.size, i, none⟩) (Nat.le_refl _) (.int .i64 (dg DD R i : Int)))
        clear hst
        obtain ⟨d, hd⟩ : ∃ d : Int, (da : Int) - (c : Int) - (pr : Int) = d := ⟨_, rfl⟩
        rw [hd] at htd
        have hdlo : -72057594037927936 ≤ d := by omega
        have hdhi : d ≤ 65535 := by omega
        by_cases hneg : 0 < c2
        · have hd2 : d < 0 := by omega
          have hdn : (65535 - d) / 65536 = (c2 : Int) := by omega
          have hds : d + (c2 : Int) * 65536 = (dg DD R i : Int) := by omega
          have HTD := Lib.hid htd
          clear htd
          go_wp2_with fail
          go_roundw
          case rel => exact ⟨i + 1, by omega, by go_num, by first | rw [hdn, HC2.out] | rw [HC2.out], HS.out, HSB.out⟩
          case measure => simp [intOf]; omega
        · have hc0 : c2 = 0 := by omega
          have hd2 : ¬ d < 0 := by omega
          have hds : d = (dg DD R i : Int) := by omega
          have HC0 := Lib.hid hc0
          have HDS := Lib.hid hds
          have HTD := Lib.hid htd
          rw [← hds] at HS HSB
          clear hc0 hds htd
          go_wp2_with fail
          go_roundw
          case rel => exact ⟨i + 1, by omega, by go_num, by rw [HC2.out, HC0.out]; rfl, HS.out, HSB.out⟩
          case measure => simp [intOf]; omega
      · have h0 : dg DD (b * DD ^ k) i = 0 := by
          rcases Nat.lt_or_ge i k with h | h
          · unfold dg
            have e : DD ^ k = DD ^ i * (DD * DD ^ (k - i - 1)) := by rw [← Nat.pow_succ', ← Nat.pow_add]; congr 1; omega
            rw [e, Nat.mul_left_comm, Nat.mul_div_cancel_left _ (Nat.pow_pos (by decide)), Nat.mul_left_comm, Nat.mul_mod_right]
          · have hsh := dg_shift b k (i - k)
            rw [show k + (i - k) = i by omega] at hsh
            rw [hsh]
            exact dg_nought b _ (by omega)
        rw [h0] at htd
        have htd2 : (dg DD a i : Int) - (c : Int) = (dg DD R i : Int) - 65536 * (c2 : Int) := by simpa using htd
        clear h0 htd
        have htd := htd2
        clear htd2
        generalize hda' : dg DD a i = da at *
        have HDA := Lib.hid hda'
        clear hda'
        by_cases hik1 : k ≤ i
        · have hik2 : ¬ i - k < dl b := fun h => hik ⟨hik1, h⟩
          have hidx : (i : Int) - (k : Int) = ((i - k : Nat) : Int) := by omega
          clear hik
          have hst := (HO.out.stored i (.int .i64 (dg DD R i : Int))).1
          rw [rowZ_set] at hst
          have HS := Lib.hid hst
          have HSB := Lib.hid (HN.out.setCell (p := ⟨w.heap.size, i, none⟩) (Nat.le_refl _) (.int .i64 (dg DD R i : Int)))
          clear hst
          obtain ⟨d, hd⟩ : ∃ d : Int, (da : Int) - (c : Int) = d := ⟨_, rfl⟩
          rw [hd] at htd
          have hdlo : -72057594037927936 ≤ d := by omega
          have hdhi : d ≤ 65535 := by omega
          by_cases hneg : 0 < c2
          · have hd2 : d < 0 := by omega
            have hdn : (65535 - d) / 65536 = (c2 : Int) := by omega
            have hds : d + (c2 : Int) * 65536 = (dg DD R i : Int) := by omega
            have HTD := Lib.hid htd
            clear htd
            go_wp2_with fail
            go_roundw
            case rel => exact ⟨i + 1, by omega, by go_num, by first | rw [hdn, HC2.out] | rw [HC2.out], HS.out, HSB.out⟩
            case measure => simp [intOf]; omega
          · have hc0 : c2 = 0 := by omega
            have hd2 : ¬ d < 0 := by omega
            have hds : d = (dg DD R i : Int) := by omega
            have HC0 := Lib.hid hc0
            have HDS := Lib.hid hds
            have HTD := Lib.hid htd
            rw [← hds] at HS HSB
            clear hc0 hds htd
            go_wp2_with fail
            go_roundw
            case rel => exact ⟨i + 1, by omega, by go_num, by rw [HC2.out, HC0.out]; rfl, HS.out, HSB.out⟩
            case measure => simp [intOf]; omega
        · clear hik
          have hst := (HO.out.stored i (.int .i64 (dg DD R i : Int))).1
          rw [rowZ_set] at hst
          have HS := Lib.hid hst
          have HSB := Lib.hid (HN.out.setCell (p := ⟨w.heap.size, i, none⟩) (Nat.le_refl _) (.int .i64 (dg DD R i : Int)))
          clear hst
          obtain ⟨d, hd⟩ : ∃ d : Int, (da : Int) - (c : Int) = d := ⟨_, rfl⟩
          rw [hd] at htd
          have hdlo : -72057594037927936 ≤ d := by omega
          have hdhi : d ≤ 65535 := by omega
          by_cases hneg : 0 < c2
          · have hd2 : d < 0 := by omega
            have hdn : (65535 - d) / 65536 = (c2 : Int) := by omega
            have hds : d + (c2 : Int) * 65536 = (dg DD R i : Int) := by omega
            have HTD := Lib.hid htd
            clear htd
            go_wp2_with fail
            go_roundw
            case rel => exact ⟨i + 1, by omega, by go_num, by first | rw [hdn, HC2.out] | rw [HC2.out], HS.out, HSB.out⟩
            case measure => simp [intOf]; omega
          · have hc0 : c2 = 0 := by omega
            have hd2 : ¬ d < 0 := by omega
            have hds : d = (dg DD R i : Int) := by omega
            have HC0 := Lib.hid hc0
            have HDS := Lib.hid hds
            have HTD := Lib.hid htd
            rw [← hds] at HS HSB
            clear hc0 hds htd
            go_wp2_with fail
            go_roundw
            case rel => exact ⟨i + 1, by omega, by go_num, by rw [HC2.out, HC0.out]; rfl, HS.out, HSB.out⟩
            case measure => simp [intOf]; omega
    · have hia : i = dl a := by omega
      subst hia
      rw [rowZ_end] at HO
      have hlt : R < DD ^ dl a := Nat.lt_of_le_of_lt (by have := HR.out; omega) (lt_dl a)
      have HLT := Lib.hid hlt
      clear hlt
      go_wp2_with fail
      refine (trim_own HO.out HLT.out (by omega)).mono ?_
      rintro e w' ⟨a', cap', rfl, hN, _, rfl⟩
      have HNN := Lib.hid hN
      clear hN
      go_wp2_with fail
      go_ret
      exact ⟨a', cap', rfl, HNN.out, HN.out⟩

end Go.Proofs.Ytdlnnkbigeiilaa

/- The document's numbers: what is left of a modulus. No condition. -/
namespace Go.Proofs.Ytdlnnkbigeiilaa
open Go.RowKit

theorem top_div (n : Nat) (h : n ≠ 0) : n / DD ^ (dl n - 1) = dg DD n (dl n - 1) := by
  have h2 := lt_dl n
  have hp := dl_pos n h
  have e : DD ^ dl n = DD ^ (dl n - 1) * DD := by rw [← Nat.pow_succ]; congr 1; omega
  unfold dg
  rw [Nat.mod_eq_of_lt (Nat.div_lt_of_lt_mul (by rw [← e]; exact h2))]

theorem top_lt (m : Nat) (h : m ≠ 0) : m < (dg DD m (dl m - 1) + 1) * DD ^ (dl m - 1) := by
  have h1 := top_div m h
  have h2 := Nat.div_add_mod m (DD ^ (dl m - 1))
  have h3 := Nat.mod_lt m (Nat.pow_pos (n := dl m - 1) (show 0 < DD by decide))
  rw [h1] at h2
  rw [Nat.add_mul, Nat.one_mul, Nat.mul_comm (dg DD m (dl m - 1))]
  omega

theorem quo_step (A m x q e : Nat) (hm : m ≠ 0) (hx : x * DD ^ e ≤ A) (hq : q = x / (dg DD m (dl m - 1) + 1)) (he : dl m - 1 ≤ e) : q * (m * DD ^ (e - (dl m - 1))) ≤ A := by
  have h1 := top_lt m hm
  have h2 : q * (dg DD m (dl m - 1) + 1) ≤ x := by rw [hq]; exact Nat.div_mul_le_self _ _
  have h3 : DD ^ e = DD ^ (dl m - 1) * DD ^ (e - (dl m - 1)) := by rw [← Nat.pow_add]; congr 1; omega
  generalize dg DD m (dl m - 1) + 1 = t at *
  generalize DD ^ (dl m - 1) = P at *
  generalize DD ^ (e - (dl m - 1)) = S at *
  calc q * (m * S) ≤ q * (t * P * S) := Nat.mul_le_mul_left _ (Nat.mul_le_mul_right _ (Nat.le_of_lt h1))
    _ = q * t * (P * S) := by rw [Nat.mul_assoc t, Nat.mul_assoc q]
    _ ≤ x * (P * S) := Nat.mul_le_mul_right _ h2
    _ = x * DD ^ e := by rw [h3]
    _ ≤ A := hx

theorem mod_one (A m : Nat) (hA : A ≠ 0) (hm : m ≠ 0) (hle : dl m ≤ dl A) : dg DD A (dl A - 1) / (dg DD m (dl m - 1) + 1) * (m * DD ^ (dl A - dl m)) ≤ A := by
  have h := quo_step A m (dg DD A (dl A - 1)) _ (dl A - 1) hm (by rw [← top_div A hA]; exact Nat.div_mul_le_self _ _) rfl (by omega)
  have := dl_pos m hm
  rwa [show dl A - 1 - (dl m - 1) = dl A - dl m by omega] at h
theorem mod_two (A m : Nat) (hA : A ≠ 0) (hm : m ≠ 0) (hle : dl m < dl A) : (dg DD A (dl A - 1) * DD + dg DD A (dl A - 2)) / (dg DD m (dl m - 1) + 1) * (m * DD ^ (dl A - dl m - 1)) ≤ A := by
  have hp := dl_pos m hm
  have h2 := dg_div (B := DD) A (dl A - 2)
  rw [show dl A - 2 + 1 = dl A - 1 by omega, top_div A hA, Nat.mul_comm] at h2
  have h := quo_step A m (dg DD A (dl A - 1) * DD + dg DD A (dl A - 2)) _ (dl A - 2) hm (by rw [← h2]; exact Nat.div_mul_le_self _ _) rfl (by omega)
  rwa [show dl A - 2 - (dl m - 1) = dl A - dl m - 1 by omega] at h

theorem take_mod (A m n s : Nat) (h : n * (m * s) ≤ A) : (A - n * (m * s)) % m = A % m := by
  have e : A = (A - n * (m * s)) + m * (n * s) := by rw [show m * (n * s) = n * (m * s) by rw [Nat.mul_left_comm]]; omega
  rw [← Nat.add_mul_mod_self_left (A - n * (m * s)) m (n * s), ← e]


set_option maxHeartbeats 2000000 in
theorem refMod_any (a m : Nat) (aa am : Option Addr) (ca cm : Nat) (hla : dl a ≤ 1048576) (hm0 : 0 < m) (w : World) (hA : NumAt w aa a) (hM : NumAt w am m) :
    Calls Try.prog 41 #[.slice aa (dl a) ca, .slice am (dl m) cm] w fun e w' => NumR w e w' (a % m) := by
  have HA := Lib.hid hA
  have HMM := Lib.hid hM
  clear hA hM
  go_enter Try.func41, Try.ntmps41
  go_wp2_with fail
  go_loopg [0, 5, 6] a (fun g v _ _ wr => ∃ (A : Nat) (a1 : Option Addr) (c1 : Nat), g = A ∧ v = .slice a1 (dl A) c1 ∧ Hid (A % m = a % m) ∧ A ≤ a ∧ Hid (NumAt wr a1 A) ∧ Hid (Below w.heap.size w wr))
  case atStart => exact ⟨a, aa, ca, rfl, rfl, rfl, Nat.le_refl _, HA.out, Below.refl _ _⟩
  case round =>
    obtain ⟨A, a1, c1, hg, rfl, HM, hAa, HN, HB⟩ := hrel
    obtain ⟨G9, hG9⟩ : ∃ G9, gk = G9 := ⟨_, rfl⟩
    rw [hG9] at hg
    subst hg
    subst hG9
    obtain ⟨A, rfl⟩ : ∃ A, A = gk := ⟨_, rfl⟩
    clear HA
    have hdA := dl_mono _ _ hAa
    go_wp2_with fail
    refine (refCompare_any A m a1 am c1 cm (by omega) wr HN.out (HMM.out.up HB.out)).mono ?_
    rintro e w2 ⟨rfl, hb2⟩
    have HB2 := Lib.hid (below_up HB.out hb2)
    have HN2 := Lib.hid (HN.out.up hb2)
    have HMM2 := Lib.hid (HMM.out.up HB2.out)
    clear hb2 HN HB
    by_cases hlt : A < m
    · have hc : cmpI A m = -1 := by unfold cmpI; rw [if_pos hlt]
      rw [hc]
      clear hc
      have HRES : Hid (A = a % m) := by show _ = _; rw [← HM.out, Nat.mod_eq_of_lt hlt]
      go_wp2_with fail
      go_ret
      exact ⟨a1, c1, by rw [← HRES.out]; rfl, by rw [← HRES.out]; exact HN2.out, HB2.out⟩
    · have hle : m ≤ A := by omega
      have HLEM := Lib.hid hle
      obtain ⟨c, hc, hc0⟩ : ∃ c, cmpI A m = c ∧ 0 ≤ c := ⟨_, rfl, by unfold cmpI; rw [if_neg hlt]; split <;> omega⟩
      rw [hc]
      clear hc hlt hle
      have hA0 : A ≠ 0 := by have := HLEM.out; omega
      have hm1 : m ≠ 0 := by omega
      have hlm := dl_mono _ _ HLEM.out
      have hpA := dl_pos A hA0
      have hpm := dl_pos m hm1
      have htA := dl_top A hA0
      have h1 := mod_one A m hA0 hm1 hlm
      have hdA : dg DD A (dl A - 1) < 65536 := dg_lt (B := DD) (by decide) _ _
      have hdA2 : dg DD A (dl A - 2) < 65536 := dg_lt (B := DD) (by decide) _ _
      have hdm : dg DD m (dl m - 1) < 65536 := dg_lt (B := DD) (by decide) _ _
      have H2 : Hid (dl m < dl A → (dg DD A (dl A - 1) * DD + dg DD A (dl A - 2)) / (dg DD m (dl m - 1) + 1) * (m * DD ^ (dl A - dl m - 1)) ≤ A) := fun h => mod_two A m hA0 hm1 h
      obtain ⟨b1, o1, rfl, hb1, hcell1⟩ := HN2.out.all hpA
      obtain ⟨b2, o2, rfl, hb2, hcell2⟩ := HMM2.out.all hpm
      have hx1 := hcell1 (dl A - 1) (by omega)
      have hx2 := hcell2 (dl m - 1) (by omega)
      have hx3 : dl m < dl A → w2.cell? ⟨b1, o1 + (dl A - 2), none⟩ = some (.int .i64 (dg DD A (dl A - 2) : Int)) := fun h => hcell1 (dl A - 2) (by omega)
      have HX3 := Lib.hid hx3
      have hi1 : (dl A : Int) - 1 = ((dl A - 1 : Nat) : Int) := by omega
      have hi2 : (dl m : Int) - 1 = ((dl m - 1 : Nat) : Int) := by omega
      have hi3 : (dl A : Int) - (dl m : Int) = ((dl A - dl m : Nat) : Int) := by omega
      have H1 := Lib.hid h1
      clear hcell1 hcell2 hx3 h1
      generalize hat : dg DD A (dl A - 1) = at1 at *
      generalize han : dg DD A (dl A - 2) = an1 at *
      generalize hmt : dg DD m (dl m - 1) = mt1 at *
      have HAT := Lib.hid hat
      have HAN := Lib.hid han
      have HMT := Lib.hid hmt
      clear hat han hmt
      obtain ⟨q, hq⟩ : ∃ q, at1 / (mt1 + 1) = q := ⟨_, rfl⟩
      have hqI : (at1 : Int) / ((mt1 : Int) + 1) = (q : Int) := by rw [← hq]; simp
      have hq9 : q ≤ 65535 := by rw [← hq]; exact Nat.le_trans (Nat.div_le_self _ _) (by omega)
      have H1' := H1.out
      rw [hq] at H1'
      have HLE1 := Lib.hid H1'
      clear H1' H1 hq
      go_wp2_with fail
      go_quiet (fail)
      have HN3 := Lib.hid (HN2.out.up (below_drewN (Below.refl _ w2) nq))
      have HMM3 := Lib.hid (HMM2.out.up (below_drewN (Below.refl _ w2) nq))
      have HB3 := Lib.hid (below_drewN HB2.out nq)
      by_cases hq0 : q = 0
      · subst hq0
        by_cases hk0 : dl m < dl A
        · have hx3 := HX3.out hk0
          have h2 := H2.out hk0
          have hkp : 0 < dl A - dl m := by omega
          have hi4 : (dl A : Int) - 2 = ((dl A - 2 : Nat) : Int) := by omega
          have hi5 : ((dl A - dl m : Nat) : Int) - 1 = ((dl A - dl m - 1 : Nat) : Int) := by omega
          obtain ⟨q2, hq2⟩ : ∃ q2, (at1 * DD + an1) / (mt1 + 1) = q2 := ⟨_, rfl⟩
          rw [hq2] at h2
          have hqI2 : ((at1 : Int) * 65536 + (an1 : Int)) / ((mt1 : Int) + 1) = (q2 : Int) := by rw [← hq2]; simp
          have hq29 : q2 ≤ 4294967295 := by rw [← hq2]; exact Nat.le_trans (Nat.div_le_self _ _) (by show at1 * 65536 + an1 ≤ _; omega)
          have hq21 : 1 ≤ q2 := by rw [← hq2]; exact (Nat.le_div_iff_mul_le (by omega)).2 (by show 1 * (mt1 + 1) ≤ at1 * 65536 + an1; omega)
          have hq20 : ((q2 : Int) == 0) = false := by simp; omega
          have HLE := Lib.hid h2
          clear h2 hq2 HLE1
          go_wp2_with fail
          go_quiet (fail)
          have hsub : A - q2 * (m * DD ^ (dl A - dl m - 1)) < A := by
            have h1 : 0 < q2 * (m * DD ^ (dl A - dl m - 1)) := Nat.mul_pos (by omega) (Nat.mul_pos (by omega) (Nat.pow_pos (by decide)))
            omega
          have HSUB := Lib.hid hsub
          have HTM := Lib.hid (take_mod A m (q2) (DD ^ (dl A - dl m - 1)) HLE.out)
          clear hsub
          go_wp2_with fail
          refine (refTake_any A m (q2) (dl A - dl m - 1) (A - q2 * (m * DD ^ (dl A - dl m - 1))) _ _ _ _ (by omega) (by omega) (by omega) (by omega) (by have := HLE.out; omega) _ (NumAt.up HN2.out (below_drewN (Below.refl _ w2) _)) (NumAt.up HMM2.out (below_drewN (Below.refl _ w2) _))).mono ?_
          rintro e w4 ⟨a4, c4, rfl, hn4, hb4⟩
          have HN4 := Lib.hid hn4
          have HB4 := Lib.hid (below_up (below_drewN HB2.out _) hb4)
          clear hn4 hb4
          go_wp2_with fail
          go_roundg (A - q2 * (m * DD ^ (dl A - dl m - 1)))
          case measure => exact HSUB.out
          case rel => exact ⟨_, a4, c4, rfl, by first | rfl | rw [Nat.one_mul], by rw [HTM.out]; exact HM.out, Nat.le_trans (Nat.le_of_lt HSUB.out) hAa, HN4.out, HB4.out⟩
        · have hk00 : dl A - dl m = 0 := by omega
          have hkp : ¬ 0 < dl A - dl m := by omega
          have HLE : Hid (1 * (m * DD ^ (dl A - dl m)) ≤ A) := by
            show _ ≤ _
            rw [hk00, Nat.pow_zero, Nat.mul_one, Nat.one_mul]
            exact HLEM.out
          have hkI : ¬ (0 : Int) < ((dl A - dl m : Nat) : Int) := by omega
          clear hk00 HLE1
          have hsub : A - 1 * (m * DD ^ (dl A - dl m)) < A := by
            have h1 : 0 < 1 * (m * DD ^ (dl A - dl m)) := Nat.mul_pos (by omega) (Nat.mul_pos (by omega) (Nat.pow_pos (by decide)))
            omega
          have HSUB := Lib.hid hsub
          have HTM := Lib.hid (take_mod A m (1) (DD ^ (dl A - dl m)) HLE.out)
          clear hsub
          go_wp2_with fail
          refine (refTake_any A m (1) (dl A - dl m) (A - 1 * (m * DD ^ (dl A - dl m))) _ _ _ _ (by omega) (by omega) (by omega) (by omega) (by have := HLE.out; omega) _ HN3.out HMM3.out).mono ?_
          rintro e w4 ⟨a4, c4, rfl, hn4, hb4⟩
          have HN4 := Lib.hid hn4
          have HB4 := Lib.hid (below_up HB3.out hb4)
          clear hn4 hb4
          go_wp2_with fail
          go_roundg (A - 1 * (m * DD ^ (dl A - dl m)))
          case measure => exact HSUB.out
          case rel => exact ⟨_, a4, c4, rfl, by first | rfl | rw [Nat.one_mul], by rw [HTM.out]; exact HM.out, Nat.le_trans (Nat.le_of_lt HSUB.out) hAa, HN4.out, HB4.out⟩
      · have hq1 : ((q : Int) == 0) = false := by simp; omega
        have HLE := HLE1
        clear HLE1
        have hsub : A - q * (m * DD ^ (dl A - dl m)) < A := by
          have h1 : 0 < q * (m * DD ^ (dl A - dl m)) := Nat.mul_pos (by omega) (Nat.mul_pos (by omega) (Nat.pow_pos (by decide)))
          omega
        have HSUB := Lib.hid hsub
        have HTM := Lib.hid (take_mod A m (q) (DD ^ (dl A - dl m)) HLE.out)
        clear hsub
        go_wp2_with fail
        refine (refTake_any A m (q) (dl A - dl m) (A - q * (m * DD ^ (dl A - dl m))) _ _ _ _ (by omega) (by omega) (by omega) (by omega) (by have := HLE.out; omega) _ HN3.out HMM3.out).mono ?_
        rintro e w4 ⟨a4, c4, rfl, hn4, hb4⟩
        have HN4 := Lib.hid hn4
        have HB4 := Lib.hid (below_up HB3.out hb4)
        clear hn4 hb4
        go_wp2_with fail
        go_roundg (A - q * (m * DD ^ (dl A - dl m)))
        case measure => exact HSUB.out
        case rel => exact ⟨_, a4, c4, rfl, by first | rfl | rw [Nat.one_mul], by rw [HTM.out]; exact HM.out, Nat.le_trans (Nat.le_of_lt HSUB.out) hAa, HN4.out, HB4.out⟩

end Go.Proofs.Ytdlnnkbigeiilaa

/- The document's powers. No condition. -/
namespace Go.Proofs.Ytdlnnkbigeiilaa
open Go.RowKit

def bitAt (n k : Nat) : Nat := n / 2 ^ k % 2
/-- The highest t of L bits, the highest first. -/
def bitsTo (n L t : Nat) : List Nat := (List.range t).map fun s => bitAt n (L - 1 - s)
theorem bitsTo_succ (n L t : Nat) : bitsTo n L (t + 1) = bitsTo n L t ++ [bitAt n (L - 1 - t)] := by simp [bitsTo, List.range_succ]
theorem bitsTo_at (n L t s : Nat) (h : s < t) : (bitsTo n L t)[s]? = some (bitAt n (L - 1 - s)) := by simp [bitsTo, h]

theorem bit_dg (n i j : Nat) (hj : j ≤ 15) : dg DD n i / 2 ^ (15 - j) % 2 = bitAt n (16 * i + (15 - j)) := by
  unfold dg bitAt
  have hb : DD = 2 ^ 16 := rfl
  rw [hb, ← Nat.pow_mul]
  have e : (2 : Nat) ^ 16 = 2 ^ (15 - j) * (2 * 2 ^ j) := by
    rw [← Nat.pow_succ', ← Nat.pow_add]; congr 1; omega
  rw [e, Nat.mod_mul_right_div_self, Nat.mod_mul_right_mod, Nat.div_div_eq_div_mul, ← Nat.pow_add]

structure OwnB (W w : World) (v : Value) (n L t : Nat) : Prop where
  own : w.ownsRow 0 3 1 v t ((bitsTo n L t).map dV)
  new_ : ∀ q, v.ownBlock = some q → W.heap.size ≤ q
  below : Below W.heap.size W w
theorem OwnB.nil (W : World) (n L : Nat) : OwnB W W (.slice none 0 0) n L 0 := ⟨World.ownsRow_nil _ _ _ _, fun q h => by simp [Value.ownBlock] at h, Below.refl _ _⟩
theorem OwnB.push {W w w1 : World} {v : Value} {n L k g c : Nat} (h : OwnB W w v n L k) (hown : w1.ownsRow 0 3 1 (.slice (some ⟨g, 0, none⟩) (k + 1) c) (k + 1) ((bitsTo n L k).map dV ++ [.int .i64 (bitAt n (L - 1 - k) : Int)])) (hp : Pushed w w1 v g) : OwnB W w1 (.slice (some ⟨g, 0, none⟩) (k + 1) c) n L (k + 1) :=
  ⟨by rw [bitsTo_succ, List.map_append]; exact hown, hp.from_ h.below.size h.new_, hp.below h.below h.below.size h.new_⟩

def BitsR (n : Nat) (w : World) (e : Ending) (w' : World) : Prop := ∃ a cap, e = .returned (.slice a (16 * dl n) cap) ∧ Sl w' w'.heap.size a ((bitsTo n (16 * dl n) (16 * dl n)).map dV) ∧ Below w.heap.size w w'


theorem lt32 (x y : Nat) (hx : x < DD ^ 16) (hy : y < DD ^ 16) : dl (x * y) ≤ 1048576 := by
  refine Nat.le_trans (dl_of_lt (x * y) 32 ?_) (by decide)
  have e : DD ^ 32 = DD ^ 16 * DD ^ 16 := by rw [← Nat.pow_add]
  rw [e]
  exact Nat.lt_of_le_of_lt (Nat.mul_le_mul_left _ (Nat.le_of_lt hy)) (Nat.mul_lt_mul_of_pos_right hx (Nat.pow_pos (by decide)))
theorem lt16 (x : Nat) (hx : x < DD ^ 16) : dl x ≤ 1048576 := small_dl x hx

theorem pow_sq (a e m : Nat) : (a ^ e % m * (a ^ e % m)) % m = a ^ (2 * e) % m := by
  rw [← Nat.mul_mod, ← Nat.pow_add, Nat.two_mul]
theorem pow_one_more (a e m : Nat) : (a ^ (2 * e) % m * a) % m = a ^ (2 * e + 1) % m := by
  rw [Nat.mod_mul_mod, ← Nat.pow_succ]
theorem dl_one_of (v : Nat) (h : dl v = 1) : dg DD v 0 = v := by
  have := lt_dl v
  rw [h, Nat.pow_one] at this
  unfold dg
  rw [Nat.pow_zero, Nat.div_one, Nat.mod_eq_of_lt this]



end Go.Proofs.Ytdlnnkbigeiilaa

/- The document's scalars: Minus, Add, Sub, Mul. No condition. -/
namespace Go.Proofs.Ytdlnnkbigeiilaa
open Go.RowKit

/-- The document's group, as a value. -/
def gR (sz q p : Nat) (aq ap : Option Addr) (cq cp : Nat) : List Value := [.int .i64 (sz : Int), .slice aq (dl q) cq, .slice ap (dl p) cp]

theorem take_minus (a b R : Nat) (h : a = R + b) : a = R + 1 * (b * DD ^ 0) := by rw [Nat.pow_zero, Nat.mul_one, Nat.one_mul]; exact h

theorem plus_dl (a b : Nat) (ha : a < DD ^ 16) (hb : b < DD ^ 16) : dl (a + b) ≤ 1048576 := by
  refine Nat.le_trans (dl_of_lt (a + b) 17 ?_) (by decide)
  have : DD ^ 17 = DD ^ 16 * 65536 := Nat.pow_succ ..
  omega

end Go.Proofs.Ytdlnnkbigeiilaa

/- The document's elements: low, Product, Power, Under, Inv. No condition. -/
namespace Go.Proofs.Ytdlnnkbigeiilaa
open Go.RowKit

def lowR (q p x : Nat) : Nat := if q < x then p - x else x





theorem lowR_le (q p x : Nat) (h : x ≤ p) : lowR q p x ≤ p := by unfold lowR; split <;> omega

end Go.Proofs.Ytdlnnkbigeiilaa

/- The document's IsScalar, IsElem, Number. No condition. -/
namespace Go.Proofs.Ytdlnnkbigeiilaa
open Go.RowKit






def isSc (q sz : Nat) (s : ByteArray) : Bool := decide (s.size = sz) && decide (numOf s < q)
def isEl (q sz : Nat) (s : ByteArray) : Bool := decide (s.size = sz) && decide (0 < numOf s) && decide (numOf s ≤ q)

theorem cmpI_lt (a b : Nat) : decide (cmpI a b < 0) = decide (a < b) := by unfold cmpI; split; · simp [*]
                                                                           · split <;> simp <;> omega
theorem cmpI_le (a b : Nat) : decide (cmpI a b ≤ 0) = decide (a ≤ b) := by
  unfold cmpI
  split
  · simp; omega
  · split <;> simp <;> omega
theorem numOf_16 (s : ByteArray) (hs : s.size ≤ 32) : numOf s < DD ^ 16 := numOf_lt s hs

end Go.Proofs.Ytdlnnkbigeiilaa

/- The package group: Scalar, Member. No condition. -/
namespace Go.Proofs.Ytdlnnkbigeiilaa
open Go.RowKit

/-- What a reading of bytes answers: limbs, and whether it was good. -/
def ReadR (ok : Bool) (v : Value) (w : World) (e : Ending) (w' : World) : Prop := ∃ x : Nat, e = .returned (.tuple #[limbV x, .bool ok]) ∧ Below w.heap.size w w' ∧ (ok = true → limbV x = v)

theorem gScalar_any (G : GP) (ok : G.Ok) (gb : Nat) (s : ByteArray) (w : World) (hG : GroupAt w gb G) :
    Calls Try.prog 78 #[.pointer (some ⟨gb, 0, none⟩), .string s] w (ReadR (isSc G.q.m G.size s) (scV G (numOf s)) w) := by
  have no : isSc G.q.m G.size s = false → ∀ e w', (e = .returned (.tuple #[limbV 0, .bool false]) ∧ Below w.heap.size w w') → ReadR (isSc G.q.m G.size s) (scV G (numOf s)) w e w' := fun h e w' ⟨h1, h2⟩ => ⟨0, by rw [h]; exact h1, h2, fun hc => by rw [h] at hc; cases hc⟩
  by_cases h32 : 32 < s.size
  · exact (gScalar_long G ok gb s h32 w hG).mono (no (by have := ok.size_le; unfold isSc; simp; omega))
  by_cases hl : s.size = G.size
  · rcases Nat.lt_trichotomy (numOf s) G.q.m with hc | hc | hc
    · refine (gScalar_yes G ok gb s hl hc w hG).mono ?_
      rintro e w' ⟨h1, h2⟩
      exact ⟨mont G.q.m (numOf s), by rw [show isSc G.q.m G.size s = true by unfold isSc; simp [hl, hc]]; exact h1, h2, fun _ => rfl⟩
    · exact (gScalar_eq G ok gb s hl hc w hG).mono (no (by unfold isSc; simp; omega))
    · exact (gScalar_gt G ok gb s hl hc w hG).mono (no (by unfold isSc; simp; omega))
  · exact (gScalar_len G ok gb s (by omega) hl w hG).mono (no (by unfold isSc; simp [hl]))

theorem gElem_any (G : GP) (ok : G.Ok) (gb : Nat) (s : ByteArray) (w : World) (hG : GroupAt w gb G) :
    Calls Try.prog 105 #[.pointer (some ⟨gb, 0, none⟩), .string s] w (ReadR (isEl G.q.m G.size s) (elV G (numOf s)) w) := by
  have no : isEl G.q.m G.size s = false → ∀ e w', (e = .returned (.tuple #[limbV 0, .bool false]) ∧ Below w.heap.size w w') → ReadR (isEl G.q.m G.size s) (elV G (numOf s)) w e w' := fun h e w' ⟨h1, h2⟩ => ⟨0, by rw [h]; exact h1, h2, fun hc => by rw [h] at hc; cases hc⟩
  by_cases h32 : 32 < s.size
  · exact (gElem_long G ok gb s h32 w hG).mono (no (by have := ok.size_le; unfold isEl; simp; omega))
  by_cases hl : s.size = G.size
  · by_cases h0 : numOf s = 0
    · exact (gElem_zero G ok gb s hl h0 w hG).mono (no (by unfold isEl; simp [h0]))
    rcases Nat.lt_trichotomy (numOf s) G.q.m with hc | hc | hc
    · refine (gElem_lt G ok gb s hl (by omega) hc w hG).mono ?_
      rintro e w' ⟨h1, h2⟩
      exact ⟨mont G.p.m (numOf s), by rw [show isEl G.q.m G.size s = true by unfold isEl; simp [hl]; omega]; exact h1, h2, fun _ => rfl⟩
    · refine (gElem_eq G ok gb s hl (by omega) hc w hG).mono ?_
      rintro e w' ⟨h1, h2⟩
      exact ⟨mont G.p.m (numOf s), by rw [show isEl G.q.m G.size s = true by unfold isEl; simp [hl]; omega]; exact h1, h2, fun _ => rfl⟩
    · exact (gElem_gt G ok gb s hl hc w hG).mono (no (by unfold isEl; simp; omega))
  · exact (gElem_len G ok gb s (by omega) hl w hG).mono (no (by unfold isEl; simp [hl]))


set_option maxRecDepth 100000 in
set_option maxHeartbeats 1000000 in
theorem Scalar_none (k : Int) (hk : ¬ (1 ≤ k ∧ k ≤ 3)) (s : ByteArray) (w : World) : Calls Try.prog 61 #[.int .i64 k, .string s] w fun e w' => e = .returned (.bool false) ∧ Below w.heap.size w w' := by
  go_enter Try.func61, Try.ntmps61
  go_wp2_with fail
  refine (of_none k hk w).mono ?_
  rintro e w1 ⟨rfl, rfl⟩
  go_wp2_with fail
  go_ret
  exact ⟨rfl, Below.refl _ _⟩

set_option maxRecDepth 100000 in
set_option maxHeartbeats 1000000 in
theorem Scalar_some (k : Nat) (h1 : 1 ≤ k) (h3 : k ≤ 3) (s : ByteArray) (w : World) : Calls Try.prog 61 #[.int .i64 (k : Int), .string s] w fun e w' => e = .returned (.bool (isSc (grp k).q.m (grp k).size s)) ∧ Below w.heap.size w w' := by
  have OK := Lib.hid (grp_ok k h1 h3)
  go_enter Try.func61, Try.ntmps61
  go_wp2_with fail
  refine (of_some k h1 h3 w).mono ?_
  rintro e w1 ⟨rfl, hg, hb⟩
  have HG := Lib.hid hg
  have HB := Lib.hid hb
  clear hg hb
  go_wp2_with fail
  refine (gScalar_any (grp k) OK.out w.heap.size s w1 HG.out).mono ?_
  rintro e w2 ⟨x, rfl, hb2, -⟩
  have HB2 := Lib.hid (below_up HB.out hb2)
  clear hb2
  obtain ⟨b, hbb⟩ : ∃ b, isSc (grp k).q.m (grp k).size s = b := ⟨_, rfl⟩
  rw [hbb]
  have HBB := Lib.hid hbb
  clear hbb
  unfold limbV
  go_wp2_with fail
  go_ret
  exact ⟨by rw [HBB.out]; rfl, HB2.out.alloc HB2.out.size _⟩

set_option maxRecDepth 100000 in
set_option maxHeartbeats 1000000 in
theorem Member_none (k : Int) (hk : ¬ (1 ≤ k ∧ k ≤ 3)) (s : ByteArray) (w : World) : Calls Try.prog 63 #[.int .i64 k, .string s] w fun e w' => e = .returned (.bool false) ∧ Below w.heap.size w w' := by
  go_enter Try.func63, Try.ntmps63
  go_wp2_with fail
  refine (of_none k hk w).mono ?_
  rintro e w1 ⟨rfl, rfl⟩
  go_wp2_with fail
  go_ret
  exact ⟨rfl, Below.refl _ _⟩

set_option maxRecDepth 100000 in
set_option maxHeartbeats 1000000 in
theorem Member_some (k : Nat) (h1 : 1 ≤ k) (h3 : k ≤ 3) (s : ByteArray) (w : World) : Calls Try.prog 63 #[.int .i64 (k : Int), .string s] w fun e w' => e = .returned (.bool (isEl (grp k).q.m (grp k).size s)) ∧ Below w.heap.size w w' := by
  have OK := Lib.hid (grp_ok k h1 h3)
  go_enter Try.func63, Try.ntmps63
  go_wp2_with fail
  refine (of_some k h1 h3 w).mono ?_
  rintro e w1 ⟨rfl, hg, hb⟩
  have HG := Lib.hid hg
  have HB := Lib.hid hb
  clear hg hb
  go_wp2_with fail
  refine (gElem_any (grp k) OK.out w.heap.size s w1 HG.out).mono ?_
  rintro e w2 ⟨x, rfl, hb2, -⟩
  have HB2 := Lib.hid (below_up HB.out hb2)
  clear hb2
  obtain ⟨b, hbb⟩ : ∃ b, isEl (grp k).q.m (grp k).size s = b := ⟨_, rfl⟩
  rw [hbb]
  have HBB := Lib.hid hbb
  clear hbb
  unfold limbV
  go_wp2_with fail
  go_ret
  exact ⟨by rw [HBB.out]; rfl, HB2.out.alloc HB2.out.size _⟩


def redV (G : GP) (s : ByteArray) : ByteArray := if 1024 < s.size then ⟨#[]⟩ else textS (numOf s % G.q.m) G.size
def redE (s : ByteArray) : Int := if 1024 < s.size then 3 else 0

end Go.Proofs.Ytdlnnkbigeiilaa

/- The package group: Add, Sub, Mul, Inv, Times, Under. No condition. -/
namespace Go.Proofs.Ytdlnnkbigeiilaa
open Go.RowKit

/-- What a reading answers, its limbs told when it is good. -/
def ReadM (b : Bool) (m : Nat) (w : World) (e : Ending) (w' : World) : Prop := ∃ x : Nat, e = .returned (.tuple #[limbV x, .bool b]) ∧ Below w.heap.size w w' ∧ (b = true → x = m)

theorem ReadR.m {b : Bool} {m : Nat} {w w' : World} {e : Ending} (h : ReadR b (limbV m) w e w') : ReadM b m w e w' := by
  obtain ⟨x, h1, h2, h3⟩ := h
  cases b with
  | true => exact ⟨m, by rw [h1, h3 rfl], h2, fun _ => rfl⟩
  | false => exact ⟨x, h1, h2, fun h => by cases h⟩

theorem gScalar_m (G : GP) (ok : G.Ok) (gb : Nat) (s : ByteArray) (b : Bool) (hb : isSc G.q.m G.size s = b) (w : World) (hG : GroupAt w gb G) :
    Calls Try.prog 78 #[.pointer (some ⟨gb, 0, none⟩), .string s] w (ReadM b (mont G.q.m (numOf s)) w) := by
  subst hb
  exact (gScalar_any G ok gb s w hG).mono fun e w' h => ReadR.m h
theorem gElem_m (G : GP) (ok : G.Ok) (gb : Nat) (s : ByteArray) (b : Bool) (hb : isEl G.q.m G.size s = b) (w : World) (hG : GroupAt w gb G) :
    Calls Try.prog 105 #[.pointer (some ⟨gb, 0, none⟩), .string s] w (ReadM b (mont G.p.m (numOf s)) w) := by
  subst hb
  exact (gElem_any G ok gb s w hG).mono fun e w' h => ReadR.m h


end Go.Proofs.Ytdlnnkbigeiilaa

/- The package group: the faces Add, Sub, Mul, Inv, Times, Under. No condition. -/
namespace Go.Proofs.Ytdlnnkbigeiilaa
open Go.RowKit

theorem box2 (w : World) (v1 v2 : Value) (t1 t2 : TypeId) :
    Below w.heap.size w ((w.alloc (.cells #[v1] t1)).alloc (.cells #[v2] t2)) ∧ Bx ((w.alloc (.cells #[v1] t1)).alloc (.cells #[v2] t2)) w.heap.size t1 [v1] ∧ Bx ((w.alloc (.cells #[v1] t1)).alloc (.cells #[v2] t2)) (w.heap.size + 1) t2 [v2] := by
  have a1 : Below w.heap.size w (w.alloc (.cells #[v1] t1)) := (Below.refl _ _).alloc (Nat.le_refl _) _
  have a2 : Below (w.alloc (.cells #[v1] t1)).heap.size (w.alloc (.cells #[v1] t1)) ((w.alloc (.cells #[v1] t1)).alloc (.cells #[v2] t2)) := (Below.refl _ _).alloc (Nat.le_refl _) _
  refine ⟨below_up a1 a2, (Bx.new w _ _ _ rfl).up a2, ?_⟩
  have h := Bx.new (w.alloc (.cells #[v1] t1)) t2 [v2] _ rfl
  rwa [World.size_alloc] at h

theorem box3 (w : World) (v1 v2 v3 : Value) (t1 t2 t3 : TypeId) :
    Below w.heap.size w (((w.alloc (.cells #[v1] t1)).alloc (.cells #[v2] t2)).alloc (.cells #[v3] t3)) ∧ Bx (((w.alloc (.cells #[v1] t1)).alloc (.cells #[v2] t2)).alloc (.cells #[v3] t3)) w.heap.size t1 [v1]
      ∧ Bx (((w.alloc (.cells #[v1] t1)).alloc (.cells #[v2] t2)).alloc (.cells #[v3] t3)) (w.heap.size + 1) t2 [v2] ∧ Bx (((w.alloc (.cells #[v1] t1)).alloc (.cells #[v2] t2)).alloc (.cells #[v3] t3)) (w.heap.size + 2) t3 [v3] := by
  obtain ⟨h1, h2, h3⟩ := box2 w v1 v2 t1 t2
  have a2 : Below ((w.alloc (.cells #[v1] t1)).alloc (.cells #[v2] t2)).heap.size ((w.alloc (.cells #[v1] t1)).alloc (.cells #[v2] t2)) (((w.alloc (.cells #[v1] t1)).alloc (.cells #[v2] t2)).alloc (.cells #[v3] t3)) := (Below.refl _ _).alloc (Nat.le_refl _) _
  refine ⟨below_up h1 a2, h2.up a2, h3.up a2, ?_⟩
  have h := Bx.new ((w.alloc (.cells #[v1] t1)).alloc (.cells #[v2] t2)) t3 [v3] _ rfl
  rwa [World.size_alloc, World.size_alloc] at h


def recV (G : GP) (a b : ByteArray) (z : Nat) : ByteArray := if (isSc G.q.m G.size a && isSc G.q.m G.size b) = true then textS (z % G.q.m) G.size else ⟨#[]⟩
def recE (G : GP) (a b : ByteArray) : Int := if (isSc G.q.m G.size a && isSc G.q.m G.size b) = true then 0 else 6

theorem isSc_lt {q size : Nat} {s : ByteArray} (h : isSc q size s = true) : numOf s < q := by
  unfold isSc at h
  simp at h
  exact h.2

theorem box1 (w : World) (v1 : Value) (t1 : TypeId) : Below w.heap.size w (w.alloc (.cells #[v1] t1)) ∧ Bx (w.alloc (.cells #[v1] t1)) w.heap.size t1 [v1] :=
  ⟨(Below.refl _ _).alloc (Nat.le_refl _) _, Bx.new w _ _ _ rfl⟩

def invV (G : GP) (a : ByteArray) : ByteArray := if isSc G.q.m G.size a = true ∧ numOf a ≠ 0 then textS (numOf a ^ (G.q.m - 2) % G.q.m) G.size else ⟨#[]⟩
def invE (G : GP) (a : ByteArray) : Int := if isSc G.q.m G.size a = true then (if numOf a = 0 then 5 else 0) else 6
def undV (G : GP) (a : ByteArray) : ByteArray := if isEl G.q.m G.size a = true then textS (lowN G (numOf a ^ (G.p.m - 2))) G.size else ⟨#[]⟩
def undE (G : GP) (a : ByteArray) : Int := if isEl G.q.m G.size a = true then 0 else 7
def timV (G : GP) (a b : ByteArray) : ByteArray := if (isEl G.q.m G.size a && isEl G.q.m G.size b) = true then textS (lowN G (numOf a * numOf b)) G.size else ⟨#[]⟩
def timE (G : GP) (a b : ByteArray) : Int := if (isEl G.q.m G.size a && isEl G.q.m G.size b) = true then 0 else 7

end Go.Proofs.Ytdlnnkbigeiilaa

/- The package group: Product. No condition. -/
namespace Go.Proofs.Ytdlnnkbigeiilaa
open Go.RowKit

/-- What a product of powers answers: its bytes, and an errno. -/
def prodV (G : GP) : List ByteArray → List ByteArray → Nat → ByteArray
  | a :: xs, n :: ys, z => if isEl G.q.m G.size a = false then ⟨#[]⟩ else if isSc G.q.m G.size n = false then ⟨#[]⟩ else prodV G xs ys (z * numOf a ^ numOf n)
  | _, _, z => textS (lowN G z) G.size
def prodE (G : GP) : List ByteArray → List ByteArray → Int
  | a :: xs, n :: ys => if isEl G.q.m G.size a = false then 7 else if isSc G.q.m G.size n = false then 6 else prodE G xs ys
  | _, _ => 0


set_option maxRecDepth 100000 in
set_option maxHeartbeats 400000 in
theorem product1_long (gb b1 b2 la ln : Nat) (aa an : Option Addr) (ca cn : Nat) (hl : 256 < la ∨ 256 < ln) (w : World)
    (hc1 : Bx w b1 22 [.slice aa la ca]) (hc2 : Bx w b2 22 [.slice an ln cn]) :
    Calls Try.prog 141 #[.pointer (some ⟨gb, 0, none⟩), .pointer (some ⟨b1, 0, none⟩), .pointer (some ⟨b2, 0, none⟩)] w (Ans (.string ⟨#[]⟩) 3 w) := by
  have hk1 := hc1.cell (i := 0) rfl
  have hk2 := hc2.cell (i := 0) rfl
  clear hc1 hc2
  by_cases ha : 256 < la
  · have hd : decide ((la : Int) > 256) = true := by simp; omega
    go_enter Try.func141, Try.ntmps141
    go_wp2_with fail
    go_ret2
    exact ⟨rfl, Below.refl _ _⟩
  · have hd : decide ((la : Int) > 256) = false := by simp; omega
    have hd2 : decide ((ln : Int) > 256) = true := by simp; omega
    go_enter Try.func141, Try.ntmps141
    go_wp2_with fail
    go_ret2
    exact ⟨rfl, Below.refl _ _⟩

set_option maxRecDepth 100000 in
set_option maxHeartbeats 400000 in
theorem product1_form (gb b1 b2 la ln : Nat) (aa an : Option Addr) (ca cn : Nat) (h1 : la ≤ 256) (h2 : ln ≤ 256) (hne : la ≠ ln) (w : World)
    (hc1 : Bx w b1 22 [.slice aa la ca]) (hc2 : Bx w b2 22 [.slice an ln cn]) :
    Calls Try.prog 141 #[.pointer (some ⟨gb, 0, none⟩), .pointer (some ⟨b1, 0, none⟩), .pointer (some ⟨b2, 0, none⟩)] w (Ans (.string ⟨#[]⟩) 2 w) := by
  have hk1 := hc1.cell (i := 0) rfl
  have hk2 := hc2.cell (i := 0) rfl
  clear hc1 hc2
  have hd : decide ((la : Int) > 256) = false := by simp; omega
  have hd2 : decide ((ln : Int) > 256) = false := by simp; omega
  have hd3 : ((la : Int) != (ln : Int)) = true := by rw [bne_iff_ne]; intro h; exact hne (by exact_mod_cast h)
  go_enter Try.func141, Try.ntmps141
  go_wp2_with fail
  go_ret2
  exact ⟨rfl, Below.refl _ _⟩

theorem drop_cons {α : Type} {l : List α} {i : Nat} (h : i < l.length) : l.drop i = l[i] :: l.drop (i + 1) := List.drop_eq_getElem_cons h

set_option maxRecDepth 100000 in
set_option maxHeartbeats 1000000 in
theorem product1_any (G : GP) (ok : G.Ok) (gb b1 b2 L : Nat) (xs ys : List ByteArray) (aa an : Option Addr) (ca cn : Nat) (ha : xs.length = L) (hn : ys.length = L) (hL : L ≤ 256) (w : World) (hG : GroupAt w gb G)
    (hc1 : Bx w b1 22 [.slice aa L ca]) (hc2 : Bx w b2 22 [.slice an L cn]) (hA : Sl w w.heap.size aa (xs.map Value.string)) (hN : Sl w w.heap.size an (ys.map Value.string)) :
    Calls Try.prog 141 #[.pointer (some ⟨gb, 0, none⟩), .pointer (some ⟨b1, 0, none⟩), .pointer (some ⟨b2, 0, none⟩)] w (Ans (.string (prodV G xs ys 1)) (prodE G xs ys) w) := by
  have HLA := Lib.hid ha
  have HLN := Lib.hid hn
  have HC1 := Lib.hid hc1
  have HC2 := Lib.hid hc2
  have HA := Lib.hid hA
  have HNN := Lib.hid hN
  have HG := Lib.hid hG
  have OK := Lib.hid ok
  have hk1 := hc1.cell (i := 0) rfl
  have hk2 := hc2.cell (i := 0) rfl
  clear ha hn hc1 hc2 hA hN hG ok
  have hd : decide ((L : Int) > 256) = false := by simp; omega
  have hd3 : ((L : Int) != (L : Int)) = false := by simp
  go_enter Try.func141, Try.ntmps141
  go_wp2_with fail
  refine (gOne_any G OK.out gb w HG.out).mono ?_
  rintro e w1 ⟨rfl, hb1⟩
  have HB1 := Lib.hid hb1
  clear hb1
  unfold elV limbV
  obtain ⟨w2, hlw, hlb, hlz⟩ := boxL w1 164 ((mont G.p.m 1))
  have HLw2 := Lib.hid hlb
  have HXw2 := Lib.hid hlz
  clear hlb hlz
  have HB2 := Lib.hid (below_up HB1.out HLw2.out)
  have hwb : w.heap.size ≤ w1.heap.size := HB1.out.size
  clear hk1 hk2
  have hk1 := (HC1.out.up HB2.out).cell (i := 0) rfl
  go_wp2_with fail
  go_loopw [7, 8, 9, 10, 30] (fun _ _ _ _ x wr => ∃ i z : Nat, i ≤ L ∧ x = .int .i64 (i : Int) ∧ Hid (Below w.heap.size w wr) ∧ Hid (Blk wr w1.heap.size 164 (lim (mont G.p.m z))) ∧ Hid (prodV G xs ys 1 = prodV G (xs.drop i) (ys.drop i) z) ∧ Hid (prodE G xs ys = prodE G (xs.drop i) (ys.drop i))) (fun _ _ _ _ x _ => L - (intOf x).toNat)
  case atStart => exact ⟨0, 1, Nat.zero_le _, rfl, HB2.out, HXw2.out, rfl, rfl⟩
  case round =>
    obtain ⟨i, z, hi, hxi, HB, HZ, HV, HE⟩ := hrel
    subst hxi
    clear hk1
    have hk1 := (HC1.out.up HB.out).cell (i := 0) rfl
    have hk2 := (HC2.out.up HB.out).cell (i := 0) rfl
    by_cases hiL : i < L
    · obtain ⟨s, hs⟩ : ∃ s, xs[i]'(by rw [HLA.out]; exact hiL) = s := ⟨_, rfl⟩
      obtain ⟨t, ht⟩ : ∃ t, ys[i]'(by rw [HLN.out]; exact hiL) = t := ⟨_, rfl⟩
      obtain ⟨b3, o3, rfl, hb3, hc3⟩ := HA.out.at i (by rw [List.length_map, HLA.out]; exact hiL)
      obtain ⟨b4, o4, rfl, hb4, hc4⟩ := HNN.out.at i (by rw [List.length_map, HLN.out]; exact hiL)
      rw [List.getElem_map, hs] at hc3
      rw [List.getElem_map, ht] at hc4
      have hx3 : wr.cell? ⟨b3, o3 + i, none⟩ = some (.string s) := by rw [HB.out.cell (p := ⟨b3, o3 + i, none⟩) hb3]; exact hc3
      have HC4 := Lib.hid hc4
      have hdx := drop_cons (show i < xs.length by rw [HLA.out]; exact hiL)
      have hdy := drop_cons (show i < ys.length by rw [HLN.out]; exact hiL)
      rw [hs] at hdx
      rw [ht] at hdy
      have HDX := Lib.hid hdx
      have HDY := Lib.hid hdy
      clear hs ht hc3 hc4 hdx hdy
      obtain ⟨ba, hba⟩ : ∃ b, isEl G.q.m G.size s = b := ⟨_, rfl⟩
      obtain ⟨bb, hbb⟩ : ∃ b, isSc G.q.m G.size t = b := ⟨_, rfl⟩
      have HBA := Lib.hid hba
      have HBB := Lib.hid hbb
      clear hba hbb
      go_wp2_with fail
      refine (gElem_m G OK.out gb s ba HBA.out wr (HG.out.up HB.out)).mono ?_
      rintro e w3 ⟨x, rfl, hb3', hx⟩
      have HX := Lib.hid hx
      have HB3 := Lib.hid (below_up HB.out hb3')
      have HZ3 := Lib.hid (HZ.out.below hb3' HZ.out.lt)
      clear hb3' hx hx3 hk1 hk2
      unfold limbV
      obtain ⟨w4, hlw, hlb, hlz⟩ := boxL w3 164 (x)
      have HLw4 := Lib.hid hlb
      have HXw4 := Lib.hid hlz
      clear hlb hlz
      have HB4 := Lib.hid (below_up HB3.out HLw4.out)
      have HZ4 := Lib.hid (HZ3.out.below HLw4.out HZ3.out.lt)
      have hk2 := (HC2.out.up HB4.out).cell (i := 0) rfl
      have hx4 : w4.cell? ⟨b4, o4 + i, none⟩ = some (.string t) := by rw [HB4.out.cell (p := ⟨b4, o4 + i, none⟩) hb4]; exact HC4.out
      cases ba
      · go_wp2_with fail
        go_ret2
        exact ⟨by rw [HV.out, HE.out, HDX.out, HDY.out]; unfold prodV prodE; rw [if_pos HBA.out, if_pos HBA.out]; rfl, HB4.out⟩
      · obtain rfl : x = mont G.p.m (numOf s) := HX.out rfl
        go_wp2_with fail
        refine (gScalar_m G OK.out gb t bb HBB.out w4 (HG.out.up HB4.out)).mono ?_
        rintro e w5 ⟨y, rfl, hb5, hy⟩
        have HY := Lib.hid hy
        have HB5 := Lib.hid (below_up HB4.out hb5)
        have HZ5 := Lib.hid (HZ4.out.below hb5 HZ4.out.lt)
        have HX5 := Lib.hid (HXw4.out.below hb5 HXw4.out.lt)
        clear hb5 hy hx4 hk2 hlw
        unfold limbV
        obtain ⟨w6, hlw, hlb, hlz⟩ := boxL w5 78 (y)
        have HLw6 := Lib.hid hlb
        have HXw6 := Lib.hid hlz
        clear hlb hlz
        have HB6 := Lib.hid (below_up HB5.out HLw6.out)
        have HZ6 := Lib.hid (HZ5.out.below HLw6.out HZ5.out.lt)
        have HX6 := Lib.hid (HX5.out.below HLw6.out HX5.out.lt)
        cases bb
        · go_wp2_with fail
          go_ret2
          exact ⟨by rw [HV.out, HE.out, HDX.out, HDY.out]; unfold prodV prodE; rw [if_neg (by rw [HBA.out]; decide), if_pos HBB.out, if_neg (by rw [HBA.out]; decide), if_pos HBB.out]; rfl, HB6.out⟩
        · obtain rfl : y = mont G.q.m (numOf t) := HY.out rfl
          have HV2 : Hid (prodV G xs ys 1 = prodV G (xs.drop (i + 1)) (ys.drop (i + 1)) (z * numOf s ^ numOf t)) := by
            show _ = _
            rw [HV.out, HDX.out, HDY.out, prodV, if_neg (by rw [HBA.out]; decide), if_neg (by rw [HBB.out]; decide)]
          have HE2 : Hid (prodE G xs ys = prodE G (xs.drop (i + 1)) (ys.drop (i + 1))) := by
            show _ = _
            rw [HE.out, HDX.out, HDY.out, prodE, if_neg (by rw [HBA.out]; decide), if_neg (by rw [HBB.out]; decide)]
          have HM : Hid (numOf t % G.q.m = numOf t) := Nat.mod_eq_of_lt (isSc_lt HBB.out)
          go_wp2_with fail
          have hz_ := Blk.l4 (mont G.p.m z) HZ6.out
          have hx_ := Blk.l4 (mont G.p.m (numOf s)) HX6.out
          have hy_ := Blk.l4 (mont G.q.m (numOf t)) HXw6.out
          have hl1 := HZ6.out.lt
          have hl2 := HX6.out.lt
          have hl3 := HXw6.out.lt
          refine wp_region_otail 7 (by kernel_rfl) (by kernel_rfl) ?_
          simp only [List.take_succ_cons, List.take_zero, List.drop_succ_cons, List.drop_zero]
          have hov1 := fun (E : Over w6) o => E.cell (b := w1.heap.size) o hl1
          have hov2 := fun (E : Over w6) o => E.cell (b := w3.heap.size) o hl2
          have hov3 := fun (E : Over w6) o => E.cell (b := w5.heap.size) o hl3
          have hpow := fun (E : Over w6) => gPower_any G OK.out gb (numOf s) (numOf t) E.w (HG.out.up (below_up HB6.out E.h))
          rw [HM.out] at hpow
          have HPOW := Lib.hid hpow
          clear hpow
          repeat (go_big_quiet_step (first | (go_at_call 117; exact calls_over (HPOW.out _)) | (go_at_call 120; exact calls_over (gTimes_any G OK.out gb z (numOf s ^ numOf t) _ (HG.out.up (below_up HB6.out (Over.h _)))))))
          all_goals (try unfold elV limbV)
          repeat (go_big_quiet_step (first | (go_at_call 117; exact calls_over (HPOW.out _)) | (go_at_call 120; exact calls_over (gTimes_any G OK.out gb z (numOf s ^ numOf t) _ (HG.out.up (below_up HB6.out (Over.h _)))))))
          all_goals (try unfold elV limbV)
          repeat (go_big_quiet_step (first | (go_at_call 117; exact calls_over (HPOW.out _)) | (go_at_call 120; exact calls_over (gTimes_any G OK.out gb z (numOf s ^ numOf t) _ (HG.out.up (below_up HB6.out (Over.h _)))))))
          refine wpQuiet_nil ?_
          rintro _ ⟨E, rfl⟩
          have HZ7 := Lib.hid (HZ6.out.below E.h HZ6.out.lt)
          have HB7 := Lib.hid (below_up HB6.out E.h)
          clear hov1 hov2 hov3 hz_
          generalize E.w = w7 at *
          have hz_ := Blk.l4 (mont G.p.m z) HZ7.out
          have hzf_ := HZ7.out.frozen
          have HB8 : Hid (Below w.heap.size w (((((w7).setCell ⟨w1.heap.size, 0, none⟩ (.int .u64 (dig (mont G.p.m (z * numOf s ^ numOf t)) 0 : Int))).setCell ⟨w1.heap.size, 1, none⟩ (.int .u64 (dig (mont G.p.m (z * numOf s ^ numOf t)) 1 : Int))).setCell ⟨w1.heap.size, 2, none⟩ (.int .u64 (dig (mont G.p.m (z * numOf s ^ numOf t)) 2 : Int))).setCell ⟨w1.heap.size, 3, none⟩ (.int .u64 (dig (mont G.p.m (z * numOf s ^ numOf t)) 3 : Int)))) := below_fill HB7.out hwb
          have HZ8 : Hid (Blk (((((w7).setCell ⟨w1.heap.size, 0, none⟩ (.int .u64 (dig (mont G.p.m (z * numOf s ^ numOf t)) 0 : Int))).setCell ⟨w1.heap.size, 1, none⟩ (.int .u64 (dig (mont G.p.m (z * numOf s ^ numOf t)) 1 : Int))).setCell ⟨w1.heap.size, 2, none⟩ (.int .u64 (dig (mont G.p.m (z * numOf s ^ numOf t)) 2 : Int))).setCell ⟨w1.heap.size, 3, none⟩ (.int .u64 (dig (mont G.p.m (z * numOf s ^ numOf t)) 3 : Int))) w1.heap.size 164 (lim (mont G.p.m (z * numOf s ^ numOf t)))) := HZ7.out.fill rfl _
          go_wp2_with fail
          go_roundw
          case rel => exact ⟨i + 1, z * numOf s ^ numOf t, by omega, by go_num, HB8.out, HZ8.out, HV2.out, HE2.out⟩
          case measure => simp [intOf]; omega
    · have hil : i = L := by omega
      subst hil
      have hz_ := Blk.l4 (mont G.p.m z) HZ.out
      go_wp2_with fail
      refine (gText_any G OK.out gb z wr (HG.out.up HB.out)).mono ?_
      rintro e w3 ⟨rfl, hb3⟩
      have HB3 := Lib.hid (below_up HB.out hb3)
      clear hb3
      go_wp2_with fail
      go_ret2
      refine ⟨?_, HB3.out⟩
      rw [HV.out, HE.out, List.drop_eq_nil_of_le (by rw [HLA.out]; exact Nat.le_refl _)]
      rfl

def proV (G : GP) (xs ys : List ByteArray) : ByteArray := if 256 < xs.length ∨ 256 < ys.length then ⟨#[]⟩ else if xs.length ≠ ys.length then ⟨#[]⟩ else prodV G xs ys 1
def proE (G : GP) (xs ys : List ByteArray) : Int := if 256 < xs.length ∨ 256 < ys.length then 3 else if xs.length ≠ ys.length then 2 else prodE G xs ys

theorem Product_call {k : Nat} (h1 : 1 ≤ k) (h3 : k ≤ 3) {xs ys : List ByteArray} {aa an : Option Addr} {la ln ca cn : Nat} (ha : xs.length = la) (hn : ys.length = ln) {w W0 w1 : World}
    (hA : Sl w w.heap.size aa (xs.map Value.string)) (hN : Sl w w.heap.size an (ys.map Value.string))
    (hz : Below w.heap.size w W0 ∧ Bx W0 w.heap.size 22 [.slice aa la ca] ∧ Bx W0 (w.heap.size + 1) 22 [.slice an ln cn]) (hb : Below W0.heap.size W0 w1) (hg : GroupAt w1 W0.heap.size (grp k)) :
    Calls Try.prog 141 #[.pointer (some ⟨W0.heap.size, 0, none⟩), .pointer (some ⟨w.heap.size, 0, none⟩), .pointer (some ⟨w.heap.size + 1, 0, none⟩)] w1 (Ans (.string (proV (grp k) xs ys)) (proE (grp k) xs ys) w1) := by
  have ok := grp_ok k h1 h3
  have z1 := hz.2.1.up hb
  have z2 := hz.2.2.up hb
  have hu := below_up hz.1 hb
  unfold proV proE
  rw [ha, hn]
  by_cases hl : 256 < la ∨ 256 < ln
  · rw [if_pos hl, if_pos hl]
    exact product1_long _ _ _ la ln aa an ca cn hl w1 z1 z2
  · rw [if_neg hl, if_neg hl]
    by_cases he : la = ln
    · subst he
      rw [if_neg (by simp), if_neg (by simp)]
      exact product1_any _ ok _ _ _ la xs ys aa an ca cn ha hn (by omega) w1 hg z1 z2 (hA.up hu) (hN.up hu)
    · rw [if_pos he, if_pos he]
      exact product1_form _ _ _ la ln aa an ca cn (by omega) (by omega) he w1 z1 z2

set_option maxRecDepth 100000 in
set_option maxHeartbeats 400000 in
theorem Product_none (k : Int) (hk : ¬ (1 ≤ k ∧ k ≤ 3)) (aa an : Option Addr) (la ln ca cn : Nat) (w : World) : Calls Try.prog 106 #[.int .i64 k, .slice aa la ca, .slice an ln cn] w (Ans (.string ⟨#[]⟩) 1 w) := by
  go_enter Try.func106, Try.ntmps106
  go_wp2_with fail
  obtain ⟨W0, hW0⟩ : ∃ W9 : World, ((w.alloc (.cells #[.slice aa la ca] 22)).alloc (.cells #[.slice an ln cn] 22)) = W9 := ⟨_, rfl⟩
  have hz := box2 w (.slice aa la ca) (.slice an ln cn) 22 22
  rw [hW0] at hz
  have HZ := Lib.hid hz
  clear hz
  simp only [hW0]
  clear hW0
  refine (withS_none k hk _ W0).mono ?_
  rintro e w1 ⟨rfl, hb⟩
  have HB := Lib.hid (below_up HZ.out.1 hb)
  clear hb
  go_wp2_with fail
  go_ret2
  exact ⟨rfl, HB.out⟩

set_option maxRecDepth 100000 in
set_option maxHeartbeats 400000 in
theorem Product_some (k : Nat) (h1 : 1 ≤ k) (h3 : k ≤ 3) (xs ys : List ByteArray) (aa an : Option Addr) (la ln ca cn : Nat) (ha : xs.length = la) (hn : ys.length = ln) (w : World)
    (hA : Sl w w.heap.size aa (xs.map Value.string)) (hN : Sl w w.heap.size an (ys.map Value.string)) :
    Calls Try.prog 106 #[.int .i64 (k : Int), .slice aa la ca, .slice an ln cn] w (Ans (.string (proV (grp k) xs ys)) (proE (grp k) xs ys) w) := by
  have HLA := Lib.hid ha
  have HLN := Lib.hid hn
  have HA := Lib.hid hA
  have HN := Lib.hid hN
  clear ha hn hA hN
  go_enter Try.func106, Try.ntmps106
  go_wp2_with fail
  obtain ⟨W0, hW0⟩ : ∃ W9 : World, ((w.alloc (.cells #[.slice aa la ca] 22)).alloc (.cells #[.slice an ln cn] 22)) = W9 := ⟨_, rfl⟩
  have hz := box2 w (.slice aa la ca) (.slice an ln cn) 22 22
  rw [hW0] at hz
  have HZ := Lib.hid hz
  clear hz
  simp only [hW0]
  clear hW0
  refine (withS_some k h1 h3 141 #[.pointer (some ⟨w.heap.size, 0, none⟩), .pointer (some ⟨w.heap.size + 1, 0, none⟩)] (.string (proV (grp k) xs ys)) (proE (grp k) xs ys) (enters_of Try.func141 (by kernel_rfl) rfl) W0 (fun w1 hb hg => Product_call h1 h3 HLA.out HLN.out HA.out HN.out HZ.out hb hg)).mono ?_
  rintro e w2 ⟨rfl, hb2⟩
  have HB2 := Lib.hid (below_up HZ.out.1 hb2)
  clear hb2
  go_wp2_with fail
  go_ret2
  exact ⟨rfl, HB2.out⟩

end Go.Proofs.Ytdlnnkbigeiilaa

/- The package group: Power. No condition. -/
namespace Go.Proofs.Ytdlnnkbigeiilaa
open Go.RowKit

def powV (G : GP) (a n : ByteArray) : ByteArray := if isEl G.q.m G.size a = false then ⟨#[]⟩ else if isSc G.q.m G.size n = false then ⟨#[]⟩ else textS (lowN G (numOf a ^ numOf n)) G.size
def powE (G : GP) (a n : ByteArray) : Int := if isEl G.q.m G.size a = false then 7 else if isSc G.q.m G.size n = false then 6 else 0

theorem powV_eq (G : GP) (a n : ByteArray) : proV G [a] [n] = powV G a n := by
  unfold proV powV
  rw [if_neg (by simp), if_neg (by simp)]
  unfold prodV
  rw [Nat.one_mul]
  rfl
theorem powE_eq (G : GP) (a n : ByteArray) : proE G [a] [n] = powE G a n := by
  unfold proE powE
  rw [if_neg (by simp), if_neg (by simp)]
  rfl

set_option maxRecDepth 100000 in
set_option maxHeartbeats 400000 in
theorem Power_none (k : Int) (hk : ¬ (1 ≤ k ∧ k ≤ 3)) (a n : ByteArray) (w : World) : Calls Try.prog 64 #[.int .i64 k, .string a, .string n] w (Ans (.string ⟨#[]⟩) 1 w) := by
  go_enter Try.func64, Try.ntmps64
  go_wp2_with fail
  have hz := (box2 w (.string a) (.string n) 9 9).1
  refine (Product_none k hk _ _ 1 1 1 1 _).mono ?_
  rintro e w1 ⟨rfl, hb⟩
  have HB := Lib.hid (below_up hz hb)
  clear hb hz
  go_wp2_with fail
  go_ret2
  exact ⟨rfl, HB.out⟩

theorem Sl.of_bx {W : World} {b : Nat} {t : TypeId} {cs : List Value} (h : Bx W b t cs) : Sl W W.heap.size (some ⟨b, 0, none⟩) cs := by
  have h1 := Sl.of_block h
  simpa using h1

set_option maxRecDepth 100000 in
set_option maxHeartbeats 400000 in
theorem Power_some (k : Nat) (h1 : 1 ≤ k) (h3 : k ≤ 3) (a n : ByteArray) (w : World) : Calls Try.prog 64 #[.int .i64 (k : Int), .string a, .string n] w (Ans (.string (powV (grp k) a n)) (powE (grp k) a n) w) := by
  go_enter Try.func64, Try.ntmps64
  go_wp2_with fail
  have hz := box2 w (.string a) (.string n) 9 9
  have hp := Product_some k h1 h3 [a] [n] (some ⟨w.heap.size, 0, none⟩) (some ⟨w.heap.size + 1, 0, none⟩) 1 1 1 1 rfl rfl _ (Sl.of_bx hz.2.1) (Sl.of_bx hz.2.2)
  rw [powV_eq, powE_eq] at hp
  refine hp.mono ?_
  rintro e w1 ⟨rfl, hb⟩
  have HB := Lib.hid (below_up hz.1 hb)
  clear hb hz hp
  go_wp2_with fail
  go_ret2
  exact ⟨rfl, HB.out⟩

end Go.Proofs.Ytdlnnkbigeiilaa

/- The group's numbers, in plain words: the lower of a number and its opposite. No condition. -/
namespace Go.Proofs.Ytdlnnkbigeiilaa

theorem grp_prime_q (k : Nat) (h1 : 1 ≤ k) (h3 : k ≤ 3) : IsPrime (grp k).q.m := by
  obtain rfl | rfl | rfl : k = 1 ∨ k = 2 ∨ k = 3 := by omega
  · exact prime_q1
  · exact prime_q2
  · exact prime_q3
theorem grp_prime_p (k : Nat) (h1 : 1 ≤ k) (h3 : k ≤ 3) : IsPrime (grp k).p.m := by
  obtain rfl | rfl | rfl : k = 1 ∨ k = 2 ∨ k = 3 := by omega
  · exact prime_p1
  · exact prime_p2
  · exact prime_p3

/-- Two numbers are one or opposite, modulo p. -/
def PM (p x y : Nat) : Prop := (p : Int) ∣ (x : Int) - y ∨ (p : Int) ∣ (x : Int) + y

theorem PM.refl (p x : Nat) : PM p x x := Or.inl ⟨0, by omega⟩
theorem PM.of_mod {p x y : Nat} (h : x % p = y % p) : PM p x y := Or.inl (by
  have h1 := Nat.div_add_mod x p
  have h2 := Nat.div_add_mod y p
  refine ⟨(x / p : Nat) - (y / p : Nat), ?_⟩
  have e1 : (x : Int) = p * (x / p : Nat) + (x % p : Nat) := by exact_mod_cast h1.symm
  have e2 : (y : Int) = p * (y / p : Nat) + (y % p : Nat) := by exact_mod_cast h2.symm
  rw [e1, e2, h]
  generalize ((x / p : Nat) : Int) = a
  generalize ((y / p : Nat) : Int) = b
  grind)
theorem PM.symm {p x y : Nat} (h : PM p x y) : PM p y x := by
  rcases h with ⟨c, h⟩ | ⟨c, h⟩
  · exact Or.inl ⟨-c, by grind⟩
  · exact Or.inr ⟨c, by grind⟩
theorem PM.trans {p x y z : Nat} (h : PM p x y) (g : PM p y z) : PM p x z := by
  rcases h with ⟨c, h⟩ | ⟨c, h⟩ <;> rcases g with ⟨d, g⟩ | ⟨d, g⟩
  · exact Or.inl ⟨c + d, by grind⟩
  · exact Or.inr ⟨c + d, by grind⟩
  · exact Or.inr ⟨c - d, by grind⟩
  · exact Or.inl ⟨c - d, by grind⟩
theorem PM.mul {p x y u v : Nat} (h : PM p x y) (g : PM p u v) : PM p (x * u) (y * v) := by
  have e1 : ((x * u : Nat) : Int) = x * u := by simp
  have e2 : ((y * v : Nat) : Int) = y * v := by simp
  unfold PM
  rw [e1, e2]
  rcases h with ⟨c, h⟩ | ⟨c, h⟩ <;> rcases g with ⟨d, g⟩ | ⟨d, g⟩
  · exact Or.inl ⟨c * u + y * d, by grind⟩
  · exact Or.inr ⟨c * u + y * d, by grind⟩
  · exact Or.inr ⟨c * u - y * d, by grind⟩
  · exact Or.inl ⟨c * u - y * d, by grind⟩
theorem PM.pow {p x y : Nat} (h : PM p x y) : ∀ n : Nat, PM p (x ^ n) (y ^ n)
  | 0 => PM.refl _ _
  | n + 1 => by rw [Nat.pow_succ, Nat.pow_succ]; exact PM.mul (PM.pow h n) h
theorem PM.mod (p x : Nat) : PM p (x % p) x := PM.of_mod (Nat.mod_mod _ _)

theorem lowR_pm (q p x : Nat) (hx : x < p) : PM p (lowR q p x) x := by
  unfold lowR
  split
  · exact Or.inr ⟨1, by omega⟩
  · exact PM.refl _ _
theorem lowR_leq {q p x : Nat} (hp : p = 2 * q + 1) (hx : x < p) : lowR q p x ≤ q := by
  unfold lowR
  split <;> omega
theorem lowR_fix {q p x : Nat} (hx : x ≤ q) : lowR q p x = x := by
  unfold lowR
  rw [if_neg (by omega)]
theorem lowR_pos {q p x : Nat} (hx : x < p) (h0 : 0 < x) : 0 < lowR q p x := by
  unfold lowR
  split <;> omega

/-- Low numbers that are one or opposite are one. -/
theorem low_unique {q p x y : Nat} (hp : p = 2 * q + 1) (hx : x ≤ q) (hy : y ≤ q) (h : PM p x y) : x = y := by
  rcases h with h | h
  · have := Int.eq_zero_of_dvd_of_natAbs_lt_natAbs h (by omega)
    omega
  · have := Int.eq_zero_of_dvd_of_natAbs_lt_natAbs h (by omega)
    omega

theorem low_eq {q p x y : Nat} (hq : 0 < q) (hp : p = 2 * q + 1) (h : PM p x y) : lowR q p (x % p) = lowR q p (y % p) := by
  have hx := Nat.mod_lt x (show 0 < p by omega)
  have hy := Nat.mod_lt y (show 0 < p by omega)
  exact low_unique hp (lowR_leq hp hx) (lowR_leq hp hy) ((((lowR_pm q p _ hx).trans (PM.mod p x)).trans h).trans (((lowR_pm q p _ hy).trans (PM.mod p y)).symm))

theorem pm_low {q p : Nat} (hp : 0 < p) (x : Nat) : PM p (lowR q p (x % p)) x := (lowR_pm q p _ (Nat.mod_lt x hp)).trans (PM.mod p x)

/-- Fermat and Euler: a to the q is 1 or its opposite. -/
theorem pm_euler {q p a : Nat} (hpp : IsPrime p) (hp : p = 2 * q + 1) (h0 : 0 < a) (ha : a < p) : PM p (a ^ q) 1 := by
  have hnd : ¬ p ∣ a := fun h => by have := Nat.le_of_dvd h0 h; omega
  have hf := fermat hpp hnd
  rw [show p - 1 = q * 2 by omega, Nat.pow_mul] at hf
  obtain ⟨b, hb⟩ : ∃ b, a ^ q = b := ⟨_, rfl⟩
  rw [hb] at hf ⊢
  have hb0 : 0 < b := by rw [← hb]; exact Nat.pow_pos h0
  have h2 : p ∣ b ^ 2 - 1 := (mod_eq_iff_dvd_sub (Nat.pow_pos hb0)).1 hf
  have h3 : b ^ 2 - 1 = (b - 1) * (b + 1) := by
    obtain ⟨c, rfl⟩ : ∃ c, b = c + 1 := ⟨b - 1, by omega⟩
    rw [Nat.add_sub_cancel, Nat.pow_two]
    have : (c + 1) * (c + 1) = c * (c + 1 + 1) + 1 := by grind
    omega
  rw [h3] at h2
  rcases hpp.dvd_mul h2 with ⟨c, h⟩ | ⟨c, h⟩
  · refine Or.inl ⟨c, ?_⟩
    have : ((b - 1 : Nat) : Int) = p * c := by rw [h]; simp
    omega
  · refine Or.inr ⟨c, ?_⟩
    have : ((b + 1 : Nat) : Int) = p * c := by rw [h]; simp
    omega

theorem under_low {q p a : Nat} (hpp : IsPrime p) (hp : p = 2 * q + 1) (hq : 0 < q) (h0 : 0 < a) (ha : a ≤ q) : lowR q p (a ^ (p - 2) % p) = lowR q p (a ^ (q - 1) % p) := by
  refine low_eq hq hp ?_
  rw [show p - 2 = q + (q - 1) by omega, Nat.pow_add]
  have h := PM.mul (pm_euler hpp hp h0 (by omega)) (PM.refl p (a ^ (q - 1)))
  rwa [Nat.one_mul] at h

theorem low_mul {q p : Nat} (hq : 0 < q) (hp : p = 2 * q + 1) (x y : Nat) : lowR q p (lowR q p (x % p) * lowR q p (y % p) % p) = lowR q p (x * y % p) :=
  low_eq hq hp (PM.mul (pm_low (by omega) x) (pm_low (by omega) y))

end Go.Proofs.Ytdlnnkbigeiilaa

/- Numbers in so many bytes, there and back; the group's faces on such texts. No condition. -/
namespace Go.Proofs.Ytdlnnkbigeiilaa
open Go.RowKit

theorem numL_inj : ∀ l m : List UInt8, l.length = m.length → numL l = numL m → l = m
  | [], [], _, _ => rfl
  | [], _ :: _, h, _ => by simp at h
  | _ :: _, [], h, _ => by simp at h
  | a :: l, b :: m, h, e => by
    have hl : l.length = m.length := by simpa using h
    have h1 := numL_lt l
    have h2 := numL_lt m
    simp only [numL] at e
    rw [hl] at e h1
    have hP : 0 < 256 ^ m.length := Nat.pow_pos (by decide)
    have hd := congrArg (· / 256 ^ m.length) e
    have hm := congrArg (· % 256 ^ m.length) e
    simp only [Nat.mul_comm _ (256 ^ m.length), Nat.mul_add_div hP, Nat.mul_add_mod, Nat.div_eq_of_lt h1, Nat.div_eq_of_lt h2, Nat.mod_eq_of_lt h1, Nat.mod_eq_of_lt h2, Nat.add_zero] at hd hm
    rw [numL_inj l m hl hm, UInt8.toNat_inj.1 hd]

theorem numOf_inj {s t : ByteArray} (h : s.size = t.size) (e : numOf s = numOf t) : s = t := by
  have h1 := numL_inj s.data.toList t.data.toList (by simpa using h) e
  cases s; cases t
  simp at h1
  rw [h1]

theorem text_numOf (s : ByteArray) : textS (numOf s) s.size = s := by
  refine numOf_inj (textS_size _ _) ?_
  rw [numOf_textS]
  exact Nat.mod_eq_of_lt (by have := numL_lt s.data.toList; simpa [numOf] using this)

/-- A number as a text of the group. -/
def T (G : GP) (n : Nat) : ByteArray := textS n G.size

theorem T_size (G : GP) (n : Nat) : (T G n).size = G.size := textS_size _ _
theorem T_num {G : GP} (_ok : G.Ok) {n : Nat} (h : n ≤ G.q.m) (hne : G.q.m < 256 ^ G.size) : numOf (T G n) = n := by
  unfold T
  rw [numOf_textS]
  exact Nat.mod_eq_of_lt (by omega)

theorem T_of {G : GP} {s : ByteArray} (h : s.size = G.size) : s = T G (numOf s) := by
  unfold T
  rw [← h]
  exact (text_numOf s).symm

theorem T_sc {G : GP} (ok : G.Ok) (hne : G.q.m < 256 ^ G.size) {n : Nat} (h : n < G.q.m) : isSc G.q.m G.size (T G n) = true := by
  unfold isSc
  rw [T_size, T_num ok (Nat.le_of_lt h) hne]
  simp [h]
theorem T_el {G : GP} (ok : G.Ok) (hne : G.q.m < 256 ^ G.size) {n : Nat} (h0 : 0 < n) (h : n ≤ G.q.m) : isEl G.q.m G.size (T G n) = true := by
  unfold isEl
  rw [T_size, T_num ok h hne]
  simp [h, h0]

theorem grp_fits (k : Nat) (h1 : 1 ≤ k) (h3 : k ≤ 3) : (grp k).q.m < 256 ^ (grp k).size := by
  obtain rfl | rfl | rfl : k = 1 ∨ k = 2 ∨ k = 3 := by omega
  all_goals decide


theorem recV_t {k : Nat} (h1 : 1 ≤ k) (h3 : k ≤ 3) {x y z r : Nat} (hx : x < (grp k).q.m) (hy : y < (grp k).q.m) (hr : z % (grp k).q.m = r) : recV (grp k) (T (grp k) x) (T (grp k) y) z = T (grp k) r := by
  unfold recV
  rw [T_sc (grp_ok k h1 h3) (grp_fits k h1 h3) hx, T_sc (grp_ok k h1 h3) (grp_fits k h1 h3) hy, hr]
  rfl
theorem recE_t {k : Nat} (h1 : 1 ≤ k) (h3 : k ≤ 3) {x y : Nat} (hx : x < (grp k).q.m) (hy : y < (grp k).q.m) : recE (grp k) (T (grp k) x) (T (grp k) y) = 0 := by
  unfold recE
  rw [T_sc (grp_ok k h1 h3) (grp_fits k h1 h3) hx, T_sc (grp_ok k h1 h3) (grp_fits k h1 h3) hy]
  rfl

theorem scal_t (k : Nat) (h1 : 1 ≤ k) (h3 : k ≤ 3) (x : Nat) (hx : x < (grp k).q.m) (w : World) : Calls Try.prog 61 #[.int .i64 (k : Int), .string (T (grp k) x)] w fun e w' => e = .returned (.bool true) ∧ Below w.heap.size w w' := by
  have h9 := Scalar_some k h1 h3 (T (grp k) x) w
  rwa [T_sc (grp_ok k h1 h3) (grp_fits k h1 h3) hx] at h9

end Go.Proofs.Ytdlnnkbigeiilaa

/- The group's faces on texts of elements; what powers of elements are. No condition. -/
namespace Go.Proofs.Ytdlnnkbigeiilaa
open Go.RowKit

/-- The element that a number stands for. -/
def Lw (q p v : Nat) : Nat := lowR q p (v % p)

section
variable {q p : Nat} (hq : 0 < q) (hp : p = 2 * q + 1)
include hq hp
theorem Lw_eq {x y : Nat} (h : PM p x y) : Lw q p x = Lw q p y := low_eq hq hp h
omit hq in
theorem Lw_pm (x : Nat) : PM p (Lw q p x) x := pm_low (by omega) x
omit hq in
theorem Lw_le (x : Nat) : Lw q p x ≤ q := lowR_leq hp (Nat.mod_lt _ (by omega))
omit hq in
theorem Lw_fix {x : Nat} (h : x ≤ q) : Lw q p x = x := by
  unfold Lw
  rw [Nat.mod_eq_of_lt (by omega), lowR_fix h]
omit hq in
theorem Lw_pos {x : Nat} (h : ¬ p ∣ x) : 0 < Lw q p x := by
  unfold Lw
  refine lowR_pos (Nat.mod_lt _ (by omega)) ?_
  rcases Nat.eq_zero_or_pos (x % p) with h0 | h0
  · exact absurd (Nat.dvd_of_mod_eq_zero h0) h
  · exact h0
end

theorem IsPrime.not_dvd_mul {p a b : Nat} (hp : IsPrime p) (ha : ¬ p ∣ a) (hb : ¬ p ∣ b) : ¬ p ∣ a * b := fun h => (hp.dvd_mul h).elim ha hb
theorem IsPrime.not_dvd_pow {p a : Nat} (hp : IsPrime p) (ha : ¬ p ∣ a) : ∀ n, ¬ p ∣ a ^ n
  | 0 => fun h => by rw [Nat.pow_zero] at h; have := Nat.le_of_dvd (by decide) h; have := hp.1; omega
  | n + 1 => by rw [Nat.pow_succ]; exact hp.not_dvd_mul (IsPrime.not_dvd_pow hp ha n) ha
theorem not_dvd_small {p a : Nat} (h0 : 0 < a) (h : a < p) : ¬ p ∣ a := fun hd => by have := Nat.le_of_dvd h0 hd; omega

/-- Powers of an element go by the order. -/
theorem pm_pow_mod {q p a : Nat} (hpp : IsPrime p) (hp : p = 2 * q + 1) (h0 : 0 < a) (ha : a < p) (n : Nat) : PM p (a ^ (n % q)) (a ^ n) := by
  have h1 : a ^ n = a ^ (n % q) * (a ^ q) ^ (n / q) := by
    rw [← Nat.pow_mul, ← Nat.pow_add, Nat.mod_add_div]
  rw [h1]
  have h2 := PM.mul (PM.refl p (a ^ (n % q))) ((pm_euler hpp hp h0 ha).pow (n / q))
  rw [Nat.one_pow, Nat.mul_one] at h2
  exact h2.symm

theorem memb_t (k : Nat) (h1 : 1 ≤ k) (h3 : k ≤ 3) (x : Nat) (h0 : 0 < x) (hx : x ≤ (grp k).q.m) (w : World) : Calls Try.prog 63 #[.int .i64 (k : Int), .string (T (grp k) x)] w fun e w' => e = .returned (.bool true) ∧ Below w.heap.size w w' := by
  have h9 := Member_some k h1 h3 (T (grp k) x) w
  rwa [T_el (grp_ok k h1 h3) (grp_fits k h1 h3) h0 hx] at h9

theorem timV_t {k : Nat} (h1 : 1 ≤ k) (h3 : k ≤ 3) {x y r : Nat} (h0 : 0 < x) (hx : x ≤ (grp k).q.m) (g0 : 0 < y) (hy : y ≤ (grp k).q.m) (hr : Lw (grp k).q.m (grp k).p.m (x * y) = r) : timV (grp k) (T (grp k) x) (T (grp k) y) = T (grp k) r ∧ timE (grp k) (T (grp k) x) (T (grp k) y) = 0 := by
  unfold timV timE
  rw [T_el (grp_ok k h1 h3) (grp_fits k h1 h3) h0 hx, T_el (grp_ok k h1 h3) (grp_fits k h1 h3) g0 hy, T_num (grp_ok k h1 h3) hx (grp_fits k h1 h3), T_num (grp_ok k h1 h3) hy (grp_fits k h1 h3)]
  exact ⟨congrArg (textS · _) hr, rfl⟩
theorem powV_t {k : Nat} (h1 : 1 ≤ k) (h3 : k ≤ 3) {x n r : Nat} (h0 : 0 < x) (hx : x ≤ (grp k).q.m) (hn : n < (grp k).q.m) (hr : Lw (grp k).q.m (grp k).p.m (x ^ n) = r) : powV (grp k) (T (grp k) x) (T (grp k) n) = T (grp k) r ∧ powE (grp k) (T (grp k) x) (T (grp k) n) = 0 := by
  unfold powV powE
  rw [T_el (grp_ok k h1 h3) (grp_fits k h1 h3) h0 hx, T_sc (grp_ok k h1 h3) (grp_fits k h1 h3) hn, T_num (grp_ok k h1 h3) hx (grp_fits k h1 h3), T_num (grp_ok k h1 h3) (Nat.le_of_lt hn) (grp_fits k h1 h3)]
  exact ⟨congrArg (textS · _) hr, rfl⟩

theorem power_t (k : Nat) (h1 : 1 ≤ k) (h3 : k ≤ 3) (x n r : Nat) (h0 : 0 < x) (hx : x ≤ (grp k).q.m) (hn : n < (grp k).q.m) (hr : Lw (grp k).q.m (grp k).p.m (x ^ n) = r) (w : World) : Calls Try.prog 64 #[.int .i64 (k : Int), .string (T (grp k) x), .string (T (grp k) n)] w (Ans (.string (T (grp k) r)) 0 w) := by
  have h9 := Power_some k h1 h3 (T (grp k) x) (T (grp k) n) w
  obtain ⟨e1, e2⟩ := powV_t h1 h3 h0 hx hn hr
  rwa [e1, e2] at h9
end Go.Proofs.Ytdlnnkbigeiilaa

/- The document's group as a value: its contracts in short; what low numbers do. No condition. -/
namespace Go.Proofs.Ytdlnnkbigeiilaa
open Go.RowKit

section
variable {G : GP}
theorem lowN_eq (ok : G.Ok) {x y : Nat} (h : PM G.p.m x y) : lowN G x = lowN G y := low_eq ok.q.pos ok.twice h
theorem lowN_pm (ok : G.Ok) (x : Nat) : PM G.p.m (lowN G x) x := Lw_pm ok.twice x
theorem lowN_le (ok : G.Ok) (x : Nat) : lowN G x ≤ G.q.m := Lw_le ok.twice x
theorem lowN_16 (ok : G.Ok) (x : Nat) : lowN G x < DD ^ 16 := Nat.lt_of_le_of_lt (lowN_le ok x) ok.q.lt4
theorem lowN_mul (ok : G.Ok) (x y : Nat) : lowN G (lowN G x * lowN G y) = lowN G (x * y) := lowN_eq ok (PM.mul (lowN_pm ok x) (lowN_pm ok y))
theorem lowN_mulL (ok : G.Ok) (x y : Nat) : lowN G (lowN G x * y) = lowN G (x * y) := lowN_eq ok (PM.mul (lowN_pm ok x) (PM.refl _ y))
theorem lowN_mulR (ok : G.Ok) (x y : Nat) : lowN G (x * lowN G y) = lowN G (x * y) := lowN_eq ok (PM.mul (PM.refl _ x) (lowN_pm ok y))
theorem lowN_pow (ok : G.Ok) (x n : Nat) : lowN G (lowN G x ^ n) = lowN G (x ^ n) := lowN_eq ok (PM.pow (lowN_pm ok x) n)
theorem lowN_fix (ok : G.Ok) {x : Nat} (h : x ≤ G.q.m) : lowN G x = x := Lw_fix ok.twice h

/-- The document's group lies in memory. -/
structure RG (W : World) (G : GP) (aq ap : Option Addr) : Prop where
  q : NumAt W aq G.q.m
  p : NumAt W ap G.p.m
theorem RG.up {W W' : World} {aq ap : Option Addr} (h : RG W G aq ap) (hb : Below W.heap.size W W') : RG W' G aq ap := ⟨h.q.up hb, h.p.up hb⟩

theorem q_dl (ok : G.Ok) {n : Nat} (h : n ≤ G.q.m) : dl n ≤ 65536 := Nat.le_trans (dl_of_lt n 16 (Nat.lt_of_le_of_lt h ok.q.lt4)) (by decide)

variable {aq ap : Option Addr} {cq cp : Nat}

theorem rText (ok : G.Ok) {n : Nat} {an : Option Addr} {cn : Nat} (hn : n < DD ^ 16) (w : World) (hN : NumAt w an n) :
    Calls Try.prog 18 #[.slice an (dl n) cn, .int .i64 (G.size : Int)] w fun e w' => e = .returned (.string (textS n G.size)) ∧ Below w.heap.size w w' :=
  refText_any n G.size an cn (small_dl n hn) (by have := ok.size_le; omega) w hN
end

end Go.Proofs.Ytdlnnkbigeiilaa

/- Small facts that many texts use: of all members of a list, of texts' lengths, of the document's Text. No condition. -/
namespace Go.Proofs.Ytdlnnkbigeiilaa
open Go.RowKit

/-- A call that answers v and only makes memory. -/
def Gives (v : Value) (w : World) (e : Ending) (w' : World) : Prop := e = .returned v ∧ Below w.heap.size w w'

theorem all_take_true {α : Type} {f : α → Bool} {l : List α} (h : (l.take l.length).all f = true) : l.all f = true := by rwa [List.take_length] at h
theorem all_not {α : Type} {f : α → Bool} {l : List α} {i : Nat} (hi : i < l.length) (h : f l[i] = false) : l.all f = false := by
  rw [List.all_eq_false]
  exact ⟨l[i], List.getElem_mem hi, by simp [h]⟩
theorem all_snoc {α : Type} {f : α → Bool} {l : List α} {i : Nat} (hi : i < l.length) (ht : (l.take i).all f = true) (h : f l[i] = true) : (l.take (i + 1)).all f = true := by
  rw [List.take_succ_eq_append_getElem hi, List.all_append, ht]
  simp [h]

section
variable {G : GP}
theorem rText2 (ok : G.Ok) {x : Nat} {an : Option Addr} {cn : Nat} (w : World) (hN : NumAt w an (lowN G x)) :
    Calls Try.prog 18 #[.slice an (dl (lowN G x)) cn, .int .i64 (G.size : Int)] w fun e w' => e = .returned (.string (textS (lowN G x) G.size)) ∧ Below w.heap.size w w' :=
  rText ok (lowN_16 ok x) w hN
theorem isEl_size {q n : Nat} {s : ByteArray} (h : isEl q n s = true) : s.size = n := by
  unfold isEl at h
  simp only [Bool.and_eq_true, decide_eq_true_eq] at h
  exact h.1.1
theorem isSc_size {q n : Nat} {s : ByteArray} (h : isSc q n s = true) : s.size = n := by
  unfold isSc at h
  simp only [Bool.and_eq_true, decide_eq_true_eq] at h
  exact h.1
end
end Go.Proofs.Ytdlnnkbigeiilaa

/- Blocks and Head of the package board. Conditions: sizes of what came in. -/
namespace Go.Proofs.Ytdlnnkbigeiilaa
open Go.RowKit

set_option maxHeartbeats 1000000 in
theorem good7_any (lo hi size : Int) (w : World) : Calls Try.prog 43 #[.int .i64 lo, .int .i64 hi, .int .i64 size] w fun e w' => e = .returned (.bool (decide (0 ≤ lo ∧ lo ≤ hi ∧ hi ≤ size))) ∧ w' = w := by
  by_cases h1 : 0 ≤ lo <;> by_cases h2 : lo ≤ hi <;> by_cases h3 : hi ≤ size <;>
    (go_enter Try.func43, Try.ntmps43
     go_wp2
     go_ret
     exact ⟨ret_bool (by simp [h1, h2, h3]), rfl⟩)

set_option maxRecDepth 100000 in
set_option maxHeartbeats 1000000 in
theorem four7_any (n : Nat) (hn : n < 9223372036854775808) (w : World) : Calls Try.prog 97 #[.int .i64 (n : Int)] w (Gives (.string (fourS n)) w) := by
  have hn0 : (0 : Int) ≤ (n : Int) := by omega
  unfold Gives
  go_enter Try.func97, Try.ntmps97
  obtain ⟨w1, hq1, hb9, hz9, Hr⟩ := new1 w 5 [.int .u8 ((n : Int) / 16777216 % 256), .int .u8 ((n : Int) / 65536 % 256), .int .u8 ((n : Int) / 256 % 256), .int .u8 ((n : Int) % 256)]
  have HB := Lib.hid hb9
  have HZS := hz9
  clear hb9 hz9
  have r_ := Hr.out.c4
  have hcv := run_convert_bytes_arg (P := Try.prog) w1 82 5 Try.underlying82 Try.underlying5 w.heap.size 0 4 4 [(n : Int) / 16777216 % 256, (n : Int) / 65536 % 256, (n : Int) / 256 % 256, (n : Int) % 256] rfl (fun i hi => by
    rcases (show i = 0 ∨ i = 1 ∨ i = 2 ∨ i = 3 by omega) with rfl | rfl | rfl | rfl
    · exact Hr.out.cell (i := 0) rfl
    · exact Hr.out.cell (i := 1) rfl
    · exact Hr.out.cell (i := 2) rfl
    · exact Hr.out.cell (i := 3) rfl) 9 Try.underlying9
  go_wp2_with fail
  clear hq1
  go_ret
  exact ⟨rfl, HB.out⟩

theorem count_any (lo hi : Nat) (hlo : lo ≤ hi) (hhi : hi ≤ 1048576) (w : World) : Calls Try.prog 44 #[.int .i64 (lo : Int), .int .i64 (hi : Int)] w (Gives (.int .i64 ((cover lo hi).length : Int)) w) := by
  unfold Gives
  go_enter Try.func44, Try.ntmps44
  go_wp2_with fail
  refine (blocks_any lo hi w).mono ?_
  rintro e w2 ⟨rfl, hw2⟩
  have hb1 : Boxed w2 w.heap.size 3 (.int .i64 lo) := by rw [hw2]; exact (Boxed.new w _ _).alloc _
  have hb2 : Boxed w2 (w.heap.size + 1) 3 (.int .i64 hi) := by
    rw [hw2]
    have h := Boxed.new (w.alloc (.cells #[.int .i64 lo] 3)) 3 (.int .i64 hi)
    rwa [World.size_alloc] at h
  have hbl : Below w.heap.size w w2 := by rw [hw2]; exact ((Below.refl _ _).alloc (Nat.le_refl _) _).alloc (by simp) _
  have HB1 := Lib.hid hb1
  have HB2 := Lib.hid hb2
  have HBL := Lib.hid hbl
  clear hb1 hb2 hbl hw2
  go_wp2_with fail
  refine (collect_any w.heap.size w.heap.size (w.heap.size + 1) lo hi hlo hhi w2 HB1.out HB2.out (by omega) (Nat.le_refl _)).mono ?_
  rintro e w3 ⟨v, rfl, hr, hb⟩
  obtain ⟨x, c, rfl⟩ := RowO.form hr
  have HB := Lib.hid (HBL.out.trans hb)
  clear hr hb
  go_wp2_with fail
  go_ret
  exact ⟨rfl, HB.out⟩

/-- Is one of these no digest? -/
def shortB (l : List ByteArray) : Bool := l.any fun x => decide (x.size ≠ 32)
theorem short1_any (x : ByteArray) (b : Bool) (hb : decide (x.size ≠ 32) = b) (w : World) : Calls Try.prog 93 #[.string x] w fun e w' => e = .returned (.bool b) ∧ Below w.heap.size w w' := by
  by_cases h : x.size = 32
  · obtain rfl : b = false := by rw [← hb]; simp [h]
    have hd : ((x.size : Int) != 32) = false := by simp; omega
    clear hb h
    go_enter Try.func93, Try.ntmps93
    go_wp2_with fail
    go_ret
    exact ⟨rfl, Below.refl _ _⟩
  · obtain rfl : b = true := by rw [← hb]; simp [h]
    have hd : ((x.size : Int) != 32) = true := by simp; omega
    clear hb h
    go_enter Try.func93, Try.ntmps93
    go_wp2_with fail
    go_ret
    exact ⟨rfl, Below.refl _ _⟩
theorem any_snoc7 {l : List ByteArray} {f : ByteArray → Bool} {j : Nat} (hj : j < l.length) (h : (l.take j).any f = false) (h1 : f l[j] = false) : (l.take (j + 1)).any f = false := by
  rw [List.take_succ_eq_append_getElem hj, List.any_append, h]; simp [h1]
theorem any_here7 {l : List ByteArray} {f : ByteArray → Bool} {j : Nat} (hj : j < l.length) (h1 : f l[j] = true) : l.any f = true := List.any_eq_true.2 ⟨_, List.getElem_mem hj, h1⟩
set_option maxRecDepth 100000 in
set_option maxHeartbeats 1000000 in
theorem idx7_any (l : List ByteArray) (n : Nat) (hn : l.length = n) (hl : n ≤ 1152921504606846976) (a : Option Addr) (c : Nat) (w : World) (hX : Sl w w.heap.size a (l.map Value.string)) :
    Calls Try.prog 133 #[.slice a n c, .func (.func 93) #[] #[]] w fun e w' => ∃ z : Int, e = .returned (.int .i64 z) ∧ decide (z ≥ 0) = shortB l ∧ Below w.heap.size w w' := by
  have HX := Lib.hid hX
  have HN := Lib.hid hn
  clear hX hn
  go_enter Try.func133, Try.ntmps133
  go_wp2_with fail
  go_loopw [8] (fun i wr => ∃ j : Nat, j ≤ n ∧ i = .int .i64 j ∧ Hid (Below w.heap.size w wr) ∧ Hid ((l.take j).any (fun x => decide (x.size ≠ 32)) = false)) (fun i _ => n - (intOf i).toNat)
  case atStart => exact ⟨0, Nat.zero_le _, rfl, Below.refl _ _, rfl⟩
  case round =>
    obtain ⟨j, hj, rfl, HB, HAL⟩ := hrel
    by_cases hjn : j < n
    · have hjl : j < l.length := by rw [HN.out]; exact hjn
      obtain ⟨bl, ol, rfl, hbl, hc⟩ := (HX.out.up HB.out).at j (by rw [List.length_map]; exact hjl)
      rw [List.getElem_map] at hc
      obtain ⟨bj, hbj⟩ : ∃ x, decide (l[j].size ≠ 32) = x := ⟨_, rfl⟩
      have HBJ := Lib.hid hbj
      clear hbj
      go_wp2_with fail
      refine (short1_any l[j] bj HBJ.out wr).mono ?_
      rintro e w1 ⟨rfl, hb9⟩
      replace HB := hbu HB hb9
      have HZS := Lib.hid hb9.size
      clear hb9
      cases bj
      · go_wp2_with fail
        go_roundw
        case rel => exact ⟨j + 1, hjn, by go_num, HB, any_snoc7 hjl HAL.out HBJ.out⟩
        case measure => simp [intOf]; omega
      · go_wp2_with fail
        go_ret
        exact ⟨j, rfl, by unfold shortB; rw [any_here7 hjl HBJ.out]; simp, HB.out⟩
    · have hjn : j = n := by omega
      subst hjn
      go_wp2_with fail
      go_ret
      rw [List.take_of_length_le (by rw [HN.out]; exact Nat.le_refl _)] at HAL
      exact ⟨-1, rfl, by unfold shortB; rw [HAL.out]; rfl, HB.out⟩
set_option maxRecDepth 100000 in
set_option maxHeartbeats 1000000 in
theorem short_any (l : List ByteArray) (n : Nat) (hn : l.length = n) (hl : n ≤ 1152921504606846976) (a : Option Addr) (c : Nat) (w : World) (hX : Sl w w.heap.size a (l.map Value.string)) :
    Calls Try.prog 45 #[.slice a n c] w (Gives (.bool (shortB l)) w) := by
  have H1 : Calls Try.prog 92 #[.slice a n c, .func (.func 93) #[] #[]] w fun e w' => e = .returned (.bool (shortB l)) ∧ Below w.heap.size w w' := by
    have HI := Lib.hid (idx7_any l n hn hl a c w hX)
    generalize shortB l = b at *
    clear hn hX
    go_enter Try.func92, Try.ntmps92
    go_wp2_with fail
    refine (HI.out).mono ?_
    rintro e w1 ⟨z, rfl, hz, hb9⟩
    have HB := Lib.hid hb9
    have HZS := Lib.hid hb9.size
    clear hb9
    go_wp2_with fail
    go_ret
    exact ⟨rfl, HB.out⟩
  have HI := Lib.hid H1
  generalize shortB l = b at *
  clear H1 hn hX
  unfold Gives
  go_enter Try.func45, Try.ntmps45
  go_wp2_with fail
  refine (HI.out).mono ?_
  rintro e w1 ⟨rfl, hb9⟩
  have HB := Lib.hid hb9
  have HZS := Lib.hid hb9.size
  clear hb9
  go_wp2_with fail
  go_ret
  exact ⟨rfl, HB.out⟩
end Go.Proofs.Ytdlnnkbigeiilaa

/- Blocks and Head of the package board: the exported ones. Conditions: the sizes of what came in. -/
namespace Go.Proofs.Ytdlnnkbigeiilaa
open Go.RowKit

abbrev headB : ByteArray := ⟨#[104, 101, 97, 100]⟩
def headS (n : Nat) (ds : List ByteArray) : ByteArray := tagS headB (fourS n :: ds)
theorem headS_size (n : Nat) (ds : List ByteArray) : (headS n ds).size = 32 := tagS_size _ _
theorem join_many (l : ByteArray) (ps : List ByteArray) (h : ∀ p ∈ ps, p.size ≤ 32) (hn : ps.length ≤ 2097152) (hl : l.size ≤ 32) : (joinL l ps).length < 2305843009213693952 := by
  have key : ∀ x : ByteArray, (pfxL x).length = 4 + x.size := fun x => by unfold pfxL; rw [List.length_append, bytesOf_len]; rfl
  have gen : ∀ qs : List ByteArray, (∀ p ∈ qs, p.size ≤ 32) → (qs.flatMap pfxL).length ≤ qs.length * 36 := by
    intro qs
    induction qs with
    | nil => intro _; simp
    | cons q qs ih =>
      intro hq
      have h1 := ih (fun p hp => hq p (List.mem_cons_of_mem _ hp))
      have h2 := hq q (by simp)
      rw [List.flatMap_cons, List.length_append, key, List.length_cons, Nat.add_mul]
      omega
  have h1 := gen ps h
  unfold joinL
  rw [List.length_append, key]
  omega

set_option maxRecDepth 100000 in
set_option maxHeartbeats 1000000 in
theorem head_any (n : Nat) (hn : n ≤ 1048576) (ds : List ByteArray) (m : Nat) (hm : ds.length = m) (hm2 : m ≤ 1048576) (hz : ∀ x ∈ ds, x.size ≤ 32) (a : Option Addr) (c : Nat) (hac : a = none → c = 0) (w : World) (hX : Sl w w.heap.size a (ds.map Value.string)) :
    Calls Try.prog 48 #[.int .i64 (n : Int), .slice a m c] w (Gives (.string (headS n ds)) w) := by
  have HT := Lib.hid (fun a c w hX => Tag_any headB (fourS n :: ds) (1 + m) (by simp; omega) (join_many headB (fourS n :: ds) (by intro p hp; rcases List.mem_cons.1 hp with rfl | hp; exact (by rw [fourS_size]; decide); exact hz p hp) (by simp; omega) (by decide)) a c w hX)
  have HF := Lib.hid (four7_any n (by omega))
  unfold headS
  obtain ⟨v, hv⟩ : ∃ v, tagS headB (fourS n :: ds) = v := ⟨_, rfl⟩
  rw [hv] at HT ⊢
  unfold Gives at *
  obtain ⟨f4, hf4⟩ : ∃ v, fourS n = v := ⟨_, rfl⟩
  rw [hf4] at HF HT
  have HM := Lib.hid hm
  have HX := Lib.hid hX
  clear hv hf4 hm hz hX
  go_enter Try.func48, Try.ntmps48
  go_upto_region 1 with fail
  go_wp2_with fail
  refine (HF.out w).mono ?_
  rintro e w1 ⟨rfl, hb9⟩
  have HB := Lib.hid hb9
  have HZS := Lib.hid hb9.size
  clear hb9
  obtain ⟨w2, hq2, hb9, hz9, Hr⟩ := new1 w1 9 [.string f4]
  replace HB := hbu HB hb9
  replace HZS := sz HZS hz9.out
  clear hb9 hz9
  have r_ := Hr.out.c1
  have Hr9 := Lib.hid (RowO.of_bx (n := 1) (size := 1) Hr.out (Nat.le_refl _) rfl (by decide))
  clear r_
  clear Hr
  have Hr := Hr9
  clear Hr9
  obtain ⟨i9, hi9, hz90, hz91, hz92⟩ := info_parts infoStrP
  go_wp2_with (at_builtin; refine wpList_joinR (w1.heap.size) w2 (by have g0 := HZS.out; omega) rfl _ _ 22 rfl 9 i9 _ 1 16 Try.underlying22 hi9 hz90 hz91 hz92 rfl (by omega) ((.slice (some ⟨w1.heap.size, 0, none⟩) 1 1)) (1) ([.string f4]) rfl Hr.out (a) (m) (c) (ds.map Value.string) rfl (by rw [List.length_map, HM.out, Nat.mul_one]) ((HX.out.up HB.out)) (hac) (by simp [Value.oneCell']) (by omega) (by unfold maxLen; omega) ?_)
  intro a3 c3 w3 hown9 hg9
  clear hq2
  have hb9 := Below.grown HB.out hg9 (by have g0 := HZS.out; omega) (fun q hq => Nat.le_trans (show w.heap.size ≤ w1.heap.size by have g0 := HZS.out; omega) (Hr.out.lt q hq).1)
  replace HZS := sz HZS hg9.size
  clear Hr HB
  have Hr := Lib.hid hown9
  have HB := Lib.hid hb9
  clear hb9 hown9 hg9 hi9 hz90 hz91 hz92
  go_wp2_with fail
  refine (HT.out _ _ w3 Hr.out.sl).mono ?_
  rintro e w4 ⟨rfl, hb9⟩
  replace Hr := Lib.hid (Hr.out.up hb9)
  replace HB := hbu HB hb9
  replace HZS := sz HZS hb9.size
  clear hb9
  go_wp2_with fail
  go_ret
  exact ⟨rfl, HB.out⟩

/-- What Head answers. -/
def headR (n : Int) (ds : List ByteArray) : ByteArray × Int :=
  if 0 ≤ n ∧ n ≤ 1048576 then (if ds.length = (cover 0 n.toNat).length ∧ shortB ds = false then (headS n.toNat ds, 0) else (⟨#[]⟩, 2)) else (⟨#[]⟩, 4)
theorem short_sizes {ds : List ByteArray} (h : shortB ds = false) : ∀ x ∈ ds, x.size ≤ 32 := by
  intro x hx
  unfold shortB at h
  have h1 := List.any_eq_false.1 h x hx
  simp only [ne_eq, decide_eq_true_eq, Decidable.not_not] at h1
  omega
set_option maxRecDepth 100000 in
set_option maxHeartbeats 2000000 in
theorem Head_any (n : Int) (ds : List ByteArray) (m : Nat) (hm : ds.length = m) (hm2 : m ≤ 1152921504606846976) (a : Option Addr) (c : Nat) (hac : a = none → c = 0) (w : World) (hX : Sl w w.heap.size a (ds.map Value.string)) :
    Calls Try.prog 24 #[.int .i64 n, .slice a m c] w (Gives (.tuple #[.string (headR n ds).1, .int .i64 (headR n ds).2]) w) := by
  unfold Gives
  by_cases hg : 0 ≤ n ∧ n ≤ 1048576
  · obtain ⟨k, rfl⟩ : ∃ k : Nat, n = k := ⟨n.toNat, by omega⟩
    have hk : k ≤ 1048576 := by omega
    have HD := Lib.hid (show decide ((0 : Int) ≤ 0 ∧ (0 : Int) ≤ (k : Int) ∧ (k : Int) ≤ 1048576) = true from decide_eq_true (by omega))
    have HC := Lib.hid (count_any 0 k (Nat.zero_le _) hk)
    have HS := Lib.hid (fun w h => short_any ds m hm hm2 a c w h)
    have HH := Lib.hid (fun (h1 : m ≤ 1048576) (h2 : shortB ds = false) w h => head_any k hk ds m hm h1 (short_sizes h2) a c hac w h)
    have HR := Lib.hid (show headR (k : Int) ds = if m = (cover 0 k).length ∧ shortB ds = false then (headS k ds, 0) else (⟨#[]⟩, 2) by unfold headR; rw [if_pos hg, hm]; rfl)
    have HCL := Lib.hid (cover_length 0 k)
    generalize headR (k : Int) ds = hr at *
    generalize headS k ds = hs at *
    generalize shortB ds = sb at *
    generalize (cover 0 k).length = cl at *
    have HX := Lib.hid hX
    clear hX hm hg hac
    unfold Gives at HC HS HH
    by_cases h1 : m = cl
    · subst h1
      have hd1 : ((m : Int) != (m : Int)) = false := by simp
      cases sb
      · obtain rfl : hr = (hs, 0) := by rw [HR.out]; simp
        go_enter Try.func24, Try.ntmps24
        go_wp2_with fail
        refine (good7_any 0 k 1048576 w).mono ?_
        rintro e w1 ⟨rfl, rfl⟩
        rw [HD.out]
        go_wp2_with fail
        refine (HC.out w1).mono ?_
        rintro e w1 ⟨rfl, hb9⟩
        have HB := Lib.hid hb9
        have HZS := Lib.hid hb9.size
        clear hb9
        go_wp2_with fail
        refine (HS.out w1 (HX.out.up HB.out)).mono ?_
        rintro e w2 ⟨rfl, hb9⟩
        replace HB := hbu HB hb9
        replace HZS := sz HZS hb9.size
        clear hb9
        go_wp2_with fail
        refine (HH.out (by have := HCL.out; omega) (by trivial) w2 (HX.out.up HB.out)).mono ?_
        rintro e w3 ⟨rfl, hb9⟩
        replace HB := hbu HB hb9
        replace HZS := sz HZS hb9.size
        clear hb9
        go_wp2_with fail
        go_ret2
        exact ⟨rfl, HB.out⟩
      · obtain rfl : hr = (⟨#[]⟩, 2) := by rw [HR.out]; simp
        go_enter Try.func24, Try.ntmps24
        go_wp2_with fail
        refine (good7_any 0 k 1048576 w).mono ?_
        rintro e w1 ⟨rfl, rfl⟩
        rw [HD.out]
        go_wp2_with fail
        refine (HC.out w1).mono ?_
        rintro e w1 ⟨rfl, hb9⟩
        have HB := Lib.hid hb9
        have HZS := Lib.hid hb9.size
        clear hb9
        go_wp2_with fail
        refine (HS.out w1 (HX.out.up HB.out)).mono ?_
        rintro e w2 ⟨rfl, hb9⟩
        replace HB := hbu HB hb9
        replace HZS := sz HZS hb9.size
        clear hb9
        go_wp2_with fail
        go_ret2
        exact ⟨rfl, HB.out⟩
    · have hd1 : ((m : Int) != (cl : Int)) = true := by simp; omega
      obtain rfl : hr = (⟨#[]⟩, 2) := by rw [HR.out]; simp [h1]
      clear h1
      go_enter Try.func24, Try.ntmps24
      go_wp2_with fail
      refine (good7_any 0 k 1048576 w).mono ?_
      rintro e w1 ⟨rfl, rfl⟩
      rw [HD.out]
      go_wp2_with fail
      refine (HC.out w1).mono ?_
      rintro e w1 ⟨rfl, hb9⟩
      have HB := Lib.hid hb9
      have HZS := Lib.hid hb9.size
      clear hb9
      go_wp2_with fail
      go_ret2
      exact ⟨rfl, HB.out⟩
  · have HD := Lib.hid (show decide ((0 : Int) ≤ 0 ∧ (0 : Int) ≤ n ∧ n ≤ 1048576) = false from decide_eq_false (by omega))
    obtain ⟨hr, hhr⟩ : ∃ r, headR n ds = r := ⟨_, rfl⟩
    rw [hhr]
    obtain rfl : hr = (⟨#[]⟩, 4) := by rw [← hhr]; unfold headR; rw [if_neg hg]
    clear hhr hg
    go_enter Try.func24, Try.ntmps24
    go_wp2_with fail
    refine (good7_any 0 n 1048576 w).mono ?_
    rintro e w1 ⟨rfl, rfl⟩
    rw [HD.out]
    go_wp2_with fail
    go_ret2
    exact ⟨rfl, Below.refl _ _⟩

/-- What Blocks answers. -/
def partsV (xs : List ByteArray) (lo hi : Int) : List Value := if 0 ≤ lo ∧ lo ≤ hi ∧ hi ≤ xs.length ∧ xs.length ≤ 1048576 then (cover lo.toNat hi.toNat).map (digD (blockH bothS leafS) xs) else []
def partsE (xs : List ByteArray) (lo hi : Int) : Int := if 0 ≤ lo ∧ lo ≤ hi ∧ hi ≤ xs.length ∧ xs.length ≤ 1048576 then 0 else 4
def BlocksPost (xs : List ByteArray) (lo hi : Int) (w : World) (e : Ending) (w' : World) : Prop := ∃ v, e = .returned (.tuple #[v, .int .i64 (partsE xs lo hi)]) ∧ RowO w.heap.size w' 9 1 v (partsV xs lo hi).length (partsV xs lo hi) ∧ Below w.heap.size w w'
set_option maxRecDepth 100000 in
set_option maxHeartbeats 2000000 in
theorem Blocks_any (xs : List ByteArray) (n : Nat) (hn : xs.length = n) (hz : ∀ x ∈ xs, x.size < 140737488355328) (a : Option Addr) (c0 : Nat) (hc0 : n ≤ c0) (lo hi : Int) (w : World) (hX : Sl w w.heap.size a (xs.map Value.string)) :
    Calls Try.prog 21 #[.slice a n c0, .int .i64 lo, .int .i64 hi] w (BlocksPost xs lo hi w) := by
  by_cases hg : 0 ≤ lo ∧ lo ≤ hi ∧ hi ≤ n
  · have HD := Lib.hid (show decide (0 ≤ lo ∧ lo ≤ hi ∧ hi ≤ (n : Int)) = true from decide_eq_true hg)
    obtain ⟨l, rfl⟩ : ∃ k : Nat, lo = k := ⟨lo.toNat, by omega⟩
    obtain ⟨h, rfl⟩ : ∃ k : Nat, hi = k := ⟨hi.toNat, by omega⟩
    by_cases h20 : n ≤ 1048576
    · have h20' : ¬ ((n : Int) > 1048576) := by omega
      have HDG := Lib.hid (digests_any xs n hn h20 hz a c0 hc0 l h (by omega) (by omega) w hX)
      unfold BlocksPost partsV partsE
      rw [if_pos (by omega), if_pos (by omega), Int.toNat_natCast, Int.toNat_natCast, List.length_map]
      generalize (cover l h).map (digD (blockH bothS leafS) xs) = V at *
      clear hn hz hX hg
      go_enter Try.func21, Try.ntmps21
      go_wp2_with fail
      refine (good7_any l h n w).mono ?_
      rintro e w1 ⟨rfl, rfl⟩
      rw [HD.out]
      go_wp2_with fail
      refine HDG.out.mono ?_
      rintro e w2 ⟨v, rfl, hr, hb⟩
      have HR := Lib.hid hr
      have HB := Lib.hid hb
      clear hr hb
      go_wp2_with fail
      go_ret2
      exact ⟨v, rfl, HR.out, HB.out⟩
    · have h20' : ((n : Int) > 1048576) := by omega
      unfold BlocksPost partsV partsE
      rw [if_neg (by omega), if_neg (by omega)]
      clear hn hz hX hg h20
      go_enter Try.func21, Try.ntmps21
      go_wp2_with fail
      refine (good7_any l h n w).mono ?_
      rintro e w1 ⟨rfl, rfl⟩
      rw [HD.out]
      go_wp2_with fail
      go_ret2
      exact ⟨_, rfl, RowO.nil, Below.refl _ _⟩
  · have HD := Lib.hid (show decide (0 ≤ lo ∧ lo ≤ hi ∧ hi ≤ (n : Int)) = false from decide_eq_false hg)
    unfold BlocksPost partsV partsE
    rw [if_neg (by omega), if_neg (by omega)]
    clear hn hz hX hg
    go_enter Try.func21, Try.ntmps21
    go_wp2_with fail
    refine (good7_any lo hi n w).mono ?_
    rintro e w1 ⟨rfl, rfl⟩
    rw [HD.out]
    go_wp2_with fail
    go_ret2
    exact ⟨_, rfl, RowO.nil, Below.refl _ _⟩
end Go.Proofs.Ytdlnnkbigeiilaa

/- The document's cover. No condition. -/
namespace Go.Proofs.Ytdlnnkbigeiilaa
open Go.RowKit

def DownPost (w : World) (lo hi : Nat) (e : Ending) (w' : World) : Prop := ∃ v, e = .returned v ∧ MadeS w w' v (cover lo hi)

theorem MadeS.nil (w : World) : MadeS w w (.slice none 0 0) [] := ⟨World.ownsRow_nil _ _ _ _, by simp [Value.ownBlock], Below.refl _ _⟩

theorem flat_cells (gs : List (Int × Int)) : ∀ u ∈ flat gs, u.oneCell' = true := by
  intro u hu
  simp only [flat, List.mem_flatMap] at hu
  obtain ⟨g, _, hg⟩ := hu
  simp at hg
  rcases hg with rfl | rfl <;> rfl

theorem down_stop (k lo d : Nat) (h1 : 2 ^ k ≤ d) (h2 : lo % 2 ^ k = 0) : down k lo d = 2 ^ k := by
  cases k with
  | zero => rfl
  | succ k => rw [down, if_pos ⟨h1, h2⟩]

theorem down_more (k m lo d : Nat) (hd : 0 < d) (hm : m = 2 ^ k) (hs : ¬ (m ≤ d ∧ lo % m = 0)) : ∃ k', k = k' + 1 ∧ m / 2 = 2 ^ k' ∧ down k lo d = down k' lo d := by
  cases k with
  | zero =>
    exfalso
    apply hs
    subst hm
    simp [Nat.mod_one]
    omega
  | succ k =>
    refine ⟨k, rfl, by rw [hm, Nat.pow_succ]; omega, ?_⟩
    rw [down, if_neg (by rw [← hm]; exact hs)]

set_option maxHeartbeats 2000000 in
theorem Parts_any : ∀ (N lo hi : Nat) (w : World), hi - lo ≤ N → lo ≤ hi → hi ≤ 1048576 → Calls Try.prog 52 #[.int .i64 lo, .int .i64 hi] w (DownPost w lo hi) := by
  intro N
  induction N with
  | zero =>
    intro lo hi w h1 h2 h3
    obtain rfl : lo = hi := by omega
    go_enter Try.func52, Try.ntmps52
    go_wp2
    go_ret
    exact ⟨_, rfl, by rw [cover_none _ _ (Nat.le_refl _)]; exact MadeS.nil w⟩
  | succ N ih =>
    intro lo hi w h1 h2 h3
    by_cases he : lo = hi
    · subst he
      go_enter Try.func52, Try.ntmps52
      go_wp2
      go_ret
      exact ⟨_, rfl, by rw [cover_none _ _ (Nat.le_refl _)]; exact MadeS.nil w⟩
    · have hlt : lo < hi := by omega
      have HIH := Lib.hid ih
      clear ih
      have hne : ((lo : Int) == (hi : Int)) = false := by simp; omega
      go_enter Try.func52, Try.ntmps52
      go_wp2
      go_loopw [5] (fun v wr => ∃ k m : Nat, k ≤ 20 ∧ v = .int .i64 m ∧ Hid (m = 2 ^ k) ∧ Hid (down 20 lo (hi - lo) = down k lo (hi - lo)) ∧ wr = w) (fun v _ => (intOf v).toNat)
      case atStart => exact ⟨20, 1048576, Nat.le_refl _, rfl, rfl, rfl, rfl⟩
      case round =>
        obtain ⟨k, m, hk, rfl, HM, HD, rfl⟩ := hrel
        have hm1 : 1 ≤ m := by rw [HM.out]; exact Nat.one_le_two_pow
        have hm2 : m ≤ 1048576 := by rw [HM.out]; exact Nat.le_trans (Nat.pow_le_pow_right (by omega) hk) (Nat.le_refl (2 ^ 20))
        have hm0 : ¬ m = 0 := by omega
        by_cases hs : m ≤ hi - lo ∧ lo % m = 0
        · have hmr : ((lo : Int) % (m : Int) != 0) = false := by
            have h : ((lo : Int) % (m : Int)) = ((lo % m : Nat) : Int) := by simp
            rw [h, hs.2]; rfl
          have hgt : decide ((hi : Int) - (lo : Int) < (m : Int)) = false := by simp; omega
          have hdm : down 20 lo (hi - lo) = m := by rw [HD.out, HM.out]; exact down_stop k lo (hi - lo) (by rw [← HM.out]; exact hs.1) (by rw [← HM.out]; exact hs.2)
          have HDM := Lib.hid hdm
          have hle : lo + m ≤ hi := by omega
          clear hdm hs
          go_wp2_with fail
          have hih := HIH.out (lo + m) hi (wr.alloc (.cells #[.int .i64 lo, .int .i64 ((lo : Int) + (m : Int))] 95)) (by omega) (by omega) h3
          rw [Int.natCast_add] at hih
          refine hih.mono ?_
          rintro e w3 ⟨v, rfl, hmade⟩
          have hlit : (wr.alloc (.cells #[.int .i64 (lo : Int), .int .i64 ((lo : Int) + (m : Int))] 95)).ownsRow 0 95 2 (.slice (some ⟨wr.heap.size, 0, none⟩) 1 1) 1 (flat [((lo : Int), (lo : Int) + (m : Int))]) :=
            ⟨rfl, Or.inr ⟨wr.heap.size, 1, #[.int .i64 (lo : Int), .int .i64 ((lo : Int) + (m : Int))], rfl, Nat.zero_le _, World.alloc_heap_new _ _, Nat.le_refl _, by unfold maxLen; omega, rfl, rfl⟩⟩
          have hlit3 := hlit.kept (below_grown hmade.below) (Classical.em _)
          have hbl : Below wr.heap.size wr w3 := ((Below.refl _ wr).alloc (Nat.le_refl _) _).trans (hmade.below.mono (by simp))
          have HL := Lib.hid hlit3
          have HMD := Lib.hid hmade
          have HBL := Lib.hid hbl
          clear hlit hlit3 hmade hbl hih
          have hcs := cover_some lo hi (by omega)
          rw [HDM.out] at hcs
          have HCS := Lib.hid hcs
          have hlen := cover_length (lo + m) hi
          clear hcs
          obtain ⟨ig, hig, gz0, gz1, gz2⟩ := info_parts infoSpan
          generalize hG : cover (lo + m) hi = G at *
          clear hG
          go_wp2_with (at_builtin; refine wpList_join w3 rfl _ _ 84 rfl 95 ig _ 2 16 Try.underlying84 hig gz0 gz1 gz2 rfl (by omega) (.slice (some ⟨wr.heap.size, 0, none⟩) 1 1) 1 (flat [((lo : Int), (lo : Int) + (m : Int))]) rfl HL.out v G.length (flat G) rfl HMD.out.own (flat_cells _) (by omega) (by unfold maxLen; omega) ?_)
          intro v' w4 hown hp
          have fin : DownPost wr lo hi (.returned v') w4 := by
            have hz := HBL.out.size
            have e1 : cover lo hi = [((lo : Int), (lo : Int) + (m : Int))] ++ G := by rw [HCS.out, Int.natCast_add]; rfl
            refine ⟨v', rfl, ?_, ?_, ?_⟩
            · rw [e1, flat_append, List.length_append]; exact hown
            · intro q hq
              rcases hp.here q hq with h | h
              · simp [Value.ownBlock] at h; omega
              · omega
            · exact hp.below HBL.out hz (fun q hq => by simp [Value.ownBlock] at hq; omega)
          have FIN := Lib.hid fin
          clear fin hown hp
          go_wp2_with fail
          go_ret
          exact FIN.out
        · have hgo := down_more k m lo (hi - lo) (by omega) HM.out hs
          obtain ⟨k', rfl, hm', hd'⟩ := hgo
          have HM' := Lib.hid hm'
          have HD' := Lib.hid hd'
          clear hm' hd'
          by_cases ha : m ≤ hi - lo
          · have hb : ¬ lo % m = 0 := fun e => hs ⟨ha, e⟩
            have hmr : ((lo : Int) % (m : Int) != 0) = true := by
              have h : ((lo : Int) % (m : Int)) = ((lo % m : Nat) : Int) := by simp
              rw [h]; simp; omega
            have hgt : decide ((hi : Int) - (lo : Int) < (m : Int)) = false := by simp; omega
            clear hs hb
            go_wp2_with fail
            go_roundw
            case rel => exact ⟨k', m / 2, by omega, by go_num, HM'.out, by show _ = _; rw [HD.out, HD'.out], trivial⟩
            case measure => simp [intOf]; omega
          · have hgt : decide ((hi : Int) - (lo : Int) < (m : Int)) = true := by simp; omega
            clear hs
            go_wp2_with fail
            go_roundw
            case rel => exact ⟨k', m / 2, by omega, by go_num, HM'.out, by show _ = _; rw [HD.out, HD'.out], trivial⟩
            case measure => simp [intOf]; omega

set_option maxHeartbeats 1000000 in
theorem cright_any (lo hi : Int) (w : World) : Calls Try.prog 51 #[.int .i64 lo, .int .i64 hi, .int .i64 1048576] w fun e w' => e = .returned (.bool (decide (0 ≤ lo ∧ lo ≤ hi ∧ hi ≤ 1048576))) ∧ w' = w := by
  by_cases h1 : 0 ≤ lo <;> by_cases h2 : lo ≤ hi <;> by_cases h3 : hi ≤ 1048576 <;>
    (go_enter Try.func51, Try.ntmps51
     go_wp2
     go_ret
     exact ⟨ret_bool (by simp [h1, h2, h3]), rfl⟩)

end Go.Proofs.Ytdlnnkbigeiilaa

/- The document's Blocks and Head. Conditions: the sizes of what came in. -/
namespace Go.Proofs.Ytdlnnkbigeiilaa
open Go.RowKit

theorem rtag_calls (label : ByteArray) (hl : label.size < 140737488355328) : TagCalls 32 label (tagS label) := fun ps h3 hz a c w hX => rTag_any label ps ps.length rfl (join_small label ps 0 h3 hz hl) a c w hX

theorem rBoth_gen (T : List ByteArray → ByteArray) (hT : TagCalls 32 blockB T) (x y : ByteArray) (hx : x.size < 140737488355328) (hy : y.size < 140737488355328) (w : World) :
    Calls Try.prog 98 #[.string x, .string y] w (Gives (.string (T [x, y])) w) := by
  have HT := Lib.hid (hT [x, y] (by simp) (by simp [hx, hy]))
  obtain ⟨v, hv⟩ : ∃ v, T [x, y] = v := ⟨_, rfl⟩
  rw [hv] at HT ⊢
  clear hT hx hy hv
  unfold Gives
  go_enter Try.func98, Try.ntmps98
  go_upto_region 1 with fail
  obtain ⟨w1, hq1, hb9, hz9, Hr⟩ := new1 w 9 [.string x, .string y]
  have HB := Lib.hid hb9
  have HZS := hz9
  clear hb9 hz9
  have r_ := Hr.out.c2
  go_wp2_with fail
  clear hq1
  refine (HT.out _ _ _ (Sl.ofB Hr.out)).mono ?_
  rintro e w2 ⟨rfl, hb9⟩
  clear r_
  replace Hr := Lib.hid (Hr.out.up hb9)
  replace HB := hbu HB hb9
  replace HZS := sz HZS hb9.size
  clear hb9
  have r_ := Hr.out.c2
  go_wp2_with fail
  go_ret
  exact ⟨rfl, HB.out⟩
theorem rBoth_any (x y : ByteArray) (hx : x.size < 140737488355328) (hy : y.size < 140737488355328) (w : World) : Calls Try.prog 98 #[.string x, .string y] w (Gives (.string (bothS x y)) w) :=
  rBoth_gen (tagS blockB) (rtag_calls blockB (by decide)) x y hx hy w
theorem rLeaf_gen (T : List ByteArray → ByteArray) (hT : TagCalls 32 entryB T) (x : ByteArray) (hx : x.size < 140737488355328) (w : World) :
    Calls Try.prog 100 #[.string x] w (Gives (.string (T [x])) w) := by
  have HT := Lib.hid (hT [x] (by simp) (by simp [hx]))
  obtain ⟨v, hv⟩ : ∃ v, T [x] = v := ⟨_, rfl⟩
  rw [hv] at HT ⊢
  clear hT hx hv
  unfold Gives
  go_enter Try.func100, Try.ntmps100
  go_upto_region 1 with fail
  obtain ⟨w1, hq1, hb9, hz9, Hr⟩ := new1 w 9 [.string x]
  have HB := Lib.hid hb9
  have HZS := hz9
  clear hb9 hz9
  have r_ := Hr.out.c1
  go_wp2_with fail
  clear hq1
  refine (HT.out _ _ _ (Sl.ofB Hr.out)).mono ?_
  rintro e w2 ⟨rfl, hb9⟩
  clear r_
  replace Hr := Lib.hid (Hr.out.up hb9)
  replace HB := hbu HB hb9
  replace HZS := sz HZS hb9.size
  clear hb9
  have r_ := Hr.out.c1
  go_wp2_with fail
  go_ret
  exact ⟨rfl, HB.out⟩
theorem rLeaf_any (x : ByteArray) (hx : x.size < 140737488355328) (w : World) : Calls Try.prog 100 #[.string x] w (Gives (.string (leafS x)) w) :=
  rLeaf_gen (tagS entryB) (rtag_calls entryB (by decide)) x hx w

theorem blockH_size {H : ByteArray → ByteArray → ByteArray} {F : ByteArray → ByteArray} (h32 : ∀ a b, (H a b).size = 32) (hF : ∀ e, (F e).size = 32) : ∀ (f : Nat) (l : List ByteArray), (blockH H F f l).size = 32
  | 0, _ => hF _
  | f + 1, l => by
    rw [blockH]
    split
    · exact hF _
    · exact h32 _ _
theorem blockH_half {H : ByteArray → ByteArray → ByteArray} {F : ByteArray → ByteArray} (n : Nat) (l : List ByteArray) (hl : l.length = n) (h1 : n ≠ 1) (h0 : 0 < n) : blockH H F n l = H (blockH H F (n / 2) (l.take (n / 2))) (blockH H F (n - n / 2) (l.drop (n / 2))) := by
  obtain ⟨k, rfl⟩ : ∃ k, n = k + 1 := ⟨n - 1, by omega⟩
  rw [blockH, if_neg (by omega), hl]
  rw [blockH_fuel H F k ((k + 1) / 2) _ (by rw [← List.length_pos_iff, List.length_take]; omega) (by rw [List.length_take]; omega) (by rw [List.length_take]; omega),
    blockH_fuel H F k (k + 1 - (k + 1) / 2) _ (by rw [← List.length_pos_iff, List.length_drop]; omega) (by rw [List.length_drop]; omega) (by rw [List.length_drop]; omega)]

set_option maxRecDepth 100000 in
set_option maxHeartbeats 2000000 in
theorem rBlock_gen (H : ByteArray → ByteArray → ByteArray) (F : ByteArray → ByteArray) (h32 : ∀ a b, (H a b).size = 32) (hF : ∀ e, (F e).size = 32)
    (hBo : ∀ (x y : ByteArray), x.size < 140737488355328 → y.size < 140737488355328 → ∀ w, Calls Try.prog 98 #[.string x, .string y] w (Gives (.string (H x y)) w))
    (hLe : ∀ (x : ByteArray), x.size < 140737488355328 → ∀ w, Calls Try.prog 100 #[.string x] w (Gives (.string (F x)) w)) :
    ∀ (N n : Nat) (xs : List ByteArray) (a : Option Addr) (c : Nat) (w : World), n ≤ N → 0 < n → xs.length = n → n ≤ 1048576 → n ≤ c → (∀ x ∈ xs, x.size < 140737488355328) → Sl w w.heap.size a (xs.map Value.string) →
      Calls Try.prog 53 #[.slice a n c] w (Gives (.string (blockH H F n xs)) w) := by
  have HBO := Lib.hid hBo
  have HLE := Lib.hid hLe
  clear hBo hLe
  unfold Gives at *
  intro N
  induction N with
  | zero => intro n xs a c w h h0; omega
  | succ N ih =>
    intro n xs a c w hN h0 hl h20 hc hz hX
    have IH := Lib.hid ih
    have HX := Lib.hid hX
    obtain ⟨b, o, rfl, hb, hc0⟩ := hX.at 0 (by rw [List.length_map]; omega)
    rw [Nat.add_zero, List.getElem_map] at hc0
    by_cases h1 : n = 1
    · subst h1
      have hx0 := hz _ (List.getElem_mem (show 0 < xs.length by omega))
      have HE := Lib.hid (show blockH H F 1 xs = F xs[0] by
        rw [blockH, if_pos hl]
        match xs, hl with
        | [x], _ => rfl)
      rw [HE.out]
      have HLE1 := Lib.hid (HLE.out _ hx0)
      generalize xs[0] = x at *
      generalize F x = v at *
      clear ih hX hz HE hx0
      go_enter Try.func53, Try.ntmps53
      go_wp2_with fail
      refine (HLE1.out w).mono ?_
      rintro e w1 ⟨rfl, hb9⟩
      have HB := Lib.hid hb9
      have HZS := Lib.hid hb9.size
      clear hb9
      go_wp2_with fail
      go_ret
      exact ⟨rfl, HB.out⟩
    · have HE := Lib.hid (blockH_half (H := H) (F := F) n xs hl h1 h0)
      have HB1 := Lib.hid (fun (w1 : World) (hb : Below w.heap.size w w1) => IH.out (n / 2) (xs.take (n / 2)) (some ⟨b, o, none⟩) c w1 (by omega) (by omega) (by rw [List.length_take]; omega) (by omega) (by omega) (fun x hx => hz x (List.mem_of_mem_take hx)) (by have h9 := (HX.out.up hb).cut 0 (n / 2); rw [Nat.add_zero, List.drop_zero, ← List.map_take] at h9; exact h9))
      have HB2 := Lib.hid (fun (w1 : World) (hb : Below w.heap.size w w1) => IH.out (n - n / 2) (xs.drop (n / 2)) (some ⟨b, o + n / 2, none⟩) (c - n / 2) w1 (by omega) (by omega) (by rw [List.length_drop]; omega) (by omega) (by omega) (fun x hx => hz x (List.mem_of_mem_drop hx)) (by have h9 := (HX.out.up hb).cut (n / 2) (n - n / 2); rw [← List.map_drop, List.take_of_length_le (by rw [List.length_map, List.length_drop]; omega)] at h9; exact h9))
      have HS1 := Lib.hid (blockH_size h32 hF (n / 2) (xs.take (n / 2)))
      have HS2 := Lib.hid (blockH_size h32 hF (n - n / 2) (xs.drop (n / 2)))
      rw [HE.out]
      generalize blockH H F (n / 2) (xs.take (n / 2)) = d1 at *
      generalize blockH H F (n - n / 2) (xs.drop (n / 2)) = d2 at *
      have HBOX := Lib.hid (HBO.out d1 d2 (by rw [HS1.out]; decide) (by rw [HS2.out]; decide))
      generalize H d1 d2 = v at *
      have hq1 : ((n : Int) == 1) = false := by simp; omega
      obtain ⟨m, hm⟩ : ∃ m, n / 2 = m := ⟨_, rfl⟩
      have hq2 : ((n : Int) / 2) = (m : Int) := by omega
      have hm1 : m ≤ n := by omega
      have hcm : ¬ (c = m) := by omega
      rw [hm] at HB1 HB2
      clear hc0
      clear ih hX hz HE h0 hN hm h1
      go_enter Try.func53, Try.ntmps53
      go_wp2_with fail
      have hmc : m ≤ c := by omega
      have HT := Lib.hid (show Below w.heap.size w w.drew from (Below.refl _ _).drew)
      refine wp_region_tree (fun wq9 => ∃ E : Over w, wq9 = E.w) ((.qs [0, 1, 2, 4, 5, 6] (.a 3 (.a 7 (.a 8 (.qs [9] .done)))))) (by kernel_rfl) (by kernel_rfl) (fun _ _ d _ _ h => by cases d <;> exact h) ⟨⟨_, HT.out⟩, rfl⟩ ?_
      simp only [Tree.qs]
      repeat (refine tree_q rfl rfl ?_; go_big_quiet_step (fail); refine wpQuiet_nil ?_)
      refine tree_a rfl (fun K hK => ?_)
      go_simp
      refine (HB1.out _ HT.out).mono ?_
      rintro e w1 ⟨rfl, hb9⟩
      replace HT := Lib.hid (below_up HT.out hb9)
      have HZS := Lib.hid (show w.heap.size ≤ w1.heap.size from HT.out.size)
      clear hb9
      refine hK _ _ ⟨⟨⟨w1, HT.out⟩, rfl⟩, ?_⟩
      clear hK K
      repeat (refine tree_q rfl rfl ?_; go_big_quiet_step (fail); refine wpQuiet_nil ?_)
      refine tree_a rfl (fun K hK => ?_)
      go_simp
      refine (HB2.out _ HT.out).mono ?_
      rintro e w2 ⟨rfl, hb9⟩
      replace HT := Lib.hid (below_up HT.out hb9)
      replace HZS := sz HZS (show w.heap.size ≤ w2.heap.size from HT.out.size)
      clear hb9
      refine hK _ _ ⟨⟨⟨w2, HT.out⟩, rfl⟩, ?_⟩
      clear hK K
      repeat (refine tree_q rfl rfl ?_; go_big_quiet_step (fail); refine wpQuiet_nil ?_)
      refine tree_a rfl (fun K hK => ?_)
      go_simp
      refine (HBOX.out _).mono ?_
      rintro e w3 ⟨rfl, hb9⟩
      replace HT := Lib.hid (below_up HT.out hb9)
      replace HZS := sz HZS (show w.heap.size ≤ w3.heap.size from HT.out.size)
      clear hb9
      refine hK _ _ ⟨⟨⟨w3, HT.out⟩, rfl⟩, ?_⟩
      clear hK K
      repeat (refine tree_q rfl rfl ?_; go_big_quiet_step (fail); refine wpQuiet_nil ?_)
      refine tree_end ?_
      have HB := Lib.hid HT.out
      replace HZS := sz HZS HT.out.size
      clear HT
      go_wp2_with fail
      go_ret
      exact ⟨rfl, HB.out⟩
theorem rBlock_any (n : Nat) (xs : List ByteArray) (hl : xs.length = n) (h0 : 0 < n) (h20 : n ≤ 1048576) (a : Option Addr) (c : Nat) (hc : n ≤ c) (hz : ∀ x ∈ xs, x.size < 140737488355328) (w : World) (hX : Sl w w.heap.size a (xs.map Value.string)) :
    Calls Try.prog 53 #[.slice a n c] w (Gives (.string (blockH bothS leafS n xs)) w) :=
  rBlock_gen bothS leafS bothS_size leafS_size rBoth_any rLeaf_any n n xs a c w (Nat.le_refl _) h0 hl h20 hc hz hX

set_option maxHeartbeats 1000000 in
theorem right7_any (lo hi size : Int) (w : World) : Calls Try.prog 51 #[.int .i64 lo, .int .i64 hi, .int .i64 size] w fun e w' => e = .returned (.bool (decide (0 ≤ lo ∧ lo ≤ hi ∧ hi ≤ size))) ∧ w' = w := by
  by_cases h1 : 0 ≤ lo <;> by_cases h2 : lo ≤ hi <;> by_cases h3 : hi ≤ size <;>
    (go_enter Try.func51, Try.ntmps51
     go_wp2
     go_ret
     exact ⟨ret_bool (by simp [h1, h2, h3]), rfl⟩)

set_option maxRecDepth 100000 in
set_option maxHeartbeats 1000000 in
theorem wide_any (l : List ByteArray) (n : Nat) (hn : l.length = n) (hl : n ≤ 1152921504606846976) (a : Option Addr) (c : Nat) (w : World) (hX : Sl w w.heap.size a (l.map Value.string)) :
    Calls Try.prog 54 #[.slice a n c] w (Gives (.bool (!shortB l)) w) := by
  have HX := Lib.hid hX
  have HN := Lib.hid hn
  clear hX hn
  unfold Gives
  go_enter Try.func54, Try.ntmps54
  go_wp2_with fail
  go_loopw [7] (fun i wr => ∃ j : Nat, j ≤ n ∧ i = .int .i64 j ∧ Hid (Below w.heap.size w wr) ∧ Hid ((l.take j).any (fun x => decide (x.size ≠ 32)) = false)) (fun i _ => n - (intOf i).toNat)
  case atStart => exact ⟨0, Nat.zero_le _, rfl, Below.refl _ _, rfl⟩
  case round =>
    obtain ⟨j, hj, rfl, HB, HAL⟩ := hrel
    by_cases hjn : j < n
    · have hjl : j < l.length := by rw [HN.out]; exact hjn
      obtain ⟨bl, ol, rfl, hbl, hc⟩ := (HX.out.up HB.out).at j (by rw [List.length_map]; exact hjl)
      rw [List.getElem_map] at hc
      by_cases h32 : l[j].size = 32
      · have hd : ((l[j].size : Int) != 32) = false := by simp; omega
        have HBJ := Lib.hid (show decide (l[j].size ≠ 32) = false by simp [h32])
        clear h32
        go_wp2_with fail
        go_roundw
        case rel => exact ⟨j + 1, hjn, by go_num, HB, any_snoc7 hjl HAL.out HBJ.out⟩
        case measure => simp [intOf]; omega
      · have hd : ((l[j].size : Int) != 32) = true := by simp; omega
        have HBJ := Lib.hid (show decide (l[j].size ≠ 32) = true by simp [h32])
        clear h32
        go_wp2_with fail
        go_ret
        exact ⟨by unfold shortB; rw [any_here7 hjl HBJ.out]; rfl, HB.out⟩
    · have hjn : j = n := by omega
      subst hjn
      go_wp2_with fail
      go_ret
      rw [List.take_of_length_le (by rw [HN.out]; exact Nat.le_refl _)] at HAL
      exact ⟨by unfold shortB; rw [HAL.out]; rfl, HB.out⟩
end Go.Proofs.Ytdlnnkbigeiilaa

/- The document's Blocks and Head: the exported ones. Conditions: the sizes of what came in. -/
namespace Go.Proofs.Ytdlnnkbigeiilaa
open Go.RowKit

set_option maxRecDepth 100000 in
set_option maxHeartbeats 2000000 in
theorem rHead_any (n : Int) (ds : List ByteArray) (m : Nat) (hm : ds.length = m) (hm2 : m ≤ 1152921504606846976) (a : Option Addr) (c : Nat) (hac : a = none → c = 0) (w : World) (hX : Sl w w.heap.size a (ds.map Value.string)) :
    Calls Try.prog 25 #[.int .i64 n, .slice a m c] w (Gives (.tuple #[.string (headR n ds).1, .int .i64 (headR n ds).2]) w) := by
  unfold Gives
  by_cases h0 : 0 ≤ n
  · obtain ⟨k, rfl⟩ : ∃ k : Nat, n = k := ⟨n.toNat, by omega⟩
    by_cases hk : k ≤ 1048576
    · have HP := Lib.hid (fun w => Parts_any k 0 k w (by omega) (Nat.zero_le _) hk)
      have HS := Lib.hid (fun w h => wide_any ds m hm hm2 a c w h)
      have HF := Lib.hid (fun w => Four_any k (by omega) w)
      have HT := Lib.hid (fun (h1 : m ≤ 1048576) (h2 : shortB ds = false) a c w hX => rTag_any headB (fourS k :: ds) (1 + m) (by simp; omega) (join_many headB (fourS k :: ds) (by intro p hp; rcases List.mem_cons.1 hp with rfl | hp; exact (by rw [fourS_size]; decide); exact short_sizes h2 p hp) (by simp; omega) (by decide)) a c w hX)
      have HR := Lib.hid (show headR (k : Int) ds = if m = (cover 0 k).length ∧ shortB ds = false then (tagS headB (fourS k :: ds), 0) else (⟨#[]⟩, 2) by unfold headR; rw [if_pos (by omega), hm]; rfl)
      have HCL := Lib.hid (cover_length 0 k)
      have HM := Lib.hid hm
      have HX := Lib.hid hX
      generalize headR (k : Int) ds = hr at *
      generalize tagS headB (fourS k :: ds) = hs at *
      generalize fourS k = f4 at *
      generalize shortB ds = sb at *
      unfold DownPost at HP
      generalize cover 0 k = cl at *
      have hd0 : ¬ ((k : Int) < 0) := by omega
      have hd2 : ¬ ((k : Int) > 1048576) := by omega
      clear hX hm h0
      unfold Gives at HS
      go_enter Try.func25, Try.ntmps25
      go_wp2_with fail
      refine (HP.out w).mono ?_
      rintro e wa ⟨v, rfl, hm9⟩
      obtain ⟨pa, pc, rfl⟩ := RowO.form hm9.own
      have HB := Lib.hid hm9.below
      have HWA := Lib.hid hm9.below.size
      clear hm9
      generalize cl.length = cn at *
      have HZS := HWA
      by_cases h1 : m = cn
      · subst h1
        have hd1 : ((m : Int) != (m : Int)) = false := by simp
        cases sb
        · obtain rfl : hr = (hs, 0) := by rw [HR.out]; simp
          go_wp2_with fail
          refine (HS.out wa (HX.out.up HB.out)).mono ?_
          rintro e w1 ⟨rfl, hb9⟩
          replace HB := hbu HB hb9
          replace HZS := sz HZS hb9.size
          clear hb9
          go_wp2_with fail
          refine (HF.out w1).mono ?_
          rintro e w2 ⟨rfl, hb9⟩
          replace HB := hbu HB hb9
          replace HZS := sz HZS hb9.size
          clear hb9
          have BX := Lib.hid (Below.refl w2.heap.size w2)
          obtain ⟨w3, hq3, hb9, hz9, Hr⟩ := new1 w2 9 [.string f4]
          replace BX := hbu BX hb9
          replace HB := hbu HB hb9
          replace HZS := sz HZS hz9.out
          clear hb9 hz9
          have r_ := Hr.out.c1
          have Hr9 := Lib.hid (RowO.of_bx (n := 1) (size := 1) Hr.out (Nat.le_refl _) rfl (by decide))
          clear r_
          clear Hr
          have Hr := Hr9
          clear Hr9
          have HCM := Lib.hid (show m ≤ 1048576 by have := HCL.out; omega)
          have hcm := HCM.out
          obtain ⟨i9, hi9, hz90, hz91, hz92⟩ := info_parts infoStrP
          go_wp2_with (at_builtin; refine wpList_joinR (w2.heap.size) w3 (by have g0 := HZS.out; omega) rfl _ _ 22 rfl 9 i9 _ 1 16 Try.underlying22 hi9 hz90 hz91 hz92 rfl (by omega) ((.slice (some ⟨w2.heap.size, 0, none⟩) 1 1)) (1) ([.string f4]) rfl Hr.out (a) (m) (c) (ds.map Value.string) rfl (by rw [List.length_map, HM.out, Nat.mul_one]) ((HX.out.up HB.out)) (hac) (by simp [Value.oneCell']) (by omega) (by unfold maxLen; omega) ?_)
          intro a4 c4 w4 hown9 hg9
          clear hq3
          have hb9 := Below.grown HB.out hg9 (by have g0 := HZS.out; omega) (fun q hq => Nat.le_trans (show w.heap.size ≤ w2.heap.size by have g0 := HZS.out; omega) (Hr.out.lt q hq).1)
          replace BX := Lib.hid (Below.grown BX.out hg9 (by have g0 := HZS.out; omega) (fun q hq => Nat.le_trans (show w2.heap.size ≤ w2.heap.size by have g0 := HZS.out; omega) (Hr.out.lt q hq).1))
          replace HZS := sz HZS hg9.size
          clear Hr HB
          have Hr := Lib.hid hown9
          have HB := Lib.hid hb9
          clear hb9 hown9 hg9 hi9 hz90 hz91 hz92
          go_wp2_with fail
          refine (HT.out HCM.out (by trivial) _ _ w4 Hr.out.sl).mono ?_
          rintro e w5 ⟨rfl, hb9⟩
          replace Hr := Lib.hid (Hr.out.up hb9)
          replace BX := hbu BX hb9
          replace HB := hbu HB hb9
          replace HZS := sz HZS hb9.size
          clear hb9
          go_wp2_with fail
          go_ret2
          exact ⟨rfl, HB.out⟩
        · obtain rfl : hr = (⟨#[]⟩, 2) := by rw [HR.out]; simp
          go_wp2_with fail
          refine (HS.out wa (HX.out.up HB.out)).mono ?_
          rintro e w1 ⟨rfl, hb9⟩
          replace HB := hbu HB hb9
          replace HZS := sz HZS hb9.size
          clear hb9
          go_wp2_with fail
          go_ret2
          exact ⟨rfl, HB.out⟩
      · have hd1 : ((cn : Int) != (m : Int)) = true := by simp; omega
        obtain rfl : hr = (⟨#[]⟩, 2) := by rw [HR.out]; simp [h1]
        clear h1
        go_wp2_with fail
        go_ret2
        exact ⟨rfl, HB.out⟩
    · obtain ⟨hr, hhr⟩ : ∃ r, headR (k : Int) ds = r := ⟨_, rfl⟩
      rw [hhr]
      obtain rfl : hr = (⟨#[]⟩, 4) := by rw [← hhr]; unfold headR; rw [if_neg (by omega)]
      have hd0 : ¬ ((k : Int) < 0) := by omega
      have hd2 : ((k : Int) > 1048576) := by omega
      clear hhr hk hm hX h0
      go_enter Try.func25, Try.ntmps25
      go_wp2_with fail
      go_ret2
      exact ⟨rfl, Below.refl _ _⟩
  · obtain ⟨hr, hhr⟩ : ∃ r, headR n ds = r := ⟨_, rfl⟩
    rw [hhr]
    obtain rfl : hr = (⟨#[]⟩, 4) := by rw [← hhr]; unfold headR; rw [if_neg (by omega)]
    have hd0 : n < 0 := by omega
    clear hhr h0 hm hX
    go_enter Try.func25, Try.ntmps25
    go_wp2_with fail
    go_ret2
    exact ⟨rfl, Below.refl _ _⟩

theorem flat_span : ∀ (gs : List (Int × Int)), flat gs = gs.flatMap (fun x => [.int .i64 x.1, .int .i64 x.2]) := fun _ => rfl
theorem map_snoc7 {α : Type} (D : α → Value) (l : List α) (j : Nat) (h : j < l.length) : (l.take j).map D ++ [D l[j]] = (l.take (j + 1)).map D := by
  rw [List.take_succ_eq_append_getElem h, List.map_append]; rfl

set_option maxRecDepth 100000 in
set_option maxHeartbeats 2000000 in
theorem rBlocks_any (xs : List ByteArray) (n : Nat) (hn : xs.length = n) (hz : ∀ x ∈ xs, x.size < 140737488355328) (a : Option Addr) (c0 : Nat) (hc0 : n ≤ c0) (lo hi : Int) (w : World) (hX : Sl w w.heap.size a (xs.map Value.string)) :
    Calls Try.prog 22 #[.slice a n c0, .int .i64 lo, .int .i64 hi] w (BlocksPost xs lo hi w) := by
  by_cases hg : 0 ≤ lo ∧ lo ≤ hi ∧ hi ≤ n
  · have HD := Lib.hid (show decide (0 ≤ lo ∧ lo ≤ hi ∧ hi ≤ (n : Int)) = true from decide_eq_true hg)
    obtain ⟨l, rfl⟩ : ∃ k : Nat, lo = k := ⟨lo.toNat, by omega⟩
    obtain ⟨h, rfl⟩ : ∃ k : Nat, hi = k := ⟨hi.toNat, by omega⟩
    by_cases h20 : n ≤ 1048576
    · have h20' : ¬ ((n : Int) > 1048576) := by omega
      have hlh : l ≤ h := by omega
      have hhn : h ≤ n := by omega
      have HPA := Lib.hid (fun w => Parts_any (h - l) l h w (Nat.le_refl _) hlh (by omega))
      have HBK := Lib.hid (fun (y1 y2 : Nat) (h1 : y1 < y2) (h2 : y2 ≤ h) (b o : Nat) (w1 : World) (hb : Sl w1 w1.heap.size (some ⟨b, o, none⟩) (xs.map Value.string)) =>
        rBlock_any (y2 - y1) ((xs.drop y1).take (y2 - y1)) (by rw [List.length_take, List.length_drop]; omega) (by omega) (by omega) (some ⟨b, o + y1, none⟩) (c0 - y1) (by omega) (fun x hx => hz x (List.mem_of_mem_drop (List.mem_of_mem_take hx))) w1 (by have h9 := hb.cut y1 (y2 - y1); rw [← List.map_drop, ← List.map_take] at h9; exact h9))
      have HCV := Lib.hid (show ∀ x ∈ cover l h, ∃ y1 y2 : Nat, x = ((y1 : Int), (y2 : Int)) ∧ y1 < y2 ∧ y2 ≤ h from fun x hx => by
        rw [cover_coverN] at hx
        obtain ⟨y, hy, e⟩ := List.mem_map.1 hx
        obtain ⟨_, h2, k, h3, _⟩ := coverN_ok hy
        have : 1 ≤ 2 ^ k := Nat.one_le_two_pow
        exact ⟨y.1, y.2, e.symm, by omega, h2⟩)
      have HCL := Lib.hid (show (cover l h).length ≤ 1048576 from Nat.le_trans (cover_length l h) (by omega))
      have HDG := Lib.hid (fun (y1 y2 : Nat) => (show digD (blockH bothS leafS) xs ((y1 : Int), (y2 : Int)) = .string (blockH bothS leafS (y2 - y1) ((xs.drop y1).take (y2 - y1))) by
        unfold digD
        rw [show ((y2 : Int) - (y1 : Int)).toNat = y2 - y1 by omega, Int.toNat_natCast]))
      unfold BlocksPost partsV partsE
      rw [if_pos (by omega), if_pos (by omega), Int.toNat_natCast, Int.toNat_natCast, List.length_map]
      unfold DownPost at HPA
      generalize digD (blockH bothS leafS) xs = D at *
      generalize blockH bothS leafS = BH at *
      generalize cover l h = GL at *
      have HX := Lib.hid hX
      have HXN := Lib.hid (show (xs.map Value.string).length = n by rw [List.length_map, hn])
      clear hX hn hz hg h20
      go_enter Try.func22, Try.ntmps22
      go_wp2_with fail
      refine (right7_any l h n w).mono ?_
      rintro e wz ⟨rfl, hwz⟩
      replace hwz := hwz.symm
      subst hwz
      rw [HD.out]
      go_wp2_with fail
      refine (HPA.out w).mono ?_
      rintro e wa ⟨v, rfl, hm9⟩
      obtain ⟨pa, pc, rfl⟩ := RowO.form hm9.own
      have HB := Lib.hid hm9.below
      have HM := Lib.hid hm9.own
      have HWA := Lib.hid hm9.below.size
      clear hm9
      obtain ⟨k, hk⟩ : ∃ k, GL.length = k := ⟨_, rfl⟩
      have HK := Lib.hid hk
      rw [hk]
      clear hk
      have HZS := HWA
      have BL := Lib.hid (Below.refl wa.heap.size wa)
      go_wp2_with fail
      go_loopw [26, 8] (fun i v wr => ∃ (j : Nat) (g : Option Addr) (c9 : Nat), j ≤ k ∧ i = .int .i64 j ∧ v = .slice g j c9 ∧ Hid (Below wa.heap.size wa wr) ∧ Hid (RowO wa.heap.size wr 9 1 (.slice g j c9) j ((GL.take j).map D))) (fun i _ _ => k - (intOf i).toNat)
      case atStart => exact ⟨0, none, 0, Nat.zero_le _, rfl, rfl, BL, RowO.nil⟩
      case round =>
        obtain ⟨j, g, c9, hj, rfl, rfl, HL9, Hr⟩ := hrel
        have hb9 := HL9.out
        clear HL9
        replace BL := hbu BL hb9
        replace HB := hbu HB hb9
        replace HZS := sz HZS hb9.size
        clear hb9
        by_cases hjn : j < k
        · have hjl : j < GL.length := by rw [HK.out]; exact hjn
          obtain ⟨sb, so, e9, hsb, hc⟩ := ((show Sl wa wa.heap.size pa (GL.flatMap fun x => [.int .i64 x.1, .int .i64 x.2]) from RowO.sl HM.out).up BL.out).elem (k := 2) (fun _ => rfl) (by omega) j hjl
          subst e9
          obtain ⟨y1, y2, e8, hyy, hyh⟩ := HCV.out _ (List.getElem_mem hjl)
          have HSN := Lib.hid (map_snoc7 D GL j hjl)
          rw [e8] at hc
          rw [e8, HDG.out] at HSN
          have hc_0 := hc 0 _ rfl
          rw [Nat.add_zero] at hc_0
          have hc_1 := hc 1 _ rfl
          clear hc
          obtain ⟨ab, ao, rfl, hab, _⟩ := HX.out.at y1 (by rw [HXN.out]; omega)
          have HBJ := Lib.hid (HBK.out y1 y2 hyy hyh ab ao)
          generalize BH (y2 - y1) ((xs.drop y1).take (y2 - y1)) = d at *
          clear e8
          unfold Gives at HBJ
          have hq1 : ((y2 : Int) - (y1 : Int)) = ((y2 - y1 : Nat) : Int) := by omega
          have HLB := Lib.hid HCL.out
          rw [HK.out] at HLB
          obtain ⟨w1, hq1, hb9, hz9, Hsx⟩ := new1 wr 95 [.int .i64 (y1 : Int), .int .i64 (y2 : Int)]
          replace Hr := Lib.hid (Hr.out.up hb9)
          replace BL := hbu BL hb9
          replace HB := hbu HB hb9
          replace HZS := sz HZS hz9.out
          clear hb9 hz9
          have sx_ := Hsx.out.c2
          go_wp2_with fail
          clear hq1
          refine (HBJ.out w1 (HX.out.up HB.out)).mono ?_
          rintro e w2 ⟨rfl, hb9⟩
          clear sx_
          replace Hsx := Lib.hid (Hsx.out.up hb9)
          replace Hr := Lib.hid (Hr.out.up hb9)
          replace BL := hbu BL hb9
          replace HB := hbu HB hb9
          replace HZS := sz HZS hb9.size
          clear hb9
          have sx_ := Hsx.out.c2
          have hlk := HLB.out
          clear sx_
          clear Hsx
          obtain ⟨i9, hi9, hz90, hz91, hz92⟩ := info_parts infoStrP
          go_wp2_with (at_builtin; refine wpList_pushR (wa.heap.size) w2 (by have g0 := HZS.out; omega) rfl _ _ 22 rfl 9 i9 _ 1 16 Try.underlying22 hi9 hz90 hz91 hz92 rfl (by omega) ((.slice g j c9)) (j) (((GL.take j).map D)) rfl Hr.out _ _ _ rfl rfl rfl (by simp [Value.oneCell']) (by omega) (by unfold maxLen; omega) ?_)
          intro g3 c3 w3 hown9 hg9
          have hb9 := Below.grown HB.out hg9 (by have g0 := HZS.out; omega) (fun q hq => Nat.le_trans (show w.heap.size ≤ wa.heap.size by have g0 := HZS.out; omega) (Hr.out.lt q hq).1)
          replace BL := Lib.hid (Below.grown BL.out hg9 (by have g0 := HZS.out; omega) (fun q hq => Nat.le_trans (show wa.heap.size ≤ wa.heap.size by have g0 := HZS.out; omega) (Hr.out.lt q hq).1))
          replace HZS := sz HZS hg9.size
          clear Hr HB
          have Hr := Lib.hid hown9
          have HB := Lib.hid hb9
          clear hb9 hown9 hg9 hi9 hz90 hz91 hz92
          go_wp2_with fail
          go_roundw
          case rel => exact ⟨j + 1, _, _, hjn, by go_num, rfl, BL, Hr.out.eq (by rw [← List.map_take]; exact HSN.out) rfl⟩
          case measure => simp [intOf]; omega
        · have hjn : j = k := by omega
          subst hjn
          rw [List.take_of_length_le (by rw [HK.out]; exact Nat.le_refl _)] at Hr
          go_wp2_with fail
          go_ret2
          exact ⟨.slice g j c9, rfl, ownsRow_down (Hr.out.eq rfl HK.out.symm) HWA.out, HB.out⟩
    · have h20' : ((n : Int) > 1048576) := by omega
      unfold BlocksPost partsV partsE
      rw [if_neg (by omega), if_neg (by omega)]
      clear hn hz hX hg h20
      go_enter Try.func22, Try.ntmps22
      go_wp2_with fail
      refine (right7_any l h n w).mono ?_
      rintro e w1 ⟨rfl, rfl⟩
      rw [HD.out]
      go_wp2_with fail
      go_ret2
      exact ⟨_, rfl, RowO.nil, Below.refl _ _⟩
  · have HD := Lib.hid (show decide (0 ≤ lo ∧ lo ≤ hi ∧ hi ≤ (n : Int)) = false from decide_eq_false hg)
    unfold BlocksPost partsV partsE
    rw [if_neg (by omega), if_neg (by omega)]
    clear hn hz hX hg
    go_enter Try.func22, Try.ntmps22
    go_wp2_with fail
    refine (right7_any lo hi n w).mono ?_
    rintro e w1 ⟨rfl, rfl⟩
    rw [HD.out]
    go_wp2_with fail
    go_ret2
    exact ⟨_, rfl, RowO.nil, Below.refl _ _⟩
end Go.Proofs.Ytdlnnkbigeiilaa

/- What every law's row wants: two closed facts, and small words for opening arguments. -/
namespace Go.Proofs.Ytdlnnkbigeiilaa
open Go.ChangeShapes Go.WideShapes Go.ChangeAt Go.RowKit

theorem law_own : ownKnob Try.prog.godebug = none := by kernel_rfl
theorem law_laidOut : laidOutB Try.prog = true := by kernel_rfl

section
variable {H : Type} {enc : TypeId × Value → H} {P : Program} {w : World}

theorem add_plain (b off i : Nat) : (⟨b, off, none⟩ : Addr).add i = ⟨b, off + i, none⟩ := by unfold Addr.add; split <;> simp_all

/-- An argument that is a slice of integers: its numbers, and that it reads. -/
theorem open_Sl_ints {k : IntKind} {t e : TypeId} {a : Option Addr} {len cap : Nat} {d : DataW H} {p : List MemPlace} (ht : P.underlying t = some (.slice e)) (he : P.underlying e = some (.int k)) (hc : P.cellsOf e = 1)
    (h : DataW.Trod enc P w 0 (fun _ => true) true t (.slice a len cap) d p) (hlt : ∀ x ∈ p, x.block < w.heap.size) :
    ∃ xs : List Int, len = xs.length ∧ Sl w w.heap.size a (xs.map (Value.int k)) ∧ (∀ x ∈ xs, (Lit.int k x).wf = true) ∧ ((len = 0) ∨ ∃ zs : List Int, len ≤ zs.length ∧ d = .slice (lits k (zs.take len)) (lits k (zs.drop len))) := by
  obtain ⟨fuel, hf⟩ := h
  rcases open_ints ht he hc hf with ⟨hcs, _⟩ | ⟨x, l, c, zs, hcs, _, hl, hm, hz, hx, hcell, hwz⟩
  · simp [Value.cells] at hcs
    obtain ⟨rfl, rfl, rfl⟩ := hcs
    exact ⟨[], rfl, Or.inl rfl, by simp, Or.inl rfl⟩
  · simp [Value.cells] at hcs
    obtain ⟨rfl, rfl, rfl⟩ := hcs
    simp only [Prod.mk.injEq] at hx
    obtain ⟨hd, rfl⟩ := hx
    simp only [if_true] at hz
    by_cases h0 : len = 0
    · subst h0
      exact ⟨[], rfl, Or.inl rfl, by simp, Or.inl rfl⟩
    · obtain ⟨b, off, spot⟩ := x
      have hspot : spot = none := by simpa [Addr.add] using World.cell?_spot (hcell 0 (by omega))
      subst hspot
      have hbW : b < w.heap.size := hlt (.cell b off) (MemPlace.mem_row.2 ⟨0, by omega, by simp⟩)
      refine ⟨zs.take len, by rw [List.length_take]; omega, Or.inr ⟨b, off, rfl, hbW, ?_⟩, fun x hx => hwz x (List.mem_of_mem_take hx), Or.inr ⟨zs, by omega, hd⟩⟩
      intro i v hv
      have hi : i < len := by
        have := (List.getElem?_eq_some_iff.1 hv).1
        simp at this; omega
      have := hcell i (by omega)
      rw [add_plain] at this
      rw [this, ← hv]
      simp [List.getD, hi, List.getElem?_eq_getElem (show i < zs.length by omega)]

/-- An argument that is a slice of one-cell elements of any kind: its cells, each with its own reading. -/
theorem open_Sl_any {t e : TypeId} {a : Option Addr} {len cap : Nat} {d : DataW H} {p : List MemPlace} (ht : P.underlying t = some (.slice e)) (hc : P.cellsOf e = 1)
    (h : DataW.Trod enc P w 0 (fun _ => true) true t (.slice a len cap) d p) (hlt : ∀ x ∈ p, x.block < w.heap.size) :
    ∃ cs : List Value, len = cs.length ∧ Sl w w.heap.size a cs ∧
      ((len = 0) ∨ ∃ (n : Nat) (ys rest : List (DataW H × List MemPlace)), d = .slice (ys.map (·.1)) (rest.map (·.1)) ∧ ys.length = len ∧ (∀ y ∈ ys, ∀ q ∈ y.2, q ∈ p) ∧
        ∀ (i : Nat) (c : Value), cs[i]? = some c → ∃ y, ys[i]? = some y ∧ DataW.trod enc P w 0 (fun _ => true) true n e [c] = some y) := by
  obtain ⟨fuel, hf⟩ := h
  rcases DataW.trod_slice ht hf with ⟨hcs, _⟩ | ⟨x, l, c, elems, rest, n, _, hcs, hx, hb, hl, hm, hlen, hel, _, _⟩
  · simp [Value.cells] at hcs
    obtain ⟨rfl, rfl, rfl⟩ := hcs
    exact ⟨[], rfl, Or.inl rfl, Or.inl rfl⟩
  · simp [Value.cells] at hcs
    obtain ⟨rfl, rfl, rfl⟩ := hcs
    simp only [Prod.mk.injEq] at hx
    obtain ⟨hd, rfl⟩ := hx
    by_cases h0 : len = 0
    · subst h0
      exact ⟨[], rfl, Or.inl rfl, Or.inl rfl⟩
    have each : ∀ i, i < len → ∃ c y, w.cell? (x.add i) = some c ∧ elems[i]? = some y ∧ DataW.trod enc P w 0 (fun _ => true) true n e [c] = some y := by
      intro i hi
      have h1 := hel i hi
      rw [hc, Nat.mul_one] at h1
      have h2 : elems[i]? = some (elems[i]'(by omega)) := List.getElem?_eq_getElem (by omega)
      rw [h2, Option.bind_eq_some_iff] at h1
      obtain ⟨cs', hcs', hy⟩ := h1
      obtain ⟨h3, h4, h5⟩ := World.cells?_some hcs'
      obtain ⟨c, rfl⟩ : ∃ c, cs' = [c] := by
        match cs', h3 with
        | [c], _ => exact ⟨c, rfl⟩
      exact ⟨c, _, cell_of_cells?_one hcs', h2, hy⟩
    obtain ⟨b, off, spot⟩ := x
    obtain ⟨c0, y0, hc0, _⟩ := each 0 (by omega)
    have hspot : spot = none := by simpa [Addr.add] using World.cell?_spot hc0
    subst hspot
    have hbW : b < w.heap.size := hlt (.cell b off) (List.mem_append_left _ (MemPlace.mem_row.2 ⟨0, by rw [hc]; omega, by simp⟩))
    have hget : ∀ i c, ((List.range len).map (fun i => (w.cell? ⟨b, off + i, none⟩).getD (.bool false)))[i]? = some c → i < len ∧ w.cell? ⟨b, off + i, none⟩ = some c := by
      intro i c hi
      have hil : i < len := by
        have := (List.getElem?_eq_some_iff.1 hi).1
        simpa using this
      obtain ⟨c', y, h1, _⟩ := each i hil
      rw [add_plain] at h1
      simp [hil, h1] at hi
      exact ⟨hil, by rw [h1, hi]⟩
    refine ⟨(List.range len).map (fun i => (w.cell? ⟨b, off + i, none⟩).getD (.bool false)), by simp, Or.inr ⟨b, off, rfl, hbW, fun i v hv => (hget i v hv).2⟩, Or.inr ⟨n, elems, rest, hd, hlen, ?_, ?_⟩⟩
    · intro y hy q hq
      exact List.mem_append_right _ (List.mem_flatMap.2 ⟨y, List.mem_append_left _ hy, hq⟩)
    · intro i c hi
      obtain ⟨hil, hcell⟩ := hget i c hi
      obtain ⟨c', y, h1, h2, h3⟩ := each i hil
      rw [add_plain, hcell] at h1
      simp only [Option.some.injEq] at h1
      exact ⟨y, h2, by rw [h1]; exact h3⟩

/-- A list of values each of which is of one shape. -/
theorem list_shape {α : Type} (mk : α → Value) : ∀ cs : List Value, (∀ c ∈ cs, ∃ a, c = mk a) → ∃ xs : List α, cs = xs.map mk
  | [], _ => ⟨[], rfl⟩
  | c :: cs, h => by
    obtain ⟨a, rfl⟩ := h c (by simp)
    obtain ⟨xs, rfl⟩ := list_shape mk cs (fun c hc => h c (by simp [hc]))
    exact ⟨a :: xs, rfl⟩

/-- An argument that is a slice of booleans. -/
theorem open_Sl_bools {t e : TypeId} {a : Option Addr} {len cap : Nat} {d : DataW H} {p : List MemPlace} (ht : P.underlying t = some (.slice e)) (he : P.underlying e = some .bool) (hc : P.cellsOf e = 1)
    (h : DataW.Trod enc P w 0 (fun _ => true) true t (.slice a len cap) d p) (hlt : ∀ x ∈ p, x.block < w.heap.size) :
    ∃ bs : List Bool, len = bs.length ∧ Sl w w.heap.size a (bs.map Value.bool) := by
  obtain ⟨cs, hl, hs, hk⟩ := open_Sl_any ht hc h hlt
  obtain ⟨bs, rfl⟩ := list_shape Value.bool cs (by
    intro c hcm
    obtain ⟨i, hi⟩ := List.getElem?_of_mem hcm
    rcases hk with h0 | ⟨n, ys, rest, _, _, _, hy⟩
    · rw [h0] at hl
      have := List.eq_nil_of_length_eq_zero hl.symm
      subst this
      simp at hcm
    · obtain ⟨y, _, ht2⟩ := hy i c hi
      obtain ⟨b, hb, _⟩ := DataW.trod_bool he ht2
      exact ⟨b, by simpa using hb⟩)
  exact ⟨bs, by simpa using hl, hs⟩

/-- A struct of one-cell fields, by value: its cells, each with its own reading. -/
theorem open_fields {r : Reach} {b0 base : Nat} {spare : Nat → Bool} {held : Bool} {t : TypeId} {fs : Array Go.Field} {v : Value} {d : DataW H} {p : List MemPlace} (hs : P.underlying t = some (.struct fs)) (hone : Go.Deep.oneCellFields P fs = true) (hC : P.cellsOf t = fs.size)
    (hv : Value.okWide P w r b0 t v) (h : DataW.Trod enc P w base spare held t v d p) :
    ∃ (cs : Array Value) (ys : List (DataW H × List MemPlace)) (n : Nat), v = .agg cs ∧ cs.size = fs.size ∧ d = .agg (ys.map (·.1)) ∧ p = ys.flatMap (·.2) ∧ ys.length = fs.size ∧
      ∀ (j : Nat) (f : Go.Field), fs[j]? = some f → ∃ c y, cs[j]? = some c ∧ ys[j]? = some y ∧ DataW.trod enc P w base spare held n f.type [c] = some y := by
  obtain ⟨cs, rfl, hsz⟩ := okWide_struct hs hv
  obtain ⟨fuel, hf⟩ := h
  obtain ⟨ys, n, _, hx, hcl, hlen, hg⟩ := DataW.trod_struct hs hf
  simp only [Prod.mk.injEq] at hx
  refine ⟨cs, ys, n, rfl, by omega, hx.1, hx.2, hlen, fun j f hj => ?_⟩
  obtain ⟨ho, hk⟩ := Go.Deep.hone_of hone j f hj
  have hjf : j < fs.size := (Array.getElem?_eq_some_iff.1 hj).1
  have hjc : j < cs.size := by omega
  have h1 := hg j f hj
  have e : ((Value.agg cs).cells.toList.drop f.offset).take (P.cellsOf f.type) = [cs[j]] := by
    rw [ho, hk]
    show (cs.toList.drop j).take 1 = _
    rw [List.drop_eq_getElem_cons (by simpa using hjc)]
    simp
  rw [e] at h1
  have hys : ys[j]? = some (ys[j]'(by omega)) := List.getElem?_eq_getElem (by omega)
  exact ⟨cs[j], _, by simp [hjc], hys, h1.trans hys⟩

/-- A field that is a slice: its value's form. -/
theorem field_slice {base fuel : Nat} {spare : Nat → Bool} {held : Bool} {t e : TypeId} {c : Value} {y : DataW H × List MemPlace} (ht : P.underlying t = some (.slice e)) (h : DataW.trod enc P w base spare held fuel t [c] = some y) :
    ∃ a len cap, c = .slice a len cap := by
  rcases DataW.trod_slice ht h with ⟨hc, _⟩ | ⟨a, len, cap, _, _, _, _, hc, _⟩
  · simp at hc; exact ⟨_, _, _, hc⟩
  · simp at hc; exact ⟨_, _, _, hc⟩

theorem field_int {k : IntKind} {base fuel : Nat} {spare : Nat → Bool} {held : Bool} {t : TypeId} {c : Value} {y : DataW H × List MemPlace} (ht : P.underlying t = some (.int k)) (h : DataW.trod enc P w base spare held fuel t [c] = some y) :
    ∃ n, c = .int k n ∧ (Lit.int k n).wf = true := by
  obtain ⟨n, hc, _, hw⟩ := DataW.trod_int ht h
  simp at hc; exact ⟨n, hc, hw⟩

theorem array5 {cs : Array Value} (h : cs.size = 5) : ∃ a b c d e, cs = #[a, b, c, d, e] := by
  obtain ⟨l⟩ := cs
  match l, h with
  | [a, b, c, d, e], _ => exact ⟨a, b, c, d, e, rfl⟩

end
end Go.Proofs.Ytdlnnkbigeiilaa

/- Lists of strings are compared: same of the package hustingslaw7. Condition: the lists that memory can hold. -/
namespace Go.Proofs.Ytdlnnkbigeiilaa
open Go.RowKit

theorem toList_bne7 {a b : ByteArray} (h : ¬ a = b) : (a.toList == b.toList) = false := beq_eq_false_iff_ne.2 (fun e => h (by
  have h9 : (a == b) = true := by rw [beq_toListBytes]; exact beq_iff_eq.2 e
  obtain ⟨x⟩ := a
  obtain ⟨y⟩ := b
  have h10 : (x == y) = true := h9
  rw [eq_of_beq h10]))
theorem Sl.atUp7 {w w1 : World} {a : Option Addr} {cs : List Value} (h : Sl w w.heap.size a cs) (hb : Below w.heap.size w w1) (i : Nat) (hi : i < cs.length) :
    ∃ b off, a = some ⟨b, off, none⟩ ∧ b < w.heap.size ∧ b < w1.heap.size ∧ w1.cell? ⟨b, off + i, none⟩ = some cs[i] := by
  obtain ⟨b, off, rfl, hl, hc⟩ := h.at i hi
  exact ⟨b, off, rfl, hl, Nat.lt_of_lt_of_le hl hb.size, (hb.cell (p := ⟨b, off + i, none⟩) hl).trans hc⟩
theorem take_eq_snoc7 {l m : List ByteArray} {j : Nat} (hl : j < l.length) (hm : j < m.length) (h : l.take j = m.take j) (h1 : l[j] = m[j]) : l.take (j + 1) = m.take (j + 1) := by
  rw [List.take_succ_eq_append_getElem hl, List.take_succ_eq_append_getElem hm, h, h1]

set_option maxRecDepth 100000 in
set_option maxHeartbeats 1000000 in
theorem same7_any (l m : List ByteArray) (al am : Option Addr) (cl cm : Nat) (hl : l.length ≤ 8796093022207) (b : Bool) (hb : decide (l = m) = b) (w : World) (hL : Sl w w.heap.size al (l.map Value.string)) (hM : Sl w w.heap.size am (m.map Value.string)) :
    Calls Try.prog 23 #[.slice al l.length cl, .slice am m.length cm] w (Gives (.bool b) w) := by
  have HL := Lib.hid hL
  have HM := Lib.hid hM
  have HBB := Lib.hid hb
  clear hL hM hb
  unfold Gives
  by_cases h1 : l.length = m.length
  · have hd : ((l.length : Int) != (m.length : Int)) = false := by rw [bne_eq_false_iff_eq]; omega
    obtain ⟨n, hn⟩ : ∃ n, l.length = n := ⟨_, rfl⟩
    have hm : m.length = n := by omega
    have HNL := Lib.hid hn
    have HNM := Lib.hid hm
    rw [hn] at hd hl ⊢
    rw [hm] at hd ⊢
    clear h1 hn hm
    go_enter Try.func23, Try.ntmps23
    go_wp2_with fail
    go_loopw [13] (fun i wr => ∃ j : Nat, j ≤ n ∧ i = .int .i64 j ∧ Hid (Below w.heap.size w wr) ∧ Hid (l.take j = m.take j)) (fun i _ => n - (intOf i).toNat)
    case atStart => exact ⟨0, Nat.zero_le _, rfl, Below.refl _ _, rfl⟩
    case round =>
      obtain ⟨j, hj, rfl, HB, HT⟩ := hrel
      by_cases hjn : j < n
      · skip
        have hjl : j < l.length := by rw [HNL.out]; exact hjn
        have hjm : j < m.length := by rw [HNM.out]; exact hjn
        obtain ⟨b1, o1, rfl, hb10, hb1, hc1⟩ := HL.out.atUp7 HB.out j (by simpa using hjl)
        obtain ⟨b2, o2, rfl, hb20, hb2, hc2⟩ := HM.out.atUp7 HB.out j (by simpa using hjm)
        rw [List.getElem_map] at hc1 hc2
        have HTS := Lib.hid (take_eq_snoc7 hjl hjm HT.out)
        have HNE := Lib.hid (fun (h : ¬ l[j] = m[j]) => (show ¬ l = m from fun e => h (by subst e; rfl)))
        generalize l[j] = x at *
        generalize m[j] = y at *
        by_cases hxy : x = y
        · have HF := Lib.hid (HTS.out hxy)
          subst hxy
          go_wp2_with fail
          refine wp_region_over (by kernel_rfl) (by kernel_rfl) ?_
          have hov_b1 := fun (E : Over wr) o => E.cell (b := b1) o hb1
          have hov_b2 := fun (E : Over wr) o => E.cell (b := b2) o hb2
          repeat (go_big_quiet_step (first | fail))
          all_goals (try unfold elV limbV)
          repeat (go_big_quiet_step (first | fail))
          all_goals (try unfold elV limbV)
          repeat (go_big_quiet_step (first | fail))
          all_goals (try unfold ciphV)
          refine wpQuiet_nil ?_
          rintro _ ⟨E, rfl⟩
          clear hov_b1 hov_b2
          replace HB := hbu HB E.h
          have HZS := Lib.hid E.h.size
          obtain ⟨w1, hq9⟩ : ∃ W9 : World, E.w = W9 := ⟨_, rfl⟩
          rw [hq9] at HB HZS ⊢
          clear hq9 E
          go_wp2_with fail
          go_roundw
          case rel => exact ⟨j + 1, by omega, by go_num, HB, HF⟩
          case measure => simp [intOf]; omega
        · obtain rfl : b = false := by rw [← HBB.out]; exact decide_eq_false (HNE.out hxy)
          have hcd := toList_bne7 hxy
          clear hxy
          go_wp2_with fail
          refine wp_region_over (by kernel_rfl) (by kernel_rfl) ?_
          have hov_b1 := fun (E : Over wr) o => E.cell (b := b1) o hb1
          have hov_b2 := fun (E : Over wr) o => E.cell (b := b2) o hb2
          repeat (go_big_quiet_step (first | fail))
          all_goals (try unfold elV limbV)
          repeat (go_big_quiet_step (first | fail))
          all_goals (try unfold elV limbV)
          repeat (go_big_quiet_step (first | fail))
          all_goals (try unfold ciphV)
          refine wpQuiet_nil ?_
          rintro _ ⟨E, rfl⟩
          clear hov_b1 hov_b2
          replace HB := hbu HB E.h
          have HZS := Lib.hid E.h.size
          obtain ⟨w1, hq9⟩ : ∃ W9 : World, E.w = W9 := ⟨_, rfl⟩
          rw [hq9] at HB HZS ⊢
          clear hq9 E
          go_wp2_with fail
          go_ret
          exact ⟨rfl, HB.out⟩
      · have hjn' : j = n := by omega
        subst hjn'
        obtain rfl : b = true := by
          rw [← HBB.out]
          refine decide_eq_true ?_
          have h9 := HT.out
          rwa [List.take_of_length_le (by rw [HNL.out]; exact Nat.le_refl _), List.take_of_length_le (by rw [HNM.out]; exact Nat.le_refl _)] at h9
        go_wp2_with fail
        go_ret
        exact ⟨rfl, HB.out⟩
  · have hd : ((l.length : Int) != (m.length : Int)) = true := by rw [bne_iff_ne]; omega
    obtain rfl : b = false := by rw [← HBB.out]; exact decide_eq_false (fun e => h1 (by rw [e]))
    clear h1
    go_enter Try.func23, Try.ntmps23
    go_wp2_with fail
    go_ret
    exact ⟨rfl, Below.refl _ _⟩
end Go.Proofs.Ytdlnnkbigeiilaa
