/- Number theory from the ground: Fermat's little theorem, and two certificates of primality (Proth, Pocklington). No condition. -/
namespace Go.Proofs.Ytdmldnpadojflaa

def IsPrime (p : Nat) : Prop := 2 ≤ p ∧ ∀ d, d ∣ p → d = 1 ∨ d = p

theorem IsPrime.coprime_of_not_dvd {p a : Nat} (hp : IsPrime p) (h : ¬ p ∣ a) : Nat.Coprime p a := by
  rcases hp.2 (Nat.gcd p a) (Nat.gcd_dvd_left p a) with h1 | h1
  · exact h1
  · exact absurd (h1 ▸ Nat.gcd_dvd_right p a) h

theorem IsPrime.dvd_mul {p a b : Nat} (hp : IsPrime p) (h : p ∣ a * b) : p ∣ a ∨ p ∣ b := by
  by_cases ha : p ∣ a
  · exact Or.inl ha
  · exact Or.inr ((hp.coprime_of_not_dvd ha).dvd_of_dvd_mul_left h)

theorem exists_prime_dvd : ∀ n : Nat, 2 ≤ n → ∃ p, IsPrime p ∧ p ∣ n := by
  intro n
  induction n using Nat.strongRecOn with
  | ind n ih =>
    intro hn
    by_cases h : ∃ d, d ∣ n ∧ d ≠ 1 ∧ d ≠ n
    · obtain ⟨d, hd, h1, h2⟩ := h
      have hd0 : d ≠ 0 := by
        intro e; subst e; have := Nat.eq_zero_of_zero_dvd hd; omega
      have hle := Nat.le_of_dvd (by omega) hd
      obtain ⟨p, hp, hpd⟩ := ih d (by omega) (by omega)
      exact ⟨p, hp, Nat.dvd_trans hpd hd⟩
    · refine ⟨n, ⟨hn, fun d hd => ?_⟩, Nat.dvd_refl n⟩
      by_cases h1 : d = 1
      · exact Or.inl h1
      · by_cases h2 : d = n
        · exact Or.inr h2
        · exact absurd ⟨d, hd, h1, h2⟩ h

/-- The least factor is not above the root. -/
theorem exists_small_prime {n : Nat} (hn : 2 ≤ n) (h : ¬ IsPrime n) : ∃ p, IsPrime p ∧ p ∣ n ∧ p * p ≤ n := by
  have : ∃ d, d ∣ n ∧ d ≠ 1 ∧ d ≠ n := by
    apply Classical.byContradiction
    intro hc
    apply h
    refine ⟨hn, fun d hd => ?_⟩
    by_cases h1 : d = 1
    · exact Or.inl h1
    · by_cases h2 : d = n
      · exact Or.inr h2
      · exact absurd ⟨d, hd, h1, h2⟩ hc
  obtain ⟨d, ⟨c, hc⟩, h1, h2⟩ := this
  have hd0 : d ≠ 0 := by intro e; subst e; simp at hc; omega
  have hc0 : c ≠ 0 := by intro e; subst e; simp at hc; omega
  have hc1 : c ≠ 1 := by intro e; subst e; simp at hc; omega
  rcases Nat.le_total d c with hdc | hdc
  · obtain ⟨p, hp, hpd⟩ := exists_prime_dvd d (by omega)
    refine ⟨p, hp, Nat.dvd_trans hpd ⟨c, hc⟩, ?_⟩
    have := Nat.le_of_dvd (by omega) hpd
    calc p * p ≤ d * d := Nat.mul_le_mul this this
      _ ≤ d * c := Nat.mul_le_mul_left d hdc
      _ = n := hc.symm
  · obtain ⟨p, hp, hpd⟩ := exists_prime_dvd c (by omega)
    refine ⟨p, hp, Nat.dvd_trans hpd ⟨d, by rw [hc, Nat.mul_comm]⟩, ?_⟩
    have := Nat.le_of_dvd (by omega) hpd
    calc p * p ≤ c * c := Nat.mul_le_mul this this
      _ ≤ d * c := Nat.mul_le_mul_right c hdc
      _ = n := hc.symm

/-! Binomial numbers. -/
def choose : Nat → Nat → Nat
  | _, 0 => 1
  | 0, _ + 1 => 0
  | n + 1, k + 1 => choose n k + choose n (k + 1)

theorem choose_zero (n : Nat) : choose n 0 = 1 := by cases n <;> rfl
theorem choose_big : ∀ n k, n < k → choose n k = 0
  | 0, _ + 1, _ => rfl
  | n + 1, k + 1, h => by rw [choose, choose_big n k (by omega), choose_big n (k + 1) (by omega)]
theorem choose_self : ∀ n, choose n n = 1
  | 0 => rfl
  | n + 1 => by rw [choose, choose_self n, choose_big n (n + 1) (by omega)]
theorem choose_mul : ∀ n k, choose (n + 1) (k + 1) * (k + 1) = (n + 1) * choose n k
  | 0, 0 => rfl
  | 0, k + 1 => by simp [choose]
  | n + 1, 0 => by
    have h := choose_mul n 0
    have e : choose (n + 1 + 1) (0 + 1) = choose (n + 1) 0 + choose (n + 1) (0 + 1) := rfl
    rw [e]
    simp only [choose_zero, Nat.mul_one, Nat.zero_add] at h ⊢
    omega
  | n + 1, k + 1 => by
    have h1 := choose_mul n k
    have h2 := choose_mul n (k + 1)
    have e : choose (n + 1) (k + 1) = choose n k + choose n (k + 1) := rfl
    have e2 : choose (n + 1 + 1) (k + 1 + 1) = choose (n + 1) (k + 1) + choose (n + 1) (k + 1 + 1) := rfl
    rw [e2, Nat.add_mul, h2]
    have : choose (n + 1) (k + 1) * (k + 1 + 1) = choose (n + 1) (k + 1) * (k + 1) + choose (n + 1) (k + 1) := by
      rw [Nat.mul_add, Nat.mul_one]
    rw [this, h1]
    have : (n + 1 + 1) * choose (n + 1) (k + 1) = (n + 1) * choose (n + 1) (k + 1) + choose (n + 1) (k + 1) := by
      rw [Nat.add_mul (n + 1) 1, Nat.one_mul]
    rw [this, e, Nat.mul_add]
    omega

/-- The sum of the first m terms of (a + 1)^n. -/
def binom (a n : Nat) : Nat → Nat
  | 0 => 0
  | m + 1 => binom a n m + choose n m * a ^ m

theorem binom_succ (a n : Nat) : ∀ m, binom a (n + 1) (m + 1) = binom a n (m + 1) + a * binom a n m
  | 0 => by simp [binom, choose_zero]
  | m + 1 => by
    have ih := binom_succ a n m
    rw [binom, ih]
    have e : choose (n + 1) (m + 1) = choose n m + choose n (m + 1) := rfl
    rw [e]
    have e1 : binom a n (m + 1 + 1) = binom a n (m + 1) + choose n (m + 1) * a ^ (m + 1) := rfl
    have e2 : binom a n (m + 1) = binom a n m + choose n m * a ^ m := rfl
    rw [e1, Nat.add_mul]
    have e3 : a * binom a n (m + 1) = a * binom a n m + choose n m * a ^ (m + 1) := by
      rw [e2, Nat.mul_add, Nat.pow_succ]
      have : a * (choose n m * a ^ m) = choose n m * (a ^ m * a) := by
        rw [Nat.mul_left_comm, Nat.mul_comm a]
      rw [this]
    rw [e3]
    omega

theorem binom_all (a : Nat) : ∀ n, (a + 1) ^ n = binom a n (n + 1)
  | 0 => by simp [binom, choose]
  | n + 1 => by
    rw [binom_succ, Nat.pow_succ, binom_all a n]
    have e : binom a n (n + 1 + 1) = binom a n (n + 1) := by
      show binom a n (n + 1) + choose n (n + 1) * a ^ (n + 1) = _
      rw [choose_big n (n + 1) (by omega)]; simp
    rw [e, Nat.mul_add, Nat.mul_one, Nat.mul_comm, Nat.add_comm]

theorem prime_dvd_choose {p : Nat} (hp : IsPrime p) {k : Nat} (h0 : 0 < k) (h1 : k < p) : p ∣ choose p k := by
  obtain ⟨n, rfl⟩ : ∃ n, p = n + 1 := ⟨p - 1, by have := hp.1; omega⟩
  obtain ⟨j, rfl⟩ : ∃ j, k = j + 1 := ⟨k - 1, by omega⟩
  have h := choose_mul n j
  have : (n + 1) ∣ choose (n + 1) (j + 1) * (j + 1) := ⟨choose n j, h⟩
  rcases hp.dvd_mul this with h | h
  · exact h
  · have := Nat.le_of_dvd (by omega) h; omega

theorem binom_mod {p : Nat} (hp : IsPrime p) (a : Nat) : ∀ m, m < p → binom a p (m + 1) % p = 1 % p
  | 0, _ => by simp [binom, choose_zero]
  | m + 1, h => by
    rw [binom, Nat.add_mod, binom_mod hp a m (by omega)]
    have : choose p (m + 1) * a ^ (m + 1) % p = 0 :=
      Nat.mod_eq_zero_of_dvd (Nat.dvd_trans (prime_dvd_choose hp (by omega) h) ⟨_, rfl⟩)
    rw [this]; simp

theorem succ_pow_mod {p : Nat} (hp : IsPrime p) (a : Nat) : (a + 1) ^ p % p = (a ^ p + 1) % p := by
  have h2 := hp.1
  rw [binom_all]
  show (binom a p p + choose p p * a ^ p) % p = _
  have e := binom_mod hp a (p - 1) (by omega)
  rw [show p - 1 + 1 = p by omega] at e
  rw [choose_self, Nat.one_mul, Nat.add_mod, e, ← Nat.add_mod, Nat.add_comm]

theorem pow_prime_mod {p : Nat} (hp : IsPrime p) : ∀ a : Nat, a ^ p % p = a % p
  | 0 => by rw [Nat.zero_pow (by have := hp.1; omega)]
  | a + 1 => by rw [succ_pow_mod hp, Nat.add_mod, pow_prime_mod hp a, ← Nat.add_mod]

/-! Congruences. -/
theorem mod_eq_iff_dvd_sub {a b n : Nat} (h : b ≤ a) : a % n = b % n ↔ n ∣ a - b := by
  constructor
  · intro e
    exact Nat.dvd_of_mod_eq_zero (Nat.sub_mod_eq_zero_of_mod_eq e)
  · rintro ⟨c, hc⟩
    have : a = b + n * c := by omega
    rw [this, Nat.add_mul_mod_self_left]

theorem mul_cancel_mod {p a x y : Nat} (hp : Nat.Coprime p a) (h : a * x % p = a * y % p) : x % p = y % p := by
  rcases Nat.le_total y x with hxy | hxy
  · rw [mod_eq_iff_dvd_sub (Nat.mul_le_mul_left a hxy), ← Nat.mul_sub] at h
    exact (mod_eq_iff_dvd_sub hxy).2 (hp.dvd_of_dvd_mul_left h)
  · have h := h.symm
    rw [mod_eq_iff_dvd_sub (Nat.mul_le_mul_left a hxy), ← Nat.mul_sub] at h
    exact ((mod_eq_iff_dvd_sub hxy).2 (hp.dvd_of_dvd_mul_left h)).symm

/-- Fermat's little theorem. -/
theorem fermat {p a : Nat} (hp : IsPrime p) (h : ¬ p ∣ a) : a ^ (p - 1) % p = 1 % p := by
  have h2 := hp.1
  apply mul_cancel_mod (hp.coprime_of_not_dvd h)
  have e := pow_prime_mod hp a
  rw [show p = p - 1 + 1 by omega, Nat.pow_succ, Nat.mul_comm] at e
  rw [show p - 1 + 1 = p by omega] at e
  rw [e, Nat.mul_one]

theorem pow_mod_one {p a m : Nat} (h : a ^ m % p = 1 % p) (k : Nat) : a ^ (m * k) % p = 1 % p := by
  rw [Nat.pow_mul, Nat.pow_mod, h, ← Nat.pow_mod, Nat.one_pow]

/-- What is 1 to two powers is 1 to their greatest common measure. -/
theorem pow_gcd {p a : Nat} : ∀ m n : Nat, a ^ m % p = 1 % p → a ^ n % p = 1 % p → a ^ (Nat.gcd m n) % p = 1 % p := by
  intro m
  induction m using Nat.strongRecOn with
  | ind m ih =>
    intro n hm hn
    by_cases h0 : m = 0
    · subst h0; simpa using hn
    · rw [Nat.gcd_rec]
      refine ih (n % m) (Nat.mod_lt _ (by omega)) m ?_ hm
      have e : a ^ n = a ^ (m * (n / m)) * a ^ (n % m) := by rw [← Nat.pow_add, Nat.div_add_mod]
      rw [e] at hn
      rw [Nat.mul_mod, pow_mod_one hm, ← Nat.mul_mod, Nat.one_mul] at hn
      exact hn

theorem coprime_of_pow {p a m : Nat} (hp : IsPrime p) (hm : 0 < m) (h : a ^ m % p = 1 % p) : ¬ p ∣ a := by
  intro hd
  have : p ∣ a ^ m := Nat.dvd_trans hd (Nat.dvd_trans ⟨a ^ (m - 1), by rw [← Nat.pow_succ', show (m - 1).succ = m by omega]⟩ (Nat.dvd_refl _))
  rw [Nat.mod_eq_zero_of_dvd this, Nat.mod_eq_of_lt hp.1] at h
  omega

/-- Proth: h 2^k + 1, h odd or even, with 2^k above h, is a prime if some a to the half of what is one less is -1. -/
theorem proth {h k a : Nat} (hk : 0 < k) (hh : 0 < h) (hlt : h < 2 ^ k) (hw : (a ^ (h * 2 ^ (k - 1)) + 1) % (h * 2 ^ k + 1) = 0) : IsPrime (h * 2 ^ k + 1) := by
  have h2k : 2 ^ k = 2 * 2 ^ (k - 1) := by rw [← Nat.pow_succ', show (k - 1).succ = k by omega]
  have hpos : 0 < 2 ^ (k - 1) := Nat.pow_pos (by omega)
  apply Classical.byContradiction
  intro hn
  have hbig : 2 ≤ h * 2 ^ k + 1 := by have := Nat.mul_pos hh (show 0 < 2 ^ k by omega); omega
  obtain ⟨p, hp, hpd, hpp⟩ := exists_small_prime hbig hn
  have hdw : p ∣ a ^ (h * 2 ^ (k - 1)) + 1 := Nat.dvd_trans hpd (Nat.dvd_of_mod_eq_zero hw)
  have hp2 := hp.1
  -- p is odd
  have hodd : p ≠ 2 := by
    intro e; subst e
    obtain ⟨c, hc⟩ := hpd
    have : h * 2 ^ k = 2 * (h * 2 ^ (k - 1)) := by rw [h2k, Nat.mul_left_comm]
    omega
  -- a^(N-1) is 1
  have hx : a ^ (h * 2 ^ k) % p = 1 % p := by
    have e : a ^ (h * 2 ^ k) = a ^ (h * 2 ^ (k - 1)) * a ^ (h * 2 ^ (k - 1)) := by
      rw [← Nat.pow_add]; congr 1; rw [h2k, Nat.mul_left_comm]; omega
    rw [e]
    generalize a ^ (h * 2 ^ (k - 1)) = A at hdw
    have hA : A ≠ 0 := by
      intro e0; subst e0
      have := Nat.le_of_dvd (by omega) hdw; omega
    obtain ⟨B, rfl⟩ : ∃ B, A = B + 1 := ⟨A - 1, by omega⟩
    have e2 : (B + 1) * (B + 1) = (B + 1 + 1) * B + 1 := by
      rw [Nat.add_mul, Nat.mul_add, Nat.add_mul (B + 1), Nat.add_mul B]; omega
    rw [e2, mod_eq_iff_dvd_sub (by omega)]
    exact Nat.dvd_trans hdw ⟨B, by omega⟩
  have hcop := coprime_of_pow hp (Nat.mul_pos hh (by omega : 0 < 2 ^ k)) hx
  have hfer := fermat hp hcop
  have hg := pow_gcd _ _ hx hfer
  -- if 2^k does not divide the gcd, the half power is 1 as well
  have hdiv : 2 ^ k ∣ Nat.gcd (h * 2 ^ k) (p - 1) := by
    apply Classical.byContradiction
    intro hnd
    have hgd : Nat.gcd (h * 2 ^ k) (p - 1) ∣ h * 2 ^ k := Nat.gcd_dvd_left _ _
    generalize Nat.gcd (h * 2 ^ k) (p - 1) = g at hg hnd hgd
    have key : ∀ k, 0 < k → ∀ g, g ∣ h * 2 ^ k → ¬ 2 ^ k ∣ g → g ∣ h * 2 ^ (k - 1) := by
      intro k
      induction k with
      | zero => intro h0; omega
      | succ k ihk =>
        intro _ g hgd hnd
        show g ∣ h * 2 ^ k
        by_cases hev : 2 ∣ g
        · obtain ⟨g', rfl⟩ := hev
          rw [Nat.pow_succ] at hgd hnd
          have h1 : g' ∣ h * 2 ^ k := by
            obtain ⟨c, hc⟩ := hgd
            refine ⟨c, ?_⟩
            have : 2 * (h * 2 ^ k) = 2 * (g' * c) := by
              rw [← Nat.mul_assoc 2 g' c, ← hc, Nat.mul_comm 2, Nat.mul_assoc]
            omega
          have h2 : ¬ 2 ^ k ∣ g' := by
            rintro ⟨c, rfl⟩
            exact hnd ⟨c, by rw [Nat.mul_comm (2 ^ k) 2, Nat.mul_assoc]⟩
          by_cases hk0 : k = 0
          · subst hk0; exact absurd (Nat.one_dvd g') h2
          · have := ihk (by omega) g' h1 h2
            rw [show k = k - 1 + 1 by omega, Nat.pow_succ, ← Nat.mul_assoc, Nat.mul_comm 2]
            exact Nat.mul_dvd_mul_right this 2
        · have hc2 : Nat.Coprime g 2 := by
            have p2 : IsPrime 2 := ⟨by omega, fun d hd => by have := Nat.le_of_dvd (by omega) hd; have : d ≠ 0 := (by intro e; subst e; simp at hd); omega⟩
            exact (p2.coprime_of_not_dvd hev).symm
          rw [Nat.pow_succ, ← Nat.mul_assoc] at hgd
          exact hc2.dvd_of_dvd_mul_right hgd
    obtain ⟨c, hc⟩ := key k hk g hgd hnd
    have h1 := pow_mod_one hg c
    rw [← hc] at h1
    have : (a ^ (h * 2 ^ (k - 1)) + 1) % p = 2 % p := by rw [Nat.add_mod, h1, ← Nat.add_mod]
    rw [Nat.mod_eq_zero_of_dvd hdw] at this
    rw [Nat.mod_eq_of_lt (by omega)] at this
    omega
  have h1 : 2 ^ k ∣ p - 1 := Nat.dvd_trans hdiv (Nat.gcd_dvd_right _ _)
  have h2 := Nat.le_of_dvd (by omega) h1
  have h3 : (2 ^ k + 1) * (2 ^ k + 1) ≤ p * p := Nat.mul_le_mul (by omega) (by omega)
  have h4 : h * 2 ^ k ≤ 2 ^ k * 2 ^ k := Nat.mul_le_mul_right _ (by omega)
  have h5 : (2 ^ k + 1) * (2 ^ k + 1) = 2 ^ k * 2 ^ k + 2 ^ k + 2 ^ k + 1 := by rw [Nat.add_mul, Nat.mul_add]; omega
  omega

/-- Pocklington for 2 q + 1, q a prime. -/
theorem pocklington {q a : Nat} (hq : IsPrime q) (ha : 2 ≤ a) (h1 : a ^ (2 * q) % (2 * q + 1) = 1) (h2 : Nat.gcd (a ^ 2 - 1) (2 * q + 1) = 1) : IsPrime (2 * q + 1) := by
  have hq2 := hq.1
  apply Classical.byContradiction
  intro hn
  obtain ⟨p, hp, hpd, hpp⟩ := exists_small_prime (by omega) hn
  have hp2 := hp.1
  have hx : a ^ (2 * q) % p = 1 % p := by
    rw [← Nat.mod_mod_of_dvd _ hpd, h1]
  have hcop := coprime_of_pow hp (by omega) hx
  have hfer := fermat hp hcop
  have hg := pow_gcd _ _ hx hfer
  have hdiv : q ∣ Nat.gcd (2 * q) (p - 1) := by
    apply Classical.byContradiction
    intro hnd
    have hgd : Nat.gcd (2 * q) (p - 1) ∣ 2 * q := Nat.gcd_dvd_left _ _
    generalize Nat.gcd (2 * q) (p - 1) = g at hg hnd hgd
    have : g ∣ 2 := (hq.coprime_of_not_dvd hnd).symm.dvd_of_dvd_mul_right hgd
    obtain ⟨c, hc⟩ := this
    have h3 := pow_mod_one hg c
    rw [← hc] at h3
    have hpos : 1 ≤ a ^ 2 := Nat.pow_pos (by omega)
    have h4 := (mod_eq_iff_dvd_sub hpos).1 h3
    have h5 := Nat.dvd_gcd h4 hpd
    rw [h2] at h5
    have := Nat.le_of_dvd (by omega) h5
    omega
  have h3 : q ∣ p - 1 := Nat.dvd_trans hdiv (Nat.gcd_dvd_right _ _)
  have h4 := Nat.le_of_dvd (by omega) h3
  have h5 : (q + 1) * (q + 1) ≤ p * p := Nat.mul_le_mul (by omega) (by omega)
  have h6 : (q + 1) * (q + 1) = q * q + q + q + 1 := by rw [Nat.add_mul, Nat.mul_add]; omega
  have : 2 * q ≤ q * q := Nat.mul_le_mul_right q hq2
  omega

/-! Powers modulo a number, by squares: what the kernel reckons. -/
def powMod (a m : Nat) : Nat → Nat → Nat
  | 0, _ => 1 % m
  | f + 1, n => if n = 0 then 1 % m else
      let h := powMod a m f (n / 2)
      if n % 2 = 0 then h * h % m else h * h % m * a % m

theorem powMod_eq (a m : Nat) : ∀ f n, n < 2 ^ f → powMod a m f n = a ^ n % m
  | 0, n, h => by
    have : n = 0 := by simpa using h
    subst this; rfl
  | f + 1, n, h => by
    rw [powMod]
    by_cases h0 : n = 0
    · subst h0; simp
    · rw [if_neg h0]
      have ih := powMod_eq a m f (n / 2) (by rw [Nat.pow_succ] at h; omega)
      simp only [ih]
      have hn : n = n / 2 * 2 + n % 2 := by omega
      have e : (a ^ (n / 2) % m) * (a ^ (n / 2) % m) % m = a ^ (n / 2 * 2) % m := by
        rw [← Nat.mul_mod, ← Nat.pow_add]; congr 2; omega
      rw [e]
      by_cases h2 : n % 2 = 0
      · rw [if_pos h2]; congr 2; omega
      · rw [if_neg h2, Nat.mod_mul_mod, ← Nat.pow_succ]; congr 2; omega


theorem proth_by {h k a : Nat} (f : Nat) (hk : 0 < k) (hh : 0 < h) (hlt : h < 2 ^ k) (hf : h * 2 ^ (k - 1) < 2 ^ f)
    (hw : (powMod a (h * 2 ^ k + 1) f (h * 2 ^ (k - 1)) + 1) % (h * 2 ^ k + 1) = 0) : IsPrime (h * 2 ^ k + 1) := by
  rw [powMod_eq _ _ _ _ hf] at hw
  refine proth (a := a) hk hh hlt ?_
  rw [Nat.add_mod, Nat.mod_mod, ← Nat.add_mod] at hw
  exact hw

theorem pocklington_by {q a : Nat} (f : Nat) (hq : IsPrime q) (ha : 2 ≤ a) (hf : 2 * q < 2 ^ f) (h1 : powMod a (2 * q + 1) f (2 * q) = 1)
    (h2 : Nat.gcd (a ^ 2 - 1) (2 * q + 1) = 1) : IsPrime (2 * q + 1) := by
  rw [powMod_eq _ _ _ _ hf] at h1
  exact pocklington hq ha h1 h2

/-! The moduli of the three groups. -/
theorem prime_q1 : IsPrime 641 := proth_by (h := 5) (k := 7) (a := 3) 10 (by decide +kernel) (by decide +kernel) (by decide +kernel) (by decide +kernel) (by decide +kernel)
theorem prime_p1 : IsPrime 1283 := pocklington_by (q := 641) (a := 2) 11 prime_q1 (by decide +kernel) (by decide +kernel) (by decide +kernel) (by decide +kernel)
theorem prime_q2 : IsPrime 576465431670292481 := proth_by (h := 268437635) (k := 31) (a := 3) 60 (by decide +kernel) (by decide +kernel) (by decide +kernel) (by decide +kernel) (by decide +kernel)
theorem prime_p2 : IsPrime 1152930863340584963 := pocklington_by (q := 576465431670292481) (a := 2) 61 prime_q2 (by decide +kernel) (by decide +kernel) (by decide +kernel) (by decide +kernel)
theorem prime_q3 : IsPrime 7237005577332262213973186563042995786902308146886443998308627866733439352833 := proth_by (h := 42535295865117307932921825928971035519) (k := 127) (a := 3) 253 (by decide +kernel) (by decide +kernel) (by decide +kernel) (by decide +kernel) (by decide +kernel)
theorem prime_p3 : IsPrime 14474011154664524427946373126085991573804616293772887996617255733466878705667 := pocklington_by (q := 7237005577332262213973186563042995786902308146886443998308627866733439352833) (a := 2) 254 prime_q3 (by decide +kernel) (by decide +kernel) (by decide +kernel) (by decide +kernel)

end Go.Proofs.Ytdmldnpadojflaa
