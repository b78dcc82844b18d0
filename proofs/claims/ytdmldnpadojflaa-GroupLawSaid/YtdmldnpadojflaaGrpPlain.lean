/- The group's numbers, in plain words: the lower of a number and its opposite. No condition. -/
import Derived.Test.YtdmldnpadojflaaPrime
import Derived.Test.YtdmldnpadojflaaGroupPow
import Derived.Test.YtdmldnpadojflaaRefLow
namespace Go.Proofs.Ytdmldnpadojflaa

theorem grp_prime_q (k : Nat) (h1 : 1 ≤ k) (h3 : k ≤ 3) : IsPrime (grp k).q.m := by
  obtain rfl | rfl | rfl : k = 1 ∨ k = 2 ∨ k = 3 := by omega
  · exact prime_q1
  · exact prime_q2
  · exact prime_q3
theorem grp_prime_p (k : Nat) (h1 : 1 ≤ k) (h3 : k ≤ 3) : IsPrime (grp k).p.m := by
  obtain rfl | rfl | rfl : k = 1 ∨ k = 2 ∨ k = 3 := by omega
  · exact prime_p1
  · exact prime_p2
  · exact prime_p3

/-- Two numbers are one or opposite, modulo p. -/
def PM (p x y : Nat) : Prop := (p : Int) ∣ (x : Int) - y ∨ (p : Int) ∣ (x : Int) + y

theorem PM.refl (p x : Nat) : PM p x x := Or.inl ⟨0, by omega⟩
theorem PM.of_mod {p x y : Nat} (h : x % p = y % p) : PM p x y := Or.inl (by
  have h1 := Nat.div_add_mod x p
  have h2 := Nat.div_add_mod y p
  refine ⟨(x / p : Nat) - (y / p : Nat), ?_⟩
  have e1 : (x : Int) = p * (x / p : Nat) + (x % p : Nat) := by exact_mod_cast h1.symm
  have e2 : (y : Int) = p * (y / p : Nat) + (y % p : Nat) := by exact_mod_cast h2.symm
  rw [e1, e2, h]
  generalize ((x / p : Nat) : Int) = a
  generalize ((y / p : Nat) : Int) = b
  grind)
theorem PM.symm {p x y : Nat} (h : PM p x y) : PM p y x := by
  rcases h with ⟨c, h⟩ | ⟨c, h⟩
  · exact Or.inl ⟨-c, by grind⟩
  · exact Or.inr ⟨c, by grind⟩
theorem PM.trans {p x y z : Nat} (h : PM p x y) (g : PM p y z) : PM p x z := by
  rcases h with ⟨c, h⟩ | ⟨c, h⟩ <;> rcases g with ⟨d, g⟩ | ⟨d, g⟩
  · exact Or.inl ⟨c + d, by grind⟩
  · exact Or.inr ⟨c + d, by grind⟩
  · exact Or.inr ⟨c - d, by grind⟩
  · exact Or.inl ⟨c - d, by grind⟩
theorem PM.mul {p x y u v : Nat} (h : PM p x y) (g : PM p u v) : PM p (x * u) (y * v) := by
  have e1 : ((x * u : Nat) : Int) = x * u := by simp
  have e2 : ((y * v : Nat) : Int) = y * v := by simp
  unfold PM
  rw [e1, e2]
  rcases h with ⟨c, h⟩ | ⟨c, h⟩ <;> rcases g with ⟨d, g⟩ | ⟨d, g⟩
  · exact Or.inl ⟨c * u + y * d, by grind⟩
  · exact Or.inr ⟨c * u + y * d, by grind⟩
  · exact Or.inr ⟨c * u - y * d, by grind⟩
  · exact Or.inl ⟨c * u - y * d, by grind⟩
theorem PM.pow {p x y : Nat} (h : PM p x y) : ∀ n : Nat, PM p (x ^ n) (y ^ n)
  | 0 => PM.refl _ _
  | n + 1 => by rw [Nat.pow_succ, Nat.pow_succ]; exact PM.mul (PM.pow h n) h
theorem PM.mod (p x : Nat) : PM p (x % p) x := PM.of_mod (Nat.mod_mod _ _)

theorem lowR_pm (q p x : Nat) (hx : x < p) : PM p (lowR q p x) x := by
  unfold lowR
  split
  · exact Or.inr ⟨1, by omega⟩
  · exact PM.refl _ _
theorem lowR_leq {q p x : Nat} (hp : p = 2 * q + 1) (hx : x < p) : lowR q p x ≤ q := by
  unfold lowR
  split <;> omega
theorem lowR_fix {q p x : Nat} (hx : x ≤ q) : lowR q p x = x := by
  unfold lowR
  rw [if_neg (by omega)]
theorem lowR_pos {q p x : Nat} (hx : x < p) (h0 : 0 < x) : 0 < lowR q p x := by
  unfold lowR
  split <;> omega

/-- Low numbers that are one or opposite are one. -/
theorem low_unique {q p x y : Nat} (hp : p = 2 * q + 1) (hx : x ≤ q) (hy : y ≤ q) (h : PM p x y) : x = y := by
  rcases h with h | h
  · have := Int.eq_zero_of_dvd_of_natAbs_lt_natAbs h (by omega)
    omega
  · have := Int.eq_zero_of_dvd_of_natAbs_lt_natAbs h (by omega)
    omega

theorem low_eq {q p x y : Nat} (hq : 0 < q) (hp : p = 2 * q + 1) (h : PM p x y) : lowR q p (x % p) = lowR q p (y % p) := by
  have hx := Nat.mod_lt x (show 0 < p by omega)
  have hy := Nat.mod_lt y (show 0 < p by omega)
  exact low_unique hp (lowR_leq hp hx) (lowR_leq hp hy) ((((lowR_pm q p _ hx).trans (PM.mod p x)).trans h).trans (((lowR_pm q p _ hy).trans (PM.mod p y)).symm))

theorem pm_low {q p : Nat} (hp : 0 < p) (x : Nat) : PM p (lowR q p (x % p)) x := (lowR_pm q p _ (Nat.mod_lt x hp)).trans (PM.mod p x)

/-- Fermat and Euler: a to the q is 1 or its opposite. -/
theorem pm_euler {q p a : Nat} (hpp : IsPrime p) (hp : p = 2 * q + 1) (h0 : 0 < a) (ha : a < p) : PM p (a ^ q) 1 := by
  have hnd : ¬ p ∣ a := fun h => by have := Nat.le_of_dvd h0 h; omega
  have hf := fermat hpp hnd
  rw [show p - 1 = q * 2 by omega, Nat.pow_mul] at hf
  obtain ⟨b, hb⟩ : ∃ b, a ^ q = b := ⟨_, rfl⟩
  rw [hb] at hf ⊢
  have hb0 : 0 < b := by rw [← hb]; exact Nat.pow_pos h0
  have h2 : p ∣ b ^ 2 - 1 := (mod_eq_iff_dvd_sub (Nat.pow_pos hb0)).1 hf
  have h3 : b ^ 2 - 1 = (b - 1) * (b + 1) := by
    obtain ⟨c, rfl⟩ : ∃ c, b = c + 1 := ⟨b - 1, by omega⟩
    rw [Nat.add_sub_cancel, Nat.pow_two]
    have : (c + 1) * (c + 1) = c * (c + 1 + 1) + 1 := by grind
    omega
  rw [h3] at h2
  rcases hpp.dvd_mul h2 with ⟨c, h⟩ | ⟨c, h⟩
  · refine Or.inl ⟨c, ?_⟩
    have : ((b - 1 : Nat) : Int) = p * c := by rw [h]; simp
    omega
  · refine Or.inr ⟨c, ?_⟩
    have : ((b + 1 : Nat) : Int) = p * c := by rw [h]; simp
    omega

theorem under_low {q p a : Nat} (hpp : IsPrime p) (hp : p = 2 * q + 1) (hq : 0 < q) (h0 : 0 < a) (ha : a ≤ q) : lowR q p (a ^ (p - 2) % p) = lowR q p (a ^ (q - 1) % p) := by
  refine low_eq hq hp ?_
  rw [show p - 2 = q + (q - 1) by omega, Nat.pow_add]
  have h := PM.mul (pm_euler hpp hp h0 (by omega)) (PM.refl p (a ^ (q - 1)))
  rwa [Nat.one_mul] at h

theorem low_mul {q p : Nat} (hq : 0 < q) (hp : p = 2 * q + 1) (x y : Nat) : lowR q p (lowR q p (x % p) * lowR q p (y % p) % p) = lowR q p (x * y % p) :=
  low_eq hq hp (PM.mul (pm_low (by omega) x) (pm_low (by omega) y))

end Go.Proofs.Ytdmldnpadojflaa
