/- Numbers in Montgomery form: plain arithmetic. No condition. -/
import Derived.Test.YtdmldnpadojflaaMontPlain
namespace Go.Proofs.Ytdmldnpadojflaa
def mont (m x : Nat) : Nat := x * BB ^ 4 % m

theorem mont_lt {m : Nat} (hm : 0 < m) (x : Nat) : mont m x < m := Nat.mod_lt _ hm
theorem mont_mod (m x : Nat) : mont m (x % m) = mont m x := by unfold mont; rw [Nat.mod_mul_mod]

/-- What the lowest limb is multiplied by makes the base invertible. -/
theorem base_inv {low m : Nat} (h : (low * m + 1) % BB = 0) : ∃ k, ∀ a, (a * BB ^ 4 * k) % m = a % m := by
  obtain ⟨k, hk⟩ := Nat.dvd_of_mod_eq_zero h
  refine ⟨k ^ 4, fun a => ?_⟩
  have e : a * BB ^ 4 * k ^ 4 = a * (low * m + 1) ^ 4 := by rw [hk, Nat.mul_pow, Nat.mul_assoc]
  have e1 : (low * m + 1) ^ 4 % m = 1 % m := by
    rw [Nat.pow_mod]
    have : (low * m + 1) % m = 1 % m := by rw [Nat.mul_comm low m, Nat.add_comm, Nat.add_mul_mod_self_left]
    rw [this, ← Nat.pow_mod, Nat.one_pow]
  rw [e, Nat.mul_mod, e1, ← Nat.mul_mod, Nat.mul_one]

theorem mont_cancel {low m : Nat} (h : (low * m + 1) % BB = 0) {a b : Nat} (e : (a * BB ^ 4) % m = (b * BB ^ 4) % m) : a % m = b % m := by
  obtain ⟨k, hk⟩ := base_inv h
  have h1 := hk a
  have h2 := hk b
  rw [← h1, ← h2, Nat.mul_mod, e, ← Nat.mul_mod]

theorem mont_mul {low m : Nat} (h : (low * m + 1) % BB = 0) {r x y : Nat} (hr : r < m) (e : (r * BB ^ 4) % m = (mont m x * mont m y) % m) : r = mont m (x * y) := by
  have hm : 0 < m := by omega
  have h2 : (r * BB ^ 4) % m = (mont m (x * y) * BB ^ 4) % m := by
    rw [e]; unfold mont
    simp only [Nat.mod_mul_mod, Nat.mul_mod_mod]
    generalize BB ^ 4 = B
    rw [show x * B * (y * B) = x * y * B * B by rw [Nat.mul_mul_mul_comm, Nat.mul_assoc (x * y)]]
  have := mont_cancel h h2
  rwa [Nat.mod_eq_of_lt hr, Nat.mod_eq_of_lt (mont_lt hm _)] at this

theorem mont_in {low m : Nat} (h : (low * m + 1) % BB = 0) {r a up : Nat} (hr : r < m) (hu : up = BB ^ 8 % m) (e : (r * BB ^ 4) % m = (a * up) % m) : r = mont m a := by
  have hm : 0 < m := by omega
  have h2 : (r * BB ^ 4) % m = (mont m a * BB ^ 4) % m := by
    rw [e, hu]; unfold mont
    rw [Nat.mod_mul_mod, Nat.mul_mod_mod, Nat.mul_assoc, ← Nat.pow_add]
  have := mont_cancel h h2
  rwa [Nat.mod_eq_of_lt hr, Nat.mod_eq_of_lt (mont_lt hm _)] at this

theorem mont_out {low m : Nat} (h : (low * m + 1) % BB = 0) {r x : Nat} (hr : r < m) (hx : x < m) (e : (r * BB ^ 4) % m = (mont m x * 1) % m) : r = x := by
  have h2 : (r * BB ^ 4) % m = (x * BB ^ 4) % m := by
    rw [e, Nat.mul_one]; unfold mont; rw [Nat.mod_mod]
  have := mont_cancel h h2
  rwa [Nat.mod_eq_of_lt hr, Nat.mod_eq_of_lt hx] at this

theorem mont_inj {low m : Nat} (h : (low * m + 1) % BB = 0) {x y : Nat} (hx : x < m) (hy : y < m) (e : mont m x = mont m y) : x = y := by
  have := mont_cancel h (show (x * BB ^ 4) % m = (y * BB ^ 4) % m from e)
  rwa [Nat.mod_eq_of_lt hx, Nat.mod_eq_of_lt hy] at this

theorem mont_add (m x y : Nat) (hm : 0 < m) : (if m ≤ mont m x + mont m y then mont m x + mont m y - m else mont m x + mont m y) = mont m (x + y) := by
  have h1 := mont_lt hm x
  have h2 := mont_lt hm y
  have e : mont m (x + y) = (mont m x + mont m y) % m := by unfold mont; rw [Nat.add_mul, Nat.add_mod]
  rw [e]
  split
  · rw [Nat.mod_eq_sub_mod (by omega), Nat.mod_eq_of_lt (by omega)]
  · rw [Nat.mod_eq_of_lt (by omega)]

theorem mont_sub (m x y : Nat) (hy : y ≤ m) (hm : 0 < m) : (if mont m y ≤ mont m x then mont m x - mont m y else mont m x + m - mont m y) = mont m (x + (m - y)) := by
  have h1 := mont_lt hm x
  have h2 := mont_lt hm y
  have h3 := mont_lt hm (x + (m - y))
  have e : (mont m (x + (m - y)) + mont m y) % m = mont m x := by
    unfold mont
    rw [← Nat.add_mod, ← Nat.add_mul, show x + (m - y) + y = x + m by omega, Nat.add_mul, Nat.add_mul_mod_self_left]
  generalize mont m (x + (m - y)) = s at *
  generalize mont m x = a at *
  generalize mont m y = b at *
  by_cases hs : s + b < m
  · rw [Nat.mod_eq_of_lt hs] at e; rw [if_pos (by omega)]; omega
  · rw [Nat.mod_eq_sub_mod (by omega), Nat.mod_eq_of_lt (by omega)] at e
    rw [if_neg (by omega)]; omega

theorem mont_zero (m : Nat) : mont m 0 = 0 := by simp [mont]
theorem mont_eq_zero {low m : Nat} (h : (low * m + 1) % BB = 0) {x : Nat} (hx : x < m) : mont m x = 0 ↔ x = 0 := by
  constructor
  · intro e; exact mont_inj h hx (by omega) (by rw [e, mont_zero])
  · rintro rfl; exact mont_zero m

/-- Four bits of a number. -/
theorem hex_digit (n i : Nat) : n / BB ^ (i / 16) % BB / 2 ^ (4 * (i % 16)) % 16 = n / 16 ^ i % 16 := by
  have hb : BB = 16 ^ 16 := rfl
  have h2 : (2 : Nat) ^ (4 * (i % 16)) = 16 ^ (i % 16) := by rw [Nat.pow_mul]
  rw [h2, hb, ← Nat.pow_mul]
  have hlt := Nat.mod_lt i (show 16 > 0 by omega)
  have e : (16 : Nat) ^ 16 = 16 ^ (i % 16) * (16 * 16 ^ (15 - i % 16)) := by
    rw [← Nat.pow_succ', ← Nat.pow_add]; congr 1; omega
  rw [e, Nat.mod_mul_right_div_self, Nat.mod_mul_right_mod, Nat.div_div_eq_div_mul, ← Nat.pow_add]
  congr 3
  omega
end Go.Proofs.Ytdmldnpadojflaa
