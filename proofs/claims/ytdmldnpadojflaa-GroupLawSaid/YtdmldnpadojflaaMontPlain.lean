/- Montgomery's product: plain arithmetic. No condition. -/
import Derived.Test.YtdmldnpadojflaaLimbPlain
namespace Go.Proofs.Ytdmldnpadojflaa

/-- What is carried into limb j when x and p times y are added up. -/
def mc (x y p j : Nat) : Nat := (x % BB ^ j + p * (y % BB ^ j)) / BB ^ j

theorem mc_zero (x y p : Nat) : mc x y p 0 = 0 := by simp [mc, Nat.mod_one]

theorem mc_le (x y p j : Nat) : mc x y p j ≤ p := by
  have hp := BB_pos j
  have h1 := Nat.mod_lt x hp
  have h2 := Nat.mod_lt y hp
  unfold mc
  have h3 : p * (y % BB ^ j) ≤ p * (BB ^ j - 1) := Nat.mul_le_mul_left _ (by omega)
  have h4 : p * (BB ^ j - 1) + p = p * BB ^ j := by
    rw [← Nat.mul_succ]; congr 1; omega
  have : (x % BB ^ j + p * (y % BB ^ j)) / BB ^ j < p + 1 := Nat.div_lt_of_lt_mul (by rw [Nat.mul_add, Nat.mul_one, Nat.mul_comm (BB ^ j) p]; omega)
  omega

theorem mc_split (x y p j : Nat) : (x + p * y) / BB ^ j = x / BB ^ j + p * (y / BB ^ j) + mc x y p j := by
  have hp := BB_pos j
  have e : x + p * y = (x % BB ^ j + p * (y % BB ^ j)) + BB ^ j * (x / BB ^ j + p * (y / BB ^ j)) := by
    have hx := Nat.mod_add_div x (BB ^ j)
    have hy := Nat.mod_add_div y (BB ^ j)
    have h1 : p * y = p * (y % BB ^ j) + p * (BB ^ j * (y / BB ^ j)) := by rw [← Nat.mul_add, hy]
    have h2 : BB ^ j * (p * (y / BB ^ j)) = p * (BB ^ j * (y / BB ^ j)) := by rw [Nat.mul_left_comm]
    rw [Nat.mul_add, h2]
    omega
  rw [e, Nat.add_mul_div_left _ _ hp, mc]
  omega

theorem mod_mac (u v c p : Nat) : (u % BB + p * (v % BB) + c) % BB = (u + p * v + c) % BB := by
  have h : (p * (v % BB)) % BB = (p * v) % BB := by rw [Nat.mul_mod, Nat.mod_mod, ← Nat.mul_mod]
  have h1 : (u % BB + p * (v % BB)) % BB = (u + p * v) % BB := by rw [Nat.add_mod, Nat.mod_mod, h, ← Nat.add_mod]
  rw [Nat.add_mod, h1, ← Nat.add_mod]

theorem mc_dig (x y p j : Nat) : (dig x j + p * dig y j + mc x y p j) % BB = dig (x + p * y) j := by
  unfold dig
  rw [mc_split, mod_mac]

theorem mc_succ (x y p j : Nat) : (dig x j + p * dig y j + mc x y p j) / BB = mc x y p (j + 1) := by
  have hp := BB_pos j
  conv => rhs; unfold mc
  rw [mod_succ x j, mod_succ y j]
  have e : x % BB ^ j + BB ^ j * dig x j + p * (y % BB ^ j + BB ^ j * dig y j) = (x % BB ^ j + p * (y % BB ^ j)) + BB ^ j * (dig x j + p * dig y j) := by
    rw [Nat.mul_add p, Nat.mul_left_comm p, Nat.mul_add (BB ^ j)]; omega
  rw [e, Nat.pow_succ, ← Nat.div_div_eq_div_mul, Nat.add_mul_div_left _ _ hp]
  congr 1
  unfold mc
  omega

/-- One step of the inner loops, as the program takes it. -/
theorem mac_lt (t p y c : Nat) (ht : t < BB) (hp : p < BB) (hy : y < BB) (hc : c < BB) : t + p * y + c < BB * BB := by
  have h1 : p * y ≤ (BB - 1) * (BB - 1) := Nat.mul_le_mul (by omega) (by omega)
  have h2 : (BB - 1) * (BB - 1) + 2 * (BB - 1) + 1 = BB * BB := by decide
  omega

theorem mac_split (t z c : Nat) (h : t + z + c < BB * BB) :
    ((z % BB + t) % BB + c) % BB = (t + z + c) % BB ∧ (z / BB + (z % BB + t) / BB) % BB = z / BB + (z % BB + t) / BB ∧
    (z / BB + (z % BB + t) / BB + ((z % BB + t) % BB + c) / BB) % BB = (t + z + c) / BB := by
  have h' : t + z + c < 18446744073709551616 * 18446744073709551616 := h
  show ((z % 18446744073709551616 + t) % 18446744073709551616 + c) % 18446744073709551616 = (t + z + c) % 18446744073709551616 ∧ (z / 18446744073709551616 + (z % 18446744073709551616 + t) / 18446744073709551616) % 18446744073709551616 = z / 18446744073709551616 + (z % 18446744073709551616 + t) / 18446744073709551616 ∧
    (z / 18446744073709551616 + (z % 18446744073709551616 + t) / 18446744073709551616 + ((z % 18446744073709551616 + t) % 18446744073709551616 + c) / 18446744073709551616) % 18446744073709551616 = (t + z + c) / 18446744073709551616
  refine ⟨?_, ?_, ?_⟩ <;> omega

/-- The rounds of the product. -/
def montTo (a b m low : Nat) : Nat → Nat
  | 0 => 0
  | i + 1 => (montTo a b m low i + dig a i * b + (dig (montTo a b m low i + dig a i * b) 0 * low % BB) * m) / BB

theorem montTo_lt (a b m low : Nat) (hm : 0 < m) : ∀ i, montTo a b m low i < m + b
  | 0 => by simp [montTo]; omega
  | i + 1 => by
    have ih := montTo_lt a b m low hm i
    have h1 := dig_lt a i
    have h2 : dig (montTo a b m low i + dig a i * b) 0 * low % BB < BB := Nat.mod_lt _ (by decide)
    rw [montTo]
    generalize dig (montTo a b m low i + dig a i * b) 0 * low % BB = q at *
    generalize dig a i = d at *
    generalize montTo a b m low i = z at *
    refine Nat.div_lt_of_lt_mul ?_
    have h3 : d * b ≤ (BB - 1) * b := Nat.mul_le_mul_right _ (by omega)
    have h4 : q * m ≤ (BB - 1) * m := Nat.mul_le_mul_right _ (by omega)
    have h5 : (BB - 1) * b + b = BB * b := by rw [← Nat.succ_mul]; rfl
    have h6 : (BB - 1) * m + m = BB * m := by rw [← Nat.succ_mul]; rfl
    rw [Nat.mul_add]
    omega

theorem montTo_exact (a b m low i : Nat) (hlow : (low * m + 1) % BB = 0) :
    BB * montTo a b m low (i + 1) = montTo a b m low i + dig a i * b + (dig (montTo a b m low i + dig a i * b) 0 * low % BB) * m := by
  rw [montTo]
  generalize montTo a b m low i + dig a i * b = y
  refine Nat.mul_div_cancel' (Nat.dvd_of_mod_eq_zero ?_)
  have e0 : dig y 0 = y % BB := by simp [dig]
  rw [e0]
  have h1 : (y % BB * low % BB * m) % BB = (y * (low * m)) % BB := by
    rw [Nat.mul_mod, Nat.mod_mod, ← Nat.mul_mod, Nat.mul_assoc, Nat.mul_mod, Nat.mod_mod, ← Nat.mul_mod]
  have h2 : (y + y * (low * m)) % BB = 0 := by
    have : y + y * (low * m) = y * (low * m + 1) := by rw [Nat.mul_add, Nat.mul_one]; omega
    rw [this, Nat.mul_mod, hlow, Nat.mul_zero, Nat.zero_mod]
  rw [Nat.add_mod, h1, ← Nat.add_mod, h2]

theorem montTo_mod (a b m low : Nat) (hlow : (low * m + 1) % BB = 0) : ∀ i, (montTo a b m low i * BB ^ i) % m = ((a % BB ^ i) * b) % m
  | 0 => by simp [montTo, Nat.mod_one]
  | i + 1 => by
    have ih := montTo_mod a b m low hlow i
    have hx := montTo_exact a b m low i hlow
    rw [mod_succ, Nat.pow_succ, Nat.mul_comm (BB ^ i) BB, ← Nat.mul_assoc, Nat.mul_comm _ BB, hx]
    generalize dig (montTo a b m low i + dig a i * b) 0 * low % BB = q
    rw [Nat.add_mul, Nat.add_mul, Nat.add_mul]
    have e1 : q * m * BB ^ i = m * (q * BB ^ i) := by rw [Nat.mul_comm q m, Nat.mul_assoc]
    have e2 : dig a i * b * BB ^ i = BB ^ i * dig a i * b := by rw [Nat.mul_comm, ← Nat.mul_assoc]
    rw [e1, Nat.add_mul_mod_self_left, e2, Nat.add_mod, ih, ← Nat.add_mod]

end Go.Proofs.Ytdmldnpadojflaa
