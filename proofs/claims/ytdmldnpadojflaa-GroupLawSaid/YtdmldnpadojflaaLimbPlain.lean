/- Numbers in four limbs: plain arithmetic. No condition. -/
namespace Go.Proofs.Ytdmldnpadojflaa

/-- The base of the limbs. -/
abbrev BB : Nat := 18446744073709551616

theorem mod3 (x y c : Nat) : (x % BB + y % BB + c) % BB = (x + y + c) % BB := by
  show (x % 18446744073709551616 + y % 18446744073709551616 + c) % 18446744073709551616 = (x + y + c) % 18446744073709551616
  omega
theorem mod3u (x y K u : Nat) (hu : u ≤ 1) (hy : y < BB * K) : (x % BB + BB - y % BB - u) % BB = (x + BB * K - y - u) % BB := by
  have hy' : y < 18446744073709551616 * K := hy
  show (x % 18446744073709551616 + 18446744073709551616 - y % 18446744073709551616 - u) % 18446744073709551616 = (x + 18446744073709551616 * K - y - u) % 18446744073709551616
  omega

/-- Limb i of a number. -/
def dig (n i : Nat) : Nat := n / BB ^ i % BB

theorem BB_pos (i : Nat) : 0 < BB ^ i := Nat.pow_pos (by decide)
theorem dig_lt (n i : Nat) : dig n i < BB := Nat.mod_lt _ (by decide)
theorem mod_succ (n i : Nat) : n % BB ^ (i + 1) = n % BB ^ i + BB ^ i * dig n i := Nat.mod_pow_succ

/-- The carry into limb j of a sum. -/
def carry (a b j : Nat) : Nat := (a % BB ^ j + b % BB ^ j) / BB ^ j

theorem carry_zero (a b : Nat) : carry a b 0 = 0 := by simp [carry, Nat.mod_one]
theorem carry_le (a b j : Nat) : carry a b j ≤ 1 := by
  have h1 := Nat.mod_lt a (BB_pos j)
  have h2 := Nat.mod_lt b (BB_pos j)
  unfold carry
  have : (a % BB ^ j + b % BB ^ j) / BB ^ j < 2 := Nat.div_lt_of_lt_mul (by omega)
  omega

theorem plus_dig (a b j : Nat) : (dig a j + dig b j + carry a b j) % BB = dig (a + b) j := by
  have hp := BB_pos j
  have ha : a = a % BB ^ j + BB ^ j * (a / BB ^ j) := (Nat.mod_add_div a (BB ^ j)).symm
  have hb : b = b % BB ^ j + BB ^ j * (b / BB ^ j) := (Nat.mod_add_div b (BB ^ j)).symm
  have h : (a + b) / BB ^ j = a / BB ^ j + b / BB ^ j + carry a b j := by
    have e : a + b = (a % BB ^ j + b % BB ^ j) + BB ^ j * (a / BB ^ j + b / BB ^ j) := by rw [Nat.mul_add]; omega
    rw [e, Nat.add_mul_div_left _ _ hp, carry]
    omega
  simp only [dig]
  rw [h]
  exact mod3 _ _ _

theorem plus_carry (a b j : Nat) : (dig a j + dig b j + carry a b j) / BB = carry a b (j + 1) := by
  have hp := BB_pos j
  unfold carry
  rw [mod_succ a j, mod_succ b j]
  have e : a % BB ^ j + BB ^ j * dig a j + (b % BB ^ j + BB ^ j * dig b j) = (a % BB ^ j + b % BB ^ j) + BB ^ j * (dig a j + dig b j) := by rw [Nat.mul_add]; omega
  rw [e, Nat.pow_succ, ← Nat.div_div_eq_div_mul, Nat.add_mul_div_left _ _ hp]
  congr 1
  omega

/-- The borrow out of limbs below j. -/
def under (a b j : Nat) : Nat := if a % BB ^ j < b % BB ^ j then 1 else 0
theorem under_zero (a b : Nat) : under a b 0 = 0 := by simp [under, Nat.mod_one]
theorem under_le (a b j : Nat) : under a b j ≤ 1 := by unfold under; split <;> omega

theorem minus_under (a b j : Nat) : (if dig a j < dig b j + under a b j then 1 else 0) = under a b (j + 1) := by
  have hp := BB_pos j
  have h1 := Nat.mod_lt a hp
  have h2 := Nat.mod_lt b hp
  unfold under
  rw [mod_succ a j, mod_succ b j]
  generalize a % BB ^ j = x at *
  generalize b % BB ^ j = y at *
  generalize dig a j = s
  generalize dig b j = t
  generalize BB ^ j = p at *
  rcases Nat.lt_trichotomy s t with h | h | h
  · have : p * s + p ≤ p * t := by
      have := Nat.mul_le_mul_left p (show s + 1 ≤ t by omega)
      rw [Nat.mul_add] at this; omega
    rw [if_pos (by split <;> omega), if_pos (by omega)]
  · subst h
    by_cases hxy : x < y
    · simp [hxy]
    · simp [hxy]
  · have : p * t + p ≤ p * s := by
      have := Nat.mul_le_mul_left p (show t + 1 ≤ s by omega)
      rw [Nat.mul_add] at this; omega
    rw [if_neg (by split <;> omega), if_neg (by omega)]

/-- The number that minus hands back, when both have four limbs. -/
def sub256 (a b : Nat) : Nat := (a + BB ^ 4 - b) % BB ^ 4

theorem minus_dig (a b j : Nat) (hj : j < 4) (hb : b < BB ^ 4) : (dig a j + BB - dig b j - under a b j) % BB = dig (sub256 a b) j := by
  have hp := BB_pos j
  have hu := under_le a b j
  have hdb := dig_lt b j
  have hda := dig_lt a j
  have e1 : dig (sub256 a b) j = dig (a + BB ^ 4 - b) j := by
    unfold sub256 dig
    have hsplit : BB ^ 4 = BB ^ j * (BB * BB ^ (3 - j)) := by
      rw [← Nat.pow_succ', ← Nat.pow_add]; congr 1; omega
    rw [hsplit, Nat.mod_mul_right_div_self, Nat.mod_mul_right_mod]
  rw [e1]
  have h4 : BB ^ 4 = BB ^ j * (BB * BB ^ (3 - j)) := by
    rw [← Nat.pow_succ', ← Nat.pow_add]; congr 1; omega
  have ha : a = a % BB ^ j + BB ^ j * (a / BB ^ j) := (Nat.mod_add_div a (BB ^ j)).symm
  have hb' : b = b % BB ^ j + BB ^ j * (b / BB ^ j) := (Nat.mod_add_div b (BB ^ j)).symm
  have hbq : b / BB ^ j < BB * BB ^ (3 - j) := Nat.div_lt_of_lt_mul (by rw [← h4]; exact hb)
  have hx := Nat.mod_lt a hp
  have hy := Nat.mod_lt b hp
  unfold dig under
  unfold dig at hdb hda
  have key : (a + BB ^ 4 - b) / BB ^ j = a / BB ^ j + BB * BB ^ (3 - j) - b / BB ^ j - (if a % BB ^ j < b % BB ^ j then 1 else 0) := by
    rw [h4]
    generalize BB * BB ^ (3 - j) = K at *
    generalize hqa : a / BB ^ j = qa at *
    generalize hqb : b / BB ^ j = qb at *
    generalize a % BB ^ j = x at *
    generalize b % BB ^ j = y at *
    generalize BB ^ j = p at *
    by_cases hxy : x < y
    · rw [if_pos hxy]
      have e : a + p * K - b = (x + p - y) + p * (qa + K - qb - 1) := by
        have : p * (qa + K - qb - 1) + p * (qb + 1) = p * (qa + K) := by rw [← Nat.mul_add]; congr 1; omega
        have h2 : p * (qb + 1) = p * qb + p := by rw [Nat.mul_add, Nat.mul_one]
        have h3 : p * (qa + K) = p * qa + p * K := Nat.mul_add _ _ _
        omega
      rw [e, Nat.add_mul_div_left _ _ hp, Nat.div_eq_of_lt (by omega)]
      omega
    · rw [if_neg hxy]
      have e : a + p * K - b = (x - y) + p * (qa + K - qb) := by
        have : p * (qa + K - qb) + p * qb = p * (qa + K) := by rw [← Nat.mul_add]; congr 1; omega
        have h3 : p * (qa + K) = p * qa + p * K := Nat.mul_add _ _ _
        omega
      rw [e, Nat.add_mul_div_left _ _ hp, Nat.div_eq_of_lt (by omega)]
      omega
  rw [key]
  generalize a / BB ^ j = qa at *
  generalize b / BB ^ j = qb at *
  generalize BB ^ (3 - j) = K at *
  exact mod3u _ _ _ _ (by split <;> omega) hbq

theorem sub256_ok (a b : Nat) (ha : a < BB ^ 4) (h : b ≤ a) : sub256 a b = a - b := by
  unfold sub256
  rw [show a + BB ^ 4 - b = (a - b) + BB ^ 4 by omega, Nat.add_mod_right, Nat.mod_eq_of_lt (by omega)]
theorem sub256_under (a b : Nat) (hb : b < BB ^ 4) (h : a < b) : sub256 a b = a + BB ^ 4 - b := by
  unfold sub256
  rw [Nat.mod_eq_of_lt (by omega)]
theorem under_four (a b : Nat) (ha : a < BB ^ 4) (hb : b < BB ^ 4) : under a b 4 = if a < b then 1 else 0 := by
  unfold under
  rw [Nat.mod_eq_of_lt ha, Nat.mod_eq_of_lt hb]

/-- The four limbs. -/
def lim (n : Nat) : List Int := [(dig n 0 : Int), (dig n 1 : Int), (dig n 2 : Int), (dig n 3 : Int)]
/-- The limbs below j; behind them nought. -/
def limTo (n j : Nat) : List Int := (List.range 4).map fun i => if i < j then (dig n i : Int) else 0
theorem limTo_four (n : Nat) : limTo n 4 = lim n := rfl
theorem limTo_zero (n : Nat) : limTo n 0 = [0, 0, 0, 0] := rfl
theorem limTo_set (n j : Nat) (hj : j < 4) : (limTo n j).set j (dig n j : Int) = limTo n (j + 1) := by
  match j, hj with
  | 0, _ => rfl
  | 1, _ => rfl
  | 2, _ => rfl
  | 3, _ => rfl
theorem lim_at (n j : Nat) (hj : j < 4) : (lim n)[j]? = some (dig n j : Int) := by
  match j, hj with
  | 0, _ => rfl
  | 1, _ => rfl
  | 2, _ => rfl
  | 3, _ => rfl
theorem lim_mod (n : Nat) : lim (n % BB ^ 4) = lim n := by
  have h : ∀ j, j < 4 → dig (n % BB ^ 4) j = dig n j := by
    intro j hj
    unfold dig
    have hsplit : BB ^ 4 = BB ^ j * (BB * BB ^ (3 - j)) := by
      rw [← Nat.pow_succ', ← Nat.pow_add]; congr 1; omega
    rw [hsplit, Nat.mod_mul_right_div_self, Nat.mod_mul_right_mod]
  simp only [lim, h 0 (by omega), h 1 (by omega), h 2 (by omega), h 3 (by omega)]

theorem dig_wrap (n j : Nat) (hj : j < 4) : dig (n + BB ^ 4) j = dig n j := by
  have h : ∀ n, dig (n % BB ^ 4) j = dig n j := by
    intro n
    unfold dig
    have hsplit : BB ^ 4 = BB ^ j * (BB * BB ^ (3 - j)) := by
      rw [← Nat.pow_succ', ← Nat.pow_add]; congr 1; omega
    rw [hsplit, Nat.mod_mul_right_div_self, Nat.mod_mul_right_mod]
  rw [← h, Nat.add_mod_right, h]

end Go.Proofs.Ytdmldnpadojflaa
