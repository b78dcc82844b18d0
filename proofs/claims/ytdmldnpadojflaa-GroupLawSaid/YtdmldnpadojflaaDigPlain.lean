/- Numbers as digits to the base 65536: plain arithmetic. No condition. -/
import Derived.Test.YtdmldnpadojflaaGrpOf
namespace Go.Proofs.Ytdmldnpadojflaa

/-! To any base. -/
def dg (B n i : Nat) : Nat := n / B ^ i % B

section
variable {B : Nat}
theorem dg_lt (hB : 0 < B) (n i : Nat) : dg B n i < B := Nat.mod_lt _ hB
theorem dg_mod_succ (n i : Nat) : n % B ^ (i + 1) = n % B ^ i + B ^ i * dg B n i := Nat.mod_pow_succ
theorem dg_div (n i : Nat) : n / B ^ i = B * (n / B ^ (i + 1)) + dg B n i := by
  unfold dg
  rw [Nat.pow_succ, ← Nat.div_div_eq_div_mul]
  exact (Nat.div_add_mod _ _).symm
theorem dg_zero (n i : Nat) (h : n < B ^ i) : dg B n i = 0 := by unfold dg; rw [Nat.div_eq_of_lt h, Nat.zero_mod]
theorem dg_above (hB : 0 < B) (n i k : Nat) (h : n < B ^ i) (hk : i ≤ k) : dg B n k = 0 := dg_zero n k (Nat.lt_of_lt_of_le h (Nat.pow_le_pow_right hB hk))

/-- What is carried into digit j when x and p times y are added up. -/
def mcB (B x y p j : Nat) : Nat := (x % B ^ j + p * (y % B ^ j)) / B ^ j

theorem mcB_le (hB : 0 < B) (x y p j : Nat) : mcB B x y p j ≤ p := by
  have hp : 0 < B ^ j := Nat.pow_pos hB
  have h1 := Nat.mod_lt x hp
  have h2 := Nat.mod_lt y hp
  unfold mcB
  have h3 : p * (y % B ^ j) ≤ p * (B ^ j - 1) := Nat.mul_le_mul_left _ (by omega)
  have h4 : p * (B ^ j - 1) + p = p * B ^ j := by
    rw [← Nat.mul_succ]; congr 1; omega
  have : (x % B ^ j + p * (y % B ^ j)) / B ^ j < p + 1 := Nat.div_lt_of_lt_mul (by rw [Nat.mul_add, Nat.mul_one, Nat.mul_comm (B ^ j) p]; omega)
  omega

theorem mcB_split (hB : 0 < B) (x y p j : Nat) : (x + p * y) / B ^ j = x / B ^ j + p * (y / B ^ j) + mcB B x y p j := by
  have hp : 0 < B ^ j := Nat.pow_pos hB
  have e : x + p * y = (x % B ^ j + p * (y % B ^ j)) + B ^ j * (x / B ^ j + p * (y / B ^ j)) := by
    have hx := Nat.mod_add_div x (B ^ j)
    have hy := Nat.mod_add_div y (B ^ j)
    have h1 : p * y = p * (y % B ^ j) + p * (B ^ j * (y / B ^ j)) := by rw [← Nat.mul_add, hy]
    have h2 : B ^ j * (p * (y / B ^ j)) = p * (B ^ j * (y / B ^ j)) := by rw [Nat.mul_left_comm]
    rw [Nat.mul_add, h2]
    omega
  rw [e, Nat.add_mul_div_left _ _ hp, mcB]
  omega

theorem mod_macB (u v c p : Nat) : (u % B + p * (v % B) + c) % B = (u + p * v + c) % B := by
  have h : (p * (v % B)) % B = (p * v) % B := by rw [Nat.mul_mod, Nat.mod_mod, ← Nat.mul_mod]
  have h1 : (u % B + p * (v % B)) % B = (u + p * v) % B := by rw [Nat.add_mod, Nat.mod_mod, h, ← Nat.add_mod]
  rw [Nat.add_mod, h1, ← Nat.add_mod]

theorem mcB_dig (hB : 0 < B) (x y p j : Nat) : (dg B x j + p * dg B y j + mcB B x y p j) % B = dg B (x + p * y) j := by
  unfold dg
  rw [mcB_split hB, mod_macB]

theorem mcB_succ (hB : 0 < B) (x y p j : Nat) : (dg B x j + p * dg B y j + mcB B x y p j) / B = mcB B x y p (j + 1) := by
  have hp : 0 < B ^ j := Nat.pow_pos hB
  have e : x % B ^ (j + 1) + p * (y % B ^ (j + 1)) = (x % B ^ j + p * (y % B ^ j)) + B ^ j * (dg B x j + p * dg B y j) := by
    rw [dg_mod_succ, dg_mod_succ, Nat.mul_add, Nat.mul_add]
    have h2 : p * (B ^ j * dg B y j) = B ^ j * (p * dg B y j) := by rw [Nat.mul_left_comm]
    omega
  unfold mcB
  rw [e, Nat.pow_succ, ← Nat.div_div_eq_div_mul, Nat.add_mul_div_left _ _ hp]
  congr 1
  omega
theorem mcB_zero (x y p : Nat) : mcB B x y p 0 = 0 := by simp [mcB, Nat.mod_one]
end

/-! To the base 65536. -/
abbrev DD : Nat := 65536

/-- How many digits a number has. -/
def dl (n : Nat) : Nat := if n = 0 then 0 else n.log2 / 16 + 1

theorem dl_zero : dl 0 = 0 := rfl
theorem lt_dl (n : Nat) : n < DD ^ dl n := by
  unfold dl
  split
  · subst n; decide
  · rename_i h
    show n < (2 ^ 16) ^ _
    rw [← Nat.pow_mul]
    exact (Nat.log2_lt h).1 (by omega)
theorem dl_le (n : Nat) (h : n ≠ 0) : DD ^ (dl n - 1) ≤ n := by
  unfold dl
  rw [if_neg h]
  show (2 ^ 16) ^ _ ≤ n
  rw [← Nat.pow_mul]
  exact Nat.le_trans (Nat.pow_le_pow_right (by omega) (by omega)) (Nat.log2_self_le h)
theorem dl_pos (n : Nat) (h : n ≠ 0) : 0 < dl n := by unfold dl; rw [if_neg h]; omega
theorem dl_of_lt (n k : Nat) (h : n < DD ^ k) : dl n ≤ k := by
  rcases Nat.eq_zero_or_pos n with rfl | hn
  · exact Nat.zero_le _
  · rcases Nat.lt_or_ge k (dl n) with h1 | h1
    · have h2 := dl_le n (by omega)
      have h3 := Nat.pow_le_pow_right (n := DD) (by decide) (show k ≤ dl n - 1 by omega)
      omega
    · exact h1
theorem dl_top (n : Nat) (h : n ≠ 0) : dg DD n (dl n - 1) ≠ 0 := by
  have h1 := dl_le n h
  have h2 := lt_dl n
  have hp := dl_pos n h
  have e : DD ^ dl n = DD ^ (dl n - 1) * DD := by rw [← Nat.pow_succ]; congr 1; omega
  unfold dg
  rw [Nat.mod_eq_of_lt (Nat.div_lt_of_lt_mul (by rw [← e]; exact h2))]
  have := Nat.div_pos h1 (Nat.pow_pos (n := dl n - 1) (show 0 < DD by decide))
  omega
theorem dl_mono (a b : Nat) (h : a ≤ b) : dl a ≤ dl b := dl_of_lt a (dl b) (Nat.lt_of_le_of_lt h (lt_dl b))

/-- The digits, the lowest first. -/
def digs (n : Nat) : List Nat := (List.range (dl n)).map (dg DD n)
theorem digs_length (n : Nat) : (digs n).length = dl n := by simp [digs]
theorem digs_at (n i : Nat) (h : i < dl n) : (digs n)[i]? = some (dg DD n i) := by simp [digs, h]

/-- So many digits, which may be more than there are. -/
def digsTo (n k : Nat) : List Nat := (List.range k).map (dg DD n)
theorem digsTo_length (n k : Nat) : (digsTo n k).length = k := by simp [digsTo]
theorem digsTo_at (n k i : Nat) (h : i < k) : (digsTo n k)[i]? = some (dg DD n i) := by simp [digsTo, h]
theorem digsTo_succ (n k : Nat) : digsTo n (k + 1) = digsTo n k ++ [dg DD n k] := by simp [digsTo, List.range_succ]
theorem digsTo_take (n k j : Nat) (h : j ≤ k) : (digsTo n k).take j = digsTo n j := by
  simp only [digsTo, ← List.map_take, List.take_range]
  rw [Nat.min_eq_left h]
theorem digs_eq (n : Nat) : digs n = digsTo n (dl n) := rfl

/-- Two numbers with the same digits are one. -/
theorem eq_of_dg (a b k : Nat) (ha : a < DD ^ k) (hb : b < DD ^ k) (h : ∀ i, i < k → dg DD a i = dg DD b i) : a = b := by
  have e : ∀ j, j ≤ k → a % DD ^ j = b % DD ^ j := by
    intro j
    induction j with
    | zero => intro _; simp [Nat.mod_one]
    | succ j ih => intro hj; rw [dg_mod_succ, dg_mod_succ, ih (by omega), h j (by omega)]
  have := e k (Nat.le_refl _)
  rwa [Nat.mod_eq_of_lt ha, Nat.mod_eq_of_lt hb] at this

theorem lt_of_dg (a b p : Nat) (h : a / DD ^ (p + 1) = b / DD ^ (p + 1)) (hd : dg DD a p < dg DD b p) : a < b := by
  rcases Nat.lt_or_ge a b with h1 | h1
  · exact h1
  · have := Nat.div_le_div_right (c := DD ^ p) h1
    rw [dg_div a p, dg_div b p, h] at this
    omega
theorem same_of_dg (a b p : Nat) (h : a / DD ^ (p + 1) = b / DD ^ (p + 1)) (hd : dg DD a p = dg DD b p) : a / DD ^ p = b / DD ^ p := by
  rw [dg_div a p, dg_div b p, h, hd]
theorem lt_of_dl (a b : Nat) (h : dl a < dl b) : a < b := by
  rcases Nat.lt_or_ge a b with h1 | h1
  · exact h1
  · have := dl_mono b a h1; omega

/-- A digit of bytes. -/
theorem dg_byte (v c k : Nat) (hv : v < 256 ^ k) (hc : c < 256) (j : Nat) : dg DD (c * 256 ^ k + v) j = if j = k / 2 then dg DD v j + c * 256 ^ (k % 2) else dg DD v j := by
  have hb : DD = 256 ^ 2 := rfl
  unfold dg
  rw [hb, ← Nat.pow_mul]
  rcases Nat.lt_trichotomy j (k / 2) with h | h | h
  · rw [if_neg (by omega)]
    have e : (256 : Nat) ^ k = 256 ^ (2 * j) * (256 ^ 2 * 256 ^ (k - 2 * j - 2)) := by rw [← Nat.pow_add, ← Nat.pow_add]; congr 1; omega
    rw [e, Nat.mul_left_comm, Nat.add_comm, Nat.add_mul_div_left _ _ (Nat.pow_pos (by omega)), Nat.mul_left_comm c, Nat.add_mul_mod_self_left]
  · subst h
    rw [if_pos rfl]
    have hk : 2 * (k / 2) + k % 2 = k := Nat.div_add_mod k 2
    have e : (256 : Nat) ^ k = 256 ^ (2 * (k / 2)) * 256 ^ (k % 2) := by rw [← Nat.pow_add, hk]
    rw [e, Nat.mul_left_comm, Nat.add_comm, Nat.add_mul_div_left _ _ (Nat.pow_pos (by omega))]
    have hq : v / 256 ^ (2 * (k / 2)) < 256 ^ (k % 2) := Nat.div_lt_of_lt_mul (by rw [← e]; exact hv)
    have h8 : (256 : Nat) ^ (k % 2) * 256 ≤ 256 ^ 2 := by rw [← Nat.pow_succ]; exact Nat.pow_le_pow_right (by omega) (by omega)
    have h9 : c * 256 ^ (k % 2) ≤ 255 * 256 ^ (k % 2) := Nat.mul_le_mul_right _ (by omega)
    generalize (256 : Nat) ^ (k % 2) = p at *
    generalize v / 256 ^ (2 * (k / 2)) = q at *
    rw [Nat.mod_eq_of_lt (by omega), Nat.mod_eq_of_lt (a := q) (by omega)]
  · rw [if_neg (by omega)]
    have hle : (256 : Nat) ^ (k + 1) ≤ 256 ^ (2 * j) := Nat.pow_le_pow_right (by omega) (by omega)
    have h9 : c * 256 ^ k ≤ 255 * 256 ^ k := Nat.mul_le_mul_right _ (by omega)
    rw [Nat.pow_succ] at hle
    rw [Nat.div_eq_of_lt (by omega), Nat.div_eq_of_lt (by omega)]

theorem digsTo_put (v c k n : Nat) (hv : v < 256 ^ k) (hc : c < 256) : (digsTo v n).set (k / 2) (dg DD v (k / 2) + c * 256 ^ (k % 2)) = digsTo (c * 256 ^ k + v) n := by
  refine List.ext_getElem (by simp [digsTo]) (fun i h1 h2 => ?_)
  rw [List.getElem_set]
  simp only [digsTo, List.getElem_map, List.getElem_range]
  rw [dg_byte v c k hv hc]
  by_cases h : k / 2 = i
  · subst h; rw [if_pos rfl]
  · rw [if_neg h, if_neg (Ne.symm h)]

theorem byte_dg (n i : Nat) : byteAt n i = dg DD n (i / 2) / 256 ^ (i % 2) % 256 := by
  unfold byteAt dg
  have hb : DD = 256 ^ 2 := rfl
  rw [hb, ← Nat.pow_mul]
  have e : (256 : Nat) ^ 2 = 256 ^ (i % 2) * (256 * 256 ^ (1 - i % 2)) := by
    rw [← Nat.pow_succ', ← Nat.pow_add]; congr 1; omega
  rw [e, Nat.mod_mul_right_div_self, Nat.mod_mul_right_mod, Nat.div_div_eq_div_mul, ← Nat.pow_add]
  congr 3
  omega

end Go.Proofs.Ytdmldnpadojflaa
