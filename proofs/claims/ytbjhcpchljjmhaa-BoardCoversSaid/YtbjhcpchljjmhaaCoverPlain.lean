/- Blocks of a cover: plain numbers. No condition. -/
import Derived.Lib.BitFns
import Derived.Test.YtbjhcpchljjmhaaNetPlain
namespace Go.Proofs.Ytbjhcpchljjmhaa

/-- The greatest power of two, from 2 to the k down, that is not above d and divides lo. -/
def down : Nat → Nat → Nat → Nat
  | 0, _, _ => 1
  | k + 1, lo, d => if 2 ^ (k + 1) ≤ d ∧ lo % 2 ^ (k + 1) = 0 then 2 ^ (k + 1) else down k lo d

theorem down_pow (lo d : Nat) : ∀ k, ∃ j, j ≤ k ∧ down k lo d = 2 ^ j
  | 0 => ⟨0, Nat.le_refl _, rfl⟩
  | k + 1 => by
    rw [down]
    split
    · exact ⟨k + 1, Nat.le_refl _, rfl⟩
    · obtain ⟨j, h1, h2⟩ := down_pow lo d k
      exact ⟨j, by omega, h2⟩

theorem down_le (lo d : Nat) (hd : 1 ≤ d) : ∀ k, down k lo d ≤ d
  | 0 => hd
  | k + 1 => by
    rw [down]
    split
    · next h => exact h.1
    · exact down_le lo d hd k

theorem down_pos (lo d k : Nat) : 1 ≤ down k lo d := by
  obtain ⟨j, _, h⟩ := down_pow lo d k
  rw [h]
  exact Nat.one_le_two_pow

/-- Whatever is a power of two, fits, and is not less than another that fits, is that one. -/
theorem down_eq (lo d j : Nat) (h1 : 2 ^ j ≤ d) (h2 : lo % 2 ^ j = 0) (h3 : ∀ i, j < i → ¬ (2 ^ i ≤ d ∧ lo % 2 ^ i = 0)) : ∀ k, j ≤ k → down k lo d = 2 ^ j
  | 0, h => by
    have : j = 0 := by omega
    subst this; rfl
  | k + 1, h => by
    rw [down]
    by_cases e : j = k + 1
    · subst e
      rw [if_pos ⟨h1, h2⟩]
    · rw [if_neg (h3 (k + 1) (by omega))]
      exact down_eq lo d j h1 h2 h3 k (by omega)

/-! The lowest bit. -/
theorem land_compl (w m : Nat) (h : m < 2 ^ w) : m &&& (2 ^ w - (m + 1)) = 0 := by
  apply Nat.eq_of_testBit_eq
  intro i
  rw [Nat.testBit_and, Nat.testBit_two_pow_sub_succ h, Nat.zero_testBit]
  cases m.testBit i <;> simp

theorem low_bit : ∀ (w n : Nat), 0 < n → n < 2 ^ w → ∃ t, n &&& (2 ^ w - n) = 2 ^ t ∧ n % 2 ^ t = 0 ∧ n % 2 ^ (t + 1) ≠ 0
  | 0, n, h0, h1 => by simp at h1; omega
  | w + 1, n, h0, h1 => by
    rw [Nat.pow_succ] at h1
    rcases Nat.mod_two_eq_zero_or_one n with h | h
    · obtain ⟨m, rfl⟩ : ∃ m, n = 2 * m := ⟨n / 2, by omega⟩
      obtain ⟨t, e1, e2, e3⟩ := low_bit w m (by omega) (by omega)
      have k : 2 ^ (w + 1) - 2 * m = 2 * (2 ^ w - m) := by rw [Nat.pow_succ]; omega
      refine ⟨t + 1, ?_, ?_, ?_⟩
      · rw [k]
        have hd : (2 * m &&& 2 * (2 ^ w - m)) / 2 = 2 ^ t := by
          rw [Nat.and_div_two, Nat.mul_div_cancel_left _ (by omega), Nat.mul_div_cancel_left _ (by omega), e1]
        have hm : (2 * m &&& 2 * (2 ^ w - m)) % 2 = 0 := by
          have := Nat.and_mod_two_pow (a := 2 * m) (b := 2 * (2 ^ w - m)) (n := 1)
          simp at this
          omega
        rw [Nat.pow_succ]; omega
      · rw [Nat.pow_succ, Nat.mul_comm (2 ^ t) 2, Nat.mul_mod_mul_left, e2]
      · rw [Nat.pow_succ, Nat.mul_comm (2 ^ (t + 1)) 2, Nat.mul_mod_mul_left]
        omega
    · obtain ⟨m, rfl⟩ : ∃ m, n = 2 * m + 1 := ⟨n / 2, by omega⟩
      have k : 2 ^ (w + 1) - (2 * m + 1) = 2 * (2 ^ w - (m + 1)) + 1 := by rw [Nat.pow_succ]; omega
      refine ⟨0, ?_, by simp [Nat.mod_one], by rw [Nat.zero_add, Nat.pow_one]; omega⟩
      rw [k]
      have hd : ((2 * m + 1) &&& (2 * (2 ^ w - (m + 1)) + 1)) / 2 = 0 := by
        rw [Nat.and_div_two, show (2 * m + 1) / 2 = m by omega, show (2 * (2 ^ w - (m + 1)) + 1) / 2 = 2 ^ w - (m + 1) by omega]
        exact land_compl w m (by omega)
      have hm : ((2 * m + 1) &&& (2 * (2 ^ w - (m + 1)) + 1)) % 2 = 1 := by
        have := Nat.and_mod_two_pow (a := 2 * m + 1) (b := 2 * (2 ^ w - (m + 1)) + 1) (n := 1)
        rw [show (2 : Nat) ^ 1 = 2 from rfl, show (2 * m + 1) % 2 = 1 by omega, show (2 * (2 ^ w - (m + 1)) + 1) % 2 = 1 by omega] at this
        exact this.trans (by decide)
      rw [Nat.pow_zero]; omega

theorem bitLenAux_ok : ∀ (f x : Nat), x < 2 ^ f → x < 2 ^ Lib.bitLenAux f x ∧ (0 < x → 2 ^ Lib.bitLenAux f x ≤ 2 * x)
  | 0, x, h => by simp at h; subst h; simp [Lib.bitLenAux]
  | f + 1, x, h => by
    rw [Nat.pow_succ] at h
    rw [Lib.bitLenAux]
    split
    · next e => subst e; simp
    · next e =>
      obtain ⟨a, b⟩ := bitLenAux_ok f (x / 2) (by omega)
      rw [Nat.add_comm 1, Nat.pow_succ]
      refine ⟨by omega, fun _ => ?_⟩
      by_cases hx : x / 2 = 0
      · rw [hx]
        have : Lib.bitLenAux f 0 = 0 := by cases f <;> simp [Lib.bitLenAux]
        rw [this]; simp; omega
      · have := b (by omega)
        omega

theorem bitLen_ok (x : Nat) (h0 : 0 < x) (h : x < 2 ^ 64) : 1 ≤ Lib.bitLen x ∧ 2 ^ (Lib.bitLen x - 1) ≤ x ∧ x < 2 ^ Lib.bitLen x := by
  obtain ⟨a, b⟩ := bitLenAux_ok 64 x h
  have hb := b h0
  have h1 : 1 ≤ Lib.bitLen x := by
    rcases Nat.eq_zero_or_pos (Lib.bitLen x) with e | e
    · have a' : x < 2 ^ Lib.bitLen x := a
      rw [e] at a'; simp at a'; omega
    · exact e
  refine ⟨h1, ?_, a⟩
  obtain ⟨k, hk⟩ : ∃ k, Lib.bitLen x = k + 1 := ⟨Lib.bitLen x - 1, by omega⟩
  have hb' : 2 ^ Lib.bitLen x ≤ 2 * x := hb
  rw [hk, Nat.pow_succ] at hb'
  rw [hk]; simp; omega

theorem bitLen_le (x k : Nat) (h0 : 0 < x) (h : x < 2 ^ k) (hk : k ≤ 64) : Lib.bitLen x ≤ k := by
  have h64 : x < 2 ^ 64 := Nat.lt_of_lt_of_le h (Nat.pow_le_pow_right (by omega) hk)
  obtain ⟨a, b, _⟩ := bitLen_ok x h0 h64
  have : 2 ^ (Lib.bitLen x - 1) < 2 ^ k := Nat.lt_of_le_of_lt b h
  have := (Nat.pow_lt_pow_iff_right (a := 2) (by omega)).1 this
  omega

theorem pow_mod_mono (lo i j : Nat) (h : j ≤ i) (hi : lo % 2 ^ i = 0) : lo % 2 ^ j = 0 := by
  have hd : 2 ^ j ∣ 2 ^ i := Nat.pow_dvd_pow 2 h
  exact Nat.mod_eq_zero_of_dvd (Nat.dvd_trans hd (Nat.dvd_of_mod_eq_zero hi))

/-- What the program reckons at nought. -/
theorem piece_zero (d : Nat) (h0 : 0 < d) (hd : d ≤ 1048576) : down 20 0 d = 2 ^ (Lib.bitLen d - 1) := by
  obtain ⟨a, b, c⟩ := bitLen_ok d h0 (by omega)
  have hle := bitLen_le d 21 h0 (by omega) (by omega)
  refine down_eq 0 d _ b (by simp) (fun i hi h => ?_) 20 (by omega)
  have : 2 ^ Lib.bitLen d ≤ 2 ^ i := Nat.pow_le_pow_right (by omega) (by omega)
  omega

/-- What the program reckons further on: the lesser of two powers. -/
theorem piece_more (lo d : Nat) (h0 : 0 < d) (hd : d ≤ 1048576) (hl : 0 < lo) (hl2 : lo < 2 ^ 64) : down 20 lo d = min (2 ^ (Lib.bitLen d - 1)) (lo &&& (2 ^ 64 - lo)) := by
  obtain ⟨a, b, c⟩ := bitLen_ok d h0 (by omega)
  have hle := bitLen_le d 21 h0 (by omega) (by omega)
  obtain ⟨t, e1, e2, e3⟩ := low_bit 64 lo hl hl2
  rw [e1]
  by_cases h : Lib.bitLen d - 1 ≤ t
  · have hm : min (2 ^ (Lib.bitLen d - 1)) (2 ^ t) = 2 ^ (Lib.bitLen d - 1) := Nat.min_eq_left (Nat.pow_le_pow_right (by omega) h)
    rw [hm]
    refine down_eq lo d _ b (pow_mod_mono lo t _ h e2) (fun i hi hh => ?_) 20 (by omega)
    have : 2 ^ Lib.bitLen d ≤ 2 ^ i := Nat.pow_le_pow_right (by omega) (by omega)
    omega
  · have hm : min (2 ^ (Lib.bitLen d - 1)) (2 ^ t) = 2 ^ t := Nat.min_eq_right (Nat.pow_le_pow_right (by omega) (by omega))
    rw [hm]
    refine down_eq lo d _ (Nat.le_trans (Nat.pow_le_pow_right (by omega) (by omega)) b) e2 (fun i hi hh => ?_) 20 (by omega)
    exact e3 (pow_mod_mono lo i (t + 1) (by omega) hh.2)

/-- The blocks of a cover. -/
def parts : Nat → Nat → Nat → List (Int × Int)
  | 0, _, _ => []
  | f + 1, lo, hi => if lo < hi then ((lo : Int), ((lo + down 20 lo (hi - lo) : Nat) : Int)) :: parts f (lo + down 20 lo (hi - lo)) hi else []

theorem parts_fuel : ∀ (f g lo hi : Nat), hi - lo ≤ f → hi - lo ≤ g → parts f lo hi = parts g lo hi
  | 0, 0, _, _, _, _ => rfl
  | 0, g + 1, lo, hi, h1, _ => by rw [parts, parts, if_neg (by omega)]
  | f + 1, 0, lo, hi, _, h2 => by rw [parts, parts, if_neg (by omega)]
  | f + 1, g + 1, lo, hi, h1, h2 => by
    rw [parts, parts]
    split
    · have := down_pos lo (hi - lo) 20
      rw [parts_fuel f g _ hi (by omega) (by omega)]
    · rfl

def cover (lo hi : Nat) : List (Int × Int) := parts (hi - lo) lo hi

theorem cover_none (lo hi : Nat) (h : hi ≤ lo) : cover lo hi = [] := by
  rw [cover, show hi - lo = 0 by omega]; rfl

theorem cover_some (lo hi : Nat) (h : lo < hi) : cover lo hi = ((lo : Int), ((lo + down 20 lo (hi - lo) : Nat) : Int)) :: cover (lo + down 20 lo (hi - lo)) hi := by
  obtain ⟨k, hk⟩ : ∃ k, hi - lo = k + 1 := ⟨hi - lo - 1, by omega⟩
  have := down_pos lo (hi - lo) 20
  rw [cover, cover, hk, parts, if_pos h, ← hk, parts_fuel k (hi - (lo + down 20 lo (hi - lo))) _ hi (by omega) (by omega)]

theorem parts_length : ∀ (f lo hi : Nat), (parts f lo hi).length ≤ f
  | 0, _, _ => by simp [parts]
  | f + 1, lo, hi => by
    rw [parts]
    split
    · simpa using parts_length f _ hi
    · simp

theorem cover_length (lo hi : Nat) : (cover lo hi).length ≤ hi - lo := parts_length _ _ _

end Go.Proofs.Ytbjhcpchljjmhaa
