/- The group's faces on texts of elements; what powers of elements are. No condition. -/
import Derived.Test.YtdmldnpadojflaaGrpTexts
namespace Go.Proofs.Ytdmldnpadojflaa
open Go.RowKit

/-- The element that a number stands for. -/
def Lw (q p v : Nat) : Nat := lowR q p (v % p)

section
variable {q p : Nat} (hq : 0 < q) (hp : p = 2 * q + 1)
include hq hp
theorem Lw_eq {x y : Nat} (h : PM p x y) : Lw q p x = Lw q p y := low_eq hq hp h
omit hq in
theorem Lw_pm (x : Nat) : PM p (Lw q p x) x := pm_low (by omega) x
omit hq in
theorem Lw_le (x : Nat) : Lw q p x ≤ q := lowR_leq hp (Nat.mod_lt _ (by omega))
omit hq in
theorem Lw_fix {x : Nat} (h : x ≤ q) : Lw q p x = x := by
  unfold Lw
  rw [Nat.mod_eq_of_lt (by omega), lowR_fix h]
omit hq in
theorem Lw_pos {x : Nat} (h : ¬ p ∣ x) : 0 < Lw q p x := by
  unfold Lw
  refine lowR_pos (Nat.mod_lt _ (by omega)) ?_
  rcases Nat.eq_zero_or_pos (x % p) with h0 | h0
  · exact absurd (Nat.dvd_of_mod_eq_zero h0) h
  · exact h0
end

theorem IsPrime.not_dvd_mul {p a b : Nat} (hp : IsPrime p) (ha : ¬ p ∣ a) (hb : ¬ p ∣ b) : ¬ p ∣ a * b := fun h => (hp.dvd_mul h).elim ha hb
theorem IsPrime.not_dvd_pow {p a : Nat} (hp : IsPrime p) (ha : ¬ p ∣ a) : ∀ n, ¬ p ∣ a ^ n
  | 0 => fun h => by rw [Nat.pow_zero] at h; have := Nat.le_of_dvd (by decide) h; have := hp.1; omega
  | n + 1 => by rw [Nat.pow_succ]; exact hp.not_dvd_mul (IsPrime.not_dvd_pow hp ha n) ha
theorem not_dvd_small {p a : Nat} (h0 : 0 < a) (h : a < p) : ¬ p ∣ a := fun hd => by have := Nat.le_of_dvd h0 hd; omega

/-- Powers of an element go by the order. -/
theorem pm_pow_mod {q p a : Nat} (hpp : IsPrime p) (hp : p = 2 * q + 1) (h0 : 0 < a) (ha : a < p) (n : Nat) : PM p (a ^ (n % q)) (a ^ n) := by
  have h1 : a ^ n = a ^ (n % q) * (a ^ q) ^ (n / q) := by
    rw [← Nat.pow_mul, ← Nat.pow_add, Nat.mod_add_div]
  rw [h1]
  have h2 := PM.mul (PM.refl p (a ^ (n % q))) ((pm_euler hpp hp h0 ha).pow (n / q))
  rw [Nat.one_pow, Nat.mul_one] at h2
  exact h2.symm

theorem memb_t (k : Nat) (h1 : 1 ≤ k) (h3 : k ≤ 3) (x : Nat) (h0 : 0 < x) (hx : x ≤ (grp k).q.m) (w : World) : Calls Try.prog 30 #[.int .i64 (k : Int), .string (T (grp k) x)] w fun e w' => e = .returned (.bool true) ∧ Below w.heap.size w w' := by
  have h9 := Member_some k h1 h3 (T (grp k) x) w
  rwa [T_el (grp_ok k h1 h3) (grp_fits k h1 h3) h0 hx] at h9

theorem timV_t {k : Nat} (h1 : 1 ≤ k) (h3 : k ≤ 3) {x y r : Nat} (h0 : 0 < x) (hx : x ≤ (grp k).q.m) (g0 : 0 < y) (hy : y ≤ (grp k).q.m) (hr : Lw (grp k).q.m (grp k).p.m (x * y) = r) : timV (grp k) (T (grp k) x) (T (grp k) y) = T (grp k) r ∧ timE (grp k) (T (grp k) x) (T (grp k) y) = 0 := by
  unfold timV timE
  rw [T_el (grp_ok k h1 h3) (grp_fits k h1 h3) h0 hx, T_el (grp_ok k h1 h3) (grp_fits k h1 h3) g0 hy, T_num (grp_ok k h1 h3) hx (grp_fits k h1 h3), T_num (grp_ok k h1 h3) hy (grp_fits k h1 h3)]
  exact ⟨congrArg (textS · _) hr, rfl⟩
theorem powV_t {k : Nat} (h1 : 1 ≤ k) (h3 : k ≤ 3) {x n r : Nat} (h0 : 0 < x) (hx : x ≤ (grp k).q.m) (hn : n < (grp k).q.m) (hr : Lw (grp k).q.m (grp k).p.m (x ^ n) = r) : powV (grp k) (T (grp k) x) (T (grp k) n) = T (grp k) r ∧ powE (grp k) (T (grp k) x) (T (grp k) n) = 0 := by
  unfold powV powE
  rw [T_el (grp_ok k h1 h3) (grp_fits k h1 h3) h0 hx, T_sc (grp_ok k h1 h3) (grp_fits k h1 h3) hn, T_num (grp_ok k h1 h3) hx (grp_fits k h1 h3), T_num (grp_ok k h1 h3) (Nat.le_of_lt hn) (grp_fits k h1 h3)]
  exact ⟨congrArg (textS · _) hr, rfl⟩

theorem power_t (k : Nat) (h1 : 1 ≤ k) (h3 : k ≤ 3) (x n r : Nat) (h0 : 0 < x) (hx : x ≤ (grp k).q.m) (hn : n < (grp k).q.m) (hr : Lw (grp k).q.m (grp k).p.m (x ^ n) = r) (w : World) : Calls Try.prog 45 #[.int .i64 (k : Int), .string (T (grp k) x), .string (T (grp k) n)] w (Ans (.string (T (grp k) r)) 0 w) := by
  have h9 := Power_some k h1 h3 (T (grp k) x) (T (grp k) n) w
  obtain ⟨e1, e2⟩ := powV_t h1 h3 h0 hx hn hr
  rwa [e1, e2] at h9
theorem times_t (k : Nat) (h1 : 1 ≤ k) (h3 : k ≤ 3) (x y r : Nat) (h0 : 0 < x) (hx : x ≤ (grp k).q.m) (g0 : 0 < y) (hy : y ≤ (grp k).q.m) (hr : Lw (grp k).q.m (grp k).p.m (x * y) = r) (w : World) : Calls Try.prog 44 #[.int .i64 (k : Int), .string (T (grp k) x), .string (T (grp k) y)] w (Ans (.string (T (grp k) r)) 0 w) := by
  have h9 := Times_some k h1 h3 (T (grp k) x) (T (grp k) y) w
  obtain ⟨e1, e2⟩ := timV_t h1 h3 h0 hx g0 hy hr
  rwa [e1, e2] at h9
theorem under_t (k : Nat) (h1 : 1 ≤ k) (h3 : k ≤ 3) (x r : Nat) (h0 : 0 < x) (hx : x ≤ (grp k).q.m) (hr : Lw (grp k).q.m (grp k).p.m (x ^ ((grp k).p.m - 2)) = r) (w : World) : Calls Try.prog 46 #[.int .i64 (k : Int), .string (T (grp k) x)] w (Ans (.string (T (grp k) r)) 0 w) := by
  have h9 := Under_some k h1 h3 (T (grp k) x) w
  have e0 := T_el (grp_ok k h1 h3) (grp_fits k h1 h3) h0 hx
  rwa [show undV (grp k) (T (grp k) x) = T (grp k) r by unfold undV; rw [if_pos e0, T_num (grp_ok k h1 h3) hx (grp_fits k h1 h3)]; exact congrArg (textS · _) hr, show undE (grp k) (T (grp k) x) = 0 by unfold undE; rw [if_pos e0]] at h9
theorem addF_t (k : Nat) (h1 : 1 ≤ k) (h3 : k ≤ 3) (x y r : Nat) (hx : x < (grp k).q.m) (hy : y < (grp k).q.m) (hr : (x + y) % (grp k).q.m = r) (w : World) :
    Calls Try.prog 35 #[.int .i64 (k : Int), .string (T (grp k) x), .string (T (grp k) y)] w (Ans (.string (T (grp k) r)) 0 w) := by
  have hA := Add_some k h1 h3 (T (grp k) x) (T (grp k) y) w
  rwa [recV_t (r := r) h1 h3 hx hy (by rw [T_num (grp_ok k h1 h3) (Nat.le_of_lt hx) (grp_fits k h1 h3), T_num (grp_ok k h1 h3) (Nat.le_of_lt hy) (grp_fits k h1 h3)]; exact hr), recE_t h1 h3 hx hy] at hA
theorem mulF_t (k : Nat) (h1 : 1 ≤ k) (h3 : k ≤ 3) (x y r : Nat) (hx : x < (grp k).q.m) (hy : y < (grp k).q.m) (hr : x * y % (grp k).q.m = r) (w : World) :
    Calls Try.prog 37 #[.int .i64 (k : Int), .string (T (grp k) x), .string (T (grp k) y)] w (Ans (.string (T (grp k) r)) 0 w) := by
  have hA := Mul_some k h1 h3 (T (grp k) x) (T (grp k) y) w
  rwa [recV_t (r := r) h1 h3 hx hy (by rw [T_num (grp_ok k h1 h3) (Nat.le_of_lt hx) (grp_fits k h1 h3), T_num (grp_ok k h1 h3) (Nat.le_of_lt hy) (grp_fits k h1 h3)]; exact hr), recE_t h1 h3 hx hy] at hA


set_option maxRecDepth 100000 in
theorem lawTimes_t (k : Nat) (h1 : 1 ≤ k) (h3 : k ≤ 3) (x y r : Nat) (h0 : 0 < x) (hx : x ≤ (grp k).q.m) (g0 : 0 < y) (hy : y ≤ (grp k).q.m) (hr : Lw (grp k).q.m (grp k).p.m (x * y) = r) (w : World) :
    Calls Try.prog 58 #[.int .i64 (k : Int), .string (T (grp k) x), .string (T (grp k) y)] w fun e w' => e = .returned (.string (T (grp k) r)) ∧ Below w.heap.size w w' := by
  have HA := Lib.hid (times_t k h1 h3 x y r h0 hx g0 hy hr w)
  clear hr
  go_enter Try.func58, Try.ntmps58
  go_wp2_with fail
  refine HA.out.mono ?_
  rintro e w1 ⟨rfl, hb⟩
  have HB := Lib.hid hb
  clear hb
  go_wp2_with fail
  go_ret
  exact ⟨rfl, HB.out⟩

set_option maxRecDepth 100000 in
theorem lawPower_t (k : Nat) (h1 : 1 ≤ k) (h3 : k ≤ 3) (x y r : Nat) (h0 : 0 < x) (hx : x ≤ (grp k).q.m) (hy : y < (grp k).q.m) (hr : Lw (grp k).q.m (grp k).p.m (x ^ y) = r) (w : World) :
    Calls Try.prog 57 #[.int .i64 (k : Int), .string (T (grp k) x), .string (T (grp k) y)] w fun e w' => e = .returned (.string (T (grp k) r)) ∧ Below w.heap.size w w' := by
  have HA := Lib.hid (power_t k h1 h3 x y r h0 hx hy hr w)
  clear hr
  go_enter Try.func57, Try.ntmps57
  go_wp2_with fail
  refine HA.out.mono ?_
  rintro e w1 ⟨rfl, hb⟩
  have HB := Lib.hid hb
  clear hb
  go_wp2_with fail
  go_ret
  exact ⟨rfl, HB.out⟩

end Go.Proofs.Ytdmldnpadojflaa
