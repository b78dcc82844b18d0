/- Texts of this seat, one behind the other: what LawFinds leans on. No condition beyond those that each names. -/
import Derived.Test.YtdmldnpadojflaaZLawFinds4
import Derived.Maps.OwnSet
import Derived.Test.YtdmldnpadojflaaRows
import Derived.ProofKit
import Derived.SizedLaws
import Derived.Lib.SmallJoins
import Derived.Deep.Slices
import Derived.Deep.Fields

/- Numbers in so many bytes, there and back; the group's faces on such texts. No condition. -/
namespace Go.Proofs.Ytdmldnpadojflaa
open Go.RowKit

theorem numL_inj : ∀ l m : List UInt8, l.length = m.length → numL l = numL m → l = m
  | [], [], _, _ => rfl
  | [], _ :: _, h, _ => by simp at h
  | _ :: _, [], h, _ => by simp at h
  | a :: l, b :: m, h, e => by
    have hl : l.length = m.length := by simpa using h
    have h1 := numL_lt l
    have h2 := numL_lt m
    simp only [numL] at e
    rw [hl] at e h1
    have hP : 0 < 256 ^ m.length := Nat.pow_pos (by decide)
    have hd := congrArg (· / 256 ^ m.length) e
    have hm := congrArg (· % 256 ^ m.length) e
    simp only [Nat.mul_comm _ (256 ^ m.length), Nat.mul_add_div hP, Nat.mul_add_mod, Nat.div_eq_of_lt h1, Nat.div_eq_of_lt h2, Nat.mod_eq_of_lt h1, Nat.mod_eq_of_lt h2, Nat.add_zero] at hd hm
    rw [numL_inj l m hl hm, UInt8.toNat_inj.1 hd]

theorem numOf_inj {s t : ByteArray} (h : s.size = t.size) (e : numOf s = numOf t) : s = t := by
  have h1 := numL_inj s.data.toList t.data.toList (by simpa using h) e
  cases s; cases t
  simp at h1
  rw [h1]

theorem text_numOf (s : ByteArray) : textS (numOf s) s.size = s := by
  refine numOf_inj (textS_size _ _) ?_
  rw [numOf_textS]
  exact Nat.mod_eq_of_lt (by have := numL_lt s.data.toList; simpa [numOf] using this)

/-- A number as a text of the group. -/
def T (G : GP) (n : Nat) : ByteArray := textS n G.size

theorem T_size (G : GP) (n : Nat) : (T G n).size = G.size := textS_size _ _
theorem T_num {G : GP} (_ok : G.Ok) {n : Nat} (h : n ≤ G.q.m) (hne : G.q.m < 256 ^ G.size) : numOf (T G n) = n := by
  unfold T
  rw [numOf_textS]
  exact Nat.mod_eq_of_lt (by omega)

theorem T_of {G : GP} {s : ByteArray} (h : s.size = G.size) : s = T G (numOf s) := by
  unfold T
  rw [← h]
  exact (text_numOf s).symm

theorem T_sc {G : GP} (ok : G.Ok) (hne : G.q.m < 256 ^ G.size) {n : Nat} (h : n < G.q.m) : isSc G.q.m G.size (T G n) = true := by
  unfold isSc
  rw [T_size, T_num ok (Nat.le_of_lt h) hne]
  simp [h]
theorem T_el {G : GP} (ok : G.Ok) (hne : G.q.m < 256 ^ G.size) {n : Nat} (h0 : 0 < n) (h : n ≤ G.q.m) : isEl G.q.m G.size (T G n) = true := by
  unfold isEl
  rw [T_size, T_num ok h hne]
  simp [h, h0]

theorem grp_fits (k : Nat) (h1 : 1 ≤ k) (h3 : k ≤ 3) : (grp k).q.m < 256 ^ (grp k).size := by
  obtain rfl | rfl | rfl : k = 1 ∨ k = 2 ∨ k = 3 := by omega
  all_goals decide


theorem recV_t {k : Nat} (h1 : 1 ≤ k) (h3 : k ≤ 3) {x y z r : Nat} (hx : x < (grp k).q.m) (hy : y < (grp k).q.m) (hr : z % (grp k).q.m = r) : recV (grp k) (T (grp k) x) (T (grp k) y) z = T (grp k) r := by
  unfold recV
  rw [T_sc (grp_ok k h1 h3) (grp_fits k h1 h3) hx, T_sc (grp_ok k h1 h3) (grp_fits k h1 h3) hy, hr]
  rfl
theorem recE_t {k : Nat} (h1 : 1 ≤ k) (h3 : k ≤ 3) {x y : Nat} (hx : x < (grp k).q.m) (hy : y < (grp k).q.m) : recE (grp k) (T (grp k) x) (T (grp k) y) = 0 := by
  unfold recE
  rw [T_sc (grp_ok k h1 h3) (grp_fits k h1 h3) hx, T_sc (grp_ok k h1 h3) (grp_fits k h1 h3) hy]
  rfl

set_option maxRecDepth 100000 in
theorem lawAdd_t (k : Nat) (h1 : 1 ≤ k) (h3 : k ≤ 3) (x y r : Nat) (hx : x < (grp k).q.m) (hy : y < (grp k).q.m) (hr : (x + y) % (grp k).q.m = r) (w : World) :
    Calls Try.prog 47 #[.int .i64 (k : Int), .string (T (grp k) x), .string (T (grp k) y)] w fun e w' => e = .returned (.string (T (grp k) r)) ∧ Below w.heap.size w w' := by
  have hA := Add_some k h1 h3 (T (grp k) x) (T (grp k) y) w
  rw [recV_t (r := r) h1 h3 hx hy (by rw [T_num (grp_ok k h1 h3) (Nat.le_of_lt hx) (grp_fits k h1 h3), T_num (grp_ok k h1 h3) (Nat.le_of_lt hy) (grp_fits k h1 h3)]; exact hr), recE_t h1 h3 hx hy] at hA
  have HA := Lib.hid hA
  clear hA hr
  go_enter Try.func47, Try.ntmps47
  go_wp2_with fail
  refine HA.out.mono ?_
  rintro e w1 ⟨rfl, hb⟩
  have HB := Lib.hid hb
  clear hb
  go_wp2_with fail
  go_ret
  exact ⟨rfl, HB.out⟩

set_option maxRecDepth 100000 in
theorem lawMul_t (k : Nat) (h1 : 1 ≤ k) (h3 : k ≤ 3) (x y r : Nat) (hx : x < (grp k).q.m) (hy : y < (grp k).q.m) (hr : x * y % (grp k).q.m = r) (w : World) :
    Calls Try.prog 48 #[.int .i64 (k : Int), .string (T (grp k) x), .string (T (grp k) y)] w fun e w' => e = .returned (.string (T (grp k) r)) ∧ Below w.heap.size w w' := by
  have hA := Mul_some k h1 h3 (T (grp k) x) (T (grp k) y) w
  rw [recV_t (r := r) h1 h3 hx hy (by rw [T_num (grp_ok k h1 h3) (Nat.le_of_lt hx) (grp_fits k h1 h3), T_num (grp_ok k h1 h3) (Nat.le_of_lt hy) (grp_fits k h1 h3)]; exact hr), recE_t h1 h3 hx hy] at hA
  have HA := Lib.hid hA
  clear hA hr
  go_enter Try.func48, Try.ntmps48
  go_wp2_with fail
  refine HA.out.mono ?_
  rintro e w1 ⟨rfl, hb⟩
  have HB := Lib.hid hb
  clear hb
  go_wp2_with fail
  go_ret
  exact ⟨rfl, HB.out⟩

theorem sub_t (k : Nat) (h1 : 1 ≤ k) (h3 : k ≤ 3) (x y r : Nat) (hx : x < (grp k).q.m) (hy : y < (grp k).q.m) (hr : (x + ((grp k).q.m - y)) % (grp k).q.m = r) (w : World) :
    Calls Try.prog 36 #[.int .i64 (k : Int), .string (T (grp k) x), .string (T (grp k) y)] w (Ans (.string (T (grp k) r)) 0 w) := by
  have hA := Sub_some k h1 h3 (T (grp k) x) (T (grp k) y) w
  rwa [recV_t (r := r) h1 h3 hx hy (by rw [T_num (grp_ok k h1 h3) (Nat.le_of_lt hx) (grp_fits k h1 h3), T_num (grp_ok k h1 h3) (Nat.le_of_lt hy) (grp_fits k h1 h3)]; exact hr), recE_t h1 h3 hx hy] at hA

theorem inv_zero_t (k : Nat) (h1 : 1 ≤ k) (h3 : k ≤ 3) (w : World) : Calls Try.prog 33 #[.int .i64 (k : Int), .string (T (grp k) 0)] w (Ans (.string ⟨#[]⟩) 5 w) := by
  have hq : 0 < (grp k).q.m := (grp_ok k h1 h3).q.pos
  have hA := Inv_some k h1 h3 (T (grp k) 0) w
  have e1 : numOf (T (grp k) 0) = 0 := T_num (grp_ok k h1 h3) (Nat.zero_le _) (grp_fits k h1 h3)
  have e2 := T_sc (grp_ok k h1 h3) (grp_fits k h1 h3) hq
  rwa [show invV (grp k) (T (grp k) 0) = ⟨#[]⟩ by unfold invV; rw [if_neg (by simp [e1])], show invE (grp k) (T (grp k) 0) = 5 by unfold invE; rw [if_pos e2, if_pos e1]] at hA

theorem inv_t (k : Nat) (h1 : 1 ≤ k) (h3 : k ≤ 3) (x r : Nat) (h0 : 0 < x) (hx : x < (grp k).q.m) (hr : x ^ ((grp k).q.m - 2) % (grp k).q.m = r) (w : World) : Calls Try.prog 33 #[.int .i64 (k : Int), .string (T (grp k) x)] w (Ans (.string (T (grp k) r)) 0 w) := by
  have hA := Inv_some k h1 h3 (T (grp k) x) w
  have e1 : numOf (T (grp k) x) = x := T_num (grp_ok k h1 h3) (Nat.le_of_lt hx) (grp_fits k h1 h3)
  have e2 := T_sc (grp_ok k h1 h3) (grp_fits k h1 h3) hx
  rwa [show invV (grp k) (T (grp k) x) = T (grp k) r by unfold invV; rw [if_pos ⟨e2, by omega⟩, e1, hr]; rfl, show invE (grp k) (T (grp k) x) = 0 by unfold invE; rw [if_pos e2, if_neg (by omega)]] at hA

theorem number_t (k : Nat) (h1 : 1 ≤ k) (h3 : k ≤ 3) (n : Int) (r : Nat) (hn1 : -9223372036854775808 ≤ n) (hn2 : n ≤ 9223372036854775807) (hr : modI (grp k).q.m n = r) (w : World) : Calls Try.prog 27 #[.int .i64 (k : Int), .int .i64 n] w (Ans (.string (T (grp k) r)) 0 w) := by
  subst hr
  exact Number_some k h1 h3 n hn1 hn2 w

theorem scal_t (k : Nat) (h1 : 1 ≤ k) (h3 : k ≤ 3) (x : Nat) (hx : x < (grp k).q.m) (w : World) : Calls Try.prog 29 #[.int .i64 (k : Int), .string (T (grp k) x)] w fun e w' => e = .returned (.bool true) ∧ Below w.heap.size w w' := by
  have h9 := Scalar_some k h1 h3 (T (grp k) x) w
  rwa [T_sc (grp_ok k h1 h3) (grp_fits k h1 h3) hx] at h9

end Go.Proofs.Ytdmldnpadojflaa

/- The group's faces on texts of elements; what powers of elements are. No condition. -/
namespace Go.Proofs.Ytdmldnpadojflaa
open Go.RowKit

/-- The element that a number stands for. -/
def Lw (q p v : Nat) : Nat := lowR q p (v % p)

section
variable {q p : Nat} (hq : 0 < q) (hp : p = 2 * q + 1)
include hq hp
theorem Lw_eq {x y : Nat} (h : PM p x y) : Lw q p x = Lw q p y := low_eq hq hp h
omit hq in
theorem Lw_pm (x : Nat) : PM p (Lw q p x) x := pm_low (by omega) x
omit hq in
theorem Lw_le (x : Nat) : Lw q p x ≤ q := lowR_leq hp (Nat.mod_lt _ (by omega))
omit hq in
theorem Lw_fix {x : Nat} (h : x ≤ q) : Lw q p x = x := by
  unfold Lw
  rw [Nat.mod_eq_of_lt (by omega), lowR_fix h]
omit hq in
theorem Lw_pos {x : Nat} (h : ¬ p ∣ x) : 0 < Lw q p x := by
  unfold Lw
  refine lowR_pos (Nat.mod_lt _ (by omega)) ?_
  rcases Nat.eq_zero_or_pos (x % p) with h0 | h0
  · exact absurd (Nat.dvd_of_mod_eq_zero h0) h
  · exact h0
end

theorem IsPrime.not_dvd_mul {p a b : Nat} (hp : IsPrime p) (ha : ¬ p ∣ a) (hb : ¬ p ∣ b) : ¬ p ∣ a * b := fun h => (hp.dvd_mul h).elim ha hb
theorem IsPrime.not_dvd_pow {p a : Nat} (hp : IsPrime p) (ha : ¬ p ∣ a) : ∀ n, ¬ p ∣ a ^ n
  | 0 => fun h => by rw [Nat.pow_zero] at h; have := Nat.le_of_dvd (by decide) h; have := hp.1; omega
  | n + 1 => by rw [Nat.pow_succ]; exact hp.not_dvd_mul (IsPrime.not_dvd_pow hp ha n) ha
theorem not_dvd_small {p a : Nat} (h0 : 0 < a) (h : a < p) : ¬ p ∣ a := fun hd => by have := Nat.le_of_dvd h0 hd; omega

/-- Powers of an element go by the order. -/
theorem pm_pow_mod {q p a : Nat} (hpp : IsPrime p) (hp : p = 2 * q + 1) (h0 : 0 < a) (ha : a < p) (n : Nat) : PM p (a ^ (n % q)) (a ^ n) := by
  have h1 : a ^ n = a ^ (n % q) * (a ^ q) ^ (n / q) := by
    rw [← Nat.pow_mul, ← Nat.pow_add, Nat.mod_add_div]
  rw [h1]
  have h2 := PM.mul (PM.refl p (a ^ (n % q))) ((pm_euler hpp hp h0 ha).pow (n / q))
  rw [Nat.one_pow, Nat.mul_one] at h2
  exact h2.symm

theorem memb_t (k : Nat) (h1 : 1 ≤ k) (h3 : k ≤ 3) (x : Nat) (h0 : 0 < x) (hx : x ≤ (grp k).q.m) (w : World) : Calls Try.prog 30 #[.int .i64 (k : Int), .string (T (grp k) x)] w fun e w' => e = .returned (.bool true) ∧ Below w.heap.size w w' := by
  have h9 := Member_some k h1 h3 (T (grp k) x) w
  rwa [T_el (grp_ok k h1 h3) (grp_fits k h1 h3) h0 hx] at h9

theorem timV_t {k : Nat} (h1 : 1 ≤ k) (h3 : k ≤ 3) {x y r : Nat} (h0 : 0 < x) (hx : x ≤ (grp k).q.m) (g0 : 0 < y) (hy : y ≤ (grp k).q.m) (hr : Lw (grp k).q.m (grp k).p.m (x * y) = r) : timV (grp k) (T (grp k) x) (T (grp k) y) = T (grp k) r ∧ timE (grp k) (T (grp k) x) (T (grp k) y) = 0 := by
  unfold timV timE
  rw [T_el (grp_ok k h1 h3) (grp_fits k h1 h3) h0 hx, T_el (grp_ok k h1 h3) (grp_fits k h1 h3) g0 hy, T_num (grp_ok k h1 h3) hx (grp_fits k h1 h3), T_num (grp_ok k h1 h3) hy (grp_fits k h1 h3)]
  exact ⟨congrArg (textS · _) hr, rfl⟩
theorem powV_t {k : Nat} (h1 : 1 ≤ k) (h3 : k ≤ 3) {x n r : Nat} (h0 : 0 < x) (hx : x ≤ (grp k).q.m) (hn : n < (grp k).q.m) (hr : Lw (grp k).q.m (grp k).p.m (x ^ n) = r) : powV (grp k) (T (grp k) x) (T (grp k) n) = T (grp k) r ∧ powE (grp k) (T (grp k) x) (T (grp k) n) = 0 := by
  unfold powV powE
  rw [T_el (grp_ok k h1 h3) (grp_fits k h1 h3) h0 hx, T_sc (grp_ok k h1 h3) (grp_fits k h1 h3) hn, T_num (grp_ok k h1 h3) hx (grp_fits k h1 h3), T_num (grp_ok k h1 h3) (Nat.le_of_lt hn) (grp_fits k h1 h3)]
  exact ⟨congrArg (textS · _) hr, rfl⟩

theorem power_t (k : Nat) (h1 : 1 ≤ k) (h3 : k ≤ 3) (x n r : Nat) (h0 : 0 < x) (hx : x ≤ (grp k).q.m) (hn : n < (grp k).q.m) (hr : Lw (grp k).q.m (grp k).p.m (x ^ n) = r) (w : World) : Calls Try.prog 45 #[.int .i64 (k : Int), .string (T (grp k) x), .string (T (grp k) n)] w (Ans (.string (T (grp k) r)) 0 w) := by
  have h9 := Power_some k h1 h3 (T (grp k) x) (T (grp k) n) w
  obtain ⟨e1, e2⟩ := powV_t h1 h3 h0 hx hn hr
  rwa [e1, e2] at h9
theorem times_t (k : Nat) (h1 : 1 ≤ k) (h3 : k ≤ 3) (x y r : Nat) (h0 : 0 < x) (hx : x ≤ (grp k).q.m) (g0 : 0 < y) (hy : y ≤ (grp k).q.m) (hr : Lw (grp k).q.m (grp k).p.m (x * y) = r) (w : World) : Calls Try.prog 44 #[.int .i64 (k : Int), .string (T (grp k) x), .string (T (grp k) y)] w (Ans (.string (T (grp k) r)) 0 w) := by
  have h9 := Times_some k h1 h3 (T (grp k) x) (T (grp k) y) w
  obtain ⟨e1, e2⟩ := timV_t h1 h3 h0 hx g0 hy hr
  rwa [e1, e2] at h9
theorem under_t (k : Nat) (h1 : 1 ≤ k) (h3 : k ≤ 3) (x r : Nat) (h0 : 0 < x) (hx : x ≤ (grp k).q.m) (hr : Lw (grp k).q.m (grp k).p.m (x ^ ((grp k).p.m - 2)) = r) (w : World) : Calls Try.prog 46 #[.int .i64 (k : Int), .string (T (grp k) x)] w (Ans (.string (T (grp k) r)) 0 w) := by
  have h9 := Under_some k h1 h3 (T (grp k) x) w
  have e0 := T_el (grp_ok k h1 h3) (grp_fits k h1 h3) h0 hx
  rwa [show undV (grp k) (T (grp k) x) = T (grp k) r by unfold undV; rw [if_pos e0, T_num (grp_ok k h1 h3) hx (grp_fits k h1 h3)]; exact congrArg (textS · _) hr, show undE (grp k) (T (grp k) x) = 0 by unfold undE; rw [if_pos e0]] at h9
theorem addF_t (k : Nat) (h1 : 1 ≤ k) (h3 : k ≤ 3) (x y r : Nat) (hx : x < (grp k).q.m) (hy : y < (grp k).q.m) (hr : (x + y) % (grp k).q.m = r) (w : World) :
    Calls Try.prog 35 #[.int .i64 (k : Int), .string (T (grp k) x), .string (T (grp k) y)] w (Ans (.string (T (grp k) r)) 0 w) := by
  have hA := Add_some k h1 h3 (T (grp k) x) (T (grp k) y) w
  rwa [recV_t (r := r) h1 h3 hx hy (by rw [T_num (grp_ok k h1 h3) (Nat.le_of_lt hx) (grp_fits k h1 h3), T_num (grp_ok k h1 h3) (Nat.le_of_lt hy) (grp_fits k h1 h3)]; exact hr), recE_t h1 h3 hx hy] at hA
theorem mulF_t (k : Nat) (h1 : 1 ≤ k) (h3 : k ≤ 3) (x y r : Nat) (hx : x < (grp k).q.m) (hy : y < (grp k).q.m) (hr : x * y % (grp k).q.m = r) (w : World) :
    Calls Try.prog 37 #[.int .i64 (k : Int), .string (T (grp k) x), .string (T (grp k) y)] w (Ans (.string (T (grp k) r)) 0 w) := by
  have hA := Mul_some k h1 h3 (T (grp k) x) (T (grp k) y) w
  rwa [recV_t (r := r) h1 h3 hx hy (by rw [T_num (grp_ok k h1 h3) (Nat.le_of_lt hx) (grp_fits k h1 h3), T_num (grp_ok k h1 h3) (Nat.le_of_lt hy) (grp_fits k h1 h3)]; exact hr), recE_t h1 h3 hx hy] at hA


set_option maxRecDepth 100000 in
theorem lawTimes_t (k : Nat) (h1 : 1 ≤ k) (h3 : k ≤ 3) (x y r : Nat) (h0 : 0 < x) (hx : x ≤ (grp k).q.m) (g0 : 0 < y) (hy : y ≤ (grp k).q.m) (hr : Lw (grp k).q.m (grp k).p.m (x * y) = r) (w : World) :
    Calls Try.prog 58 #[.int .i64 (k : Int), .string (T (grp k) x), .string (T (grp k) y)] w fun e w' => e = .returned (.string (T (grp k) r)) ∧ Below w.heap.size w w' := by
  have HA := Lib.hid (times_t k h1 h3 x y r h0 hx g0 hy hr w)
  clear hr
  go_enter Try.func58, Try.ntmps58
  go_wp2_with fail
  refine HA.out.mono ?_
  rintro e w1 ⟨rfl, hb⟩
  have HB := Lib.hid hb
  clear hb
  go_wp2_with fail
  go_ret
  exact ⟨rfl, HB.out⟩

set_option maxRecDepth 100000 in
theorem lawPower_t (k : Nat) (h1 : 1 ≤ k) (h3 : k ≤ 3) (x y r : Nat) (h0 : 0 < x) (hx : x ≤ (grp k).q.m) (hy : y < (grp k).q.m) (hr : Lw (grp k).q.m (grp k).p.m (x ^ y) = r) (w : World) :
    Calls Try.prog 57 #[.int .i64 (k : Int), .string (T (grp k) x), .string (T (grp k) y)] w fun e w' => e = .returned (.string (T (grp k) r)) ∧ Below w.heap.size w w' := by
  have HA := Lib.hid (power_t k h1 h3 x y r h0 hx hy hr w)
  clear hr
  go_enter Try.func57, Try.ntmps57
  go_wp2_with fail
  refine HA.out.mono ?_
  rintro e w1 ⟨rfl, hb⟩
  have HB := Lib.hid hb
  clear hb
  go_wp2_with fail
  go_ret
  exact ⟨rfl, HB.out⟩

end Go.Proofs.Ytdmldnpadojflaa

/- The least power of the base that a number is: small steps, then great ones. No condition. -/
namespace Go.Proofs.Ytdmldnpadojflaa

/-- The least n up to most with which 2 to the n is x. -/
def logF (q p x most : Nat) : Option Nat := (List.range (most + 1)).find? (fun n => decide (Lw q p (2 ^ n) = x))

/-- The least small step whose text is s. -/
def smallF (G : GP) (i : Nat) (s : ByteArray) : Option Nat := (List.range i).find? (fun j => decide (T G (Lw G.q.m G.p.m (2 ^ j)) = s))

theorem smallF_zero (G : GP) (s : ByteArray) : smallF G 0 s = none := rfl
theorem smallF_succ (G : GP) (i : Nat) (s : ByteArray) : smallF G (i + 1) s = (smallF G i s).or (if T G (Lw G.q.m G.p.m (2 ^ i)) = s then some i else none) := by
  unfold smallF
  rw [List.range_succ, List.find?_append]
  congr 1
  by_cases h : T G (Lw G.q.m G.p.m (2 ^ i)) = s <;> simp [h]

theorem find_range_some {f : Nat → Bool} {n i : Nat} (h : (List.range n).find? f = some i) : i < n ∧ f i = true ∧ ∀ j, j < i → f j = false := by
  have h1 := List.find?_some h
  have h2 : i ∈ List.range n := List.mem_of_find?_eq_some h
  refine ⟨by simpa using h2, h1, fun j hj => ?_⟩
  rw [List.find?_eq_some_iff_getElem] at h
  obtain ⟨_, k, hk, he, hl⟩ := h
  simp at he
  subst he
  have := hl j hj
  simpa using this
theorem find_range_none {f : Nat → Bool} {n : Nat} (h : (List.range n).find? f = none) : ∀ j, j < n → f j = false := by
  intro j hj
  have := List.find?_eq_none.1 h j (by simpa using hj)
  simpa using this

theorem logF_some {q p x most n : Nat} (hn : n ≤ most) (h : Lw q p (2 ^ n) = x) (hl : ∀ j, j < n → Lw q p (2 ^ j) ≠ x) : logF q p x most = some n := by
  unfold logF
  cases he : (List.range (most + 1)).find? (fun n => decide (Lw q p (2 ^ n) = x)) with
  | none => have := find_range_none he n (by omega); simp [h] at this
  | some i =>
    obtain ⟨h1, h2, h3⟩ := find_range_some he
    rcases Nat.lt_trichotomy i n with hc | hc | hc
    · exact absurd (by simpa using h2) (hl i hc)
    · rw [hc]
    · have := h3 n hc; simp [h] at this
theorem logF_none {q p x most : Nat} (hl : ∀ j, j ≤ most → Lw q p (2 ^ j) ≠ x) : logF q p x most = none := by
  unfold logF
  rw [List.find?_eq_none]
  intro j hj
  simp at hj
  simpa using hl j (by omega)

theorem Lw_iff {q p : Nat} (hq : 0 < q) (hp : p = 2 * q + 1) (u v : Nat) : Lw q p u = Lw q p v ↔ PM p u v :=
  ⟨fun h => ((Lw_pm hp u).symm.trans (by rw [h]; exact PM.refl _ _)).trans (Lw_pm hp v), fun h => Lw_eq hq hp h⟩

theorem giant {q p x back step : Nat} (hq : 0 < q) (hp : p = 2 * q + 1) (hx : x ≤ q) (hb : PM p (back * 2 ^ step) 1) (k j : Nat) : Lw q p (2 ^ j) = Lw q p (x * back ^ k) ↔ Lw q p (2 ^ (k * step + j)) = x := by
  have h1 : PM p (back ^ k * 2 ^ (k * step)) 1 := by
    have := hb.pow k
    rwa [Nat.one_pow, Nat.mul_pow, ← Nat.pow_mul, Nat.mul_comm step k] at this
  have hx' : Lw q p (2 ^ (k * step + j)) = x ↔ PM p (2 ^ (k * step + j)) x := by
    rw [← Lw_iff hq hp, Lw_fix hp hx]
  rw [hx', Lw_iff hq hp, Nat.pow_add]
  constructor
  · intro h
    have h2 := (PM.refl p (2 ^ (k * step))).mul h
    refine h2.trans ?_
    have h3 := (PM.refl p x).mul h1
    rw [Nat.mul_one] at h3
    rwa [show 2 ^ (k * step) * (x * back ^ k) = x * (back ^ k * 2 ^ (k * step)) by grind]
  · intro h
    have h2 := h.mul (PM.refl p (back ^ k))
    refine (PM.symm ?_).trans h2
    have h3 := (PM.refl p (2 ^ j)).mul h1
    rw [Nat.mul_one] at h3
    rwa [show 2 ^ (k * step) * 2 ^ j * back ^ k = 2 ^ j * (back ^ k * 2 ^ (k * step)) by grind]

theorem T_inj {G : GP} (ok : G.Ok) (fit : G.q.m < 256 ^ G.size) {u v : Nat} (hu : u ≤ G.q.m) (hv : v ≤ G.q.m) (h : T G u = T G v) : u = v := by
  have := congrArg numOf h
  rwa [T_num ok hu fit, T_num ok hv fit] at this

/-- What a look among the small steps says of x. -/
theorem look_some {G : GP} (ok : G.Ok) (fit : G.q.m < 256 ^ G.size) {x back step k i : Nat} (hx : x ≤ G.q.m) (hb : PM G.p.m (back * 2 ^ step) 1) (h : smallF G step (T G (Lw G.q.m G.p.m (x * back ^ k))) = some i)
    (hl : ∀ n, n < k * step → Lw G.q.m G.p.m (2 ^ n) ≠ x) : i < step ∧ Lw G.q.m G.p.m (2 ^ (k * step + i)) = x ∧ ∀ j, j < k * step + i → Lw G.q.m G.p.m (2 ^ j) ≠ x := by
  obtain ⟨h1, h2, h3⟩ := find_range_some h
  have hq := ok.q.pos
  have le := fun v => Lw_le (q := G.q.m) ok.twice v
  refine ⟨h1, (giant hq ok.twice hx hb k i).1 (T_inj ok fit (le _) (le _) (by simpa using h2)), fun j hj => ?_⟩
  rcases Nat.lt_or_ge j (k * step) with hc | hc
  · exact hl j hc
  · obtain ⟨d, rfl⟩ : ∃ d, j = k * step + d := ⟨j - k * step, by omega⟩
    have := h3 d (by omega)
    intro he
    have h5 := (giant hq ok.twice hx hb k d).2 he
    simp [h5] at this

theorem look_none {G : GP} (ok : G.Ok) {x back step k : Nat} (hx : x ≤ G.q.m) (hb : PM G.p.m (back * 2 ^ step) 1) (h : smallF G step (T G (Lw G.q.m G.p.m (x * back ^ k))) = none)
    (hl : ∀ n, n < k * step → Lw G.q.m G.p.m (2 ^ n) ≠ x) : ∀ n, n < (k + 1) * step → Lw G.q.m G.p.m (2 ^ n) ≠ x := by
  intro n hn
  rcases Nat.lt_or_ge n (k * step) with hc | hc
  · exact hl n hc
  · obtain ⟨d, rfl⟩ : ∃ d, n = k * step + d := ⟨n - k * step, by omega⟩
    rw [Nat.add_mul, Nat.one_mul] at hn
    have := find_range_none h d (by omega)
    intro he
    have h5 := (giant ok.q.pos ok.twice hx hb k d).2 he
    simp [h5] at this

theorem back_ok {q p step : Nat} (hpp : IsPrime p) (hp : p = 2 * q + 1) (hq : 1 < q) : PM p ((2 ^ step) ^ (p - 2) * 2 ^ step) 1 := by
  rw [← Nat.pow_succ]
  refine PM.of_mod ?_
  rw [show (p - 2).succ = p - 1 by omega]
  exact fermat hpp (hpp.not_dvd_pow (not_dvd_small (by decide) (by omega)) _)

end Go.Proofs.Ytdmldnpadojflaa

/- The package cyc: Log. No condition. -/
namespace Go.Proofs.Ytdmldnpadojflaa
open Go.RowKit Go.WideMaps Go.Maps

theorem keyed_string : Keyed Try.prog 9 := string_keyed Try.underlying9
theorem zero_int (w : World) : (zeroValue 3).run Try.prog w = .ok (.int .i64 0) w := by kernel_rfl

/-- A map from texts to numbers that the call owns reads as f. -/
def MapFn (w : World) (b n : Nat) (f : ByteArray → Option Nat) : Prop :=
  ∃ D : DataW Unit, w.ownsMap Try.prog 9 (plainElem Try.prog 3) b n D ∧ IsMap D ∧ ∀ s : ByteArray, Maps.has D (.string s.data.toList) = (f s).isSome ∧ ∀ v, f s = some v → D.atKey (.string s.data.toList) (.lit (.int .i64 0)) = .lit (.int .i64 (v : Int))

theorem smallKey (s : ByteArray) (hs : s.size ≤ maxLen) : keyOf Try.prog 9 (.string s) = some (.string s.data.toList) := keyOf_string_mk Try.underlying9 hs

theorem MapFn.nil (w : World) : MapFn (w.alloc (.map #[] 0)) w.heap.size 0 (fun _ => none) :=
  ⟨.map [], World.ownsMap_made _ _ _ _, isMap_empty, fun s => ⟨rfl, fun v hv => by cases hv⟩⟩

theorem MapFn.kept {w w' : World} {b n B : Nat} {f : ByteArray → Option Nat} (h : MapFn w b n f) (hb : Below B w w') (hB : b < B) : MapFn w' b n f := by
  obtain ⟨D, ⟨es, clock, h1, h2, h3, h4⟩, hD, hf⟩ := h
  exact ⟨D, ⟨es, clock, (hb.block b hB).trans h1, h2, h3, h4⟩, hD, hf⟩

theorem MapFn.lt {w : World} {b n : Nat} {f : ByteArray → Option Nat} (h : MapFn w b n f) : b < w.heap.size := by
  obtain ⟨D, ho, _⟩ := h
  exact ho.lt

theorem MapFn.put {w' : World} {b n v : Nat} {D : DataW Unit} {s : ByteArray} {f : ByteArray → Option Nat} (hD : IsMap D)
    (hf : ∀ s : ByteArray, Maps.has D (.string s.data.toList) = (f s).isSome ∧ ∀ v, f s = some v → D.atKey (.string s.data.toList) (.lit (.int .i64 0)) = .lit (.int .i64 (v : Int)))
    (ho : w'.ownsMap Try.prog 9 (plainElem Try.prog 3) b (n + 1) (D.put (.string s.data.toList) (.lit (.int .i64 (v : Int))))) : MapFn w' b (n + 1) (fun s' => if s' = s then some v else f s') := by
  refine ⟨_, ho, hD.put _ _, fun s' => ?_⟩
  by_cases he : s' = s
  · subst he
    dsimp only
    rw [if_pos rfl]
    refine ⟨has_put_same hD (show WideAt.IsKeyLit (.string _) from trivial) _, fun v' hv' => ?_⟩
    cases hv'
    exact atKey_put_same hD (show WideAt.IsKeyLit (.string _) from trivial) _ _
  · dsimp only
    rw [if_neg he]
    have hne : (Lit.string s'.data.toList) ≠ .string s.data.toList := fun h => he (by
      injection h with h
      cases s'; cases s
      simp at h
      rw [h])
    refine ⟨by rw [has_put_other hne]; exact (hf s').1, fun v' hv' => ?_⟩
    rw [atKey_put_other hne]
    exact (hf s').2 v' hv'

theorem MapFn.setCell {w : World} {b n : Nat} {f : ByteArray → Option Nat} (h : MapFn w b n f) (a : Addr) (ha : b ≠ a.block) (u : Value) : MapFn (w.setCell a u) b n f := by
  obtain ⟨D, ho, hD, hf⟩ := h
  exact ⟨D, ho.setCell ha u, hD, hf⟩
theorem MapFn.fill {w : World} {b n c : Nat} {f : ByteArray → Option Nat} (h : MapFn w b n f) (ha : b ≠ c) (m : Nat) : MapFn (((((w).setCell ⟨c, 0, none⟩ (.int .u64 (dig (m) 0 : Int))).setCell ⟨c, 1, none⟩ (.int .u64 (dig (m) 1 : Int))).setCell ⟨c, 2, none⟩ (.int .u64 (dig (m) 2 : Int))).setCell ⟨c, 3, none⟩ (.int .u64 (dig (m) 3 : Int))) b n f :=
  (((h.setCell ⟨c, 0, none⟩ ha _).setCell ⟨c, 1, none⟩ ha _).setCell ⟨c, 2, none⟩ ha _).setCell ⟨c, 3, none⟩ ha _

theorem Blk.grown {w w' : World} {b r : Nat} {t : TypeId} {xs : List Int} (h : Blk w b t xs) (hg : w.grownBy w' (Option.some r)) (hne : b ≠ r) : Blk w' b t xs :=
  (hg.block b h.lt (by simpa using hne)).trans h

theorem MapFn.step {w : World} {b i n : Nat} {G : GP} (h : MapFn w b n (fun s' => if s' = T G (Lw G.q.m G.p.m (2 ^ i)) then some i else smallF G i s')) (hn : smallF G i (T G (Lw G.q.m G.p.m (2 ^ i))) = none) : MapFn w b n (smallF G (i + 1)) := by
  have e : (fun s' => if s' = T G (Lw G.q.m G.p.m (2 ^ i)) then some i else smallF G i s') = smallF G (i + 1) := by
    funext s'
    rw [smallF_succ]
    by_cases he : s' = T G (Lw G.q.m G.p.m (2 ^ i))
    · subst he
      rw [if_pos rfl, hn, if_pos rfl]
      rfl
    · rw [if_neg he, if_neg (fun h => he h.symm), Option.or_none]
  rwa [e] at h
theorem MapFn.stay {w : World} {b i n v : Nat} {G : GP} (h : MapFn w b n (smallF G i)) (hn : smallF G i (T G (Lw G.q.m G.p.m (2 ^ i))) = some v) : MapFn w b (n + 1) (smallF G (i + 1)) := by
  have e : smallF G i = smallF G (i + 1) := by
    funext s'
    rw [smallF_succ]
    by_cases he : T G (Lw G.q.m G.p.m (2 ^ i)) = s'
    · subst he
      rw [hn]
      rfl
    · rw [if_neg he, Option.or_none]
  rw [e] at h
  obtain ⟨D, ho, hD, hf⟩ := h
  exact ⟨D, ho.mono (Nat.le_succ _), hD, hf⟩

theorem wrap_add (a b : Nat) (ha : a ≤ 1099511627776) (hb : b ≤ 1099511627776) : wrap64 ((a : Int) + (b : Int)) = ((a + b : Nat) : Int) := by
  unfold wrap64; omega

/-- What Log answers. -/
def LogR (o : Option Nat) (w : World) (e : Ending) (w' : World) : Prop := ∃ (n : Nat) (b : Bool), e = .returned (.tuple #[.int .i64 (n : Int), .bool b]) ∧ Below w.heap.size w w' ∧ o = if b then some n else none


set_option maxRecDepth 100000 in
set_option maxHeartbeats 2000000 in
theorem gLog_any (G : GP) (ok : G.Ok) (hpp : IsPrime G.p.m) (fit : G.q.m < 256 ^ G.size) (gb x most : Nat) (hx0 : 0 < x) (hx : x ≤ G.q.m) (hm : most ≤ 1048576) (w : World) (hG : GroupAt w gb G) :
    Calls Try.prog 97 #[.pointer (some ⟨gb, 0, none⟩), elV G x, .int .i64 (most : Int)] w (LogR (logF G.q.m G.p.m x most) w) := by
  have HG := Lib.hid hG
  have OK := Lib.hid ok
  have HPP := Lib.hid hpp
  have HX := Lib.hid hx
  have HFIT := Lib.hid fit
  clear hG ok hpp hx hx0 fit
  unfold elV limbV
  have hmk : ∀ (s : Nat) (W : World), (Instr.makeMap 131 (some (.int .i64 (s : Int)))).run Try.prog W = .ok (.map (some W.heap.size)) (W.alloc (.map #[] 0)) := fun s W => by
    simp [Instr.makeMap, go_sem]
  go_enter Try.func97, Try.ntmps97
  go_wp2_with fail
  have hlb : Below w.heap.size w (w.alloc (.cells #[.int .u64 (dig (mont G.p.m x) 0 : Int), .int .u64 (dig (mont G.p.m x) 1 : Int), .int .u64 (dig (mont G.p.m x) 2 : Int), .int .u64 (dig (mont G.p.m x) 3 : Int)] 88)) := (Below.refl _ _).alloc (Nat.le_refl _) _
  have hlz : Blk (w.alloc (.cells #[.int .u64 (dig (mont G.p.m x) 0 : Int), .int .u64 (dig (mont G.p.m x) 1 : Int), .int .u64 (dig (mont G.p.m x) 2 : Int), .int .u64 (dig (mont G.p.m x) 3 : Int)] 88)) w.heap.size 88 (lim (mont G.p.m x)) := Blk.new _ _ _ _ rfl
  obtain ⟨w1, hlw⟩ : ∃ W9 : World, (w.alloc (.cells #[.int .u64 (dig (mont G.p.m x) 0 : Int), .int .u64 (dig (mont G.p.m x) 1 : Int), .int .u64 (dig (mont G.p.m x) 2 : Int), .int .u64 (dig (mont G.p.m x) 3 : Int)] 88)) = W9 := ⟨_, rfl⟩
  rw [hlw] at hlb hlz
  have HLw1 := Lib.hid hlb
  have HXw1 := Lib.hid hlz
  clear hlb hlz
  try rw [hlw]
  have HB1 := HLw1
  go_loopw [8] (fun u wr => ∃ s : Nat, 1 ≤ s ∧ s ≤ 1025 ∧ u = .int .i64 (s : Int) ∧ wr = w1) (fun u _ => 1025 - (intOf u).toNat)
  case atStart => exact ⟨1, Nat.le_refl _, by decide, rfl, by first | rfl | exact hlw | exact hlw.symm⟩
  case round =>
    obtain ⟨s, hs1, hs2, hu, hw⟩ := hrel
    subst hu
    obtain ⟨m2, hm2⟩ : ∃ m2 : Nat, s * s = m2 := ⟨_, rfl⟩
    have hb2 : m2 ≤ 1050625 := by rw [← hm2]; exact Nat.mul_le_mul hs2 hs2
    have hsq : wrap64 ((s : Int) * (s : Int)) = (m2 : Int) := by
      rw [show (s : Int) * (s : Int) = (m2 : Int) by exact_mod_cast hm2]
      unfold wrap64; omega
    have hw' := hw.symm
    subst hw'
    clear hw
    by_cases hlt : m2 < most + 1
    · have hs3 : s ≤ 1024 := by
        rcases Nat.lt_or_ge s 1025 with h | h
        · omega
        · have := Nat.mul_le_mul h h
          omega
      clear hm2
      have hd : decide ((m2 : Int) < (most : Int) + 1) = true := by simp; omega
      go_wp2_with fail
      go_roundw
      case rel => exact ⟨s + 1, by omega, by omega, by go_num, by first | trivial | rfl⟩
      case measure => simp [intOf]; omega
    · clear hm2
      have hd : decide ((m2 : Int) < (most : Int) + 1) = false := by simp; omega
      go_wp2_with fail
      clear hsq hb2 hlt hd
      have hmb : Below w1.heap.size w1 (w1.alloc (.map #[] 0)) := (Below.refl _ _).alloc (Nat.le_refl _) _
      have hmf := MapFn.nil w1
      obtain ⟨w3, hw3⟩ : ∃ W9 : World, (w1.alloc (.map #[] 0)) = W9 := ⟨_, rfl⟩
      rw [hw3] at hmb hmf ⊢
      clear hw3
      have HMF3 := Lib.hid hmf
      have HXB3 := Lib.hid (HXw1.out.below hmb HXw1.out.lt)
      have HB3 := Lib.hid (below_up HB1.out hmb)
      have hwm : w.heap.size < w1.heap.size := HXw1.out.lt
      clear hmb hmf hlw
      refine (gOne_any G OK.out gb w3 (HG.out.up HB3.out)).mono ?_
      rintro e w4 ⟨rfl, hb4⟩
      have HMF4 := Lib.hid (HMF3.out.kept hb4 HMF3.out.lt)
      have HXB4 := Lib.hid (HXB3.out.below hb4 HXB3.out.lt)
      have HB4 := Lib.hid (below_up HB3.out hb4)
      clear hb4
      unfold elV limbV
      have hlb : Below w4.heap.size w4 (w4.alloc (.cells #[.int .u64 (dig (mont G.p.m 1) 0 : Int), .int .u64 (dig (mont G.p.m 1) 1 : Int), .int .u64 (dig (mont G.p.m 1) 2 : Int), .int .u64 (dig (mont G.p.m 1) 3 : Int)] 88)) := (Below.refl _ _).alloc (Nat.le_refl _) _
      have hlz : Blk (w4.alloc (.cells #[.int .u64 (dig (mont G.p.m 1) 0 : Int), .int .u64 (dig (mont G.p.m 1) 1 : Int), .int .u64 (dig (mont G.p.m 1) 2 : Int), .int .u64 (dig (mont G.p.m 1) 3 : Int)] 88)) w4.heap.size 88 (lim (mont G.p.m 1)) := Blk.new _ _ _ _ rfl
      obtain ⟨w5, hlw⟩ : ∃ W9 : World, (w4.alloc (.cells #[.int .u64 (dig (mont G.p.m 1) 0 : Int), .int .u64 (dig (mont G.p.m 1) 1 : Int), .int .u64 (dig (mont G.p.m 1) 2 : Int), .int .u64 (dig (mont G.p.m 1) 3 : Int)] 88)) = W9 := ⟨_, rfl⟩
      rw [hlw] at hlb hlz
      have HLw5 := Lib.hid hlb
      have HXw5 := Lib.hid hlz
      clear hlb hlz
      have HMF5 := Lib.hid (HMF4.out.kept HLw5.out HMF4.out.lt)
      have HXB5 := Lib.hid (HXB4.out.below HLw5.out HXB4.out.lt)
      have HB5 := Lib.hid (below_up HB4.out HLw5.out)
      have hmo : w1.heap.size < w4.heap.size := HMF4.out.lt
      go_wp2_with fail
      try rw [hlw]
      go_loopw [11, 12, 13, 14, 33] (fun _ _ _ _ u wr => ∃ i : Nat, i ≤ s ∧ u = .int .i64 (i : Int) ∧ Hid (Below w.heap.size w wr) ∧ Hid (Blk wr w.heap.size 88 (lim (mont G.p.m x))) ∧ Hid (Blk wr w4.heap.size 88 (lim (mont G.p.m (2 ^ i)))) ∧ Hid (MapFn wr w1.heap.size i (smallF G i))) (fun _ _ _ _ u _ => s - (intOf u).toNat)
      case atStart => exact ⟨0, Nat.zero_le _, rfl, HB5.out, HXB5.out, HXw5.out, HMF5.out⟩
      case round =>
        clear HB5 HXB5 HXw5 HMF5
        obtain ⟨i, hi, hxi, HB, HXB, HO, HMF⟩ := hrel
        subst hxi
        by_cases hil : i < s
        · have ho_0 := HO.out.cell (i := 0) (x := (dig (mont G.p.m (2 ^ i)) 0 : Int)) rfl
          have ho_1 := HO.out.cell (i := 1) (x := (dig (mont G.p.m (2 ^ i)) 1 : Int)) rfl
          have ho_2 := HO.out.cell (i := 2) (x := (dig (mont G.p.m (2 ^ i)) 2 : Int)) rfl
          have ho_3 := HO.out.cell (i := 3) (x := (dig (mont G.p.m (2 ^ i)) 3 : Int)) rfl
          obtain ⟨st, hst⟩ : ∃ st, T G (Lw G.q.m G.p.m (2 ^ i)) = st := ⟨_, rfl⟩
          have HST := Lib.hid hst
          have hss : st.size ≤ maxLen := by
            rw [← hst, T_size]
            have := OK.out.size_le
            unfold maxLen
            omega
          have hkey := smallKey st hss
          have htx := gText_any G OK.out gb (2 ^ i) wr (HG.out.up HB.out)
          rw [show textS (lowN G (2 ^ i)) G.size = st from hst] at htx
          have HTX := Lib.hid htx
          clear hst hss htx
          go_wp2_with fail
          refine HTX.out.mono ?_
          rintro e w6 ⟨rfl, hb6⟩
          clear HTX ho_0 ho_1 ho_2 ho_3
          have HB6 := Lib.hid (below_up HB.out hb6)
          have HXB6 := Lib.hid (HXB.out.below hb6 HXB.out.lt)
          have HO6 := Lib.hid (HO.out.below hb6 HO.out.lt)
          have HMF6 := Lib.hid (HMF.out.kept hb6 HMF.out.lt)
          clear hb6
          obtain ⟨D, hown, hisM, hfD⟩ := HMF6.out
          have hhas := (hfD st).1
          obtain ⟨o, ho⟩ : ∃ o, smallF G i st = o := ⟨_, rfl⟩
          have HSF := Lib.hid ho
          rw [ho] at hhas
          have HFD := Lib.hid hfD
          have HIM := Lib.hid hisM
          clear hfD hisM ho
          cases o with
          | some v =>
            have hhas1 : Maps.has D (.string st.data.toList) = true := hhas
            clear hhas
            have HMF9 := Lib.hid (MapFn.stay HMF6.out (by rw [HST.out]; exact HSF.out))
            go_wp2_with (first
              | (at_lookup; refine wpList_lookup_own_ok_int _ rfl _ _ 131 rfl 9 3 .i64 keyed_string Try.underlying131 Try.underlying3 (zero_int _) w1.heap.size i D rfl hown _ _ rfl hkey ?_; intro c hat hwc))
            have HO9 := HO6
            have HXB9 := HXB6
            have HB9 := HB6
            clear hown hhas1
            try simp only [Act.put]
            have ho_0 := HO9.out.cell (i := 0) (x := (dig (mont G.p.m (2 ^ i)) 0 : Int)) rfl
            have ho_1 := HO9.out.cell (i := 1) (x := (dig (mont G.p.m (2 ^ i)) 1 : Int)) rfl
            have ho_2 := HO9.out.cell (i := 2) (x := (dig (mont G.p.m (2 ^ i)) 2 : Int)) rfl
            have ho_3 := HO9.out.cell (i := 3) (x := (dig (mont G.p.m (2 ^ i)) 3 : Int)) rfl
            have hl1 := HO9.out.lt
            refine wp_region_otail 5 (by kernel_rfl) (by kernel_rfl) ?_
            simp only [List.take_succ_cons, List.take_zero, List.drop_succ_cons, List.drop_zero]
            have hov1 := fun (E : Over w6) o => E.cell (b := w4.heap.size) o hl1
            repeat (go_big_quiet_step (first | (go_at_call 69; exact calls_over (gBase_any G OK.out gb _ (HG.out.up (below_up HB9.out (Over.h _))))) | (go_at_call 75; exact calls_over (gTimes_any G OK.out gb (2 ^ i) 2 _ (HG.out.up (below_up HB9.out (Over.h _)))))))
            all_goals (try unfold elV limbV)
            repeat (go_big_quiet_step (first | (go_at_call 69; exact calls_over (gBase_any G OK.out gb _ (HG.out.up (below_up HB9.out (Over.h _))))) | (go_at_call 75; exact calls_over (gTimes_any G OK.out gb (2 ^ i) 2 _ (HG.out.up (below_up HB9.out (Over.h _)))))))
            all_goals (try unfold elV limbV)
            repeat (go_big_quiet_step (first | (go_at_call 69; exact calls_over (gBase_any G OK.out gb _ (HG.out.up (below_up HB9.out (Over.h _))))) | (go_at_call 75; exact calls_over (gTimes_any G OK.out gb (2 ^ i) 2 _ (HG.out.up (below_up HB9.out (Over.h _)))))))
            refine wpQuiet_nil ?_
            rintro _ ⟨E, rfl⟩
            have HO10 := Lib.hid (HO9.out.below E.h HO9.out.lt)
            have HXB10 := Lib.hid (HXB9.out.below E.h HXB9.out.lt)
            have HMF10 := Lib.hid (HMF9.out.kept E.h HMF9.out.lt)
            have HB10 := Lib.hid (below_up HB9.out E.h)
            clear hov1 ho_0 ho_1 ho_2 ho_3
            generalize E.w = w10 at *
            have ho_0 := HO10.out.cell (i := 0) (x := (dig (mont G.p.m (2 ^ i)) 0 : Int)) rfl
            have ho_1 := HO10.out.cell (i := 1) (x := (dig (mont G.p.m (2 ^ i)) 1 : Int)) rfl
            have ho_2 := HO10.out.cell (i := 2) (x := (dig (mont G.p.m (2 ^ i)) 2 : Int)) rfl
            have ho_3 := HO10.out.cell (i := 3) (x := (dig (mont G.p.m (2 ^ i)) 3 : Int)) rfl
            have hof_0 := HO10.out.frozen 0
            have hof_1 := HO10.out.frozen 1
            have hof_2 := HO10.out.frozen 2
            have hof_3 := HO10.out.frozen 3
            have HB11 : Hid (Below w.heap.size w (((((w10).setCell ⟨w4.heap.size, 0, none⟩ (.int .u64 (dig (mont G.p.m (2 ^ i * 2)) 0 : Int))).setCell ⟨w4.heap.size, 1, none⟩ (.int .u64 (dig (mont G.p.m (2 ^ i * 2)) 1 : Int))).setCell ⟨w4.heap.size, 2, none⟩ (.int .u64 (dig (mont G.p.m (2 ^ i * 2)) 2 : Int))).setCell ⟨w4.heap.size, 3, none⟩ (.int .u64 (dig (mont G.p.m (2 ^ i * 2)) 3 : Int)))) := below_fill HB10.out (by omega)
            have HO11 : Hid (Blk (((((w10).setCell ⟨w4.heap.size, 0, none⟩ (.int .u64 (dig (mont G.p.m (2 ^ i * 2)) 0 : Int))).setCell ⟨w4.heap.size, 1, none⟩ (.int .u64 (dig (mont G.p.m (2 ^ i * 2)) 1 : Int))).setCell ⟨w4.heap.size, 2, none⟩ (.int .u64 (dig (mont G.p.m (2 ^ i * 2)) 2 : Int))).setCell ⟨w4.heap.size, 3, none⟩ (.int .u64 (dig (mont G.p.m (2 ^ i * 2)) 3 : Int))) w4.heap.size 88 (lim (mont G.p.m (2 ^ i * 2)))) := HO10.out.fill rfl _
            have HXB11 : Hid (Blk (((((w10).setCell ⟨w4.heap.size, 0, none⟩ (.int .u64 (dig (mont G.p.m (2 ^ i * 2)) 0 : Int))).setCell ⟨w4.heap.size, 1, none⟩ (.int .u64 (dig (mont G.p.m (2 ^ i * 2)) 1 : Int))).setCell ⟨w4.heap.size, 2, none⟩ (.int .u64 (dig (mont G.p.m (2 ^ i * 2)) 2 : Int))).setCell ⟨w4.heap.size, 3, none⟩ (.int .u64 (dig (mont G.p.m (2 ^ i * 2)) 3 : Int))) w.heap.size 88 (lim (mont G.p.m x))) := HXB10.out.fillOther (by omega) _
            have HMF11 : Hid (MapFn (((((w10).setCell ⟨w4.heap.size, 0, none⟩ (.int .u64 (dig (mont G.p.m (2 ^ i * 2)) 0 : Int))).setCell ⟨w4.heap.size, 1, none⟩ (.int .u64 (dig (mont G.p.m (2 ^ i * 2)) 1 : Int))).setCell ⟨w4.heap.size, 2, none⟩ (.int .u64 (dig (mont G.p.m (2 ^ i * 2)) 2 : Int))).setCell ⟨w4.heap.size, 3, none⟩ (.int .u64 (dig (mont G.p.m (2 ^ i * 2)) 3 : Int))) w1.heap.size (i + 1) (smallF G (i + 1))) := HMF10.out.fill (by omega) _
            go_wp2_with fail
            go_roundw
            case rel => exact ⟨i + 1, by omega, by go_num, HB11.out, HXB11.out, by rw [Nat.pow_succ]; exact HO11.out, HMF11.out⟩
            case measure => simp [intOf]; omega
          | none =>
            have hhas1 : Maps.has D (.string st.data.toList) = false := hhas
            clear hhas
            have hiw : (Lit.int .i64 (i : Int)).wf = true := by
              have e1 : IntKind.i64.min = -9223372036854775808 := by decide
              have e2 : IntKind.i64.max = 9223372036854775807 := by decide
              simp only [Lit.wf, Bool.and_eq_true, decide_eq_true_eq, e1, e2]
              omega
            go_wp2_with (first
              | (at_lookup; refine wpList_lookup_own_ok_int _ rfl _ _ 131 rfl 9 3 .i64 keyed_string Try.underlying131 Try.underlying3 (zero_int _) w1.heap.size i D rfl hown _ _ rfl hkey ?_; intro c hat hwc)
              | (at_mapUpdate; refine wpList_mapUpdate_own _ rfl _ _ _ 131 rfl 9 3 keyed_string Try.underlying131 _ w1.heap.size i D rfl hown (by unfold maxLen; omega) _ _ _ rfl rfl hkey _ [] (plainElem_int Try.underlying3 hiw) ?_; intro w8 hown1 hgrow1))
            have HMF9 : Hid (MapFn w8 w1.heap.size (i + 1) (smallF G (i + 1))) := by
              have h9 := MapFn.put HIM.out HFD.out hown1
              rw [← HST.out] at h9
              exact h9.step (by rw [HST.out]; exact HSF.out)
            have HB9 := Lib.hid (HB6.out.grown hgrow1 HB6.out.size (fun k hk => by cases hk; omega))
            have HO9 := Lib.hid (HO6.out.grown hgrow1 (by omega))
            have HXB9 := Lib.hid (HXB6.out.grown hgrow1 (by omega))
            clear hown1 hgrow1
            clear hown hhas1
            try simp only [Act.put]
            have ho_0 := HO9.out.cell (i := 0) (x := (dig (mont G.p.m (2 ^ i)) 0 : Int)) rfl
            have ho_1 := HO9.out.cell (i := 1) (x := (dig (mont G.p.m (2 ^ i)) 1 : Int)) rfl
            have ho_2 := HO9.out.cell (i := 2) (x := (dig (mont G.p.m (2 ^ i)) 2 : Int)) rfl
            have ho_3 := HO9.out.cell (i := 3) (x := (dig (mont G.p.m (2 ^ i)) 3 : Int)) rfl
            have hl1 := HO9.out.lt
            refine wp_region_otail 5 (by kernel_rfl) (by kernel_rfl) ?_
            simp only [List.take_succ_cons, List.take_zero, List.drop_succ_cons, List.drop_zero]
            have hov1 := fun (E : Over w8) o => E.cell (b := w4.heap.size) o hl1
            repeat (go_big_quiet_step (first | (go_at_call 69; exact calls_over (gBase_any G OK.out gb _ (HG.out.up (below_up HB9.out (Over.h _))))) | (go_at_call 75; exact calls_over (gTimes_any G OK.out gb (2 ^ i) 2 _ (HG.out.up (below_up HB9.out (Over.h _)))))))
            all_goals (try unfold elV limbV)
            repeat (go_big_quiet_step (first | (go_at_call 69; exact calls_over (gBase_any G OK.out gb _ (HG.out.up (below_up HB9.out (Over.h _))))) | (go_at_call 75; exact calls_over (gTimes_any G OK.out gb (2 ^ i) 2 _ (HG.out.up (below_up HB9.out (Over.h _)))))))
            all_goals (try unfold elV limbV)
            repeat (go_big_quiet_step (first | (go_at_call 69; exact calls_over (gBase_any G OK.out gb _ (HG.out.up (below_up HB9.out (Over.h _))))) | (go_at_call 75; exact calls_over (gTimes_any G OK.out gb (2 ^ i) 2 _ (HG.out.up (below_up HB9.out (Over.h _)))))))
            refine wpQuiet_nil ?_
            rintro _ ⟨E, rfl⟩
            have HO10 := Lib.hid (HO9.out.below E.h HO9.out.lt)
            have HXB10 := Lib.hid (HXB9.out.below E.h HXB9.out.lt)
            have HMF10 := Lib.hid (HMF9.out.kept E.h HMF9.out.lt)
            have HB10 := Lib.hid (below_up HB9.out E.h)
            clear hov1 ho_0 ho_1 ho_2 ho_3
            generalize E.w = w10 at *
            have ho_0 := HO10.out.cell (i := 0) (x := (dig (mont G.p.m (2 ^ i)) 0 : Int)) rfl
            have ho_1 := HO10.out.cell (i := 1) (x := (dig (mont G.p.m (2 ^ i)) 1 : Int)) rfl
            have ho_2 := HO10.out.cell (i := 2) (x := (dig (mont G.p.m (2 ^ i)) 2 : Int)) rfl
            have ho_3 := HO10.out.cell (i := 3) (x := (dig (mont G.p.m (2 ^ i)) 3 : Int)) rfl
            have hof_0 := HO10.out.frozen 0
            have hof_1 := HO10.out.frozen 1
            have hof_2 := HO10.out.frozen 2
            have hof_3 := HO10.out.frozen 3
            have HB11 : Hid (Below w.heap.size w (((((w10).setCell ⟨w4.heap.size, 0, none⟩ (.int .u64 (dig (mont G.p.m (2 ^ i * 2)) 0 : Int))).setCell ⟨w4.heap.size, 1, none⟩ (.int .u64 (dig (mont G.p.m (2 ^ i * 2)) 1 : Int))).setCell ⟨w4.heap.size, 2, none⟩ (.int .u64 (dig (mont G.p.m (2 ^ i * 2)) 2 : Int))).setCell ⟨w4.heap.size, 3, none⟩ (.int .u64 (dig (mont G.p.m (2 ^ i * 2)) 3 : Int)))) := below_fill HB10.out (by omega)
            have HO11 : Hid (Blk (((((w10).setCell ⟨w4.heap.size, 0, none⟩ (.int .u64 (dig (mont G.p.m (2 ^ i * 2)) 0 : Int))).setCell ⟨w4.heap.size, 1, none⟩ (.int .u64 (dig (mont G.p.m (2 ^ i * 2)) 1 : Int))).setCell ⟨w4.heap.size, 2, none⟩ (.int .u64 (dig (mont G.p.m (2 ^ i * 2)) 2 : Int))).setCell ⟨w4.heap.size, 3, none⟩ (.int .u64 (dig (mont G.p.m (2 ^ i * 2)) 3 : Int))) w4.heap.size 88 (lim (mont G.p.m (2 ^ i * 2)))) := HO10.out.fill rfl _
            have HXB11 : Hid (Blk (((((w10).setCell ⟨w4.heap.size, 0, none⟩ (.int .u64 (dig (mont G.p.m (2 ^ i * 2)) 0 : Int))).setCell ⟨w4.heap.size, 1, none⟩ (.int .u64 (dig (mont G.p.m (2 ^ i * 2)) 1 : Int))).setCell ⟨w4.heap.size, 2, none⟩ (.int .u64 (dig (mont G.p.m (2 ^ i * 2)) 2 : Int))).setCell ⟨w4.heap.size, 3, none⟩ (.int .u64 (dig (mont G.p.m (2 ^ i * 2)) 3 : Int))) w.heap.size 88 (lim (mont G.p.m x))) := HXB10.out.fillOther (by omega) _
            have HMF11 : Hid (MapFn (((((w10).setCell ⟨w4.heap.size, 0, none⟩ (.int .u64 (dig (mont G.p.m (2 ^ i * 2)) 0 : Int))).setCell ⟨w4.heap.size, 1, none⟩ (.int .u64 (dig (mont G.p.m (2 ^ i * 2)) 1 : Int))).setCell ⟨w4.heap.size, 2, none⟩ (.int .u64 (dig (mont G.p.m (2 ^ i * 2)) 2 : Int))).setCell ⟨w4.heap.size, 3, none⟩ (.int .u64 (dig (mont G.p.m (2 ^ i * 2)) 3 : Int))) w1.heap.size (i + 1) (smallF G (i + 1))) := HMF10.out.fill (by omega) _
            go_wp2_with fail
            go_roundw
            case rel => exact ⟨i + 1, by omega, by go_num, HB11.out, HXB11.out, by rw [Nat.pow_succ]; exact HO11.out, HMF11.out⟩
            case measure => simp [intOf]; omega
        · have his : i = s := by omega
          subst his
          have ho_0 := HO.out.cell (i := 0) (x := (dig (mont G.p.m (2 ^ i)) 0 : Int)) rfl
          have ho_1 := HO.out.cell (i := 1) (x := (dig (mont G.p.m (2 ^ i)) 1 : Int)) rfl
          have ho_2 := HO.out.cell (i := 2) (x := (dig (mont G.p.m (2 ^ i)) 2 : Int)) rfl
          have ho_3 := HO.out.cell (i := 3) (x := (dig (mont G.p.m (2 ^ i)) 3 : Int)) rfl
          go_wp2_with fail
          refine (gUnder_any G OK.out gb (2 ^ i) wr (HG.out.up HB.out)).mono ?_
          rintro e w6 ⟨rfl, hb6⟩
          have HB6 := Lib.hid (below_up HB.out hb6)
          have HXB6 := Lib.hid (HXB.out.below hb6 HXB.out.lt)
          have HMF6 := Lib.hid (HMF.out.kept hb6 HMF.out.lt)
          have h46 : w4.heap.size < w6.heap.size := Nat.lt_of_lt_of_le HO.out.lt hb6.size
          clear hb6 ho_0 ho_1 ho_2 ho_3 HO HXB HB HMF hlw
          obtain ⟨bk, hbk⟩ : ∃ bk, (2 ^ i) ^ (G.p.m - 2) = bk := ⟨_, rfl⟩
          have HBK : Hid (PM G.p.m (bk * 2 ^ i) 1) := by
            rw [← hbk]
            exact back_ok HPP.out OK.out.twice (by have := OK.out.odd; omega)
          rw [hbk]
          clear hbk
          unfold elV limbV
          have hlb : Below w6.heap.size w6 (w6.alloc (.cells #[.int .u64 (dig (mont G.p.m bk) 0 : Int), .int .u64 (dig (mont G.p.m bk) 1 : Int), .int .u64 (dig (mont G.p.m bk) 2 : Int), .int .u64 (dig (mont G.p.m bk) 3 : Int)] 88)) := (Below.refl _ _).alloc (Nat.le_refl _) _
          have hlz : Blk (w6.alloc (.cells #[.int .u64 (dig (mont G.p.m bk) 0 : Int), .int .u64 (dig (mont G.p.m bk) 1 : Int), .int .u64 (dig (mont G.p.m bk) 2 : Int), .int .u64 (dig (mont G.p.m bk) 3 : Int)] 88)) w6.heap.size 88 (lim (mont G.p.m bk)) := Blk.new _ _ _ _ rfl
          obtain ⟨w7, hlw⟩ : ∃ W9 : World, (w6.alloc (.cells #[.int .u64 (dig (mont G.p.m bk) 0 : Int), .int .u64 (dig (mont G.p.m bk) 1 : Int), .int .u64 (dig (mont G.p.m bk) 2 : Int), .int .u64 (dig (mont G.p.m bk) 3 : Int)] 88)) = W9 := ⟨_, rfl⟩
          rw [hlw] at hlb hlz
          have HLw7 := Lib.hid hlb
          have HXw7 := Lib.hid hlz
          clear hlb hlz
          have HB7 := Lib.hid (below_up HB6.out HLw7.out)
          have HXB7 := Lib.hid (HXB6.out.below HLw7.out HXB6.out.lt)
          have HMF7 := Lib.hid (HMF6.out.kept HLw7.out HMF6.out.lt)
          go_wp2_with fail
          try rw [hlw]
          go_loopw [16, 17, 18, 19] (fun u _ _ _ wr => ∃ k : Nat, k ≤ most + 1 ∧ u = .int .i64 (k : Int) ∧ Hid (Below w.heap.size w wr) ∧ Hid (Blk wr w.heap.size 88 (lim (mont G.p.m (x * bk ^ k)))) ∧ Hid (Blk wr w6.heap.size 88 (lim (mont G.p.m bk))) ∧ Hid (MapFn wr w1.heap.size i (smallF G i)) ∧ Hid (∀ n, n < k * i → Lw G.q.m G.p.m (2 ^ n) ≠ x)) (fun u _ _ _ _ => most + 1 - (intOf u).toNat)
          case atStart => exact ⟨0, Nat.zero_le _, rfl, HB7.out, by rw [Nat.pow_zero, Nat.mul_one]; exact HXB7.out, HXw7.out, HMF7.out, fun n h => by omega⟩
          case round =>
            clear HB7 HXB7 HXw7 HMF7
            obtain ⟨k, hk, hxk, HB, HXB, HO, HMF, HL⟩ := hrel
            subst hxk
            obtain ⟨ks, hks⟩ : ∃ ks : Nat, k * i = ks := ⟨_, rfl⟩
            have hkb : ks ≤ 1048577 * 1025 := by rw [← hks]; exact Nat.mul_le_mul (by omega) hs2
            have hkw : wrap64 ((k : Int) * (i : Int)) = (ks : Int) := by
              rw [show (k : Int) * (i : Int) = (ks : Int) by exact_mod_cast hks]
              unfold wrap64; omega
            have HKS := Lib.hid hks
            by_cases hkm : ks ≤ most
            · have hkm2 : k ≤ most := Nat.le_trans (Nat.le_mul_of_pos_right k hs1) (by rw [hks]; exact hkm)
              clear hks
              have hdk : decide ((ks : Int) ≤ (most : Int)) = true := decide_eq_true (by exact_mod_cast hkm)
              have hk1 : most + 1 - (k + 1) < most + 1 - k := Nat.sub_lt_sub_left (Nat.lt_succ_of_le hkm2) (Nat.lt_succ_self k)
              have ho_0 := HXB.out.cell (i := 0) (x := (dig (mont G.p.m (x * bk ^ k)) 0 : Int)) rfl
              have ho_1 := HXB.out.cell (i := 1) (x := (dig (mont G.p.m (x * bk ^ k)) 1 : Int)) rfl
              have ho_2 := HXB.out.cell (i := 2) (x := (dig (mont G.p.m (x * bk ^ k)) 2 : Int)) rfl
              have ho_3 := HXB.out.cell (i := 3) (x := (dig (mont G.p.m (x * bk ^ k)) 3 : Int)) rfl
              obtain ⟨st, hst⟩ : ∃ st, T G (Lw G.q.m G.p.m (x * bk ^ k)) = st := ⟨_, rfl⟩
              have HST := Lib.hid hst
              have hss : st.size ≤ maxLen := by
                rw [← hst, T_size]
                exact Nat.le_trans OK.out.size_le (by decide)
              have hkey := smallKey st hss
              have htx := gText_any G OK.out gb (x * bk ^ k) wr (HG.out.up HB.out)
              rw [show textS (lowN G (x * bk ^ k)) G.size = st from hst] at htx
              have HTX := Lib.hid htx
              clear hst hss htx
              go_wp2_with fail
              refine HTX.out.mono ?_
              rintro e w8 ⟨rfl, hb8⟩
              clear HTX ho_0 ho_1 ho_2 ho_3
              have HB8 := Lib.hid (below_up HB.out hb8)
              have HXB8 := Lib.hid (HXB.out.below hb8 HXB.out.lt)
              have HO8 := Lib.hid (HO.out.below hb8 HO.out.lt)
              have HMF8 := Lib.hid (HMF.out.kept hb8 HMF.out.lt)
              clear hb8 HB HXB HO HMF
              obtain ⟨D, hown, hisM, hfD⟩ := HMF8.out
              have hhas := (hfD st).1
              obtain ⟨o, hoo⟩ : ∃ o, smallF G i st = o := ⟨_, rfl⟩
              have HSF := Lib.hid hoo
              have hatD := (hfD st).2
              rw [hoo] at hhas hatD
              clear hfD hisM hoo
              cases o with
              | some v =>
                have hhas1 : Maps.has D (.string st.data.toList) = true := hhas
                have HAT := Lib.hid (hatD v rfl)
                clear hhas hatD
                obtain ⟨hv1, hv2, hv3⟩ := look_some OK.out HFIT.out HX.out HBK.out (by rw [HST.out]; exact HSF.out) HL.out
                rw [HKS.out] at hv2 hv3
                have hvb : v ≤ 1025 := Nat.le_trans (Nat.le_of_lt hv1) hs2
                have HV2 := Lib.hid hv2
                have HV3 := Lib.hid hv3
                clear hv1 hv2 hv3
                have hnw : wrap64 ((ks : Int) + (v : Int)) = ((ks + v : Nat) : Int) := wrap_add ks v (Nat.le_trans hkb (by decide)) (Nat.le_trans hvb (by decide))
                have hres : logF G.q.m G.p.m x most = if decide (((ks + v : Nat) : Int) ≤ (most : Int)) = true then some (ks + v) else none := by
                  by_cases hle : ks + v ≤ most
                  · rw [if_pos (decide_eq_true (by exact_mod_cast hle))]
                    exact logF_some hle HV2.out HV3.out
                  · rw [if_neg (by rw [decide_eq_false (fun h => hle (by exact_mod_cast h))]; decide)]
                    exact logF_none (fun j hj => HV3.out j (Nat.lt_of_le_of_lt hj (Nat.not_le.1 hle)))
                obtain ⟨bb, hbb⟩ : ∃ bb, decide (((ks + v : Nat) : Int) ≤ (most : Int)) = bb := ⟨_, rfl⟩
                rw [hbb] at hres
                obtain ⟨nv, hnv⟩ : ∃ nv, ks + v = nv := ⟨_, rfl⟩
                rw [hnv] at hbb hnw hres
                have HRES := Lib.hid hres
                have HNV := Lib.hid hnv
                clear hres hnv
                go_wp2_with (first
                  | (at_lookup; refine wpList_lookup_own_ok_int _ rfl _ _ 131 rfl 9 3 .i64 keyed_string Try.underlying131 Try.underlying3 (zero_int _) w1.heap.size i D rfl hown _ _ rfl hkey ?_; intro c hat hwc; obtain rfl : c = (v : Int) := by (rw [HAT.out] at hat; injection hat with h1; injection h1 with h2 h3; exact h3.symm)))
                go_ret2
                have h9 : (ks : Int) + (v : Int) = (nv : Int) := by exact_mod_cast HNV.out
                exact ⟨nv, bb, by rw [← hnw, ← hbb, hnw]; simp only [go_sem, h9, Int.ofNat_le]; simp [h9], HB8.out, HRES.out⟩
              | none =>
                have hhas1 : Maps.has D (.string st.data.toList) = false := hhas
                have HL2 := Lib.hid (look_none OK.out HX.out HBK.out (by rw [HST.out]; exact HSF.out) HL.out)
                clear hhas hatD
                have ho_0 := HXB8.out.cell (i := 0) (x := (dig (mont G.p.m (x * bk ^ k)) 0 : Int)) rfl
                have ho_1 := HXB8.out.cell (i := 1) (x := (dig (mont G.p.m (x * bk ^ k)) 1 : Int)) rfl
                have ho_2 := HXB8.out.cell (i := 2) (x := (dig (mont G.p.m (x * bk ^ k)) 2 : Int)) rfl
                have ho_3 := HXB8.out.cell (i := 3) (x := (dig (mont G.p.m (x * bk ^ k)) 3 : Int)) rfl
                have hb_0 := HO8.out.cell (i := 0) (x := (dig (mont G.p.m bk) 0 : Int)) rfl
                have hb_1 := HO8.out.cell (i := 1) (x := (dig (mont G.p.m bk) 1 : Int)) rfl
                have hb_2 := HO8.out.cell (i := 2) (x := (dig (mont G.p.m bk) 2 : Int)) rfl
                have hb_3 := HO8.out.cell (i := 3) (x := (dig (mont G.p.m bk) 3 : Int)) rfl
                go_wp2_with (first
                  | (at_lookup; refine wpList_lookup_own_ok_int _ rfl _ _ 131 rfl 9 3 .i64 keyed_string Try.underlying131 Try.underlying3 (zero_int _) w1.heap.size i D rfl hown _ _ rfl hkey ?_; intro c hat hwc))
                refine (gTimes_any G OK.out gb (x * bk ^ k) bk w8 (HG.out.up HB8.out)).mono ?_
                rintro e w9 ⟨rfl, hb9⟩
                clear hown ho_0 ho_1 ho_2 ho_3 hb_0 hb_1 hb_2 hb_3
                have HB9 := Lib.hid (below_up HB8.out hb9)
                have HXB9 := Lib.hid (HXB8.out.below hb9 HXB8.out.lt)
                have HO9 := Lib.hid (HO8.out.below hb9 HO8.out.lt)
                have HMF9 := Lib.hid (HMF8.out.kept hb9 HMF8.out.lt)
                clear hb9
                unfold elV limbV
                have ho_0 := HXB9.out.cell (i := 0) (x := (dig (mont G.p.m (x * bk ^ k)) 0 : Int)) rfl
                have ho_1 := HXB9.out.cell (i := 1) (x := (dig (mont G.p.m (x * bk ^ k)) 1 : Int)) rfl
                have ho_2 := HXB9.out.cell (i := 2) (x := (dig (mont G.p.m (x * bk ^ k)) 2 : Int)) rfl
                have ho_3 := HXB9.out.cell (i := 3) (x := (dig (mont G.p.m (x * bk ^ k)) 3 : Int)) rfl
                have hof_0 := HXB9.out.frozen 0
                have hof_1 := HXB9.out.frozen 1
                have hof_2 := HXB9.out.frozen 2
                have hof_3 := HXB9.out.frozen 3
                have HB11 : Hid (Below w.heap.size w (((((w9).setCell ⟨w.heap.size, 0, none⟩ (.int .u64 (dig (mont G.p.m (x * bk ^ k * bk)) 0 : Int))).setCell ⟨w.heap.size, 1, none⟩ (.int .u64 (dig (mont G.p.m (x * bk ^ k * bk)) 1 : Int))).setCell ⟨w.heap.size, 2, none⟩ (.int .u64 (dig (mont G.p.m (x * bk ^ k * bk)) 2 : Int))).setCell ⟨w.heap.size, 3, none⟩ (.int .u64 (dig (mont G.p.m (x * bk ^ k * bk)) 3 : Int)))) := below_fill HB9.out (Nat.le_refl _)
                have HXB11 : Hid (Blk (((((w9).setCell ⟨w.heap.size, 0, none⟩ (.int .u64 (dig (mont G.p.m (x * bk ^ k * bk)) 0 : Int))).setCell ⟨w.heap.size, 1, none⟩ (.int .u64 (dig (mont G.p.m (x * bk ^ k * bk)) 1 : Int))).setCell ⟨w.heap.size, 2, none⟩ (.int .u64 (dig (mont G.p.m (x * bk ^ k * bk)) 2 : Int))).setCell ⟨w.heap.size, 3, none⟩ (.int .u64 (dig (mont G.p.m (x * bk ^ k * bk)) 3 : Int))) w.heap.size 88 (lim (mont G.p.m (x * bk ^ k * bk)))) := HXB9.out.fill rfl _
                have HO11 : Hid (Blk (((((w9).setCell ⟨w.heap.size, 0, none⟩ (.int .u64 (dig (mont G.p.m (x * bk ^ k * bk)) 0 : Int))).setCell ⟨w.heap.size, 1, none⟩ (.int .u64 (dig (mont G.p.m (x * bk ^ k * bk)) 1 : Int))).setCell ⟨w.heap.size, 2, none⟩ (.int .u64 (dig (mont G.p.m (x * bk ^ k * bk)) 2 : Int))).setCell ⟨w.heap.size, 3, none⟩ (.int .u64 (dig (mont G.p.m (x * bk ^ k * bk)) 3 : Int))) w6.heap.size 88 (lim (mont G.p.m bk))) := HO9.out.fillOther (by omega) _
                have HMF11 : Hid (MapFn (((((w9).setCell ⟨w.heap.size, 0, none⟩ (.int .u64 (dig (mont G.p.m (x * bk ^ k * bk)) 0 : Int))).setCell ⟨w.heap.size, 1, none⟩ (.int .u64 (dig (mont G.p.m (x * bk ^ k * bk)) 1 : Int))).setCell ⟨w.heap.size, 2, none⟩ (.int .u64 (dig (mont G.p.m (x * bk ^ k * bk)) 2 : Int))).setCell ⟨w.heap.size, 3, none⟩ (.int .u64 (dig (mont G.p.m (x * bk ^ k * bk)) 3 : Int))) w1.heap.size i (smallF G i)) := HMF9.out.fill (by omega) _
                go_wp2_with fail
                go_roundw
                case rel => exact ⟨k + 1, Nat.succ_le_succ hkm2, by go_num, HB11.out, by rw [Nat.pow_succ, ← Nat.mul_assoc]; exact HXB11.out, HO11.out, HMF11.out, HL2.out⟩
                case measure => simp [intOf]; omega
            · clear hks
              have hdk : decide ((ks : Int) ≤ (most : Int)) = false := decide_eq_false (fun h => hkm (by exact_mod_cast h))
              go_wp2_with fail
              go_ret2
              exact ⟨0, false, rfl, HB.out, logF_none (fun j hj => HL.out j (by rw [HKS.out]; exact Nat.lt_of_le_of_lt hj (Nat.not_le.1 hkm)))⟩

end Go.Proofs.Ytdmldnpadojflaa

/- The package group: Log. No condition. -/
namespace Go.Proofs.Ytdmldnpadojflaa
open Go.RowKit

def oV : Option Nat → Int
  | some n => (n : Int)
  | none => 0
def oE : Option Nat → Int
  | some _ => 0
  | none => 9

def lgV (G : GP) (a : ByteArray) (most : Int) : Int :=
  if isEl G.q.m G.size a = true then (if 0 ≤ most ∧ most ≤ 1048576 then oV (logF G.q.m G.p.m (numOf a) most.toNat) else 0) else 0
def lgE (G : GP) (a : ByteArray) (most : Int) : Int :=
  if isEl G.q.m G.size a = true then (if 0 ≤ most ∧ most ≤ 1048576 then oE (logF G.q.m G.p.m (numOf a) most.toNat) else 4) else 7

set_option maxRecDepth 100000 in
set_option maxHeartbeats 400000 in
theorem log1_no (G : GP) (ok : G.Ok) (gb b1 b2 : Nat) (a : ByteArray) (hba : isEl G.q.m G.size a = false) (w : World) (hG : GroupAt w gb G) (hc1 : Bx w b1 9 [.string a]) :
    Calls Try.prog 96 #[.pointer (some ⟨gb, 0, none⟩), .pointer (some ⟨b1, 0, none⟩), .pointer (some ⟨b2, 0, none⟩)] w (Ans (.int .i64 0) 7 w) := by
  have HA := Lib.hid hba
  have hk1 := hc1.cell (i := 0) rfl
  clear hba hc1
  have HG := Lib.hid hG
  have OK := Lib.hid ok
  clear hG ok
  go_enter Try.func96, Try.ntmps96
  go_wp2_with fail
  refine (gElem_m G OK.out gb a _ HA.out w HG.out).mono ?_
  rintro e w1 ⟨x, rfl, hb1, hx⟩
  have HB1 := Lib.hid hb1
  have HX := Lib.hid hx
  clear hb1 hx
  unfold limbV
  have hlb : Below w1.heap.size w1 (w1.alloc (.cells #[.int .u64 (dig x 0 : Int), .int .u64 (dig x 1 : Int), .int .u64 (dig x 2 : Int), .int .u64 (dig x 3 : Int)] 88)) := (Below.refl _ _).alloc (Nat.le_refl _) _
  have hlz : Blk (w1.alloc (.cells #[.int .u64 (dig x 0 : Int), .int .u64 (dig x 1 : Int), .int .u64 (dig x 2 : Int), .int .u64 (dig x 3 : Int)] 88)) w1.heap.size 88 (lim x) := Blk.new _ _ _ _ rfl
  obtain ⟨w2, hlw⟩ : ∃ W9 : World, (w1.alloc (.cells #[.int .u64 (dig x 0 : Int), .int .u64 (dig x 1 : Int), .int .u64 (dig x 2 : Int), .int .u64 (dig x 3 : Int)] 88)) = W9 := ⟨_, rfl⟩
  rw [hlw] at hlb hlz
  have HLw2 := Lib.hid hlb
  have HXw2 := Lib.hid hlz
  clear hlb hlz
  have HB2 := Lib.hid (below_up HB1.out HLw2.out)
  go_wp2_with fail
  go_ret2
  exact ⟨rfl, HB2.out⟩

set_option maxRecDepth 100000 in
set_option maxHeartbeats 400000 in
theorem log1_range (G : GP) (ok : G.Ok) (gb b1 b2 : Nat) (a : ByteArray) (most : Int) (hba : isEl G.q.m G.size a = true) (hm : ¬ (0 ≤ most ∧ most ≤ 1048576)) (w : World) (hG : GroupAt w gb G) (hc1 : Bx w b1 9 [.string a]) (hc2 : Bx w b2 3 [.int .i64 most]) :
    Calls Try.prog 96 #[.pointer (some ⟨gb, 0, none⟩), .pointer (some ⟨b1, 0, none⟩), .pointer (some ⟨b2, 0, none⟩)] w (Ans (.int .i64 0) 4 w) := by
  have HC2 := Lib.hid hc2
  have HM := Lib.hid hm
  clear hc2 hm
  have HA := Lib.hid hba
  have hk1 := hc1.cell (i := 0) rfl
  clear hba hc1
  have HG := Lib.hid hG
  have OK := Lib.hid ok
  clear hG ok
  go_enter Try.func96, Try.ntmps96
  go_wp2_with fail
  refine (gElem_m G OK.out gb a _ HA.out w HG.out).mono ?_
  rintro e w1 ⟨x, rfl, hb1, hx⟩
  have HB1 := Lib.hid hb1
  have HX := Lib.hid hx
  clear hb1 hx
  unfold limbV
  have hlb : Below w1.heap.size w1 (w1.alloc (.cells #[.int .u64 (dig x 0 : Int), .int .u64 (dig x 1 : Int), .int .u64 (dig x 2 : Int), .int .u64 (dig x 3 : Int)] 88)) := (Below.refl _ _).alloc (Nat.le_refl _) _
  have hlz : Blk (w1.alloc (.cells #[.int .u64 (dig x 0 : Int), .int .u64 (dig x 1 : Int), .int .u64 (dig x 2 : Int), .int .u64 (dig x 3 : Int)] 88)) w1.heap.size 88 (lim x) := Blk.new _ _ _ _ rfl
  obtain ⟨w2, hlw⟩ : ∃ W9 : World, (w1.alloc (.cells #[.int .u64 (dig x 0 : Int), .int .u64 (dig x 1 : Int), .int .u64 (dig x 2 : Int), .int .u64 (dig x 3 : Int)] 88)) = W9 := ⟨_, rfl⟩
  rw [hlw] at hlb hlz
  have HLw2 := Lib.hid hlb
  have HXw2 := Lib.hid hlz
  clear hlb hlz
  have HB2 := Lib.hid (below_up HB1.out HLw2.out)
  have hk2 := (HC2.out.up HB2.out).cell (i := 0) rfl
  have hm := HM.out
  by_cases hneg : most < 0
  · clear hm
    have hd1 : decide (most < 0) = true := decide_eq_true hneg
    go_wp2_with fail
    go_ret2
    exact ⟨rfl, HB2.out⟩
  · have hd1 : decide (most < 0) = false := decide_eq_false hneg
    have hd2 : decide (most > 1048576) = true := decide_eq_true (by omega)
    clear hm
    go_wp2_with fail
    go_ret2
    exact ⟨rfl, HB2.out⟩

set_option maxRecDepth 100000 in
set_option maxHeartbeats 400000 in
theorem log1_yes (G : GP) (ok : G.Ok) (hpp : IsPrime G.p.m) (fit : G.q.m < 256 ^ G.size) (gb b1 b2 : Nat) (a : ByteArray) (most : Nat) (hba : isEl G.q.m G.size a = true) (hm : most ≤ 1048576) (w : World) (hG : GroupAt w gb G) (hc1 : Bx w b1 9 [.string a]) (hc2 : Bx w b2 3 [.int .i64 (most : Int)]) :
    Calls Try.prog 96 #[.pointer (some ⟨gb, 0, none⟩), .pointer (some ⟨b1, 0, none⟩), .pointer (some ⟨b2, 0, none⟩)] w
      (Ans (.int .i64 (oV (logF G.q.m G.p.m (numOf a) most))) (oE (logF G.q.m G.p.m (numOf a) most)) w) := by
  have HC2 := Lib.hid hc2
  have HPP := Lib.hid hpp
  have HFIT := Lib.hid fit
  have hel : 0 < numOf a ∧ numOf a ≤ G.q.m := by
    unfold isEl at hba
    simp at hba
    exact ⟨hba.1.2, hba.2⟩
  have HEL := Lib.hid hel
  have hlg := fun W h => gLog_any G ok hpp fit gb (numOf a) most hel.1 hel.2 hm W h
  obtain ⟨o, hoo⟩ : ∃ o, logF G.q.m G.p.m (numOf a) most = o := ⟨_, rfl⟩
  rw [hoo] at hlg ⊢
  have HLG := Lib.hid hlg
  clear hoo hlg
  clear hc2 hpp fit hel
  have HA := Lib.hid hba
  have hk1 := hc1.cell (i := 0) rfl
  clear hba hc1
  have HG := Lib.hid hG
  have OK := Lib.hid ok
  clear hG ok
  go_enter Try.func96, Try.ntmps96
  go_wp2_with fail
  refine (gElem_m G OK.out gb a _ HA.out w HG.out).mono ?_
  rintro e w1 ⟨x, rfl, hb1, hx⟩
  have HB1 := Lib.hid hb1
  have HX := Lib.hid hx
  clear hb1 hx
  unfold limbV
  have hlb : Below w1.heap.size w1 (w1.alloc (.cells #[.int .u64 (dig x 0 : Int), .int .u64 (dig x 1 : Int), .int .u64 (dig x 2 : Int), .int .u64 (dig x 3 : Int)] 88)) := (Below.refl _ _).alloc (Nat.le_refl _) _
  have hlz : Blk (w1.alloc (.cells #[.int .u64 (dig x 0 : Int), .int .u64 (dig x 1 : Int), .int .u64 (dig x 2 : Int), .int .u64 (dig x 3 : Int)] 88)) w1.heap.size 88 (lim x) := Blk.new _ _ _ _ rfl
  obtain ⟨w2, hlw⟩ : ∃ W9 : World, (w1.alloc (.cells #[.int .u64 (dig x 0 : Int), .int .u64 (dig x 1 : Int), .int .u64 (dig x 2 : Int), .int .u64 (dig x 3 : Int)] 88)) = W9 := ⟨_, rfl⟩
  rw [hlw] at hlb hlz
  have HLw2 := Lib.hid hlb
  have HXw2 := Lib.hid hlz
  clear hlb hlz
  have HB2 := Lib.hid (below_up HB1.out HLw2.out)
  obtain rfl : x = mont G.p.m (numOf a) := HX.out rfl
  have hk2 := (HC2.out.up HB2.out).cell (i := 0) rfl
  have hd1 : decide ((most : Int) < 0) = false := decide_eq_false (by omega)
  have hd2 : decide ((most : Int) > 1048576) = false := decide_eq_false (by omega)
  have hx_0 := HXw2.out.cell (i := 0) (x := (dig (mont G.p.m (numOf a)) 0 : Int)) rfl
  have hx_1 := HXw2.out.cell (i := 1) (x := (dig (mont G.p.m (numOf a)) 1 : Int)) rfl
  have hx_2 := HXw2.out.cell (i := 2) (x := (dig (mont G.p.m (numOf a)) 2 : Int)) rfl
  have hx_3 := HXw2.out.cell (i := 3) (x := (dig (mont G.p.m (numOf a)) 3 : Int)) rfl
  go_wp2_with fail
  refine (HLG.out w2 (HG.out.up HB2.out)).mono ?_
  rintro e w3 ⟨n, b, rfl, hb3, ho⟩
  have HB3 := Lib.hid (below_up HB2.out hb3)
  have HO := Lib.hid ho
  clear hb3 ho
  cases b
  · go_wp2_with fail
    go_ret2
    exact ⟨by rw [HO.out]; rfl, HB3.out⟩
  · go_wp2_with fail
    go_ret2
    exact ⟨by rw [HO.out]; rfl, HB3.out⟩

theorem Log_call {k : Nat} (h1 : 1 ≤ k) (h3 : k ≤ 3) {a : ByteArray} {most : Int} {w W0 w1 : World} (hz : Below w.heap.size w W0 ∧ Bx W0 w.heap.size 9 [.string a] ∧ Bx W0 (w.heap.size + 1) 3 [.int .i64 most]) (hb : Below W0.heap.size W0 w1) (hg : GroupAt w1 W0.heap.size (grp k)) :
    Calls Try.prog 96 #[.pointer (some ⟨W0.heap.size, 0, none⟩), .pointer (some ⟨w.heap.size, 0, none⟩), .pointer (some ⟨w.heap.size + 1, 0, none⟩)] w1 (Ans (.int .i64 (lgV (grp k) a most)) (lgE (grp k) a most) w1) := by
  have ok := grp_ok k h1 h3
  have z1 := hz.2.1.up hb
  have z2 := hz.2.2.up hb
  unfold lgV lgE
  by_cases hy : isEl (grp k).q.m (grp k).size a = true
  · rw [if_pos hy, if_pos hy]
    by_cases hm : 0 ≤ most ∧ most ≤ 1048576
    · rw [if_pos hm, if_pos hm]
      obtain ⟨m, rfl⟩ : ∃ m : Nat, most = m := ⟨most.toNat, by omega⟩
      exact log1_yes _ ok (grp_prime_p k h1 h3) (grp_fits k h1 h3) _ _ _ a m hy (by omega) w1 hg z1 z2
    · rw [if_neg hm, if_neg hm]
      exact log1_range _ ok _ _ _ a most hy hm w1 hg z1 z2
  · rw [if_neg hy, if_neg hy]
    exact log1_no _ ok _ _ _ a (by simpa using hy) w1 hg z1

set_option maxRecDepth 100000 in
set_option maxHeartbeats 400000 in
theorem Log_none (k : Int) (hk : ¬ (1 ≤ k ∧ k ≤ 3)) (a : ByteArray) (most : Int) (w : World) : Calls Try.prog 41 #[.int .i64 k, .string a, .int .i64 most] w (Ans (.int .i64 0) 1 w) := by
  go_enter Try.func41, Try.ntmps41
  go_wp2_with fail
  obtain ⟨W0, hW0⟩ : ∃ W9 : World, ((w.alloc (.cells #[.string a] 9)).alloc (.cells #[.int .i64 most] 3)) = W9 := ⟨_, rfl⟩
  have hz := box2 w (.string a) (.int .i64 most) 9 3
  rw [hW0] at hz
  have HZ := Lib.hid hz
  clear hz
  simp only [hW0]
  clear hW0
  refine (withI_none k hk _ W0).mono ?_
  rintro e w1 ⟨rfl, hb⟩
  have HB := Lib.hid (below_up HZ.out.1 hb)
  clear hb
  go_wp2_with fail
  go_ret2
  exact ⟨rfl, HB.out⟩

set_option maxRecDepth 100000 in
set_option maxHeartbeats 400000 in
theorem Log_some (k : Nat) (h1 : 1 ≤ k) (h3 : k ≤ 3) (a : ByteArray) (most : Int) (w : World) : Calls Try.prog 41 #[.int .i64 (k : Int), .string a, .int .i64 most] w (Ans (.int .i64 (lgV (grp k) a most)) (lgE (grp k) a most) w) := by
  go_enter Try.func41, Try.ntmps41
  go_wp2_with fail
  obtain ⟨W0, hW0⟩ : ∃ W9 : World, ((w.alloc (.cells #[.string a] 9)).alloc (.cells #[.int .i64 most] 3)) = W9 := ⟨_, rfl⟩
  have hz := box2 w (.string a) (.int .i64 most) 9 3
  rw [hW0] at hz
  have HZ := Lib.hid hz
  clear hz
  simp only [hW0]
  clear hW0
  refine (withI_some k h1 h3 96 #[.pointer (some ⟨w.heap.size, 0, none⟩), .pointer (some ⟨w.heap.size + 1, 0, none⟩)] (.int .i64 (lgV (grp k) a most)) (lgE (grp k) a most) (enters_of Try.func96 (by kernel_rfl) rfl) W0 (fun w1 hb hg => Log_call h1 h3 HZ.out hb hg)).mono ?_
  rintro e w2 ⟨rfl, hb2⟩
  have HB2 := Lib.hid (below_up HZ.out.1 hb2)
  clear hb2
  go_wp2_with fail
  go_ret2
  exact ⟨rfl, HB2.out⟩

end Go.Proofs.Ytdmldnpadojflaa

/- What every law's row wants: two closed facts, and small words for opening arguments. -/
namespace Go.Proofs.Ytdmldnpadojflaa
open Go.ChangeShapes Go.WideShapes Go.ChangeAt Go.RowKit

theorem law_own : ownKnob Try.prog.godebug = none := by kernel_rfl
theorem law_laidOut : laidOutB Try.prog = true := by kernel_rfl

section
variable {H : Type} {enc : TypeId × Value → H} {P : Program} {w : World}

theorem add_plain (b off i : Nat) : (⟨b, off, none⟩ : Addr).add i = ⟨b, off + i, none⟩ := by unfold Addr.add; split <;> simp_all

/-- An argument that is a slice of integers: its numbers, and that it reads. -/
theorem open_Sl_ints {k : IntKind} {t e : TypeId} {a : Option Addr} {len cap : Nat} {d : DataW H} {p : List MemPlace} (ht : P.underlying t = some (.slice e)) (he : P.underlying e = some (.int k)) (hc : P.cellsOf e = 1)
    (h : DataW.Trod enc P w 0 (fun _ => true) true t (.slice a len cap) d p) (hlt : ∀ x ∈ p, x.block < w.heap.size) :
    ∃ xs : List Int, len = xs.length ∧ Sl w w.heap.size a (xs.map (Value.int k)) ∧ (∀ x ∈ xs, (Lit.int k x).wf = true) ∧ ((len = 0) ∨ ∃ zs : List Int, len ≤ zs.length ∧ d = .slice (lits k (zs.take len)) (lits k (zs.drop len))) := by
  obtain ⟨fuel, hf⟩ := h
  rcases open_ints ht he hc hf with ⟨hcs, _⟩ | ⟨x, l, c, zs, hcs, _, hl, hm, hz, hx, hcell, hwz⟩
  · simp [Value.cells] at hcs
    obtain ⟨rfl, rfl, rfl⟩ := hcs
    exact ⟨[], rfl, Or.inl rfl, by simp, Or.inl rfl⟩
  · simp [Value.cells] at hcs
    obtain ⟨rfl, rfl, rfl⟩ := hcs
    simp only [Prod.mk.injEq] at hx
    obtain ⟨hd, rfl⟩ := hx
    simp only [if_true] at hz
    by_cases h0 : len = 0
    · subst h0
      exact ⟨[], rfl, Or.inl rfl, by simp, Or.inl rfl⟩
    · obtain ⟨b, off, spot⟩ := x
      have hspot : spot = none := by simpa [Addr.add] using World.cell?_spot (hcell 0 (by omega))
      subst hspot
      have hbW : b < w.heap.size := hlt (.cell b off) (MemPlace.mem_row.2 ⟨0, by omega, by simp⟩)
      refine ⟨zs.take len, by rw [List.length_take]; omega, Or.inr ⟨b, off, rfl, hbW, ?_⟩, fun x hx => hwz x (List.mem_of_mem_take hx), Or.inr ⟨zs, by omega, hd⟩⟩
      intro i v hv
      have hi : i < len := by
        have := (List.getElem?_eq_some_iff.1 hv).1
        simp at this; omega
      have := hcell i (by omega)
      rw [add_plain] at this
      rw [this, ← hv]
      simp [List.getD, hi, List.getElem?_eq_getElem (show i < zs.length by omega)]

/-- An argument that is a slice of one-cell elements of any kind: its cells, each with its own reading. -/
theorem open_Sl_any {t e : TypeId} {a : Option Addr} {len cap : Nat} {d : DataW H} {p : List MemPlace} (ht : P.underlying t = some (.slice e)) (hc : P.cellsOf e = 1)
    (h : DataW.Trod enc P w 0 (fun _ => true) true t (.slice a len cap) d p) (hlt : ∀ x ∈ p, x.block < w.heap.size) :
    ∃ cs : List Value, len = cs.length ∧ Sl w w.heap.size a cs ∧
      ((len = 0) ∨ ∃ (n : Nat) (ys rest : List (DataW H × List MemPlace)), d = .slice (ys.map (·.1)) (rest.map (·.1)) ∧ ys.length = len ∧ (∀ y ∈ ys, ∀ q ∈ y.2, q ∈ p) ∧
        ∀ (i : Nat) (c : Value), cs[i]? = some c → ∃ y, ys[i]? = some y ∧ DataW.trod enc P w 0 (fun _ => true) true n e [c] = some y) := by
  obtain ⟨fuel, hf⟩ := h
  rcases DataW.trod_slice ht hf with ⟨hcs, _⟩ | ⟨x, l, c, elems, rest, n, _, hcs, hx, hb, hl, hm, hlen, hel, _, _⟩
  · simp [Value.cells] at hcs
    obtain ⟨rfl, rfl, rfl⟩ := hcs
    exact ⟨[], rfl, Or.inl rfl, Or.inl rfl⟩
  · simp [Value.cells] at hcs
    obtain ⟨rfl, rfl, rfl⟩ := hcs
    simp only [Prod.mk.injEq] at hx
    obtain ⟨hd, rfl⟩ := hx
    by_cases h0 : len = 0
    · subst h0
      exact ⟨[], rfl, Or.inl rfl, Or.inl rfl⟩
    have each : ∀ i, i < len → ∃ c y, w.cell? (x.add i) = some c ∧ elems[i]? = some y ∧ DataW.trod enc P w 0 (fun _ => true) true n e [c] = some y := by
      intro i hi
      have h1 := hel i hi
      rw [hc, Nat.mul_one] at h1
      have h2 : elems[i]? = some (elems[i]'(by omega)) := List.getElem?_eq_getElem (by omega)
      rw [h2, Option.bind_eq_some_iff] at h1
      obtain ⟨cs', hcs', hy⟩ := h1
      obtain ⟨h3, h4, h5⟩ := World.cells?_some hcs'
      obtain ⟨c, rfl⟩ : ∃ c, cs' = [c] := by
        match cs', h3 with
        | [c], _ => exact ⟨c, rfl⟩
      exact ⟨c, _, cell_of_cells?_one hcs', h2, hy⟩
    obtain ⟨b, off, spot⟩ := x
    obtain ⟨c0, y0, hc0, _⟩ := each 0 (by omega)
    have hspot : spot = none := by simpa [Addr.add] using World.cell?_spot hc0
    subst hspot
    have hbW : b < w.heap.size := hlt (.cell b off) (List.mem_append_left _ (MemPlace.mem_row.2 ⟨0, by rw [hc]; omega, by simp⟩))
    have hget : ∀ i c, ((List.range len).map (fun i => (w.cell? ⟨b, off + i, none⟩).getD (.bool false)))[i]? = some c → i < len ∧ w.cell? ⟨b, off + i, none⟩ = some c := by
      intro i c hi
      have hil : i < len := by
        have := (List.getElem?_eq_some_iff.1 hi).1
        simpa using this
      obtain ⟨c', y, h1, _⟩ := each i hil
      rw [add_plain] at h1
      simp [hil, h1] at hi
      exact ⟨hil, by rw [h1, hi]⟩
    refine ⟨(List.range len).map (fun i => (w.cell? ⟨b, off + i, none⟩).getD (.bool false)), by simp, Or.inr ⟨b, off, rfl, hbW, fun i v hv => (hget i v hv).2⟩, Or.inr ⟨n, elems, rest, hd, hlen, ?_, ?_⟩⟩
    · intro y hy q hq
      exact List.mem_append_right _ (List.mem_flatMap.2 ⟨y, List.mem_append_left _ hy, hq⟩)
    · intro i c hi
      obtain ⟨hil, hcell⟩ := hget i c hi
      obtain ⟨c', y, h1, h2, h3⟩ := each i hil
      rw [add_plain, hcell] at h1
      simp only [Option.some.injEq] at h1
      exact ⟨y, h2, by rw [h1]; exact h3⟩

/-- A list of values each of which is of one shape. -/
theorem list_shape {α : Type} (mk : α → Value) : ∀ cs : List Value, (∀ c ∈ cs, ∃ a, c = mk a) → ∃ xs : List α, cs = xs.map mk
  | [], _ => ⟨[], rfl⟩
  | c :: cs, h => by
    obtain ⟨a, rfl⟩ := h c (by simp)
    obtain ⟨xs, rfl⟩ := list_shape mk cs (fun c hc => h c (by simp [hc]))
    exact ⟨a :: xs, rfl⟩

/-- An argument that is a slice of booleans. -/
theorem open_Sl_bools {t e : TypeId} {a : Option Addr} {len cap : Nat} {d : DataW H} {p : List MemPlace} (ht : P.underlying t = some (.slice e)) (he : P.underlying e = some .bool) (hc : P.cellsOf e = 1)
    (h : DataW.Trod enc P w 0 (fun _ => true) true t (.slice a len cap) d p) (hlt : ∀ x ∈ p, x.block < w.heap.size) :
    ∃ bs : List Bool, len = bs.length ∧ Sl w w.heap.size a (bs.map Value.bool) := by
  obtain ⟨cs, hl, hs, hk⟩ := open_Sl_any ht hc h hlt
  obtain ⟨bs, rfl⟩ := list_shape Value.bool cs (by
    intro c hcm
    obtain ⟨i, hi⟩ := List.getElem?_of_mem hcm
    rcases hk with h0 | ⟨n, ys, rest, _, _, _, hy⟩
    · rw [h0] at hl
      have := List.eq_nil_of_length_eq_zero hl.symm
      subst this
      simp at hcm
    · obtain ⟨y, _, ht2⟩ := hy i c hi
      obtain ⟨b, hb, _⟩ := DataW.trod_bool he ht2
      exact ⟨b, by simpa using hb⟩)
  exact ⟨bs, by simpa using hl, hs⟩

/-- A struct of one-cell fields, by value: its cells, each with its own reading. -/
theorem open_fields {r : Reach} {b0 base : Nat} {spare : Nat → Bool} {held : Bool} {t : TypeId} {fs : Array Go.Field} {v : Value} {d : DataW H} {p : List MemPlace} (hs : P.underlying t = some (.struct fs)) (hone : Go.Deep.oneCellFields P fs = true) (hC : P.cellsOf t = fs.size)
    (hv : Value.okWide P w r b0 t v) (h : DataW.Trod enc P w base spare held t v d p) :
    ∃ (cs : Array Value) (ys : List (DataW H × List MemPlace)) (n : Nat), v = .agg cs ∧ cs.size = fs.size ∧ d = .agg (ys.map (·.1)) ∧ p = ys.flatMap (·.2) ∧ ys.length = fs.size ∧
      ∀ (j : Nat) (f : Go.Field), fs[j]? = some f → ∃ c y, cs[j]? = some c ∧ ys[j]? = some y ∧ DataW.trod enc P w base spare held n f.type [c] = some y := by
  obtain ⟨cs, rfl, hsz⟩ := okWide_struct hs hv
  obtain ⟨fuel, hf⟩ := h
  obtain ⟨ys, n, _, hx, hcl, hlen, hg⟩ := DataW.trod_struct hs hf
  simp only [Prod.mk.injEq] at hx
  refine ⟨cs, ys, n, rfl, by omega, hx.1, hx.2, hlen, fun j f hj => ?_⟩
  obtain ⟨ho, hk⟩ := Go.Deep.hone_of hone j f hj
  have hjf : j < fs.size := (Array.getElem?_eq_some_iff.1 hj).1
  have hjc : j < cs.size := by omega
  have h1 := hg j f hj
  have e : ((Value.agg cs).cells.toList.drop f.offset).take (P.cellsOf f.type) = [cs[j]] := by
    rw [ho, hk]
    show (cs.toList.drop j).take 1 = _
    rw [List.drop_eq_getElem_cons (by simpa using hjc)]
    simp
  rw [e] at h1
  have hys : ys[j]? = some (ys[j]'(by omega)) := List.getElem?_eq_getElem (by omega)
  exact ⟨cs[j], _, by simp [hjc], hys, h1.trans hys⟩

/-- A field that is a slice: its value's form. -/
theorem field_slice {base fuel : Nat} {spare : Nat → Bool} {held : Bool} {t e : TypeId} {c : Value} {y : DataW H × List MemPlace} (ht : P.underlying t = some (.slice e)) (h : DataW.trod enc P w base spare held fuel t [c] = some y) :
    ∃ a len cap, c = .slice a len cap := by
  rcases DataW.trod_slice ht h with ⟨hc, _⟩ | ⟨a, len, cap, _, _, _, _, hc, _⟩
  · simp at hc; exact ⟨_, _, _, hc⟩
  · simp at hc; exact ⟨_, _, _, hc⟩

theorem field_int {k : IntKind} {base fuel : Nat} {spare : Nat → Bool} {held : Bool} {t : TypeId} {c : Value} {y : DataW H × List MemPlace} (ht : P.underlying t = some (.int k)) (h : DataW.trod enc P w base spare held fuel t [c] = some y) :
    ∃ n, c = .int k n ∧ (Lit.int k n).wf = true := by
  obtain ⟨n, hc, _, hw⟩ := DataW.trod_int ht h
  simp at hc; exact ⟨n, hc, hw⟩

theorem array5 {cs : Array Value} (h : cs.size = 5) : ∃ a b c d e, cs = #[a, b, c, d, e] := by
  obtain ⟨l⟩ := cs
  match l, h with
  | [a, b, c, d, e], _ => exact ⟨a, b, c, d, e, rfl⟩

end
end Go.Proofs.Ytdmldnpadojflaa

/- GroupTells: what a kind has, of any kind, is what the document says. No condition. -/
namespace Go.Proofs.Ytdmldnpadojflaa
open Go.ChangeShapes Go.WideShapes Go.ChangeAt Go.RowKit

theorem grp_small (k : Nat) (h1 : 1 ≤ k) (h3 : k ≤ 3) : dl (grp k).q.m ≤ 1048576 ∧ dl (grp k).p.m ≤ 1048576 :=
  ⟨small_dl _ (grp_ok k h1 h3).q.lt4, small_dl _ (grp_ok k h1 h3).p.lt4⟩



set_option maxRecDepth 100000 in
set_option maxHeartbeats 2000000 in
theorem groupTells_some (k : Nat) (h1 : 1 ≤ k) (h3 : k ≤ 3) (w : World) : Calls Try.prog 3 #[.int .i64 (k : Int)] w fun e w' => e = .returned (.bool true) ∧ Below w.heap.size w w' := by
  obtain ⟨hlq, hlp⟩ := grp_small k h1 h3
  have hsz : (grp k).size ≤ 32 := (grp_ok k h1 h3).size_le
  have hs0 : (((grp k).size : Int) == 0) = false := by
    obtain rfl | rfl | rfl : k = 1 ∨ k = 2 ∨ k = 3 := by omega
    all_goals rfl
  go_enter Try.func3, Try.ntmps3
  go_wp2_with fail
  refine (refKind_some k h1 h3 w).mono ?_
  rintro e w1 ⟨aq, cq, ap, cp, rfl, hq, hp, hb1⟩
  have hb2 : Below w.heap.size w (w1.alloc (.cells #[.int .i64 ((grp k).size : Int), .slice aq (dl (grp k).q.m) cq, .slice ap (dl (grp k).p.m) cp] 25)) := hb1.alloc hb1.size _
  have hz2 : Bx (w1.alloc (.cells #[.int .i64 ((grp k).size : Int), .slice aq (dl (grp k).q.m) cq, .slice ap (dl (grp k).p.m) cp] 25)) w1.heap.size 25 [.int .i64 ((grp k).size : Int), .slice aq (dl (grp k).q.m) cq, .slice ap (dl (grp k).p.m) cp] := Bx.new w1 _ _ _ rfl
  have hq2 := hq.up ((Below.refl w1.heap.size w1).alloc (Nat.le_refl _) (.cells #[.int .i64 ((grp k).size : Int), .slice aq (dl (grp k).q.m) cq, .slice ap (dl (grp k).p.m) cp] 25))
  have hp2 := hp.up ((Below.refl w1.heap.size w1).alloc (Nat.le_refl _) (.cells #[.int .i64 ((grp k).size : Int), .slice aq (dl (grp k).q.m) cq, .slice ap (dl (grp k).p.m) cp] 25))
  obtain ⟨W2, hW2⟩ : ∃ W9 : World, (w1.alloc (.cells #[.int .i64 ((grp k).size : Int), .slice aq (dl (grp k).q.m) cq, .slice ap (dl (grp k).p.m) cp] 25)) = W9 := ⟨_, rfl⟩
  rw [hW2] at hb2 hz2 hq2 hp2
  have HZ := Lib.hid hz2
  have HB := Lib.hid hb2
  have HQ := Lib.hid hq2
  have HP := Lib.hid hp2
  clear hb2 hz2 hq2 hp2 hq hp hb1
  have hz_0 := HZ.out.cell (i := 0) rfl
  have hz_1 := HZ.out.cell (i := 1) rfl
  have hz_2 := HZ.out.cell (i := 2) rfl
  go_wp2_with fail
  refine (Sizes_some k h1 h3 W2).mono ?_
  rintro e w3 ⟨rfl, hb9⟩
  have HZ9 := Lib.hid (HZ.out.up hb9)
  have HB9 := Lib.hid (below_up HB.out hb9)
  have HQ9 := Lib.hid (HQ.out.up hb9)
  have HP9 := Lib.hid (HP.out.up hb9)
  clear hb9 HZ HB HQ HP hz_0 hz_1 hz_2
  have HZ := HZ9
  have HB := HB9
  have HQ := HQ9
  have HP := HP9
  clear HZ9 HB9 HQ9 HP9
  have hz_0 := HZ.out.cell (i := 0) rfl
  have hz_1 := HZ.out.cell (i := 1) rfl
  have hz_2 := HZ.out.cell (i := 2) rfl
  go_wp2_with fail
  refine (Order_some k h1 h3 w3).mono ?_
  rintro e w4 ⟨rfl, hb9⟩
  have HZ9 := Lib.hid (HZ.out.up hb9)
  have HB9 := Lib.hid (below_up HB.out hb9)
  have HQ9 := Lib.hid (HQ.out.up hb9)
  have HP9 := Lib.hid (HP.out.up hb9)
  clear hb9 HZ HB HQ HP hz_0 hz_1 hz_2
  have HZ := HZ9
  have HB := HB9
  have HQ := HQ9
  have HP := HP9
  clear HZ9 HB9 HQ9 HP9
  have hz_0 := HZ.out.cell (i := 0) rfl
  have hz_1 := HZ.out.cell (i := 1) rfl
  have hz_2 := HZ.out.cell (i := 2) rfl
  go_wp2_with fail
  refine (Prime_some k h1 h3 w4).mono ?_
  rintro e w5 ⟨rfl, hb9⟩
  have HZ9 := Lib.hid (HZ.out.up hb9)
  have HB9 := Lib.hid (below_up HB.out hb9)
  have HQ9 := Lib.hid (HQ.out.up hb9)
  have HP9 := Lib.hid (HP.out.up hb9)
  clear hb9 HZ HB HQ HP hz_0 hz_1 hz_2
  have HZ := HZ9
  have HB := HB9
  have HQ := HQ9
  have HP := HP9
  clear HZ9 HB9 HQ9 HP9
  have hz_0 := HZ.out.cell (i := 0) rfl
  have hz_1 := HZ.out.cell (i := 1) rfl
  have hz_2 := HZ.out.cell (i := 2) rfl
  go_wp2_with fail
  refine (refText_any (grp k).q.m (grp k).size aq cq hlq (by omega) w5 HQ.out).mono ?_
  rintro e w6 ⟨rfl, hb9⟩
  have HZ9 := Lib.hid (HZ.out.up hb9)
  have HB9 := Lib.hid (below_up HB.out hb9)
  have HQ9 := Lib.hid (HQ.out.up hb9)
  have HP9 := Lib.hid (HP.out.up hb9)
  clear hb9 HZ HB HQ HP hz_0 hz_1 hz_2
  have HZ := HZ9
  have HB := HB9
  have HQ := HQ9
  have HP := HP9
  clear HZ9 HB9 HQ9 HP9
  have hz_0 := HZ.out.cell (i := 0) rfl
  have hz_1 := HZ.out.cell (i := 1) rfl
  have hz_2 := HZ.out.cell (i := 2) rfl
  go_wp2_with fail
  refine (lawText_ok (textS (grp k).q.m (grp k).size) w6).mono ?_
  rintro e w7 ⟨rfl, hb9⟩
  have HZ9 := Lib.hid (HZ.out.up hb9)
  have HB9 := Lib.hid (below_up HB.out hb9)
  have HQ9 := Lib.hid (HQ.out.up hb9)
  have HP9 := Lib.hid (HP.out.up hb9)
  clear hb9 HZ HB HQ HP hz_0 hz_1 hz_2
  have HZ := HZ9
  have HB := HB9
  have HQ := HQ9
  have HP := HP9
  clear HZ9 HB9 HQ9 HP9
  have hz_0 := HZ.out.cell (i := 0) rfl
  have hz_1 := HZ.out.cell (i := 1) rfl
  have hz_2 := HZ.out.cell (i := 2) rfl
  go_wp2_with fail
  refine (refText_any (grp k).p.m (grp k).size ap cp hlp (by omega) w7 HP.out).mono ?_
  rintro e w8 ⟨rfl, hb9⟩
  have HZ9 := Lib.hid (HZ.out.up hb9)
  have HB9 := Lib.hid (below_up HB.out hb9)
  have HQ9 := Lib.hid (HQ.out.up hb9)
  have HP9 := Lib.hid (HP.out.up hb9)
  clear hb9 HZ HB HQ HP hz_0 hz_1 hz_2
  have HZ := HZ9
  have HB := HB9
  have HQ := HQ9
  have HP := HP9
  clear HZ9 HB9 HQ9 HP9
  have hz_0 := HZ.out.cell (i := 0) rfl
  have hz_1 := HZ.out.cell (i := 1) rfl
  have hz_2 := HZ.out.cell (i := 2) rfl
  go_wp2_with fail
  refine (lawText_ok (textS (grp k).p.m (grp k).size) w8).mono ?_
  rintro e w9 ⟨rfl, hb9⟩
  have HZ9 := Lib.hid (HZ.out.up hb9)
  have HB9 := Lib.hid (below_up HB.out hb9)
  have HQ9 := Lib.hid (HQ.out.up hb9)
  have HP9 := Lib.hid (HP.out.up hb9)
  clear hb9 HZ HB HQ HP hz_0 hz_1 hz_2
  have HZ := HZ9
  have HB := HB9
  have HQ := HQ9
  have HP := HP9
  clear HZ9 HB9 HQ9 HP9
  have hz_0 := HZ.out.cell (i := 0) rfl
  have hz_1 := HZ.out.cell (i := 1) rfl
  have hz_2 := HZ.out.cell (i := 2) rfl
  go_wp2_with fail
  refine (Base_some k h1 h3 w9).mono ?_
  rintro e w10 ⟨rfl, hb9⟩
  have HZ9 := Lib.hid (HZ.out.up hb9)
  have HB9 := Lib.hid (below_up HB.out hb9)
  have HQ9 := Lib.hid (HQ.out.up hb9)
  have HP9 := Lib.hid (HP.out.up hb9)
  clear hb9 HZ HB HQ HP hz_0 hz_1 hz_2
  have HZ := HZ9
  have HB := HB9
  have HQ := HQ9
  have HP := HP9
  clear HZ9 HB9 HQ9 HP9
  have hz_0 := HZ.out.cell (i := 0) rfl
  have hz_1 := HZ.out.cell (i := 1) rfl
  have hz_2 := HZ.out.cell (i := 2) rfl
  go_wp2_with fail
  have hzl := HZ.out.lt
  refine wp_region_tree (fun w' => ∃ E : Over w10, w' = E.w) (.qs [0, 1, 2, 4, 5] (.a 3 (.a 6 (.a 7 (.q 8 .done))))) (by kernel_rfl) (by kernel_rfl) (fun _ _ d _ _ h => by cases d <;> exact h) ⟨⟨_, (Below.refl _ _).drew⟩, rfl⟩ ?_
  have hov := fun (E : Over w10) o => E.cell (b := w1.heap.size) o hzl
  simp only [Tree.qs]
  repeat (refine tree_q rfl rfl ?_; go_big_quiet_step (fail); refine wpQuiet_nil ?_)
  refine tree_a rfl (fun K hK => ?_)
  go_simp
  refine (refOf_any 2 (by omega) _).mono ?_
  rintro e w11 ⟨a9, c9, rfl, hn9, hb9⟩
  have HN9 := Lib.hid hn9
  have HW11 : Hid (Below w10.heap.size w10 w11) := (Below.refl _ _).drew.trans hb9
  clear hn9 hb9
  refine hK _ _ ⟨⟨⟨w11, HW11.out⟩, rfl⟩, ?_⟩
  clear hK K
  refine tree_a rfl (fun K hK => ?_)
  go_simp
  refine (refText_any 2 (grp k).size a9 c9 (by decide) (by omega) w11 HN9.out).mono ?_
  rintro e w12 ⟨rfl, hb9⟩
  have HW12 := Lib.hid (below_up HW11.out hb9)
  clear hb9
  refine hK _ _ ⟨⟨⟨w12, HW12.out⟩, rfl⟩, ?_⟩
  clear hK K
  refine tree_a rfl (fun K hK => ?_)
  go_simp
  refine (lawText_ok (textS 2 (grp k).size) w12).mono ?_
  rintro e w13 ⟨rfl, hb9⟩
  have HW13 := Lib.hid (below_up HW12.out hb9)
  clear hb9
  refine hK _ _ ⟨⟨⟨w13, HW13.out⟩, rfl⟩, ?_⟩
  clear hK K
  refine tree_q rfl rfl ?_
  go_big_quiet_step (fail)
  refine wpQuiet_nil ?_
  refine tree_end ?_
  have HF := Lib.hid (below_up HB.out HW13.out)
  clear hov
  go_wp2_with fail
  go_ret
  exact ⟨rfl, HF.out⟩


theorem refText_nil (size : Nat) (hs : size ≤ 1024) (w : World) : Calls Try.prog 18 #[.slice none 0 0, .int .i64 (size : Int)] w fun e w' => e = .returned (.string (textS 0 size)) ∧ Below w.heap.size w w' :=
  refText_any 0 size none 0 (by decide) hs w (NumAt.zero _ _)
theorem refText_nil0 (w : World) : Calls Try.prog 18 #[.slice none 0 0, .int .i64 0] w fun e w' => e = .returned (.string (textS 0 0)) ∧ Below w.heap.size w w' :=
  refText_nil 0 (by omega) w

theorem refText_two0 (a9 : Option Addr) (c9 : Nat) (w : World) (h : NumAt w a9 2) : Calls Try.prog 18 #[.slice a9 (dl 2) c9, .int .i64 0] w fun e w' => e = .returned (.string (textS 2 0)) ∧ Below w.heap.size w w' :=
  refText_any 2 0 a9 c9 (by decide) (by omega) w h

set_option maxRecDepth 100000 in
set_option maxHeartbeats 2000000 in
theorem groupTells_none (k : Int) (hk : ¬ (1 ≤ k ∧ k ≤ 3)) (w : World) : Calls Try.prog 3 #[.int .i64 k] w fun e w' => e = .returned (.bool true) ∧ Below w.heap.size w w' := by
  go_enter Try.func3, Try.ntmps3
  go_wp2_with fail
  refine (refKind_none k hk w).mono ?_
  rintro e w1 ⟨rfl, hb1⟩
  have HB1 := Lib.hid hb1
  clear hb1
  go_wp2_with fail
  have hb1 := HB1.out
  have hb2 : Below w.heap.size w (w1.alloc (.cells #[.int .i64 0, .slice none 0 0, .slice none 0 0] 25)) := hb1.alloc hb1.size _
  have hz2 : Bx (w1.alloc (.cells #[.int .i64 0, .slice none 0 0, .slice none 0 0] 25)) w1.heap.size 25 [.int .i64 0, .slice none 0 0, .slice none 0 0] := Bx.new w1 _ _ _ rfl
  obtain ⟨W2, hW2⟩ : ∃ W9 : World, (w1.alloc (.cells #[.int .i64 0, .slice none 0 0, .slice none 0 0] 25)) = W9 := ⟨_, rfl⟩
  rw [hW2] at hb2 hz2 ⊢
  clear hW2
  have HZ := Lib.hid hz2
  have HB := Lib.hid hb2
  clear hb2 hz2 hb1
  have hz_0 := HZ.out.cell (i := 0) rfl
  have hz_1 := HZ.out.cell (i := 1) rfl
  have hz_2 := HZ.out.cell (i := 2) rfl
  refine (Sizes_none k hk W2).mono ?_
  rintro e w3 ⟨rfl, hb9⟩
  have HZ9 := Lib.hid (HZ.out.up hb9)
  have HB9 := Lib.hid (below_up HB.out hb9)
  clear hb9 HZ HB hz_0 hz_1 hz_2
  have HZ := HZ9
  have HB := HB9
  clear HZ9 HB9
  have hz_0 := HZ.out.cell (i := 0) rfl
  have hz_1 := HZ.out.cell (i := 1) rfl
  have hz_2 := HZ.out.cell (i := 2) rfl
  go_wp2_with fail
  refine (Order_none k hk w3).mono ?_
  rintro e w4 ⟨rfl, hb9⟩
  have HZ9 := Lib.hid (HZ.out.up hb9)
  have HB9 := Lib.hid (below_up HB.out hb9)
  clear hb9 HZ HB hz_0 hz_1 hz_2
  have HZ := HZ9
  have HB := HB9
  clear HZ9 HB9
  have hz_0 := HZ.out.cell (i := 0) rfl
  have hz_1 := HZ.out.cell (i := 1) rfl
  have hz_2 := HZ.out.cell (i := 2) rfl
  go_wp2_with fail
  refine (Prime_none k hk w4).mono ?_
  rintro e w5 ⟨rfl, hb9⟩
  have HZ9 := Lib.hid (HZ.out.up hb9)
  have HB9 := Lib.hid (below_up HB.out hb9)
  clear hb9 HZ HB hz_0 hz_1 hz_2
  have HZ := HZ9
  have HB := HB9
  clear HZ9 HB9
  have hz_0 := HZ.out.cell (i := 0) rfl
  have hz_1 := HZ.out.cell (i := 1) rfl
  have hz_2 := HZ.out.cell (i := 2) rfl
  go_wp2_with fail
  refine (refText_nil0 w5).mono ?_
  rintro e w6 ⟨rfl, hb9⟩
  have HZ9 := Lib.hid (HZ.out.up hb9)
  have HB9 := Lib.hid (below_up HB.out hb9)
  clear hb9 HZ HB hz_0 hz_1 hz_2
  have HZ := HZ9
  have HB := HB9
  clear HZ9 HB9
  have hz_0 := HZ.out.cell (i := 0) rfl
  have hz_1 := HZ.out.cell (i := 1) rfl
  have hz_2 := HZ.out.cell (i := 2) rfl
  go_wp2_with fail
  refine (lawText_err (textS 0 0) 1 (by omega) w6).mono ?_
  rintro e w7 ⟨rfl, hb9⟩
  have HZ9 := Lib.hid (HZ.out.up hb9)
  have HB9 := Lib.hid (below_up HB.out hb9)
  clear hb9 HZ HB hz_0 hz_1 hz_2
  have HZ := HZ9
  have HB := HB9
  clear HZ9 HB9
  have hz_0 := HZ.out.cell (i := 0) rfl
  have hz_1 := HZ.out.cell (i := 1) rfl
  have hz_2 := HZ.out.cell (i := 2) rfl
  go_wp2_with fail
  refine (refText_nil0 w7).mono ?_
  rintro e w8 ⟨rfl, hb9⟩
  have HZ9 := Lib.hid (HZ.out.up hb9)
  have HB9 := Lib.hid (below_up HB.out hb9)
  clear hb9 HZ HB hz_0 hz_1 hz_2
  have HZ := HZ9
  have HB := HB9
  clear HZ9 HB9
  have hz_0 := HZ.out.cell (i := 0) rfl
  have hz_1 := HZ.out.cell (i := 1) rfl
  have hz_2 := HZ.out.cell (i := 2) rfl
  go_wp2_with fail
  refine (lawText_err (textS 0 0) 1 (by omega) w8).mono ?_
  rintro e w9 ⟨rfl, hb9⟩
  have HZ9 := Lib.hid (HZ.out.up hb9)
  have HB9 := Lib.hid (below_up HB.out hb9)
  clear hb9 HZ HB hz_0 hz_1 hz_2
  have HZ := HZ9
  have HB := HB9
  clear HZ9 HB9
  have hz_0 := HZ.out.cell (i := 0) rfl
  have hz_1 := HZ.out.cell (i := 1) rfl
  have hz_2 := HZ.out.cell (i := 2) rfl
  go_wp2_with fail
  refine (Base_none k hk w9).mono ?_
  rintro e w10 ⟨rfl, hb9⟩
  have HZ9 := Lib.hid (HZ.out.up hb9)
  have HB9 := Lib.hid (below_up HB.out hb9)
  clear hb9 HZ HB hz_0 hz_1 hz_2
  have HZ := HZ9
  have HB := HB9
  clear HZ9 HB9
  have hz_0 := HZ.out.cell (i := 0) rfl
  have hz_1 := HZ.out.cell (i := 1) rfl
  have hz_2 := HZ.out.cell (i := 2) rfl
  go_wp2_with fail
  have hzl := HZ.out.lt
  refine wp_region_tree (fun w' => ∃ E : Over w10, w' = E.w) (.qs [0, 1, 2, 4, 5] (.a 3 (.a 6 (.a 7 (.q 8 .done))))) (by kernel_rfl) (by kernel_rfl) (fun _ _ d _ _ h => by cases d <;> exact h) ⟨⟨_, (Below.refl _ _).drew⟩, rfl⟩ ?_
  have hov := fun (E : Over w10) o => E.cell (b := w1.heap.size) o hzl
  simp only [Tree.qs]
  repeat (refine tree_q rfl rfl ?_; go_big_quiet_step (fail); refine wpQuiet_nil ?_)
  refine tree_a rfl (fun K hK => ?_)
  go_simp
  refine (refOf_any 2 (by omega) _).mono ?_
  rintro e w11 ⟨a9, c9, rfl, hn9, hb9⟩
  have HN9 := Lib.hid hn9
  have HW11 : Hid (Below w10.heap.size w10 w11) := (Below.refl _ _).drew.trans hb9
  clear hn9 hb9
  refine hK _ _ ⟨⟨⟨w11, HW11.out⟩, rfl⟩, ?_⟩
  clear hK K
  refine tree_a rfl (fun K hK => ?_)
  go_simp
  refine (refText_any 2 0 a9 c9 (by decide) (by omega) w11 HN9.out).mono ?_
  rintro e w12 ⟨rfl, hb9⟩
  have HW12 := Lib.hid (below_up HW11.out hb9)
  clear hb9
  refine hK _ _ ⟨⟨⟨w12, HW12.out⟩, rfl⟩, ?_⟩
  clear hK K
  refine tree_a rfl (fun K hK => ?_)
  go_simp
  refine (lawText_err (textS 2 0) 1 (by omega) w12).mono ?_
  rintro e w13 ⟨rfl, hb9⟩
  have HW13 := Lib.hid (below_up HW12.out hb9)
  clear hb9
  refine hK _ _ ⟨⟨⟨w13, HW13.out⟩, rfl⟩, ?_⟩
  clear hK K
  refine tree_q rfl rfl ?_
  go_big_quiet_step (fail)
  refine wpQuiet_nil ?_
  refine tree_end ?_
  have HF := Lib.hid (below_up HB.out HW13.out)
  clear hov
  go_wp2_with fail
  go_ret
  exact ⟨rfl, HF.out⟩

theorem groupTells_any (k : Int) (w : World) : Calls Try.prog 3 #[.int .i64 k] w fun e w' => e = .returned (.bool true) ∧ Below w.heap.size w w' := by
  by_cases hk : 1 ≤ k ∧ k ≤ 3
  · obtain ⟨n, rfl⟩ : ∃ n : Nat, k = n := ⟨k.toNat, by omega⟩
    exact groupTells_some n (by omega) (by omega) w
  · exact groupTells_none k hk w

set_option maxRecDepth 100000 in
theorem groupTells_calls {H : Type} (enc : TypeId × Value → H) (W : World) (base : Nat) {v0 : Value} {d0 : DataW H} {p0 : List MemPlace}
    (h0 : DataW.Trod enc Try.prog W 0 (fun _ => true) true 3 v0 d0 p0)
    (k0 : Value.okWide Try.prog W .any base 3 v0)
    (_lt0 : ∀ x ∈ p0, x.block < W.heap.size)
    (_hsz : (DataW.weightsEach Try.prog ([3] ++ Rows.groupTellsSpec.plain.varTypes Try.prog) ([d0] ++ [])).all (· ≤ reachBytes) = true) :
    Calls Try.prog 3 #[v0] W fun e w' => e = .returned (.bool true) ∧ Below W.heap.size W w' := by
  obtain ⟨a, rfl, _, _, _⟩ := open_int Try.underlying3 k0 h0
  exact groupTells_any a W

set_option maxRecDepth 100000 in
theorem groupTells_lifted (os : Os) (started : os.Started) (H : Type) (enc : TypeId × Value → H) :
    ReturnsInHanded {} Try.checked os 3 .any (Rows.groupTellsSpec.pre6 enc Try.prog Try.f3 Rows.groupTellsRow.domain false) (Rows.groupTellsSpec.post enc Try.prog Try.f3 false true false false) := by
  refine returnsInHanded_of_change_sized (C := Try.checked) law_own started (by kernel_rfl) Try.func3
    (ChangeSpec.witness6 (enc := enc) (C := Try.checked) false ⟨#[], #[.int .i64 0], []⟩ 8 (by kernel_rfl) (by kernel_rfl) (by kernel_rfl) (by kernel_rfl)) ?_
  intro W base args ds gs before hval0 hW _ hsz0 _
  have hsz : (DataW.weightsEach Try.prog (Try.f3.params.toList ++ Rows.groupTellsSpec.plain.varTypes Try.prog) (ds ++ gs)).all (· ≤ reachBytes) = true := hsz0
  clear hsz0
  have hval : ∀ (j : Nat) t v, Try.f3.params[j]? = some t → args[j]? = some v → Value.okWide Try.prog W .any base t v := hval0
  have hW' := hW
  obtain ⟨p, q, hA0, hV, rfl, _, _⟩ := hW
  have hA : DataW.TrodAll enc Try.prog W 0 (fun _ => true) true Try.f3.params.toList args.toList ds p := hA0
  rw [Try.params3] at hA hval hsz
  obtain ⟨v0, vs0, d0, ds0, p0, q0, hargs, rfl, rfl, h0, r0⟩ := trodAll_cons hA
  obtain ⟨rfl, rfl, rfl⟩ := trodAll_nil r0
  obtain rfl : args = #[v0] := by cases args; simp_all
  obtain ⟨rfl, rfl⟩ := trodVars_none hV
  have lt0 : ∀ x ∈ p0, x.block < W.heap.size := by obtain ⟨m, hm⟩ := h0; exact DataW.trod_lt m _ _ _ hm
  clear hA0 hval0
  refine (groupTells_calls enc W base h0 (hval 0 3 v0 rfl rfl) lt0 hsz).mono fun e W' ⟨he, bel⟩ => ?_
  subst he
  exact ⟨_, rfl, _, _, _, [], _, [], hW', trodAll_mk1 (shut_bool Try.underlying4 _), (trodAll_cons_mk (Below.trod law_laidOut (by kernel_rfl) (of_decide_eq_true (by kernel_rfl)) h0 bel lt0) trodAll_mk0), rfl, bel.frame _, fun h => by cases h⟩

theorem groupTells_holds : Rows.GroupTellsSaid :=
  OpenClaim.holds_of_wide 3 Try.f3 rfl rfl rfl rfl rfl rfl rfl ⟨rfl, rfl, rfl, rfl, rfl⟩ rfl rfl rfl rfl rfl (by kernel_rfl) Try.func3 (by kernel_rfl)
    (of_decide_eq_true (by kernel_rfl)) (by unfold Func.isWrapper; first | (rw [if_pos (by decide +kernel)]; kernel_rfl) | (rw [if_neg (by decide +kernel)]; exact ⟨rfl, rfl⟩))
    (fun os started H enc _ => groupTells_lifted os started H enc)
#print axioms groupTells_holds



end Go.Proofs.Ytdmldnpadojflaa

/- What a statement about the group carries from call to call: the document's group value, and two numbers. No condition. -/
namespace Go.Proofs.Ytdmldnpadojflaa
open Go.ChangeShapes Go.WideShapes Go.ChangeAt Go.RowKit

/-- The document's group value, as the program's value. -/
def refG (sz q p : Nat) (aq ap : Option Addr) (cq cp : Nat) : List Value := [.int .i64 (sz : Int), .slice aq (dl q) cq, .slice ap (dl p) cp]

structure Car (w W : World) (zb : Nat) (t : TypeId) (sz q p : Nat) (aq ap : Option Addr) (cq cp : Nat) (ax ay : Option Addr) (x y : Nat) : Prop where
  b : Below w.heap.size w W
  z : Bx W zb t [.int .i64 (sz : Int), .slice aq (dl q) cq, .slice ap (dl p) cp]
  q : NumAt W aq q
  p : NumAt W ap p
  x : NumAt W ax x
  y : NumAt W ay y

theorem Car.up {w W W' : World} {zb : Nat} {t : TypeId} {sz q p : Nat} {aq ap : Option Addr} {cq cp : Nat} {ax ay : Option Addr} {x y : Nat}
    (h : Car w W zb t sz q p aq ap cq cp ax ay x y) (u : Below W.heap.size W W') : Car w W' zb t sz q p aq ap cq cp ax ay x y :=
  ⟨below_up h.b u, h.z.up u, h.q.up u, h.p.up u, h.x.up u, h.y.up u⟩

theorem Car.setx {w W W' : World} {zb : Nat} {t : TypeId} {sz q p : Nat} {aq ap : Option Addr} {cq cp : Nat} {ax ay : Option Addr} {x y : Nat}
    (h : Car w W zb t sz q p aq ap cq cp ax ay x y) (u : Below W.heap.size W W') {ax' : Option Addr} {x' : Nat} (hx : NumAt W' ax' x') : Car w W' zb t sz q p aq ap cq cp ax' ay x' y :=
  ⟨below_up h.b u, h.z.up u, h.q.up u, h.p.up u, hx, h.y.up u⟩

theorem Car.sety {w W W' : World} {zb : Nat} {t : TypeId} {sz q p : Nat} {aq ap : Option Addr} {cq cp : Nat} {ax ay : Option Addr} {x y : Nat}
    (h : Car w W zb t sz q p aq ap cq cp ax ay x y) (u : Below W.heap.size W W') {ay' : Option Addr} {y' : Nat} (hy : NumAt W' ay' y') : Car w W' zb t sz q p aq ap cq cp ax ay' x y' :=
  ⟨below_up h.b u, h.z.up u, h.q.up u, h.p.up u, h.x.up u, hy⟩


section
variable {H : Type} {enc : TypeId × Value → H} {P : Program} {w : World}
/-- An argument that is a slice of strings. -/
theorem open_Sl_strings {t e : TypeId} {a : Option Addr} {len cap : Nat} {d : DataW H} {p : List MemPlace} (ht : P.underlying t = some (.slice e)) (he : P.underlying e = some .string) (hc : P.cellsOf e = 1)
    (h : DataW.Trod enc P w 0 (fun _ => true) true t (.slice a len cap) d p) (hlt : ∀ x ∈ p, x.block < w.heap.size) :
    ∃ bs : List ByteArray, len = bs.length ∧ Sl w w.heap.size a (bs.map Value.string) := by
  obtain ⟨cs, hl, hs, hk⟩ := open_Sl_any ht hc h hlt
  obtain ⟨bs, rfl⟩ := list_shape Value.string cs (by
    intro c hcm
    obtain ⟨i, hi⟩ := List.getElem?_of_mem hcm
    rcases hk with h0 | ⟨n, ys, rest, _, _, _, hy⟩
    · rw [h0] at hl
      have := List.eq_nil_of_length_eq_zero hl.symm
      subst this
      simp at hcm
    · obtain ⟨y, _, ht2⟩ := hy i c hi
      obtain ⟨b, hb, _⟩ := DataW.trod_string he ht2
      exact ⟨b, by simpa using hb⟩)
  exact ⟨bs, by simpa using hl, hs⟩
end

end Go.Proofs.Ytdmldnpadojflaa

/- GroupElems: Times, Under, Power of any bytes, as the document says. No condition. -/
namespace Go.Proofs.Ytdmldnpadojflaa
open Go.ChangeShapes Go.WideShapes Go.ChangeAt Go.RowKit

theorem isEl_facts {q size : Nat} {s : ByteArray} (h : isEl q size s = true) : s.size = size ∧ 0 < numOf s ∧ numOf s ≤ q := by
  unfold isEl at h
  simp at h
  exact ⟨h.1.1, h.1.2, h.2⟩
theorem isSc_facts {q size : Nat} {s : ByteArray} (h : isSc q size s = true) : s.size = size ∧ numOf s < q := by
  unfold isSc at h
  simp at h
  exact h

set_option maxRecDepth 100000 in
set_option maxHeartbeats 400000 in
theorem groupElems_none (k : Int) (hk : ¬ (1 ≤ k ∧ k ≤ 3)) (a b n : ByteArray) (w : World) : Calls Try.prog 8 #[.int .i64 k, .string a, .string b, .string n] w fun e w' => e = .returned (.bool true) ∧ Below w.heap.size w w' := by
  go_enter Try.func8, Try.ntmps8
  go_wp2_with fail
  refine (refKind_none k hk w).mono ?_
  rintro e w1 ⟨rfl, hb1⟩
  go_wp2_with fail
  have u1 : Below w1.heap.size w1 (w1.alloc (.cells #[.int .i64 0, .slice none 0 0, .slice none 0 0] 25)) := (Below.refl _ _).alloc (Nat.le_refl _) _
  have hc : Car w (w1.alloc (.cells #[.int .i64 0, .slice none 0 0, .slice none 0 0] 25)) w1.heap.size 25 0 0 0 none none 0 0 none none 0 0 := ⟨below_up (hb1) u1, Bx.new w1 _ _ _ rfl, NumAt.zero _ _, NumAt.zero _ _, NumAt.zero _ _, NumAt.zero _ _⟩
  obtain ⟨W2, hW2⟩ : ∃ W9 : World, (w1.alloc (.cells #[.int .i64 0, .slice none 0 0, .slice none 0 0] 25)) = W9 := ⟨_, rfl⟩
  rw [hW2] at hc ⊢
  clear hW2
  have HC := Lib.hid hc
  clear hc hb1 u1
  have hz_0 := HC.out.z.cell (i := 0) rfl
  have hz_1 := HC.out.z.cell (i := 1) rfl
  have hz_2 := HC.out.z.cell (i := 2) rfl
  go_wp2_with fail
  refine (Times_none k hk a b W2).mono ?_
  rintro e w3 ⟨rfl, hb9⟩
  have HC9 := Lib.hid (HC.out.up hb9)
  clear hb9
  clear HC hz_0 hz_1 hz_2
  have HC := HC9
  clear HC9
  have hz_0 := HC.out.z.cell (i := 0) rfl
  have hz_1 := HC.out.z.cell (i := 1) rfl
  have hz_2 := HC.out.z.cell (i := 2) rfl
  go_wp2_with fail
  refine (lawText_err ⟨#[]⟩ 1 (by omega) w3).mono ?_
  rintro e w4 ⟨rfl, hb9⟩
  have HC9 := Lib.hid (HC.out.up hb9)
  clear hb9
  clear HC hz_0 hz_1 hz_2
  have HC := HC9
  clear HC9
  have hz_0 := HC.out.z.cell (i := 0) rfl
  have hz_1 := HC.out.z.cell (i := 1) rfl
  have hz_2 := HC.out.z.cell (i := 2) rfl
  go_wp2_with fail
  refine (Power_none k hk a n w4).mono ?_
  rintro e w5 ⟨rfl, hb9⟩
  have HC9 := Lib.hid (HC.out.up hb9)
  clear hb9
  clear HC hz_0 hz_1 hz_2
  have HC := HC9
  clear HC9
  have hz_0 := HC.out.z.cell (i := 0) rfl
  have hz_1 := HC.out.z.cell (i := 1) rfl
  have hz_2 := HC.out.z.cell (i := 2) rfl
  go_wp2_with fail
  refine (lawText_err ⟨#[]⟩ 1 (by omega) w5).mono ?_
  rintro e w6 ⟨rfl, hb9⟩
  have HC9 := Lib.hid (HC.out.up hb9)
  clear hb9
  clear HC hz_0 hz_1 hz_2
  have HC := HC9
  clear HC9
  have hz_0 := HC.out.z.cell (i := 0) rfl
  have hz_1 := HC.out.z.cell (i := 1) rfl
  have hz_2 := HC.out.z.cell (i := 2) rfl
  go_wp2_with fail
  refine (Under_none k hk a w6).mono ?_
  rintro e w7 ⟨rfl, hb9⟩
  have HC9 := Lib.hid (HC.out.up hb9)
  clear hb9
  clear HC hz_0 hz_1 hz_2
  have HC := HC9
  clear HC9
  have hz_0 := HC.out.z.cell (i := 0) rfl
  have hz_1 := HC.out.z.cell (i := 1) rfl
  have hz_2 := HC.out.z.cell (i := 2) rfl
  go_wp2_with fail
  refine (lawText_err ⟨#[]⟩ 1 (by omega) w7).mono ?_
  rintro e w8 ⟨rfl, hb9⟩
  have HC9 := Lib.hid (HC.out.up hb9)
  clear hb9
  clear HC hz_0 hz_1 hz_2
  have HC := HC9
  clear HC9
  have hz_0 := HC.out.z.cell (i := 0) rfl
  have hz_1 := HC.out.z.cell (i := 1) rfl
  have hz_2 := HC.out.z.cell (i := 2) rfl
  go_wp2_with fail
  go_ret
  exact ⟨rfl, HC.out.b⟩

set_option maxRecDepth 100000 in
set_option maxHeartbeats 1000000 in
theorem groupElems_no (k : Nat) (h1 : 1 ≤ k) (h3 : k ≤ 3) (a b n : ByteArray) (hba : isEl (grp k).q.m (grp k).size a = false) (w : World) : Calls Try.prog 8 #[.int .i64 (k : Int), .string a, .string b, .string n] w fun e w' => e = .returned (.bool true) ∧ Below w.heap.size w w' := by
  obtain ⟨hlq, hlp⟩ := grp_small k h1 h3
  have hsz : (grp k).size ≤ 32 := (grp_ok k h1 h3).size_le
  have hq0 : 0 < (grp k).q.m := (grp_ok k h1 h3).q.pos
  have hq16 : (grp k).q.m < DD ^ 16 := (grp_ok k h1 h3).q.lt4
  have hp0 : 0 < (grp k).p.m := (grp_ok k h1 h3).p.pos
  have hp16 : (grp k).p.m < DD ^ 16 := (grp_ok k h1 h3).p.lt4
  have hs0 : (((grp k).size : Int) == 0) = false := by
    obtain rfl | rfl | rfl : k = 1 ∨ k = 2 ∨ k = 3 := by omega
    all_goals rfl
  have hT := fun W => Times_some k h1 h3 a b W
  have hP := fun W => Power_some k h1 h3 a n W
  have hU := fun W => Under_some k h1 h3 a W
  simp only [timV, timE, powV, powE, undV, undE, hba, Bool.false_and, if_true, Bool.false_eq_true, if_false] at hT hP hU
  have HT := Lib.hid hT
  have HP := Lib.hid hP
  have HU := Lib.hid hU
  have HBA := Lib.hid hba
  clear hba hT hP hU
  go_enter Try.func8, Try.ntmps8
  go_wp2_with fail
  refine (refKind_some k h1 h3 w).mono ?_
  rintro e w1 ⟨aq, cq, ap, cp, rfl, hq, hp, hb1⟩
  have u1 : Below w1.heap.size w1 (w1.alloc (.cells #[.int .i64 ((grp k).size : Int), .slice aq (dl (grp k).q.m) cq, .slice ap (dl (grp k).p.m) cp] 25)) := (Below.refl _ _).alloc (Nat.le_refl _) _
  have hc : Car w (w1.alloc (.cells #[.int .i64 ((grp k).size : Int), .slice aq (dl (grp k).q.m) cq, .slice ap (dl (grp k).p.m) cp] 25)) w1.heap.size 25 (grp k).size (grp k).q.m (grp k).p.m aq ap cq cp none none 0 0 := ⟨below_up (hb1) u1, Bx.new w1 _ _ _ rfl, hq.up u1, hp.up u1, NumAt.zero _ _, NumAt.zero _ _⟩
  obtain ⟨W2, hW2⟩ : ∃ W9 : World, (w1.alloc (.cells #[.int .i64 ((grp k).size : Int), .slice aq (dl (grp k).q.m) cq, .slice ap (dl (grp k).p.m) cp] 25)) = W9 := ⟨_, rfl⟩
  rw [hW2] at hc
  have HC := Lib.hid hc
  have HZL := Lib.hid (Bx.lt (HC.out.z))
  clear hc hq hp hb1 u1
  have hz_0 := HC.out.z.cell (i := 0) rfl
  have hz_1 := HC.out.z.cell (i := 1) rfl
  have hz_2 := HC.out.z.cell (i := 2) rfl
  go_wp2_with fail
  refine ((HBA.out ▸ refIsElem_any a (grp k).size (grp k).q.m (grp k).p.m aq ap cq cp hsz W2 HC.out.q)).mono ?_
  rintro e w5 ⟨rfl, hb9⟩
  have HC9 := Lib.hid (HC.out.up hb9)
  clear hb9
  clear HC hz_0 hz_1 hz_2
  have HC := HC9
  clear HC9
  have hz_0 := HC.out.z.cell (i := 0) rfl
  have hz_1 := HC.out.z.cell (i := 1) rfl
  have hz_2 := HC.out.z.cell (i := 2) rfl
  go_wp2_with fail
  refine (HT.out w5).mono ?_
  rintro e w6 ⟨rfl, hb9⟩
  have HC9 := Lib.hid (HC.out.up hb9)
  clear hb9
  clear HC hz_0 hz_1 hz_2
  have HC := HC9
  clear HC9
  have hz_0 := HC.out.z.cell (i := 0) rfl
  have hz_1 := HC.out.z.cell (i := 1) rfl
  have hz_2 := HC.out.z.cell (i := 2) rfl
  go_wp2_with fail
  refine (lawText_err ⟨#[]⟩ 7 (by omega) w6).mono ?_
  rintro e w7 ⟨rfl, hb9⟩
  have HC9 := Lib.hid (HC.out.up hb9)
  clear hb9
  clear HC hz_0 hz_1 hz_2
  have HC := HC9
  clear HC9
  have hz_0 := HC.out.z.cell (i := 0) rfl
  have hz_1 := HC.out.z.cell (i := 1) rfl
  have hz_2 := HC.out.z.cell (i := 2) rfl
  go_wp2_with fail
  refine (HP.out w7).mono ?_
  rintro e w8 ⟨rfl, hb9⟩
  have HC9 := Lib.hid (HC.out.up hb9)
  clear hb9
  clear HC hz_0 hz_1 hz_2
  have HC := HC9
  clear HC9
  have hz_0 := HC.out.z.cell (i := 0) rfl
  have hz_1 := HC.out.z.cell (i := 1) rfl
  have hz_2 := HC.out.z.cell (i := 2) rfl
  go_wp2_with fail
  refine (lawText_err ⟨#[]⟩ 7 (by omega) w8).mono ?_
  rintro e w9 ⟨rfl, hb9⟩
  have HC9 := Lib.hid (HC.out.up hb9)
  clear hb9
  clear HC hz_0 hz_1 hz_2
  have HC := HC9
  clear HC9
  have hz_0 := HC.out.z.cell (i := 0) rfl
  have hz_1 := HC.out.z.cell (i := 1) rfl
  have hz_2 := HC.out.z.cell (i := 2) rfl
  go_wp2_with fail
  refine (HU.out w9).mono ?_
  rintro e w10 ⟨rfl, hb9⟩
  have HC9 := Lib.hid (HC.out.up hb9)
  clear hb9
  clear HC hz_0 hz_1 hz_2
  have HC := HC9
  clear HC9
  have hz_0 := HC.out.z.cell (i := 0) rfl
  have hz_1 := HC.out.z.cell (i := 1) rfl
  have hz_2 := HC.out.z.cell (i := 2) rfl
  go_wp2_with fail
  refine (lawText_err ⟨#[]⟩ 7 (by omega) w10).mono ?_
  rintro e w11 ⟨rfl, hb9⟩
  have HC9 := Lib.hid (HC.out.up hb9)
  clear hb9
  clear HC hz_0 hz_1 hz_2
  have HC := HC9
  clear HC9
  have hz_0 := HC.out.z.cell (i := 0) rfl
  have hz_1 := HC.out.z.cell (i := 1) rfl
  have hz_2 := HC.out.z.cell (i := 2) rfl
  go_wp2_with fail
  go_ret
  exact ⟨rfl, HC.out.b⟩


set_option maxRecDepth 100000 in
set_option maxHeartbeats 1000000 in
theorem groupElems_nn (k : Nat) (h1 : 1 ≤ k) (h3 : k ≤ 3) (a b n : ByteArray) (hba : isEl (grp k).q.m (grp k).size a = true) (hbb : isEl (grp k).q.m (grp k).size b = false) (hbn : isSc (grp k).q.m (grp k).size n = false) (w : World) : Calls Try.prog 8 #[.int .i64 (k : Int), .string a, .string b, .string n] w fun e w' => e = .returned (.bool true) ∧ Below w.heap.size w w' := by
  obtain ⟨hlq, hlp⟩ := grp_small k h1 h3
  have hsz : (grp k).size ≤ 32 := (grp_ok k h1 h3).size_le
  have hq0 : 0 < (grp k).q.m := (grp_ok k h1 h3).q.pos
  have hq16 : (grp k).q.m < DD ^ 16 := (grp_ok k h1 h3).q.lt4
  have hp0 : 0 < (grp k).p.m := (grp_ok k h1 h3).p.pos
  have hp16 : (grp k).p.m < DD ^ 16 := (grp_ok k h1 h3).p.lt4
  have hs0 : (((grp k).size : Int) == 0) = false := by
    obtain rfl | rfl | rfl : k = 1 ∨ k = 2 ∨ k = 3 := by omega
    all_goals rfl
  have hp1 : 1 < (grp k).p.m := by have := (grp_ok k h1 h3).twice; omega
  have htw : (grp k).p.m = 2 * (grp k).q.m + 1 := (grp_ok k h1 h3).twice
  have hA9 := isEl_facts hba
  have HLA : Hid (a.size ≤ 1048576) := by show _ ≤ _; omega
  have HNA : Hid (numOf a < DD ^ 16) := Nat.lt_of_le_of_lt hA9.2.2 hq16
  have hund : lowR (grp k).q.m (grp k).p.m (numOf a ^ ((grp k).p.m - 2) % (grp k).p.m) = lowR (grp k).q.m (grp k).p.m (numOf a ^ ((grp k).q.m - 1) % (grp k).p.m) := under_low (grp_prime_p k h1 h3) htw hq0 hA9.2.1 hA9.2.2
  obtain ⟨ru, hru⟩ : ∃ r, lowR (grp k).q.m (grp k).p.m (numOf a ^ ((grp k).q.m - 1) % (grp k).p.m) = r := ⟨_, rfl⟩
  have hru16 : ru < DD ^ 16 := by
    have := lowR_leq (q := (grp k).q.m) htw (Nat.mod_lt (numOf a ^ ((grp k).q.m - 1)) hp0)
    omega
  have HDU : Hid (dl ru ≤ 1048576) := small_dl _ hru16
  rw [hru] at hund
  have hT := fun W => Times_some k h1 h3 a b W
  have hP := fun W => Power_some k h1 h3 a n W
  have hU := fun W => Under_some k h1 h3 a W
  rw [show undV (grp k) a = textS ru (grp k).size by unfold undV; rw [if_pos hba]; exact congrArg (textS · _) hund, show undE (grp k) a = 0 by unfold undE; rw [if_pos hba]] at hU
  simp only [timV, timE, powV, powE, hba, hbb, hbn, Bool.true_and, if_true, Bool.false_eq_true, if_false, Bool.true_eq_false] at hT hP
  have HT := Lib.hid hT
  have HP := Lib.hid hP
  have HU := Lib.hid hU
  have HBA := Lib.hid hba
  have HBB := Lib.hid hbb
  have HBN := Lib.hid hbn
  have HRU := Lib.hid hru
  have HP1 := Lib.hid hp1
  have hq1 : 1 ≤ (grp k).q.m := hq0
  clear hba hbb hbn hT hP hU hA9 hund hru htw hru16 hp1
  go_enter Try.func8, Try.ntmps8
  go_wp2_with fail
  refine (refKind_some k h1 h3 w).mono ?_
  rintro e w1 ⟨aq, cq, ap, cp, rfl, hq, hp, hb1⟩
  have u1 : Below w1.heap.size w1 (w1.alloc (.cells #[.int .i64 ((grp k).size : Int), .slice aq (dl (grp k).q.m) cq, .slice ap (dl (grp k).p.m) cp] 25)) := (Below.refl _ _).alloc (Nat.le_refl _) _
  have hc : Car w (w1.alloc (.cells #[.int .i64 ((grp k).size : Int), .slice aq (dl (grp k).q.m) cq, .slice ap (dl (grp k).p.m) cp] 25)) w1.heap.size 25 (grp k).size (grp k).q.m (grp k).p.m aq ap cq cp none none 0 0 := ⟨below_up (hb1) u1, Bx.new w1 _ _ _ rfl, hq.up u1, hp.up u1, NumAt.zero _ _, NumAt.zero _ _⟩
  obtain ⟨W2, hW2⟩ : ∃ W9 : World, (w1.alloc (.cells #[.int .i64 ((grp k).size : Int), .slice aq (dl (grp k).q.m) cq, .slice ap (dl (grp k).p.m) cp] 25)) = W9 := ⟨_, rfl⟩
  rw [hW2] at hc
  have HC := Lib.hid hc
  have HZL := Lib.hid (Bx.lt (HC.out.z))
  clear hc hq hp hb1 u1
  have hz_0 := HC.out.z.cell (i := 0) rfl
  have hz_1 := HC.out.z.cell (i := 1) rfl
  have hz_2 := HC.out.z.cell (i := 2) rfl
  go_wp2_with fail
  refine ((HBA.out ▸ refIsElem_any a (grp k).size (grp k).q.m (grp k).p.m aq ap cq cp hsz W2 HC.out.q)).mono ?_
  rintro e w3 ⟨rfl, hb9⟩
  have HC9 := Lib.hid (HC.out.up hb9)
  clear hb9
  clear HC hz_0 hz_1 hz_2
  have HC := HC9
  clear HC9
  have hz_0 := HC.out.z.cell (i := 0) rfl
  have hz_1 := HC.out.z.cell (i := 1) rfl
  have hz_2 := HC.out.z.cell (i := 2) rfl
  go_wp2_with fail
  refine ((HBB.out ▸ refIsElem_any b (grp k).size (grp k).q.m (grp k).p.m aq ap cq cp hsz w3 HC.out.q)).mono ?_
  rintro e w4 ⟨rfl, hb9⟩
  have HC9 := Lib.hid (HC.out.up hb9)
  clear hb9
  clear HC hz_0 hz_1 hz_2
  have HC := HC9
  clear HC9
  have hz_0 := HC.out.z.cell (i := 0) rfl
  have hz_1 := HC.out.z.cell (i := 1) rfl
  have hz_2 := HC.out.z.cell (i := 2) rfl
  go_wp2_with fail
  refine ((HBN.out ▸ refIsScalar_any n (grp k).size (grp k).q.m (grp k).p.m aq ap cq cp hsz w4 HC.out.q)).mono ?_
  rintro e w5 ⟨rfl, hb9⟩
  have HC9 := Lib.hid (HC.out.up hb9)
  clear hb9
  clear HC hz_0 hz_1 hz_2
  have HC := HC9
  clear HC9
  have hz_0 := HC.out.z.cell (i := 0) rfl
  have hz_1 := HC.out.z.cell (i := 1) rfl
  have hz_2 := HC.out.z.cell (i := 2) rfl
  go_wp2_with fail
  have HW0 : Hid (Below w5.heap.size w5 w5.drew) := (Below.refl _ _).drew
  have hzl := HC.out.z.lt
  refine wp_region_tree (fun w' => ∃ E : Over w5, w' = E.w) (.qs [0, 1, 4, 5] (.a 2 (.a 3 (.a 6 (.q 7 .done))))) (by kernel_rfl) (by kernel_rfl) (fun _ _ d _ _ h => by cases d <;> exact h) ⟨⟨_, HW0.out⟩, rfl⟩ ?_
  have hov := fun (E : Over w5) o => E.cell (b := w1.heap.size) o hzl
  simp only [Tree.qs]
  repeat (refine tree_q rfl rfl ?_; go_big_quiet_step (fail); refine wpQuiet_nil ?_)
  refine tree_a rfl (fun K hK => ?_)
  go_simp
  refine (refRead_any a HLA.out w5.drew).mono ?_
  rintro e w40 ⟨a40, c40, rfl, hn9, hb9⟩
  have HN40 := Lib.hid hn9
  have HW40 := Lib.hid (below_up HW0.out hb9)
  have HU40 := Lib.hid hb9
  clear hn9 hb9
  refine hK _ _ ⟨⟨⟨w40, HW40.out⟩, rfl⟩, ?_⟩
  clear hK K
  repeat (refine tree_q rfl rfl ?_; go_big_quiet_step (fail); refine wpQuiet_nil ?_)
  refine tree_a rfl (fun K hK => ?_)
  go_simp
  have h9 := refUnder_any (numOf a) (grp k).size (grp k).q.m (grp k).p.m a40 aq ap c40 cq cp HNA.out hq1 hq16 HP1.out hp16 w40 HN40.out (HC.out.up HW40.out).q (HC.out.up HW40.out).p
  rw [HRU.out] at h9
  refine h9.mono ?_
  clear h9
  rintro e w41 ⟨a41, c41, rfl, hn9, hb9⟩
  have HN41 := Lib.hid hn9
  have HW41 := Lib.hid (below_up HW40.out hb9)
  have HU41 := Lib.hid hb9
  clear hn9 hb9
  refine hK _ _ ⟨⟨⟨w41, HW41.out⟩, rfl⟩, ?_⟩
  clear hK K
  repeat (refine tree_q rfl rfl ?_; go_big_quiet_step (fail); refine wpQuiet_nil ?_)
  refine tree_a rfl (fun K hK => ?_)
  go_simp
  refine (refText_any ru (grp k).size a41 c41 HDU.out (by omega) w41 HN41.out).mono ?_
  rintro e w42 ⟨rfl, hb9⟩
  have HW42 := Lib.hid (below_up HW41.out hb9)
  clear hb9
  refine hK _ _ ⟨⟨⟨w42, HW42.out⟩, rfl⟩, ?_⟩
  clear hK K
  repeat (refine tree_q rfl rfl ?_; go_big_quiet_step (fail); refine wpQuiet_nil ?_)
  refine tree_end ?_
  have HC9 := Lib.hid (HC.out.up HW42.out)
  clear hov hzl
  clear HC hz_0 hz_1 hz_2
  have HC := HC9
  clear HC9
  have hz_0 := HC.out.z.cell (i := 0) rfl
  have hz_1 := HC.out.z.cell (i := 1) rfl
  have hz_2 := HC.out.z.cell (i := 2) rfl
  go_wp2_with fail
  refine (HT.out w42).mono ?_
  rintro e w50 ⟨rfl, hb9⟩
  have HC9 := Lib.hid (HC.out.up hb9)
  clear hb9
  clear HC hz_0 hz_1 hz_2
  have HC := HC9
  clear HC9
  have hz_0 := HC.out.z.cell (i := 0) rfl
  have hz_1 := HC.out.z.cell (i := 1) rfl
  have hz_2 := HC.out.z.cell (i := 2) rfl
  go_wp2_with fail
  refine (lawText_err ⟨#[]⟩ 7 (by omega) w50).mono ?_
  rintro e w51 ⟨rfl, hb9⟩
  have HC9 := Lib.hid (HC.out.up hb9)
  clear hb9
  clear HC hz_0 hz_1 hz_2
  have HC := HC9
  clear HC9
  have hz_0 := HC.out.z.cell (i := 0) rfl
  have hz_1 := HC.out.z.cell (i := 1) rfl
  have hz_2 := HC.out.z.cell (i := 2) rfl
  go_wp2_with fail
  refine (HP.out w51).mono ?_
  rintro e w52 ⟨rfl, hb9⟩
  have HC9 := Lib.hid (HC.out.up hb9)
  clear hb9
  clear HC hz_0 hz_1 hz_2
  have HC := HC9
  clear HC9
  have hz_0 := HC.out.z.cell (i := 0) rfl
  have hz_1 := HC.out.z.cell (i := 1) rfl
  have hz_2 := HC.out.z.cell (i := 2) rfl
  go_wp2_with fail
  refine (lawText_err ⟨#[]⟩ 6 (by omega) w52).mono ?_
  rintro e w53 ⟨rfl, hb9⟩
  have HC9 := Lib.hid (HC.out.up hb9)
  clear hb9
  clear HC hz_0 hz_1 hz_2
  have HC := HC9
  clear HC9
  have hz_0 := HC.out.z.cell (i := 0) rfl
  have hz_1 := HC.out.z.cell (i := 1) rfl
  have hz_2 := HC.out.z.cell (i := 2) rfl
  go_wp2_with fail
  refine (HU.out w53).mono ?_
  rintro e w54 ⟨rfl, hb9⟩
  have HC9 := Lib.hid (HC.out.up hb9)
  clear hb9
  clear HC hz_0 hz_1 hz_2
  have HC := HC9
  clear HC9
  have hz_0 := HC.out.z.cell (i := 0) rfl
  have hz_1 := HC.out.z.cell (i := 1) rfl
  have hz_2 := HC.out.z.cell (i := 2) rfl
  go_wp2_with fail
  refine (lawText_ok (textS ru (grp k).size) w54).mono ?_
  rintro e w55 ⟨rfl, hb9⟩
  have HC9 := Lib.hid (HC.out.up hb9)
  clear hb9
  clear HC hz_0 hz_1 hz_2
  have HC := HC9
  clear HC9
  have hz_0 := HC.out.z.cell (i := 0) rfl
  have hz_1 := HC.out.z.cell (i := 1) rfl
  have hz_2 := HC.out.z.cell (i := 2) rfl
  go_wp2_with fail
  go_ret
  exact ⟨rfl, HC.out.b⟩


set_option maxRecDepth 100000 in
set_option maxHeartbeats 1000000 in
theorem groupElems_yn (k : Nat) (h1 : 1 ≤ k) (h3 : k ≤ 3) (a b n : ByteArray) (hba : isEl (grp k).q.m (grp k).size a = true) (hbb : isEl (grp k).q.m (grp k).size b = true) (hbn : isSc (grp k).q.m (grp k).size n = false) (w : World) : Calls Try.prog 8 #[.int .i64 (k : Int), .string a, .string b, .string n] w fun e w' => e = .returned (.bool true) ∧ Below w.heap.size w w' := by
  obtain ⟨hlq, hlp⟩ := grp_small k h1 h3
  have hsz : (grp k).size ≤ 32 := (grp_ok k h1 h3).size_le
  have hq0 : 0 < (grp k).q.m := (grp_ok k h1 h3).q.pos
  have hq16 : (grp k).q.m < DD ^ 16 := (grp_ok k h1 h3).q.lt4
  have hp0 : 0 < (grp k).p.m := (grp_ok k h1 h3).p.pos
  have hp16 : (grp k).p.m < DD ^ 16 := (grp_ok k h1 h3).p.lt4
  have hs0 : (((grp k).size : Int) == 0) = false := by
    obtain rfl | rfl | rfl : k = 1 ∨ k = 2 ∨ k = 3 := by omega
    all_goals rfl
  have hp1 : 1 < (grp k).p.m := by have := (grp_ok k h1 h3).twice; omega
  have htw : (grp k).p.m = 2 * (grp k).q.m + 1 := (grp_ok k h1 h3).twice
  have hA9 := isEl_facts hba
  have HLA : Hid (a.size ≤ 1048576) := by show _ ≤ _; omega
  have HNA : Hid (numOf a < DD ^ 16) := Nat.lt_of_le_of_lt hA9.2.2 hq16
  have hund : lowR (grp k).q.m (grp k).p.m (numOf a ^ ((grp k).p.m - 2) % (grp k).p.m) = lowR (grp k).q.m (grp k).p.m (numOf a ^ ((grp k).q.m - 1) % (grp k).p.m) := under_low (grp_prime_p k h1 h3) htw hq0 hA9.2.1 hA9.2.2
  obtain ⟨ru, hru⟩ : ∃ r, lowR (grp k).q.m (grp k).p.m (numOf a ^ ((grp k).q.m - 1) % (grp k).p.m) = r := ⟨_, rfl⟩
  have hru16 : ru < DD ^ 16 := by
    have := lowR_leq (q := (grp k).q.m) htw (Nat.mod_lt (numOf a ^ ((grp k).q.m - 1)) hp0)
    omega
  have HDU : Hid (dl ru ≤ 1048576) := small_dl _ hru16
  rw [hru] at hund
  have hT := fun W => Times_some k h1 h3 a b W
  have hP := fun W => Power_some k h1 h3 a n W
  have hU := fun W => Under_some k h1 h3 a W
  rw [show undV (grp k) a = textS ru (grp k).size by unfold undV; rw [if_pos hba]; exact congrArg (textS · _) hund, show undE (grp k) a = 0 by unfold undE; rw [if_pos hba]] at hU
  simp only [powV, powE, hba, hbn, if_true, Bool.true_eq_false, if_false] at hP
  have hB9 := isEl_facts hbb
  have HLB : Hid (b.size ≤ 1048576) := by show _ ≤ _; omega
  have HNB : Hid (numOf b < DD ^ 16) := Nat.lt_of_le_of_lt hB9.2.2 hq16
  obtain ⟨rt, hrt⟩ : ∃ r, lowR (grp k).q.m (grp k).p.m (numOf a * numOf b % (grp k).p.m) = r := ⟨_, rfl⟩
  have hrt16 : rt < DD ^ 16 := by
    have := lowR_leq (q := (grp k).q.m) htw (Nat.mod_lt (numOf a * numOf b) hp0)
    omega
  have HDT : Hid (dl rt ≤ 1048576) := small_dl _ hrt16
  have ht9 : timV (grp k) a b = textS rt (grp k).size := by unfold timV; rw [hba, hbb]; exact congrArg (textS · _) hrt
  have ht8 : timE (grp k) a b = 0 := by unfold timE; rw [hba, hbb]; rfl
  rw [ht9, ht8] at hT
  have HRT := Lib.hid hrt
  clear ht9 ht8 hrt hrt16 hB9
  have HT := Lib.hid hT
  have HP := Lib.hid hP
  have HU := Lib.hid hU
  have HBA := Lib.hid hba
  have HBB := Lib.hid hbb
  have HBN := Lib.hid hbn
  have HRU := Lib.hid hru
  have HP1 := Lib.hid hp1
  have hq1 : 1 ≤ (grp k).q.m := hq0
  clear hba hbb hbn hT hP hU hA9 hund hru htw hru16 hp1
  go_enter Try.func8, Try.ntmps8
  go_wp2_with fail
  refine (refKind_some k h1 h3 w).mono ?_
  rintro e w1 ⟨aq, cq, ap, cp, rfl, hq, hp, hb1⟩
  have u1 : Below w1.heap.size w1 (w1.alloc (.cells #[.int .i64 ((grp k).size : Int), .slice aq (dl (grp k).q.m) cq, .slice ap (dl (grp k).p.m) cp] 25)) := (Below.refl _ _).alloc (Nat.le_refl _) _
  have hc : Car w (w1.alloc (.cells #[.int .i64 ((grp k).size : Int), .slice aq (dl (grp k).q.m) cq, .slice ap (dl (grp k).p.m) cp] 25)) w1.heap.size 25 (grp k).size (grp k).q.m (grp k).p.m aq ap cq cp none none 0 0 := ⟨below_up (hb1) u1, Bx.new w1 _ _ _ rfl, hq.up u1, hp.up u1, NumAt.zero _ _, NumAt.zero _ _⟩
  obtain ⟨W2, hW2⟩ : ∃ W9 : World, (w1.alloc (.cells #[.int .i64 ((grp k).size : Int), .slice aq (dl (grp k).q.m) cq, .slice ap (dl (grp k).p.m) cp] 25)) = W9 := ⟨_, rfl⟩
  rw [hW2] at hc
  have HC := Lib.hid hc
  have HZL := Lib.hid (Bx.lt (HC.out.z))
  clear hc hq hp hb1 u1
  have hz_0 := HC.out.z.cell (i := 0) rfl
  have hz_1 := HC.out.z.cell (i := 1) rfl
  have hz_2 := HC.out.z.cell (i := 2) rfl
  go_wp2_with fail
  refine ((HBA.out ▸ refIsElem_any a (grp k).size (grp k).q.m (grp k).p.m aq ap cq cp hsz W2 HC.out.q)).mono ?_
  rintro e w3 ⟨rfl, hb9⟩
  have HC9 := Lib.hid (HC.out.up hb9)
  clear hb9
  clear HC hz_0 hz_1 hz_2
  have HC := HC9
  clear HC9
  have hz_0 := HC.out.z.cell (i := 0) rfl
  have hz_1 := HC.out.z.cell (i := 1) rfl
  have hz_2 := HC.out.z.cell (i := 2) rfl
  go_wp2_with fail
  refine ((HBB.out ▸ refIsElem_any b (grp k).size (grp k).q.m (grp k).p.m aq ap cq cp hsz w3 HC.out.q)).mono ?_
  rintro e w4 ⟨rfl, hb9⟩
  have HC9 := Lib.hid (HC.out.up hb9)
  clear hb9
  clear HC hz_0 hz_1 hz_2
  have HC := HC9
  clear HC9
  have hz_0 := HC.out.z.cell (i := 0) rfl
  have hz_1 := HC.out.z.cell (i := 1) rfl
  have hz_2 := HC.out.z.cell (i := 2) rfl
  go_wp2_with fail
  refine ((HBN.out ▸ refIsScalar_any n (grp k).size (grp k).q.m (grp k).p.m aq ap cq cp hsz w4 HC.out.q)).mono ?_
  rintro e w5 ⟨rfl, hb9⟩
  have HC9 := Lib.hid (HC.out.up hb9)
  clear hb9
  clear HC hz_0 hz_1 hz_2
  have HC := HC9
  clear HC9
  have hz_0 := HC.out.z.cell (i := 0) rfl
  have hz_1 := HC.out.z.cell (i := 1) rfl
  have hz_2 := HC.out.z.cell (i := 2) rfl
  go_wp2_with fail
  have HW0 : Hid (Below w5.heap.size w5 w5.drew) := (Below.refl _ _).drew
  have hzl := HC.out.z.lt
  refine wp_region_tree (fun w' => ∃ E : Over w5, w' = E.w) (.qs [0, 1, 3, 6, 7] (.a 2 (.a 4 (.a 5 (.a 8 (.q 9 .done)))))) (by kernel_rfl) (by kernel_rfl) (fun _ _ d _ _ h => by cases d <;> exact h) ⟨⟨_, HW0.out⟩, rfl⟩ ?_
  have hov := fun (E : Over w5) o => E.cell (b := w1.heap.size) o hzl
  simp only [Tree.qs]
  repeat (refine tree_q rfl rfl ?_; go_big_quiet_step (fail); refine wpQuiet_nil ?_)
  refine tree_a rfl (fun K hK => ?_)
  go_simp
  refine (refRead_any a HLA.out w5.drew).mono ?_
  rintro e w20 ⟨a20, c20, rfl, hn9, hb9⟩
  have HN20 := Lib.hid hn9
  have HW20 := Lib.hid (below_up HW0.out hb9)
  have HU20 := Lib.hid hb9
  clear hn9 hb9
  refine hK _ _ ⟨⟨⟨w20, HW20.out⟩, rfl⟩, ?_⟩
  clear hK K
  repeat (refine tree_q rfl rfl ?_; go_big_quiet_step (fail); refine wpQuiet_nil ?_)
  refine tree_a rfl (fun K hK => ?_)
  go_simp
  refine (refRead_any b HLB.out w20).mono ?_
  rintro e w21 ⟨a21, c21, rfl, hn9, hb9⟩
  have HN21 := Lib.hid hn9
  have HW21 := Lib.hid (below_up HW20.out hb9)
  have HU21 := Lib.hid hb9
  clear hn9 hb9
  refine hK _ _ ⟨⟨⟨w21, HW21.out⟩, rfl⟩, ?_⟩
  clear hK K
  repeat (refine tree_q rfl rfl ?_; go_big_quiet_step (fail); refine wpQuiet_nil ?_)
  refine tree_a rfl (fun K hK => ?_)
  go_simp
  have h9 := refProduct_any (numOf a) (numOf b) (grp k).size (grp k).q.m (grp k).p.m a20 a21 aq ap c20 c21 cq cp HNA.out HNB.out hp0 hp16 w21 (HN20.out.up HU21.out) HN21.out (HC.out.up HW21.out).q (HC.out.up HW21.out).p
  rw [HRT.out] at h9
  refine h9.mono ?_
  clear h9
  rintro e w22 ⟨a22, c22, rfl, hn9, hb9⟩
  have HN22 := Lib.hid hn9
  have HW22 := Lib.hid (below_up HW21.out hb9)
  have HU22 := Lib.hid hb9
  clear hn9 hb9
  refine hK _ _ ⟨⟨⟨w22, HW22.out⟩, rfl⟩, ?_⟩
  clear hK K
  repeat (refine tree_q rfl rfl ?_; go_big_quiet_step (fail); refine wpQuiet_nil ?_)
  refine tree_a rfl (fun K hK => ?_)
  go_simp
  refine (refText_any rt (grp k).size a22 c22 HDT.out (by omega) w22 HN22.out).mono ?_
  rintro e w23 ⟨rfl, hb9⟩
  have HW23 := Lib.hid (below_up HW22.out hb9)
  clear hb9
  refine hK _ _ ⟨⟨⟨w23, HW23.out⟩, rfl⟩, ?_⟩
  clear hK K
  repeat (refine tree_q rfl rfl ?_; go_big_quiet_step (fail); refine wpQuiet_nil ?_)
  refine tree_end ?_
  have HC9 := Lib.hid (HC.out.up HW23.out)
  clear hov hzl
  clear HC hz_0 hz_1 hz_2
  have HC := HC9
  clear HC9
  have hz_0 := HC.out.z.cell (i := 0) rfl
  have hz_1 := HC.out.z.cell (i := 1) rfl
  have hz_2 := HC.out.z.cell (i := 2) rfl
  go_wp2_with fail
  have HW0 : Hid (Below w23.heap.size w23 w23.drew) := (Below.refl _ _).drew
  have hzl := HC.out.z.lt
  refine wp_region_tree (fun w' => ∃ E : Over w23, w' = E.w) (.qs [0, 1, 4, 5] (.a 2 (.a 3 (.a 6 (.q 7 .done))))) (by kernel_rfl) (by kernel_rfl) (fun _ _ d _ _ h => by cases d <;> exact h) ⟨⟨_, HW0.out⟩, rfl⟩ ?_
  have hov := fun (E : Over w23) o => E.cell (b := w1.heap.size) o hzl
  simp only [Tree.qs]
  repeat (refine tree_q rfl rfl ?_; go_big_quiet_step (fail); refine wpQuiet_nil ?_)
  refine tree_a rfl (fun K hK => ?_)
  go_simp
  refine (refRead_any a HLA.out w23.drew).mono ?_
  rintro e w40 ⟨a40, c40, rfl, hn9, hb9⟩
  have HN40 := Lib.hid hn9
  have HW40 := Lib.hid (below_up HW0.out hb9)
  have HU40 := Lib.hid hb9
  clear hn9 hb9
  refine hK _ _ ⟨⟨⟨w40, HW40.out⟩, rfl⟩, ?_⟩
  clear hK K
  repeat (refine tree_q rfl rfl ?_; go_big_quiet_step (fail); refine wpQuiet_nil ?_)
  refine tree_a rfl (fun K hK => ?_)
  go_simp
  have h9 := refUnder_any (numOf a) (grp k).size (grp k).q.m (grp k).p.m a40 aq ap c40 cq cp HNA.out hq1 hq16 HP1.out hp16 w40 HN40.out (HC.out.up HW40.out).q (HC.out.up HW40.out).p
  rw [HRU.out] at h9
  refine h9.mono ?_
  clear h9
  rintro e w41 ⟨a41, c41, rfl, hn9, hb9⟩
  have HN41 := Lib.hid hn9
  have HW41 := Lib.hid (below_up HW40.out hb9)
  have HU41 := Lib.hid hb9
  clear hn9 hb9
  refine hK _ _ ⟨⟨⟨w41, HW41.out⟩, rfl⟩, ?_⟩
  clear hK K
  repeat (refine tree_q rfl rfl ?_; go_big_quiet_step (fail); refine wpQuiet_nil ?_)
  refine tree_a rfl (fun K hK => ?_)
  go_simp
  refine (refText_any ru (grp k).size a41 c41 HDU.out (by omega) w41 HN41.out).mono ?_
  rintro e w42 ⟨rfl, hb9⟩
  have HW42 := Lib.hid (below_up HW41.out hb9)
  clear hb9
  refine hK _ _ ⟨⟨⟨w42, HW42.out⟩, rfl⟩, ?_⟩
  clear hK K
  repeat (refine tree_q rfl rfl ?_; go_big_quiet_step (fail); refine wpQuiet_nil ?_)
  refine tree_end ?_
  have HC9 := Lib.hid (HC.out.up HW42.out)
  clear hov hzl
  clear HC hz_0 hz_1 hz_2
  have HC := HC9
  clear HC9
  have hz_0 := HC.out.z.cell (i := 0) rfl
  have hz_1 := HC.out.z.cell (i := 1) rfl
  have hz_2 := HC.out.z.cell (i := 2) rfl
  go_wp2_with fail
  refine (HT.out w42).mono ?_
  rintro e w50 ⟨rfl, hb9⟩
  have HC9 := Lib.hid (HC.out.up hb9)
  clear hb9
  clear HC hz_0 hz_1 hz_2
  have HC := HC9
  clear HC9
  have hz_0 := HC.out.z.cell (i := 0) rfl
  have hz_1 := HC.out.z.cell (i := 1) rfl
  have hz_2 := HC.out.z.cell (i := 2) rfl
  go_wp2_with fail
  refine (lawText_ok (textS rt (grp k).size) w50).mono ?_
  rintro e w51 ⟨rfl, hb9⟩
  have HC9 := Lib.hid (HC.out.up hb9)
  clear hb9
  clear HC hz_0 hz_1 hz_2
  have HC := HC9
  clear HC9
  have hz_0 := HC.out.z.cell (i := 0) rfl
  have hz_1 := HC.out.z.cell (i := 1) rfl
  have hz_2 := HC.out.z.cell (i := 2) rfl
  go_wp2_with fail
  refine (HP.out w51).mono ?_
  rintro e w52 ⟨rfl, hb9⟩
  have HC9 := Lib.hid (HC.out.up hb9)
  clear hb9
  clear HC hz_0 hz_1 hz_2
  have HC := HC9
  clear HC9
  have hz_0 := HC.out.z.cell (i := 0) rfl
  have hz_1 := HC.out.z.cell (i := 1) rfl
  have hz_2 := HC.out.z.cell (i := 2) rfl
  go_wp2_with fail
  refine (lawText_err ⟨#[]⟩ 6 (by omega) w52).mono ?_
  rintro e w53 ⟨rfl, hb9⟩
  have HC9 := Lib.hid (HC.out.up hb9)
  clear hb9
  clear HC hz_0 hz_1 hz_2
  have HC := HC9
  clear HC9
  have hz_0 := HC.out.z.cell (i := 0) rfl
  have hz_1 := HC.out.z.cell (i := 1) rfl
  have hz_2 := HC.out.z.cell (i := 2) rfl
  go_wp2_with fail
  refine (HU.out w53).mono ?_
  rintro e w54 ⟨rfl, hb9⟩
  have HC9 := Lib.hid (HC.out.up hb9)
  clear hb9
  clear HC hz_0 hz_1 hz_2
  have HC := HC9
  clear HC9
  have hz_0 := HC.out.z.cell (i := 0) rfl
  have hz_1 := HC.out.z.cell (i := 1) rfl
  have hz_2 := HC.out.z.cell (i := 2) rfl
  go_wp2_with fail
  refine (lawText_ok (textS ru (grp k).size) w54).mono ?_
  rintro e w55 ⟨rfl, hb9⟩
  have HC9 := Lib.hid (HC.out.up hb9)
  clear hb9
  clear HC hz_0 hz_1 hz_2
  have HC := HC9
  clear HC9
  have hz_0 := HC.out.z.cell (i := 0) rfl
  have hz_1 := HC.out.z.cell (i := 1) rfl
  have hz_2 := HC.out.z.cell (i := 2) rfl
  go_wp2_with fail
  go_ret
  exact ⟨rfl, HC.out.b⟩

set_option maxRecDepth 100000 in
set_option maxHeartbeats 1000000 in
theorem groupElems_ny (k : Nat) (h1 : 1 ≤ k) (h3 : k ≤ 3) (a b n : ByteArray) (hba : isEl (grp k).q.m (grp k).size a = true) (hbb : isEl (grp k).q.m (grp k).size b = false) (hbn : isSc (grp k).q.m (grp k).size n = true) (w : World) : Calls Try.prog 8 #[.int .i64 (k : Int), .string a, .string b, .string n] w fun e w' => e = .returned (.bool true) ∧ Below w.heap.size w w' := by
  obtain ⟨hlq, hlp⟩ := grp_small k h1 h3
  have hsz : (grp k).size ≤ 32 := (grp_ok k h1 h3).size_le
  have hq0 : 0 < (grp k).q.m := (grp_ok k h1 h3).q.pos
  have hq16 : (grp k).q.m < DD ^ 16 := (grp_ok k h1 h3).q.lt4
  have hp0 : 0 < (grp k).p.m := (grp_ok k h1 h3).p.pos
  have hp16 : (grp k).p.m < DD ^ 16 := (grp_ok k h1 h3).p.lt4
  have hs0 : (((grp k).size : Int) == 0) = false := by
    obtain rfl | rfl | rfl : k = 1 ∨ k = 2 ∨ k = 3 := by omega
    all_goals rfl
  have hp1 : 1 < (grp k).p.m := by have := (grp_ok k h1 h3).twice; omega
  have htw : (grp k).p.m = 2 * (grp k).q.m + 1 := (grp_ok k h1 h3).twice
  have hA9 := isEl_facts hba
  have HLA : Hid (a.size ≤ 1048576) := by show _ ≤ _; omega
  have HNA : Hid (numOf a < DD ^ 16) := Nat.lt_of_le_of_lt hA9.2.2 hq16
  have hund : lowR (grp k).q.m (grp k).p.m (numOf a ^ ((grp k).p.m - 2) % (grp k).p.m) = lowR (grp k).q.m (grp k).p.m (numOf a ^ ((grp k).q.m - 1) % (grp k).p.m) := under_low (grp_prime_p k h1 h3) htw hq0 hA9.2.1 hA9.2.2
  obtain ⟨ru, hru⟩ : ∃ r, lowR (grp k).q.m (grp k).p.m (numOf a ^ ((grp k).q.m - 1) % (grp k).p.m) = r := ⟨_, rfl⟩
  have hru16 : ru < DD ^ 16 := by
    have := lowR_leq (q := (grp k).q.m) htw (Nat.mod_lt (numOf a ^ ((grp k).q.m - 1)) hp0)
    omega
  have HDU : Hid (dl ru ≤ 1048576) := small_dl _ hru16
  rw [hru] at hund
  have hT := fun W => Times_some k h1 h3 a b W
  have hP := fun W => Power_some k h1 h3 a n W
  have hU := fun W => Under_some k h1 h3 a W
  rw [show undV (grp k) a = textS ru (grp k).size by unfold undV; rw [if_pos hba]; exact congrArg (textS · _) hund, show undE (grp k) a = 0 by unfold undE; rw [if_pos hba]] at hU
  simp only [timV, timE, hba, hbb, Bool.true_and, Bool.false_eq_true, if_false] at hT
  have hN9 := isSc_facts hbn
  have HLN : Hid (n.size ≤ 1048576) := by show _ ≤ _; omega
  have HDN : Hid (dl (numOf n) ≤ 65536) := Nat.le_trans (dl_of_lt (numOf n) 16 (Nat.lt_trans hN9.2 hq16)) (by decide)
  obtain ⟨rp, hrp⟩ : ∃ r, lowR (grp k).q.m (grp k).p.m (numOf a ^ numOf n % (grp k).p.m) = r := ⟨_, rfl⟩
  have hrp16 : rp < DD ^ 16 := by
    have := lowR_leq (q := (grp k).q.m) htw (Nat.mod_lt (numOf a ^ numOf n) hp0)
    omega
  have HDP : Hid (dl rp ≤ 1048576) := small_dl _ hrp16
  have ht9 : powV (grp k) a n = textS rp (grp k).size := by unfold powV; rw [hba, hbn]; exact congrArg (textS · _) hrp
  have ht8 : powE (grp k) a n = 0 := by unfold powE; rw [hba, hbn]; rfl
  rw [ht9, ht8] at hP
  have HRP := Lib.hid hrp
  clear ht9 ht8 hrp hrp16 hN9
  have HT := Lib.hid hT
  have HP := Lib.hid hP
  have HU := Lib.hid hU
  have HBA := Lib.hid hba
  have HBB := Lib.hid hbb
  have HBN := Lib.hid hbn
  have HRU := Lib.hid hru
  have HP1 := Lib.hid hp1
  have hq1 : 1 ≤ (grp k).q.m := hq0
  clear hba hbb hbn hT hP hU hA9 hund hru htw hru16 hp1
  go_enter Try.func8, Try.ntmps8
  go_wp2_with fail
  refine (refKind_some k h1 h3 w).mono ?_
  rintro e w1 ⟨aq, cq, ap, cp, rfl, hq, hp, hb1⟩
  have u1 : Below w1.heap.size w1 (w1.alloc (.cells #[.int .i64 ((grp k).size : Int), .slice aq (dl (grp k).q.m) cq, .slice ap (dl (grp k).p.m) cp] 25)) := (Below.refl _ _).alloc (Nat.le_refl _) _
  have hc : Car w (w1.alloc (.cells #[.int .i64 ((grp k).size : Int), .slice aq (dl (grp k).q.m) cq, .slice ap (dl (grp k).p.m) cp] 25)) w1.heap.size 25 (grp k).size (grp k).q.m (grp k).p.m aq ap cq cp none none 0 0 := ⟨below_up (hb1) u1, Bx.new w1 _ _ _ rfl, hq.up u1, hp.up u1, NumAt.zero _ _, NumAt.zero _ _⟩
  obtain ⟨W2, hW2⟩ : ∃ W9 : World, (w1.alloc (.cells #[.int .i64 ((grp k).size : Int), .slice aq (dl (grp k).q.m) cq, .slice ap (dl (grp k).p.m) cp] 25)) = W9 := ⟨_, rfl⟩
  rw [hW2] at hc
  have HC := Lib.hid hc
  have HZL := Lib.hid (Bx.lt (HC.out.z))
  clear hc hq hp hb1 u1
  have hz_0 := HC.out.z.cell (i := 0) rfl
  have hz_1 := HC.out.z.cell (i := 1) rfl
  have hz_2 := HC.out.z.cell (i := 2) rfl
  go_wp2_with fail
  refine ((HBA.out ▸ refIsElem_any a (grp k).size (grp k).q.m (grp k).p.m aq ap cq cp hsz W2 HC.out.q)).mono ?_
  rintro e w3 ⟨rfl, hb9⟩
  have HC9 := Lib.hid (HC.out.up hb9)
  clear hb9
  clear HC hz_0 hz_1 hz_2
  have HC := HC9
  clear HC9
  have hz_0 := HC.out.z.cell (i := 0) rfl
  have hz_1 := HC.out.z.cell (i := 1) rfl
  have hz_2 := HC.out.z.cell (i := 2) rfl
  go_wp2_with fail
  refine ((HBB.out ▸ refIsElem_any b (grp k).size (grp k).q.m (grp k).p.m aq ap cq cp hsz w3 HC.out.q)).mono ?_
  rintro e w4 ⟨rfl, hb9⟩
  have HC9 := Lib.hid (HC.out.up hb9)
  clear hb9
  clear HC hz_0 hz_1 hz_2
  have HC := HC9
  clear HC9
  have hz_0 := HC.out.z.cell (i := 0) rfl
  have hz_1 := HC.out.z.cell (i := 1) rfl
  have hz_2 := HC.out.z.cell (i := 2) rfl
  go_wp2_with fail
  refine ((HBN.out ▸ refIsScalar_any n (grp k).size (grp k).q.m (grp k).p.m aq ap cq cp hsz w4 HC.out.q)).mono ?_
  rintro e w5 ⟨rfl, hb9⟩
  have HC9 := Lib.hid (HC.out.up hb9)
  clear hb9
  clear HC hz_0 hz_1 hz_2
  have HC := HC9
  clear HC9
  have hz_0 := HC.out.z.cell (i := 0) rfl
  have hz_1 := HC.out.z.cell (i := 1) rfl
  have hz_2 := HC.out.z.cell (i := 2) rfl
  go_wp2_with fail
  have HW0 : Hid (Below w5.heap.size w5 w5.drew) := (Below.refl _ _).drew
  have hzl := HC.out.z.lt
  refine wp_region_tree (fun w' => ∃ E : Over w5, w' = E.w) (.qs [0, 1, 3, 6, 7] (.a 2 (.a 4 (.a 5 (.a 8 (.q 9 .done)))))) (by kernel_rfl) (by kernel_rfl) (fun _ _ d _ _ h => by cases d <;> exact h) ⟨⟨_, HW0.out⟩, rfl⟩ ?_
  have hov := fun (E : Over w5) o => E.cell (b := w1.heap.size) o hzl
  simp only [Tree.qs]
  repeat (refine tree_q rfl rfl ?_; go_big_quiet_step (fail); refine wpQuiet_nil ?_)
  refine tree_a rfl (fun K hK => ?_)
  go_simp
  refine (refRead_any a HLA.out w5.drew).mono ?_
  rintro e w30 ⟨a30, c30, rfl, hn9, hb9⟩
  have HN30 := Lib.hid hn9
  have HW30 := Lib.hid (below_up HW0.out hb9)
  have HU30 := Lib.hid hb9
  clear hn9 hb9
  refine hK _ _ ⟨⟨⟨w30, HW30.out⟩, rfl⟩, ?_⟩
  clear hK K
  repeat (refine tree_q rfl rfl ?_; go_big_quiet_step (fail); refine wpQuiet_nil ?_)
  refine tree_a rfl (fun K hK => ?_)
  go_simp
  refine (refRead_any n HLN.out w30).mono ?_
  rintro e w31 ⟨a31, c31, rfl, hn9, hb9⟩
  have HN31 := Lib.hid hn9
  have HW31 := Lib.hid (below_up HW30.out hb9)
  have HU31 := Lib.hid hb9
  clear hn9 hb9
  refine hK _ _ ⟨⟨⟨w31, HW31.out⟩, rfl⟩, ?_⟩
  clear hK K
  repeat (refine tree_q rfl rfl ?_; go_big_quiet_step (fail); refine wpQuiet_nil ?_)
  refine tree_a rfl (fun K hK => ?_)
  go_simp
  have h9 := refPow_any (numOf a) (numOf n) (grp k).size (grp k).q.m (grp k).p.m a30 a31 aq ap c30 c31 cq cp HNA.out HDN.out HP1.out hp16 w31 (HN30.out.up HU31.out) HN31.out (HC.out.up HW31.out).q (HC.out.up HW31.out).p
  rw [HRP.out] at h9
  refine h9.mono ?_
  clear h9
  rintro e w32 ⟨a32, c32, rfl, hn9, hb9⟩
  have HN32 := Lib.hid hn9
  have HW32 := Lib.hid (below_up HW31.out hb9)
  have HU32 := Lib.hid hb9
  clear hn9 hb9
  refine hK _ _ ⟨⟨⟨w32, HW32.out⟩, rfl⟩, ?_⟩
  clear hK K
  repeat (refine tree_q rfl rfl ?_; go_big_quiet_step (fail); refine wpQuiet_nil ?_)
  refine tree_a rfl (fun K hK => ?_)
  go_simp
  refine (refText_any rp (grp k).size a32 c32 HDP.out (by omega) w32 HN32.out).mono ?_
  rintro e w33 ⟨rfl, hb9⟩
  have HW33 := Lib.hid (below_up HW32.out hb9)
  clear hb9
  refine hK _ _ ⟨⟨⟨w33, HW33.out⟩, rfl⟩, ?_⟩
  clear hK K
  repeat (refine tree_q rfl rfl ?_; go_big_quiet_step (fail); refine wpQuiet_nil ?_)
  refine tree_end ?_
  have HC9 := Lib.hid (HC.out.up HW33.out)
  clear hov hzl
  clear HC hz_0 hz_1 hz_2
  have HC := HC9
  clear HC9
  have hz_0 := HC.out.z.cell (i := 0) rfl
  have hz_1 := HC.out.z.cell (i := 1) rfl
  have hz_2 := HC.out.z.cell (i := 2) rfl
  go_wp2_with fail
  have HW0 : Hid (Below w33.heap.size w33 w33.drew) := (Below.refl _ _).drew
  have hzl := HC.out.z.lt
  refine wp_region_tree (fun w' => ∃ E : Over w33, w' = E.w) (.qs [0, 1, 4, 5] (.a 2 (.a 3 (.a 6 (.q 7 .done))))) (by kernel_rfl) (by kernel_rfl) (fun _ _ d _ _ h => by cases d <;> exact h) ⟨⟨_, HW0.out⟩, rfl⟩ ?_
  have hov := fun (E : Over w33) o => E.cell (b := w1.heap.size) o hzl
  simp only [Tree.qs]
  repeat (refine tree_q rfl rfl ?_; go_big_quiet_step (fail); refine wpQuiet_nil ?_)
  refine tree_a rfl (fun K hK => ?_)
  go_simp
  refine (refRead_any a HLA.out w33.drew).mono ?_
  rintro e w40 ⟨a40, c40, rfl, hn9, hb9⟩
  have HN40 := Lib.hid hn9
  have HW40 := Lib.hid (below_up HW0.out hb9)
  have HU40 := Lib.hid hb9
  clear hn9 hb9
  refine hK _ _ ⟨⟨⟨w40, HW40.out⟩, rfl⟩, ?_⟩
  clear hK K
  repeat (refine tree_q rfl rfl ?_; go_big_quiet_step (fail); refine wpQuiet_nil ?_)
  refine tree_a rfl (fun K hK => ?_)
  go_simp
  have h9 := refUnder_any (numOf a) (grp k).size (grp k).q.m (grp k).p.m a40 aq ap c40 cq cp HNA.out hq1 hq16 HP1.out hp16 w40 HN40.out (HC.out.up HW40.out).q (HC.out.up HW40.out).p
  rw [HRU.out] at h9
  refine h9.mono ?_
  clear h9
  rintro e w41 ⟨a41, c41, rfl, hn9, hb9⟩
  have HN41 := Lib.hid hn9
  have HW41 := Lib.hid (below_up HW40.out hb9)
  have HU41 := Lib.hid hb9
  clear hn9 hb9
  refine hK _ _ ⟨⟨⟨w41, HW41.out⟩, rfl⟩, ?_⟩
  clear hK K
  repeat (refine tree_q rfl rfl ?_; go_big_quiet_step (fail); refine wpQuiet_nil ?_)
  refine tree_a rfl (fun K hK => ?_)
  go_simp
  refine (refText_any ru (grp k).size a41 c41 HDU.out (by omega) w41 HN41.out).mono ?_
  rintro e w42 ⟨rfl, hb9⟩
  have HW42 := Lib.hid (below_up HW41.out hb9)
  clear hb9
  refine hK _ _ ⟨⟨⟨w42, HW42.out⟩, rfl⟩, ?_⟩
  clear hK K
  repeat (refine tree_q rfl rfl ?_; go_big_quiet_step (fail); refine wpQuiet_nil ?_)
  refine tree_end ?_
  have HC9 := Lib.hid (HC.out.up HW42.out)
  clear hov hzl
  clear HC hz_0 hz_1 hz_2
  have HC := HC9
  clear HC9
  have hz_0 := HC.out.z.cell (i := 0) rfl
  have hz_1 := HC.out.z.cell (i := 1) rfl
  have hz_2 := HC.out.z.cell (i := 2) rfl
  go_wp2_with fail
  refine (HT.out w42).mono ?_
  rintro e w50 ⟨rfl, hb9⟩
  have HC9 := Lib.hid (HC.out.up hb9)
  clear hb9
  clear HC hz_0 hz_1 hz_2
  have HC := HC9
  clear HC9
  have hz_0 := HC.out.z.cell (i := 0) rfl
  have hz_1 := HC.out.z.cell (i := 1) rfl
  have hz_2 := HC.out.z.cell (i := 2) rfl
  go_wp2_with fail
  refine (lawText_err ⟨#[]⟩ 7 (by omega) w50).mono ?_
  rintro e w51 ⟨rfl, hb9⟩
  have HC9 := Lib.hid (HC.out.up hb9)
  clear hb9
  clear HC hz_0 hz_1 hz_2
  have HC := HC9
  clear HC9
  have hz_0 := HC.out.z.cell (i := 0) rfl
  have hz_1 := HC.out.z.cell (i := 1) rfl
  have hz_2 := HC.out.z.cell (i := 2) rfl
  go_wp2_with fail
  refine (HP.out w51).mono ?_
  rintro e w52 ⟨rfl, hb9⟩
  have HC9 := Lib.hid (HC.out.up hb9)
  clear hb9
  clear HC hz_0 hz_1 hz_2
  have HC := HC9
  clear HC9
  have hz_0 := HC.out.z.cell (i := 0) rfl
  have hz_1 := HC.out.z.cell (i := 1) rfl
  have hz_2 := HC.out.z.cell (i := 2) rfl
  go_wp2_with fail
  refine (lawText_ok (textS rp (grp k).size) w52).mono ?_
  rintro e w53 ⟨rfl, hb9⟩
  have HC9 := Lib.hid (HC.out.up hb9)
  clear hb9
  clear HC hz_0 hz_1 hz_2
  have HC := HC9
  clear HC9
  have hz_0 := HC.out.z.cell (i := 0) rfl
  have hz_1 := HC.out.z.cell (i := 1) rfl
  have hz_2 := HC.out.z.cell (i := 2) rfl
  go_wp2_with fail
  refine (HU.out w53).mono ?_
  rintro e w54 ⟨rfl, hb9⟩
  have HC9 := Lib.hid (HC.out.up hb9)
  clear hb9
  clear HC hz_0 hz_1 hz_2
  have HC := HC9
  clear HC9
  have hz_0 := HC.out.z.cell (i := 0) rfl
  have hz_1 := HC.out.z.cell (i := 1) rfl
  have hz_2 := HC.out.z.cell (i := 2) rfl
  go_wp2_with fail
  refine (lawText_ok (textS ru (grp k).size) w54).mono ?_
  rintro e w55 ⟨rfl, hb9⟩
  have HC9 := Lib.hid (HC.out.up hb9)
  clear hb9
  clear HC hz_0 hz_1 hz_2
  have HC := HC9
  clear HC9
  have hz_0 := HC.out.z.cell (i := 0) rfl
  have hz_1 := HC.out.z.cell (i := 1) rfl
  have hz_2 := HC.out.z.cell (i := 2) rfl
  go_wp2_with fail
  go_ret
  exact ⟨rfl, HC.out.b⟩

set_option maxRecDepth 100000 in
set_option maxHeartbeats 3000000 in
theorem groupElems_yy (k : Nat) (h1 : 1 ≤ k) (h3 : k ≤ 3) (a b n : ByteArray) (hba : isEl (grp k).q.m (grp k).size a = true) (hbb : isEl (grp k).q.m (grp k).size b = true) (hbn : isSc (grp k).q.m (grp k).size n = true) (w : World) : Calls Try.prog 8 #[.int .i64 (k : Int), .string a, .string b, .string n] w fun e w' => e = .returned (.bool true) ∧ Below w.heap.size w w' := by
  obtain ⟨hlq, hlp⟩ := grp_small k h1 h3
  have hsz : (grp k).size ≤ 32 := (grp_ok k h1 h3).size_le
  have hq0 : 0 < (grp k).q.m := (grp_ok k h1 h3).q.pos
  have hq16 : (grp k).q.m < DD ^ 16 := (grp_ok k h1 h3).q.lt4
  have hp0 : 0 < (grp k).p.m := (grp_ok k h1 h3).p.pos
  have hp16 : (grp k).p.m < DD ^ 16 := (grp_ok k h1 h3).p.lt4
  have hs0 : (((grp k).size : Int) == 0) = false := by
    obtain rfl | rfl | rfl : k = 1 ∨ k = 2 ∨ k = 3 := by omega
    all_goals rfl
  have hp1 : 1 < (grp k).p.m := by have := (grp_ok k h1 h3).twice; omega
  have htw : (grp k).p.m = 2 * (grp k).q.m + 1 := (grp_ok k h1 h3).twice
  have hA9 := isEl_facts hba
  have HLA : Hid (a.size ≤ 1048576) := by show _ ≤ _; omega
  have HNA : Hid (numOf a < DD ^ 16) := Nat.lt_of_le_of_lt hA9.2.2 hq16
  have hund : lowR (grp k).q.m (grp k).p.m (numOf a ^ ((grp k).p.m - 2) % (grp k).p.m) = lowR (grp k).q.m (grp k).p.m (numOf a ^ ((grp k).q.m - 1) % (grp k).p.m) := under_low (grp_prime_p k h1 h3) htw hq0 hA9.2.1 hA9.2.2
  obtain ⟨ru, hru⟩ : ∃ r, lowR (grp k).q.m (grp k).p.m (numOf a ^ ((grp k).q.m - 1) % (grp k).p.m) = r := ⟨_, rfl⟩
  have hru16 : ru < DD ^ 16 := by
    have := lowR_leq (q := (grp k).q.m) htw (Nat.mod_lt (numOf a ^ ((grp k).q.m - 1)) hp0)
    omega
  have HDU : Hid (dl ru ≤ 1048576) := small_dl _ hru16
  rw [hru] at hund
  have hT := fun W => Times_some k h1 h3 a b W
  have hP := fun W => Power_some k h1 h3 a n W
  have hU := fun W => Under_some k h1 h3 a W
  rw [show undV (grp k) a = textS ru (grp k).size by unfold undV; rw [if_pos hba]; exact congrArg (textS · _) hund, show undE (grp k) a = 0 by unfold undE; rw [if_pos hba]] at hU
  have hB9 := isEl_facts hbb
  have HLB : Hid (b.size ≤ 1048576) := by show _ ≤ _; omega
  have HNB : Hid (numOf b < DD ^ 16) := Nat.lt_of_le_of_lt hB9.2.2 hq16
  obtain ⟨rt, hrt⟩ : ∃ r, lowR (grp k).q.m (grp k).p.m (numOf a * numOf b % (grp k).p.m) = r := ⟨_, rfl⟩
  have hrt16 : rt < DD ^ 16 := by
    have := lowR_leq (q := (grp k).q.m) htw (Nat.mod_lt (numOf a * numOf b) hp0)
    omega
  have HDT : Hid (dl rt ≤ 1048576) := small_dl _ hrt16
  have ht9 : timV (grp k) a b = textS rt (grp k).size := by unfold timV; rw [hba, hbb]; exact congrArg (textS · _) hrt
  have ht8 : timE (grp k) a b = 0 := by unfold timE; rw [hba, hbb]; rfl
  rw [ht9, ht8] at hT
  have HRT := Lib.hid hrt
  clear ht9 ht8 hrt hrt16 hB9
  have hN9 := isSc_facts hbn
  have HLN : Hid (n.size ≤ 1048576) := by show _ ≤ _; omega
  have HDN : Hid (dl (numOf n) ≤ 65536) := Nat.le_trans (dl_of_lt (numOf n) 16 (Nat.lt_trans hN9.2 hq16)) (by decide)
  obtain ⟨rp, hrp⟩ : ∃ r, lowR (grp k).q.m (grp k).p.m (numOf a ^ numOf n % (grp k).p.m) = r := ⟨_, rfl⟩
  have hrp16 : rp < DD ^ 16 := by
    have := lowR_leq (q := (grp k).q.m) htw (Nat.mod_lt (numOf a ^ numOf n) hp0)
    omega
  have HDP : Hid (dl rp ≤ 1048576) := small_dl _ hrp16
  have ht9 : powV (grp k) a n = textS rp (grp k).size := by unfold powV; rw [hba, hbn]; exact congrArg (textS · _) hrp
  have ht8 : powE (grp k) a n = 0 := by unfold powE; rw [hba, hbn]; rfl
  rw [ht9, ht8] at hP
  have HRP := Lib.hid hrp
  clear ht9 ht8 hrp hrp16 hN9
  have HT := Lib.hid hT
  have HP := Lib.hid hP
  have HU := Lib.hid hU
  have HBA := Lib.hid hba
  have HBB := Lib.hid hbb
  have HBN := Lib.hid hbn
  have HRU := Lib.hid hru
  have HP1 := Lib.hid hp1
  have hq1 : 1 ≤ (grp k).q.m := hq0
  clear hba hbb hbn hT hP hU hA9 hund hru htw hru16 hp1
  go_enter Try.func8, Try.ntmps8
  go_wp2_with fail
  refine (refKind_some k h1 h3 w).mono ?_
  rintro e w1 ⟨aq, cq, ap, cp, rfl, hq, hp, hb1⟩
  have u1 : Below w1.heap.size w1 (w1.alloc (.cells #[.int .i64 ((grp k).size : Int), .slice aq (dl (grp k).q.m) cq, .slice ap (dl (grp k).p.m) cp] 25)) := (Below.refl _ _).alloc (Nat.le_refl _) _
  have hc : Car w (w1.alloc (.cells #[.int .i64 ((grp k).size : Int), .slice aq (dl (grp k).q.m) cq, .slice ap (dl (grp k).p.m) cp] 25)) w1.heap.size 25 (grp k).size (grp k).q.m (grp k).p.m aq ap cq cp none none 0 0 := ⟨below_up (hb1) u1, Bx.new w1 _ _ _ rfl, hq.up u1, hp.up u1, NumAt.zero _ _, NumAt.zero _ _⟩
  obtain ⟨W2, hW2⟩ : ∃ W9 : World, (w1.alloc (.cells #[.int .i64 ((grp k).size : Int), .slice aq (dl (grp k).q.m) cq, .slice ap (dl (grp k).p.m) cp] 25)) = W9 := ⟨_, rfl⟩
  rw [hW2] at hc
  have HC := Lib.hid hc
  have HZL := Lib.hid (Bx.lt (HC.out.z))
  clear hc hq hp hb1 u1
  have hz_0 := HC.out.z.cell (i := 0) rfl
  have hz_1 := HC.out.z.cell (i := 1) rfl
  have hz_2 := HC.out.z.cell (i := 2) rfl
  go_wp2_with fail
  refine ((HBA.out ▸ refIsElem_any a (grp k).size (grp k).q.m (grp k).p.m aq ap cq cp hsz W2 HC.out.q)).mono ?_
  rintro e w3 ⟨rfl, hb9⟩
  have HC9 := Lib.hid (HC.out.up hb9)
  clear hb9
  clear HC hz_0 hz_1 hz_2
  have HC := HC9
  clear HC9
  have hz_0 := HC.out.z.cell (i := 0) rfl
  have hz_1 := HC.out.z.cell (i := 1) rfl
  have hz_2 := HC.out.z.cell (i := 2) rfl
  go_wp2_with fail
  refine ((HBB.out ▸ refIsElem_any b (grp k).size (grp k).q.m (grp k).p.m aq ap cq cp hsz w3 HC.out.q)).mono ?_
  rintro e w4 ⟨rfl, hb9⟩
  have HC9 := Lib.hid (HC.out.up hb9)
  clear hb9
  clear HC hz_0 hz_1 hz_2
  have HC := HC9
  clear HC9
  have hz_0 := HC.out.z.cell (i := 0) rfl
  have hz_1 := HC.out.z.cell (i := 1) rfl
  have hz_2 := HC.out.z.cell (i := 2) rfl
  go_wp2_with fail
  refine ((HBN.out ▸ refIsScalar_any n (grp k).size (grp k).q.m (grp k).p.m aq ap cq cp hsz w4 HC.out.q)).mono ?_
  rintro e w5 ⟨rfl, hb9⟩
  have HC9 := Lib.hid (HC.out.up hb9)
  clear hb9
  clear HC hz_0 hz_1 hz_2
  have HC := HC9
  clear HC9
  have hz_0 := HC.out.z.cell (i := 0) rfl
  have hz_1 := HC.out.z.cell (i := 1) rfl
  have hz_2 := HC.out.z.cell (i := 2) rfl
  go_wp2_with fail
  have HW0 : Hid (Below w5.heap.size w5 w5.drew) := (Below.refl _ _).drew
  have hzl := HC.out.z.lt
  refine wp_region_tree (fun w' => ∃ E : Over w5, w' = E.w) (.qs [0, 1, 3, 6, 7] (.a 2 (.a 4 (.a 5 (.a 8 (.q 9 .done)))))) (by kernel_rfl) (by kernel_rfl) (fun _ _ d _ _ h => by cases d <;> exact h) ⟨⟨_, HW0.out⟩, rfl⟩ ?_
  have hov := fun (E : Over w5) o => E.cell (b := w1.heap.size) o hzl
  simp only [Tree.qs]
  repeat (refine tree_q rfl rfl ?_; go_big_quiet_step (fail); refine wpQuiet_nil ?_)
  refine tree_a rfl (fun K hK => ?_)
  go_simp
  refine (refRead_any a HLA.out w5.drew).mono ?_
  rintro e w20 ⟨a20, c20, rfl, hn9, hb9⟩
  have HN20 := Lib.hid hn9
  have HW20 := Lib.hid (below_up HW0.out hb9)
  have HU20 := Lib.hid hb9
  clear hn9 hb9
  refine hK _ _ ⟨⟨⟨w20, HW20.out⟩, rfl⟩, ?_⟩
  clear hK K
  repeat (refine tree_q rfl rfl ?_; go_big_quiet_step (fail); refine wpQuiet_nil ?_)
  refine tree_a rfl (fun K hK => ?_)
  go_simp
  refine (refRead_any b HLB.out w20).mono ?_
  rintro e w21 ⟨a21, c21, rfl, hn9, hb9⟩
  have HN21 := Lib.hid hn9
  have HW21 := Lib.hid (below_up HW20.out hb9)
  have HU21 := Lib.hid hb9
  clear hn9 hb9
  refine hK _ _ ⟨⟨⟨w21, HW21.out⟩, rfl⟩, ?_⟩
  clear hK K
  repeat (refine tree_q rfl rfl ?_; go_big_quiet_step (fail); refine wpQuiet_nil ?_)
  refine tree_a rfl (fun K hK => ?_)
  go_simp
  have h9 := refProduct_any (numOf a) (numOf b) (grp k).size (grp k).q.m (grp k).p.m a20 a21 aq ap c20 c21 cq cp HNA.out HNB.out hp0 hp16 w21 (HN20.out.up HU21.out) HN21.out (HC.out.up HW21.out).q (HC.out.up HW21.out).p
  rw [HRT.out] at h9
  refine h9.mono ?_
  clear h9
  rintro e w22 ⟨a22, c22, rfl, hn9, hb9⟩
  have HN22 := Lib.hid hn9
  have HW22 := Lib.hid (below_up HW21.out hb9)
  have HU22 := Lib.hid hb9
  clear hn9 hb9
  refine hK _ _ ⟨⟨⟨w22, HW22.out⟩, rfl⟩, ?_⟩
  clear hK K
  repeat (refine tree_q rfl rfl ?_; go_big_quiet_step (fail); refine wpQuiet_nil ?_)
  refine tree_a rfl (fun K hK => ?_)
  go_simp
  refine (refText_any rt (grp k).size a22 c22 HDT.out (by omega) w22 HN22.out).mono ?_
  rintro e w23 ⟨rfl, hb9⟩
  have HW23 := Lib.hid (below_up HW22.out hb9)
  clear hb9
  refine hK _ _ ⟨⟨⟨w23, HW23.out⟩, rfl⟩, ?_⟩
  clear hK K
  repeat (refine tree_q rfl rfl ?_; go_big_quiet_step (fail); refine wpQuiet_nil ?_)
  refine tree_end ?_
  have HC9 := Lib.hid (HC.out.up HW23.out)
  clear hov hzl
  clear HC hz_0 hz_1 hz_2
  have HC := HC9
  clear HC9
  have hz_0 := HC.out.z.cell (i := 0) rfl
  have hz_1 := HC.out.z.cell (i := 1) rfl
  have hz_2 := HC.out.z.cell (i := 2) rfl
  go_wp2_with fail
  have HW0 : Hid (Below w23.heap.size w23 w23.drew) := (Below.refl _ _).drew
  have hzl := HC.out.z.lt
  refine wp_region_tree (fun w' => ∃ E : Over w23, w' = E.w) (.qs [0, 1, 3, 6, 7] (.a 2 (.a 4 (.a 5 (.a 8 (.q 9 .done)))))) (by kernel_rfl) (by kernel_rfl) (fun _ _ d _ _ h => by cases d <;> exact h) ⟨⟨_, HW0.out⟩, rfl⟩ ?_
  have hov := fun (E : Over w23) o => E.cell (b := w1.heap.size) o hzl
  simp only [Tree.qs]
  repeat (refine tree_q rfl rfl ?_; go_big_quiet_step (fail); refine wpQuiet_nil ?_)
  refine tree_a rfl (fun K hK => ?_)
  go_simp
  refine (refRead_any a HLA.out w23.drew).mono ?_
  rintro e w30 ⟨a30, c30, rfl, hn9, hb9⟩
  have HN30 := Lib.hid hn9
  have HW30 := Lib.hid (below_up HW0.out hb9)
  have HU30 := Lib.hid hb9
  clear hn9 hb9
  refine hK _ _ ⟨⟨⟨w30, HW30.out⟩, rfl⟩, ?_⟩
  clear hK K
  repeat (refine tree_q rfl rfl ?_; go_big_quiet_step (fail); refine wpQuiet_nil ?_)
  refine tree_a rfl (fun K hK => ?_)
  go_simp
  refine (refRead_any n HLN.out w30).mono ?_
  rintro e w31 ⟨a31, c31, rfl, hn9, hb9⟩
  have HN31 := Lib.hid hn9
  have HW31 := Lib.hid (below_up HW30.out hb9)
  have HU31 := Lib.hid hb9
  clear hn9 hb9
  refine hK _ _ ⟨⟨⟨w31, HW31.out⟩, rfl⟩, ?_⟩
  clear hK K
  repeat (refine tree_q rfl rfl ?_; go_big_quiet_step (fail); refine wpQuiet_nil ?_)
  refine tree_a rfl (fun K hK => ?_)
  go_simp
  have h9 := refPow_any (numOf a) (numOf n) (grp k).size (grp k).q.m (grp k).p.m a30 a31 aq ap c30 c31 cq cp HNA.out HDN.out HP1.out hp16 w31 (HN30.out.up HU31.out) HN31.out (HC.out.up HW31.out).q (HC.out.up HW31.out).p
  rw [HRP.out] at h9
  refine h9.mono ?_
  clear h9
  rintro e w32 ⟨a32, c32, rfl, hn9, hb9⟩
  have HN32 := Lib.hid hn9
  have HW32 := Lib.hid (below_up HW31.out hb9)
  have HU32 := Lib.hid hb9
  clear hn9 hb9
  refine hK _ _ ⟨⟨⟨w32, HW32.out⟩, rfl⟩, ?_⟩
  clear hK K
  repeat (refine tree_q rfl rfl ?_; go_big_quiet_step (fail); refine wpQuiet_nil ?_)
  refine tree_a rfl (fun K hK => ?_)
  go_simp
  refine (refText_any rp (grp k).size a32 c32 HDP.out (by omega) w32 HN32.out).mono ?_
  rintro e w33 ⟨rfl, hb9⟩
  have HW33 := Lib.hid (below_up HW32.out hb9)
  clear hb9
  refine hK _ _ ⟨⟨⟨w33, HW33.out⟩, rfl⟩, ?_⟩
  clear hK K
  repeat (refine tree_q rfl rfl ?_; go_big_quiet_step (fail); refine wpQuiet_nil ?_)
  refine tree_end ?_
  have HC9 := Lib.hid (HC.out.up HW33.out)
  clear hov hzl
  clear HC hz_0 hz_1 hz_2
  have HC := HC9
  clear HC9
  have hz_0 := HC.out.z.cell (i := 0) rfl
  have hz_1 := HC.out.z.cell (i := 1) rfl
  have hz_2 := HC.out.z.cell (i := 2) rfl
  go_wp2_with fail
  have HW0 : Hid (Below w33.heap.size w33 w33.drew) := (Below.refl _ _).drew
  have hzl := HC.out.z.lt
  refine wp_region_tree (fun w' => ∃ E : Over w33, w' = E.w) (.qs [0, 1, 4, 5] (.a 2 (.a 3 (.a 6 (.q 7 .done))))) (by kernel_rfl) (by kernel_rfl) (fun _ _ d _ _ h => by cases d <;> exact h) ⟨⟨_, HW0.out⟩, rfl⟩ ?_
  have hov := fun (E : Over w33) o => E.cell (b := w1.heap.size) o hzl
  simp only [Tree.qs]
  repeat (refine tree_q rfl rfl ?_; go_big_quiet_step (fail); refine wpQuiet_nil ?_)
  refine tree_a rfl (fun K hK => ?_)
  go_simp
  refine (refRead_any a HLA.out w33.drew).mono ?_
  rintro e w40 ⟨a40, c40, rfl, hn9, hb9⟩
  have HN40 := Lib.hid hn9
  have HW40 := Lib.hid (below_up HW0.out hb9)
  have HU40 := Lib.hid hb9
  clear hn9 hb9
  refine hK _ _ ⟨⟨⟨w40, HW40.out⟩, rfl⟩, ?_⟩
  clear hK K
  repeat (refine tree_q rfl rfl ?_; go_big_quiet_step (fail); refine wpQuiet_nil ?_)
  refine tree_a rfl (fun K hK => ?_)
  go_simp
  have h9 := refUnder_any (numOf a) (grp k).size (grp k).q.m (grp k).p.m a40 aq ap c40 cq cp HNA.out hq1 hq16 HP1.out hp16 w40 HN40.out (HC.out.up HW40.out).q (HC.out.up HW40.out).p
  rw [HRU.out] at h9
  refine h9.mono ?_
  clear h9
  rintro e w41 ⟨a41, c41, rfl, hn9, hb9⟩
  have HN41 := Lib.hid hn9
  have HW41 := Lib.hid (below_up HW40.out hb9)
  have HU41 := Lib.hid hb9
  clear hn9 hb9
  refine hK _ _ ⟨⟨⟨w41, HW41.out⟩, rfl⟩, ?_⟩
  clear hK K
  repeat (refine tree_q rfl rfl ?_; go_big_quiet_step (fail); refine wpQuiet_nil ?_)
  refine tree_a rfl (fun K hK => ?_)
  go_simp
  refine (refText_any ru (grp k).size a41 c41 HDU.out (by omega) w41 HN41.out).mono ?_
  rintro e w42 ⟨rfl, hb9⟩
  have HW42 := Lib.hid (below_up HW41.out hb9)
  clear hb9
  refine hK _ _ ⟨⟨⟨w42, HW42.out⟩, rfl⟩, ?_⟩
  clear hK K
  repeat (refine tree_q rfl rfl ?_; go_big_quiet_step (fail); refine wpQuiet_nil ?_)
  refine tree_end ?_
  have HC9 := Lib.hid (HC.out.up HW42.out)
  clear hov hzl
  clear HC hz_0 hz_1 hz_2
  have HC := HC9
  clear HC9
  have hz_0 := HC.out.z.cell (i := 0) rfl
  have hz_1 := HC.out.z.cell (i := 1) rfl
  have hz_2 := HC.out.z.cell (i := 2) rfl
  go_wp2_with fail
  refine (HT.out w42).mono ?_
  rintro e w50 ⟨rfl, hb9⟩
  have HC9 := Lib.hid (HC.out.up hb9)
  clear hb9
  clear HC hz_0 hz_1 hz_2
  have HC := HC9
  clear HC9
  have hz_0 := HC.out.z.cell (i := 0) rfl
  have hz_1 := HC.out.z.cell (i := 1) rfl
  have hz_2 := HC.out.z.cell (i := 2) rfl
  go_wp2_with fail
  refine (lawText_ok (textS rt (grp k).size) w50).mono ?_
  rintro e w51 ⟨rfl, hb9⟩
  have HC9 := Lib.hid (HC.out.up hb9)
  clear hb9
  clear HC hz_0 hz_1 hz_2
  have HC := HC9
  clear HC9
  have hz_0 := HC.out.z.cell (i := 0) rfl
  have hz_1 := HC.out.z.cell (i := 1) rfl
  have hz_2 := HC.out.z.cell (i := 2) rfl
  go_wp2_with fail
  refine (HP.out w51).mono ?_
  rintro e w52 ⟨rfl, hb9⟩
  have HC9 := Lib.hid (HC.out.up hb9)
  clear hb9
  clear HC hz_0 hz_1 hz_2
  have HC := HC9
  clear HC9
  have hz_0 := HC.out.z.cell (i := 0) rfl
  have hz_1 := HC.out.z.cell (i := 1) rfl
  have hz_2 := HC.out.z.cell (i := 2) rfl
  go_wp2_with fail
  refine (lawText_ok (textS rp (grp k).size) w52).mono ?_
  rintro e w53 ⟨rfl, hb9⟩
  have HC9 := Lib.hid (HC.out.up hb9)
  clear hb9
  clear HC hz_0 hz_1 hz_2
  have HC := HC9
  clear HC9
  have hz_0 := HC.out.z.cell (i := 0) rfl
  have hz_1 := HC.out.z.cell (i := 1) rfl
  have hz_2 := HC.out.z.cell (i := 2) rfl
  go_wp2_with fail
  refine (HU.out w53).mono ?_
  rintro e w54 ⟨rfl, hb9⟩
  have HC9 := Lib.hid (HC.out.up hb9)
  clear hb9
  clear HC hz_0 hz_1 hz_2
  have HC := HC9
  clear HC9
  have hz_0 := HC.out.z.cell (i := 0) rfl
  have hz_1 := HC.out.z.cell (i := 1) rfl
  have hz_2 := HC.out.z.cell (i := 2) rfl
  go_wp2_with fail
  refine (lawText_ok (textS ru (grp k).size) w54).mono ?_
  rintro e w55 ⟨rfl, hb9⟩
  have HC9 := Lib.hid (HC.out.up hb9)
  clear hb9
  clear HC hz_0 hz_1 hz_2
  have HC := HC9
  clear HC9
  have hz_0 := HC.out.z.cell (i := 0) rfl
  have hz_1 := HC.out.z.cell (i := 1) rfl
  have hz_2 := HC.out.z.cell (i := 2) rfl
  go_wp2_with fail
  go_ret
  exact ⟨rfl, HC.out.b⟩

theorem groupElems_any (k : Int) (a b n : ByteArray) (w : World) : Calls Try.prog 8 #[.int .i64 k, .string a, .string b, .string n] w fun e w' => e = .returned (.bool true) ∧ Below w.heap.size w w' := by
  by_cases hk : 1 ≤ k ∧ k ≤ 3
  · obtain ⟨j, rfl⟩ : ∃ j : Nat, k = j := ⟨k.toNat, by omega⟩
    cases hba : isEl (grp j).q.m (grp j).size a with
    | false => exact groupElems_no j (by omega) (by omega) a b n hba w
    | true =>
      cases hbb : isEl (grp j).q.m (grp j).size b with
      | false =>
        cases hbn : isSc (grp j).q.m (grp j).size n with
        | false => exact groupElems_nn j (by omega) (by omega) a b n hba hbb hbn w
        | true => exact groupElems_ny j (by omega) (by omega) a b n hba hbb hbn w
      | true =>
        cases hbn : isSc (grp j).q.m (grp j).size n with
        | false => exact groupElems_yn j (by omega) (by omega) a b n hba hbb hbn w
        | true => exact groupElems_yy j (by omega) (by omega) a b n hba hbb hbn w
  · exact groupElems_none k hk a b n w

set_option maxRecDepth 100000 in
theorem groupElems_calls {H : Type} (enc : TypeId × Value → H) (W : World) (base : Nat) {v0 v1 v2 v3 : Value} {d0 d1 d2 d3 : DataW H} {p0 p1 p2 p3 : List MemPlace}
    (h0 : DataW.Trod enc Try.prog W 0 (fun _ => true) true 3 v0 d0 p0) (h1 : DataW.Trod enc Try.prog W 0 (fun _ => true) true 9 v1 d1 p1) (h2 : DataW.Trod enc Try.prog W 0 (fun _ => true) true 9 v2 d2 p2) (h3 : DataW.Trod enc Try.prog W 0 (fun _ => true) true 9 v3 d3 p3)
    (k0 : Value.okWide Try.prog W .any base 3 v0) (k1 : Value.okWide Try.prog W .any base 9 v1) (k2 : Value.okWide Try.prog W .any base 9 v2) (k3 : Value.okWide Try.prog W .any base 9 v3)
    (_lt0 : ∀ x ∈ p0, x.block < W.heap.size) (_lt1 : ∀ x ∈ p1, x.block < W.heap.size) (_lt2 : ∀ x ∈ p2, x.block < W.heap.size) (_lt3 : ∀ x ∈ p3, x.block < W.heap.size)
    (_hsz : (DataW.weightsEach Try.prog ([3, 9, 9, 9] ++ Rows.groupElemsSpec.plain.varTypes Try.prog) ([d0, d1, d2, d3] ++ [])).all (· ≤ reachBytes) = true) :
    Calls Try.prog 8 #[v0, v1, v2, v3] W fun e w' => e = .returned (.bool true) ∧ Below W.heap.size W w' := by
  obtain ⟨a, rfl, _, _, _⟩ := open_int Try.underlying3 k0 h0
  obtain ⟨s, rfl, _⟩ := Go.ChangeMaps.open_string Try.underlying9 k1 h1
  obtain ⟨n, rfl, _⟩ := Go.ChangeMaps.open_string Try.underlying9 k2 h2
  obtain ⟨m, rfl, _⟩ := Go.ChangeMaps.open_string Try.underlying9 k3 h3
  exact groupElems_any a s n m W

set_option maxRecDepth 100000 in
theorem groupElems_lifted (os : Os) (started : os.Started) (H : Type) (enc : TypeId × Value → H) :
    ReturnsInHanded {} Try.checked os 8 .any (Rows.groupElemsSpec.pre6 enc Try.prog Try.f8 Rows.groupElemsRow.domain false) (Rows.groupElemsSpec.post enc Try.prog Try.f8 false true false false) := by
  refine returnsInHanded_of_change_sized (C := Try.checked) law_own started (by kernel_rfl) Try.func8
    (ChangeSpec.witness6 (enc := enc) (C := Try.checked) false ⟨#[], #[.int .i64 0, .string ⟨#[]⟩, .string ⟨#[]⟩, .string ⟨#[]⟩], []⟩ 8 (by kernel_rfl) (by kernel_rfl) (by kernel_rfl) (by kernel_rfl)) ?_
  intro W base args ds gs before hval0 hW _ hsz0 _
  have hsz : (DataW.weightsEach Try.prog (Try.f8.params.toList ++ Rows.groupElemsSpec.plain.varTypes Try.prog) (ds ++ gs)).all (· ≤ reachBytes) = true := hsz0
  clear hsz0
  have hval : ∀ (j : Nat) t v, Try.f8.params[j]? = some t → args[j]? = some v → Value.okWide Try.prog W .any base t v := hval0
  have hW' := hW
  obtain ⟨p, q, hA0, hV, rfl, _, _⟩ := hW
  have hA : DataW.TrodAll enc Try.prog W 0 (fun _ => true) true Try.f8.params.toList args.toList ds p := hA0
  rw [Try.params8] at hA hval hsz
  obtain ⟨v0, vs0, d0, ds0, p0, q0, hargs, rfl, rfl, h0, r0⟩ := trodAll_cons hA
  obtain ⟨v1, vs1, d1, ds1, p1, q1, rfl, rfl, rfl, h1, r1⟩ := trodAll_cons r0
  obtain ⟨v2, vs2, d2, ds2, p2, q2, rfl, rfl, rfl, h2, r2⟩ := trodAll_cons r1
  obtain ⟨v3, vs3, d3, ds3, p3, q3, rfl, rfl, rfl, h3, r3⟩ := trodAll_cons r2
  obtain ⟨rfl, rfl, rfl⟩ := trodAll_nil r3
  obtain rfl : args = #[v0, v1, v2, v3] := by cases args; simp_all
  obtain ⟨rfl, rfl⟩ := trodVars_none hV
  have lt0 : ∀ x ∈ p0, x.block < W.heap.size := by obtain ⟨m, hm⟩ := h0; exact DataW.trod_lt m _ _ _ hm
  have lt1 : ∀ x ∈ p1, x.block < W.heap.size := by obtain ⟨m, hm⟩ := h1; exact DataW.trod_lt m _ _ _ hm
  have lt2 : ∀ x ∈ p2, x.block < W.heap.size := by obtain ⟨m, hm⟩ := h2; exact DataW.trod_lt m _ _ _ hm
  have lt3 : ∀ x ∈ p3, x.block < W.heap.size := by obtain ⟨m, hm⟩ := h3; exact DataW.trod_lt m _ _ _ hm
  clear hA0 hval0
  refine (groupElems_calls enc W base h0 h1 h2 h3 (hval 0 3 v0 rfl rfl) (hval 1 9 v1 rfl rfl) (hval 2 9 v2 rfl rfl) (hval 3 9 v3 rfl rfl) lt0 lt1 lt2 lt3 hsz).mono fun e W' ⟨he, bel⟩ => ?_
  subst he
  exact ⟨_, rfl, _, _, _, [], _, [], hW', trodAll_mk1 (shut_bool Try.underlying4 _), (trodAll_cons_mk (Below.trod law_laidOut (by kernel_rfl) (of_decide_eq_true (by kernel_rfl)) h0 bel lt0) (trodAll_cons_mk (Below.trod law_laidOut (by kernel_rfl) (of_decide_eq_true (by kernel_rfl)) h1 bel lt1) (trodAll_cons_mk (Below.trod law_laidOut (by kernel_rfl) (of_decide_eq_true (by kernel_rfl)) h2 bel lt2) (trodAll_cons_mk (Below.trod law_laidOut (by kernel_rfl) (of_decide_eq_true (by kernel_rfl)) h3 bel lt3) trodAll_mk0)))), rfl, bel.frame _, fun h => by cases h⟩

theorem groupElems_holds : Rows.GroupElemsSaid :=
  OpenClaim.holds_of_wide 8 Try.f8 rfl rfl rfl rfl rfl rfl rfl ⟨rfl, rfl, rfl, rfl, rfl⟩ rfl rfl rfl rfl rfl (by kernel_rfl) Try.func8 (by kernel_rfl)
    (of_decide_eq_true (by kernel_rfl)) (by unfold Func.isWrapper; first | (rw [if_pos (by decide +kernel)]; kernel_rfl) | (rw [if_neg (by decide +kernel)]; exact ⟨rfl, rfl⟩))
    (fun os started H enc _ => groupElems_lifted os started H enc)
#print axioms groupElems_holds



end Go.Proofs.Ytdmldnpadojflaa

/- GroupLaw: products of elements, and powers that add up. No condition. -/
namespace Go.Proofs.Ytdmldnpadojflaa
open Go.ChangeShapes Go.WideShapes Go.ChangeAt Go.RowKit

theorem rows2 (w : World) (c1 c2 : List Value) (a1 a2 : Array Value) (e1 : a1 = c1.toArray) (e2 : a2 = c2.toArray) (t1 t2 : TypeId) :
    Below w.heap.size w ((w.alloc (.cells a1 t1)).alloc (.cells a2 t2)) ∧ Bx ((w.alloc (.cells a1 t1)).alloc (.cells a2 t2)) w.heap.size t1 c1 ∧ Bx ((w.alloc (.cells a1 t1)).alloc (.cells a2 t2)) (w.heap.size + 1) t2 c2 := by
  have b1 : Below w.heap.size w (w.alloc (.cells a1 t1)) := (Below.refl _ _).alloc (Nat.le_refl _) _
  have b2 : Below (w.alloc (.cells a1 t1)).heap.size (w.alloc (.cells a1 t1)) ((w.alloc (.cells a1 t1)).alloc (.cells a2 t2)) := (Below.refl _ _).alloc (Nat.le_refl _) _
  refine ⟨below_up b1 b2, (Bx.new w _ _ _ e1).up b2, ?_⟩
  have h := Bx.new (w.alloc (.cells a1 t1)) t2 c2 _ e2
  rwa [World.size_alloc] at h

theorem base_t (k : Nat) (h1 : 1 ≤ k) (h3 : k ≤ 3) (w : World) : Calls Try.prog 19 #[.int .i64 (k : Int)] w (Ans (.string (T (grp k) 2)) 0 w) := Base_some k h1 h3 w

theorem product2_t (k : Nat) (h1 : 1 ≤ k) (h3 : k ≤ 3) (x y m n r : Nat) (hx0 : 0 < x) (hx : x ≤ (grp k).q.m) (hy0 : 0 < y) (hy : y ≤ (grp k).q.m) (hm : m < (grp k).q.m) (hn : n < (grp k).q.m) (hr : Lw (grp k).q.m (grp k).p.m (x ^ m * y ^ n) = r)
    (aa an : Option Addr) (w : World) (hA : Sl w w.heap.size aa [.string (T (grp k) x), .string (T (grp k) y)]) (hN : Sl w w.heap.size an [.string (T (grp k) m), .string (T (grp k) n)]) :
    Calls Try.prog 21 #[.int .i64 (k : Int), .slice aa 2 2, .slice an 2 2] w (Ans (.string (T (grp k) r)) 0 w) := by
  have ok := grp_ok k h1 h3
  have fit := grp_fits k h1 h3
  have h := Product_some k h1 h3 [T (grp k) x, T (grp k) y] [T (grp k) m, T (grp k) n] aa an 2 2 2 2 rfl rfl w hA hN
  have e1 : proV (grp k) [T (grp k) x, T (grp k) y] [T (grp k) m, T (grp k) n] = T (grp k) r := by
    unfold proV
    rw [if_neg (by simp), if_neg (by simp)]
    simp only [prodV, T_el ok fit hx0 hx, T_el ok fit hy0 hy, T_sc ok fit hm, T_sc ok fit hn, T_num ok hx fit, T_num ok hy fit, T_num ok (Nat.le_of_lt hm) fit, T_num ok (Nat.le_of_lt hn) fit, Nat.one_mul, Bool.true_eq_false, if_false]
    exact congrArg (textS · _) hr
  have e2 : proE (grp k) [T (grp k) x, T (grp k) y] [T (grp k) m, T (grp k) n] = 0 := by
    unfold proE
    rw [if_neg (by simp), if_neg (by simp)]
    simp only [prodE, T_el ok fit hx0 hx, T_el ok fit hy0 hy, T_sc ok fit hm, T_sc ok fit hn, Bool.true_eq_false, if_false]
  rwa [e1, e2] at h

set_option maxRecDepth 100000 in
set_option maxHeartbeats 400000 in
theorem groupLaw_none (k : Int) (hk : ¬ (1 ≤ k ∧ k ≤ 3)) (a b c m n : ByteArray) (w : World) : Calls Try.prog 12 #[.int .i64 k, .string a, .string b, .string c, .string m, .string n] w fun e w' => e = .returned (.bool true) ∧ Below w.heap.size w w' := by
  have HB : Hid (Below w.heap.size w w) := Below.refl _ _
  go_enter Try.func12, Try.ntmps12
  go_wp2_with fail
  refine (Base_none k hk w).mono ?_
  rintro e w1 ⟨rfl, hb9⟩
  have HB9 := Lib.hid (below_up HB.out hb9)
  clear hb9 HB
  have HB := HB9
  clear HB9
  go_wp2_with fail
  go_ret
  exact ⟨rfl, HB.out⟩


set_option maxRecDepth 100000 in
set_option maxHeartbeats 1000000 in
theorem groupLaw_not (k : Nat) (h1 : 1 ≤ k) (h3 : k ≤ 3) (a b c m n : ByteArray)
    (h : ¬ (isEl (grp k).q.m (grp k).size a = true ∧ isEl (grp k).q.m (grp k).size b = true ∧ isEl (grp k).q.m (grp k).size c = true ∧ isSc (grp k).q.m (grp k).size m = true ∧ isSc (grp k).q.m (grp k).size n = true)) (w : World) :
    Calls Try.prog 12 #[.int .i64 (k : Int), .string a, .string b, .string c, .string m, .string n] w fun e w' => e = .returned (.bool true) ∧ Below w.heap.size w w' := by
  have h2q : 2 ≤ (grp k).q.m := (grp_prime_q k h1 h3).1
  obtain ⟨ba, hba⟩ : ∃ x, isEl (grp k).q.m (grp k).size a = x := ⟨_, rfl⟩
  obtain ⟨bb, hbb⟩ : ∃ x, isEl (grp k).q.m (grp k).size b = x := ⟨_, rfl⟩
  obtain ⟨bc, hbc⟩ : ∃ x, isEl (grp k).q.m (grp k).size c = x := ⟨_, rfl⟩
  obtain ⟨bm, hbm⟩ : ∃ x, isSc (grp k).q.m (grp k).size m = x := ⟨_, rfl⟩
  obtain ⟨bn, hbn⟩ : ∃ x, isSc (grp k).q.m (grp k).size n = x := ⟨_, rfl⟩
  rw [hba, hbb, hbc, hbm, hbn] at h
  have HBA := Lib.hid hba
  have HBB := Lib.hid hbb
  have HBC := Lib.hid hbc
  have HBM := Lib.hid hbm
  have HBN := Lib.hid hbn
  clear hba hbb hbc hbm hbn
  have HB : Hid (Below w.heap.size w w) := Below.refl _ _
  go_enter Try.func12, Try.ntmps12
  go_wp2_with fail
  refine (base_t k h1 h3 w).mono ?_
  rintro e w1 ⟨rfl, hb9⟩
  have HB9 := Lib.hid (below_up HB.out hb9)
  clear hb9 HB
  have HB := HB9
  clear HB9
  go_wp2_with fail
  refine (memb_t k h1 h3 2 (by decide) h2q w1).mono ?_
  rintro e w2 ⟨rfl, hb9⟩
  have HB9 := Lib.hid (below_up HB.out hb9)
  clear hb9 HB
  have HB := HB9
  clear HB9
  go_wp2_with fail
  refine ((HBA.out ▸ Member_some k h1 h3 a w2)).mono ?_
  rintro e w3 ⟨rfl, hb9⟩
  have HB9 := Lib.hid (below_up HB.out hb9)
  clear hb9 HB
  have HB := HB9
  clear HB9
  cases ba
  · go_wp2_with fail
    go_ret
    exact ⟨rfl, HB.out⟩
  · go_wp2_with fail
    refine ((HBB.out ▸ Member_some k h1 h3 b w3)).mono ?_
    rintro e w4 ⟨rfl, hb9⟩
    have HB9 := Lib.hid (below_up HB.out hb9)
    clear hb9 HB
    have HB := HB9
    clear HB9
    cases bb
    · go_wp2_with fail
      go_ret
      exact ⟨rfl, HB.out⟩
    · go_wp2_with fail
      refine ((HBC.out ▸ Member_some k h1 h3 c w4)).mono ?_
      rintro e w5 ⟨rfl, hb9⟩
      have HB9 := Lib.hid (below_up HB.out hb9)
      clear hb9 HB
      have HB := HB9
      clear HB9
      cases bc
      · go_wp2_with fail
        go_ret
        exact ⟨rfl, HB.out⟩
      · go_wp2_with fail
        refine ((HBM.out ▸ Scalar_some k h1 h3 m w5)).mono ?_
        rintro e w6 ⟨rfl, hb9⟩
        have HB9 := Lib.hid (below_up HB.out hb9)
        clear hb9 HB
        have HB := HB9
        clear HB9
        cases bm
        · go_wp2_with fail
          go_ret
          exact ⟨rfl, HB.out⟩
        · go_wp2_with fail
          refine ((HBN.out ▸ Scalar_some k h1 h3 n w6)).mono ?_
          rintro e w7 ⟨rfl, hb9⟩
          have HB9 := Lib.hid (below_up HB.out hb9)
          clear hb9 HB
          have HB := HB9
          clear HB9
          cases bn
          · go_wp2_with fail
            go_ret
            exact ⟨rfl, HB.out⟩
          · simp at h

theorem modI_last {q l : Nat} (h1 : 1 < q) (h : q - 1 = l) : modI q (-1) = l := by
  unfold modI
  have : (-1 : Int) % (q : Int) = (q : Int) - 1 := by
    rw [Int.emod_eq_add_self_emod, Int.emod_eq_of_lt (by omega) (by omega)]
    omega
  rw [this]
  omega

set_option maxRecDepth 100000 in
set_option maxHeartbeats 4000000 in
theorem groupLaw_yes (k : Nat) (h1 : 1 ≤ k) (h3 : k ≤ 3) (x y z m n : Nat) (hx0 : 0 < x) (hx : x ≤ (grp k).q.m) (hy0 : 0 < y) (hy : y ≤ (grp k).q.m) (hz0 : 0 < z) (hz : z ≤ (grp k).q.m) (hm : m < (grp k).q.m) (hn : n < (grp k).q.m) (w : World) :
    Calls Try.prog 12 #[.int .i64 (k : Int), .string (T (grp k) x), .string (T (grp k) y), .string (T (grp k) z), .string (T (grp k) m), .string (T (grp k) n)] w fun e w' => e = .returned (.bool true) ∧ Below w.heap.size w w' := by
  have h2q : 2 ≤ (grp k).q.m := (grp_prime_q k h1 h3).1
  have hq0 : 0 < (grp k).q.m := by omega
  have hpp := grp_prime_p k h1 h3
  have htw := (grp_ok k h1 h3).twice
  obtain ⟨q, hq⟩ : ∃ q, (grp k).q.m = q := ⟨_, rfl⟩
  obtain ⟨p, hp⟩ : ∃ p, (grp k).p.m = p := ⟨_, rfl⟩
  have HF : Hid (2 ≤ q ∧ IsPrime p ∧ p = 2 * q + 1 ∧ x ≤ q ∧ y ≤ q ∧ z ≤ q ∧ m < q ∧ n < q) := by
    rw [← hq, ← hp]
    exact ⟨h2q, hpp, htw, hx, hy, hz, hm, hn⟩
  have HG9 : Hid (∃ u1 v1 v2 s1 s2 s3 r1 r2 p1 p2 p3 p4 p5 p6 p7 p8 l1, q - 1 = l1 ∧ Lw q p (x ^ 0) = u1 ∧ Lw q p (x ^ (p - 2)) = v1 ∧ Lw q p (x * v1) = u1 ∧ Lw q p (x * u1) = x ∧ Lw q p (x ^ 1) = x ∧ Lw q p (x ^ l1) = v2 ∧ Lw q p (v2 * x) = u1
      ∧ Lw q p (x * y) = s1 ∧ Lw q p (y * x) = s1 ∧ Lw q p (s1 * z) = s3 ∧ Lw q p (y * z) = s2 ∧ Lw q p (x * s2) = s3 ∧ (m + n) % q = r1 ∧ m * n % q = r2 ∧ Lw q p (x ^ m) = p1 ∧ Lw q p (x ^ n) = p2 ∧ Lw q p (p1 * p2) = p3 ∧ Lw q p (x ^ r1) = p3
      ∧ Lw q p (p1 ^ n) = p4 ∧ Lw q p (x ^ r2) = p4 ∧ Lw q p (s1 ^ m) = p5 ∧ Lw q p (y ^ m) = p6 ∧ Lw q p (p1 * p6) = p5 ∧ Lw q p (y ^ n) = p8 ∧ Lw q p (p1 * p8) = p7 ∧ Lw q p (x ^ m * y ^ n) = p7
      ∧ (0 < u1 ∧ 0 < v1 ∧ 0 < v2 ∧ 0 < s1 ∧ 0 < s2 ∧ 0 < p1 ∧ 0 < p2 ∧ 0 < p6 ∧ 0 < p8) ∧ (u1 ≤ q ∧ v1 ≤ q ∧ v2 ≤ q ∧ s1 ≤ q ∧ s2 ≤ q ∧ p1 ≤ q ∧ p2 ≤ q ∧ p6 ≤ q ∧ p8 ≤ q) ∧ r1 < q ∧ r2 < q ∧ l1 < q) := by
    obtain ⟨f2q, fpp, ftw, fx, fy, fz, fm, fn⟩ := HF.out
    have f0 : 0 < q := by omega
    have dx : ¬ p ∣ x := not_dvd_small hx0 (by omega)
    have dy : ¬ p ∣ y := not_dvd_small hy0 (by omega)
    have dz : ¬ p ∣ z := not_dvd_small hz0 (by omega)
    have L := fun v => Lw_pm (q := q) ftw v
    have R := fun v => PM.refl p v
    have E := fun {u v : Nat} (h : PM p u v) => Lw_eq f0 ftw h
    refine ⟨_, _, _, _, _, _, _, _, _, _, _, _, _, _, _, _, _, rfl, rfl, rfl, ?_, ?_, ?_, rfl, ?_, rfl, ?_, rfl, rfl, ?_, rfl, rfl, rfl, rfl, rfl, ?_, rfl, ?_, rfl, rfl, ?_, rfl, rfl, ?_, ⟨?_, ?_, ?_, ?_, ?_, ?_, ?_, ?_, ?_⟩, ⟨?_, ?_, ?_, ?_, ?_, ?_, ?_, ?_, ?_⟩, ?_, ?_, ?_⟩
    · refine E (((R x).mul (L (x ^ (p - 2)))).trans ?_)
      rw [Nat.mul_comm, ← Nat.pow_succ, show (p - 2).succ = q * 2 by omega, Nat.pow_mul, Nat.pow_zero]
      have := (pm_euler fpp ftw hx0 (by omega)).pow 2
      rwa [Nat.one_pow] at this
    · have h9 := E ((R x).mul (L (x ^ 0)))
      rw [h9, Nat.pow_zero, Nat.mul_one, Lw_fix ftw fx]
    · rw [Nat.pow_one, Lw_fix ftw fx]
    · refine E (((L (x ^ (q - 1))).mul (R x)).trans ?_)
      rw [← Nat.pow_succ, show (q - 1).succ = q by omega, Nat.pow_zero]
      exact pm_euler fpp ftw hx0 (by omega)
    · rw [Nat.mul_comm]
    · refine E (((R x).mul (L (y * z))).trans ?_)
      rw [← Nat.mul_assoc]
      exact ((L (x * y)).mul (R z)).symm
    · refine E ((pm_pow_mod fpp ftw hx0 (by omega) (m + n)).trans ?_)
      rw [Nat.pow_add]
      exact ((L (x ^ m)).mul (L (x ^ n))).symm
    · refine E ((pm_pow_mod fpp ftw hx0 (by omega) (m * n)).trans ?_)
      rw [Nat.pow_mul]
      exact ((L (x ^ m)).pow n).symm
    · refine E (((L (x ^ m)).mul (L (y ^ m))).trans ?_)
      rw [← Nat.mul_pow]
      exact ((L (x * y)).pow m).symm
    · exact E ((L (x ^ m)).mul (L (y ^ n))).symm
    · exact Lw_pos ftw (fpp.not_dvd_pow dx _)
    · exact Lw_pos ftw (fpp.not_dvd_pow dx _)
    · exact Lw_pos ftw (fpp.not_dvd_pow dx _)
    · exact Lw_pos ftw (fpp.not_dvd_mul dx dy)
    · exact Lw_pos ftw (fpp.not_dvd_mul dy dz)
    · exact Lw_pos ftw (fpp.not_dvd_pow dx _)
    · exact Lw_pos ftw (fpp.not_dvd_pow dx _)
    · exact Lw_pos ftw (fpp.not_dvd_pow dy _)
    · exact Lw_pos ftw (fpp.not_dvd_pow dy _)
    all_goals first | exact Lw_le ftw _ | exact Nat.mod_lt _ f0 | omega
  rw [← hq, ← hp] at HG9
  clear hq hp HF hpp htw q p
  obtain ⟨u1, v1, v2, s1, s2, s3, r1, r2, p1, p2, p3, p4, p5, p6, p7, p8, l1, e0, e1, e2, e3, e4, e5, e6, e7, e8, e9, e10, e11, e12, e13, e14, e15, e16, e17, e18, e19, e20, e21, e22, e23, e24, e25, e26, ⟨g1, g2, g3, g4, g5, g6, g7, g8, g9⟩, ⟨k1, k2, k3, k4, k5, k6, k7, k8, k9⟩, k10, k11, k12⟩ := HG9.out
  clear HG9
  have E0 := Lib.hid e0
  have E1 := Lib.hid e1
  have E2 := Lib.hid e2
  have E3 := Lib.hid e3
  have E4 := Lib.hid e4
  have E5 := Lib.hid e5
  have E6 := Lib.hid e6
  have E7 := Lib.hid e7
  have E8 := Lib.hid e8
  have E9 := Lib.hid e9
  have E10 := Lib.hid e10
  have E11 := Lib.hid e11
  have E12 := Lib.hid e12
  have E13 := Lib.hid e13
  have E14 := Lib.hid e14
  have E15 := Lib.hid e15
  have E16 := Lib.hid e16
  have E17 := Lib.hid e17
  have E18 := Lib.hid e18
  have E19 := Lib.hid e19
  have E20 := Lib.hid e20
  have E21 := Lib.hid e21
  have E22 := Lib.hid e22
  have E23 := Lib.hid e23
  have E24 := Lib.hid e24
  have E25 := Lib.hid e25
  have E26 := Lib.hid e26
  clear e0 e1 e2 e3 e4 e5 e6 e7 e8 e9 e10 e11 e12 e13 e14 e15 e16 e17 e18 e19 e20 e21 e22 e23 e24 e25 e26
  have h1q : 1 < (grp k).q.m := h2q
  have HB : Hid (Below w.heap.size w w) := Below.refl _ _
  go_enter Try.func12, Try.ntmps12
  go_wp2_with fail
  refine (base_t k h1 h3 w).mono ?_
  rintro e w1 ⟨rfl, hb9⟩
  have HB9 := Lib.hid (below_up HB.out hb9)
  clear hb9 HB
  have HB := HB9
  clear HB9
  go_wp2_with fail
  refine (memb_t k h1 h3 2 (by decide) h2q w1).mono ?_
  rintro e w2 ⟨rfl, hb9⟩
  have HB9 := Lib.hid (below_up HB.out hb9)
  clear hb9 HB
  have HB := HB9
  clear HB9
  go_wp2_with fail
  refine (memb_t k h1 h3 x hx0 hx w2).mono ?_
  rintro e w3 ⟨rfl, hb9⟩
  have HB9 := Lib.hid (below_up HB.out hb9)
  clear hb9 HB
  have HB := HB9
  clear HB9
  go_wp2_with fail
  refine (memb_t k h1 h3 y hy0 hy w3).mono ?_
  rintro e w4 ⟨rfl, hb9⟩
  have HB9 := Lib.hid (below_up HB.out hb9)
  clear hb9 HB
  have HB := HB9
  clear HB9
  go_wp2_with fail
  refine (memb_t k h1 h3 z hz0 hz w4).mono ?_
  rintro e w5 ⟨rfl, hb9⟩
  have HB9 := Lib.hid (below_up HB.out hb9)
  clear hb9 HB
  have HB := HB9
  clear HB9
  go_wp2_with fail
  refine (scal_t k h1 h3 m hm w5).mono ?_
  rintro e w6 ⟨rfl, hb9⟩
  have HB9 := Lib.hid (below_up HB.out hb9)
  clear hb9 HB
  have HB := HB9
  clear HB9
  go_wp2_with fail
  refine (scal_t k h1 h3 n hn w6).mono ?_
  rintro e w7 ⟨rfl, hb9⟩
  have HB9 := Lib.hid (below_up HB.out hb9)
  clear hb9 HB
  have HB := HB9
  clear HB9
  go_wp2_with fail
  refine (number_t k h1 h3 0 0 (by decide) (by decide) (by unfold modI; rw [Int.zero_emod]; rfl) w7).mono ?_
  rintro e w8 ⟨rfl, hb9⟩
  have HB9 := Lib.hid (below_up HB.out hb9)
  clear hb9 HB
  have HB := HB9
  clear HB9
  go_wp2_with fail
  refine (number_t k h1 h3 1 1 (by decide) (by decide) (by unfold modI; rw [Int.emod_eq_of_lt (by decide) (by omega)]; rfl) w8).mono ?_
  rintro e w9 ⟨rfl, hb9⟩
  have HB9 := Lib.hid (below_up HB.out hb9)
  clear hb9 HB
  have HB := HB9
  clear HB9
  go_wp2_with fail
  refine (number_t k h1 h3 (-1) l1 (by decide) (by decide) (modI_last h1q E0.out) w9).mono ?_
  rintro e w10 ⟨rfl, hb9⟩
  have HB9 := Lib.hid (below_up HB.out hb9)
  clear hb9 HB
  have HB := HB9
  clear HB9
  go_wp2_with fail
  refine (lawPower_t k h1 h3 x 0 u1 hx0 hx hq0 E1.out w10).mono ?_
  rintro e w11 ⟨rfl, hb9⟩
  have HB9 := Lib.hid (below_up HB.out hb9)
  clear hb9 HB
  have HB := HB9
  clear HB9
  go_wp2_with fail
  refine (under_t k h1 h3 x v1 hx0 hx E2.out w11).mono ?_
  rintro e w12 ⟨rfl, hb9⟩
  have HB9 := Lib.hid (below_up HB.out hb9)
  clear hb9 HB
  have HB := HB9
  clear HB9
  go_wp2_with fail
  refine (lawTimes_t k h1 h3 x v1 u1 hx0 hx g2 k2 E3.out w12).mono ?_
  rintro e w13 ⟨rfl, hb9⟩
  have HB9 := Lib.hid (below_up HB.out hb9)
  clear hb9 HB
  have HB := HB9
  clear HB9
  go_wp2_with fail
  refine (lawTimes_t k h1 h3 x u1 x hx0 hx g1 k1 E4.out w13).mono ?_
  rintro e w14 ⟨rfl, hb9⟩
  have HB9 := Lib.hid (below_up HB.out hb9)
  clear hb9 HB
  have HB := HB9
  clear HB9
  go_wp2_with fail
  refine (lawPower_t k h1 h3 x 1 x hx0 hx h1q E5.out w14).mono ?_
  rintro e w15 ⟨rfl, hb9⟩
  have HB9 := Lib.hid (below_up HB.out hb9)
  clear hb9 HB
  have HB := HB9
  clear HB9
  go_wp2_with fail
  refine (lawPower_t k h1 h3 x l1 v2 hx0 hx k12 E6.out w15).mono ?_
  rintro e w16 ⟨rfl, hb9⟩
  have HB9 := Lib.hid (below_up HB.out hb9)
  clear hb9 HB
  have HB := HB9
  clear HB9
  go_wp2_with fail
  refine (lawTimes_t k h1 h3 v2 x u1 g3 k3 hx0 hx E7.out w16).mono ?_
  rintro e w17 ⟨rfl, hb9⟩
  have HB9 := Lib.hid (below_up HB.out hb9)
  clear hb9 HB
  have HB := HB9
  clear HB9
  go_wp2_with fail
  refine (lawTimes_t k h1 h3 x y s1 hx0 hx hy0 hy E8.out w17).mono ?_
  rintro e w18 ⟨rfl, hb9⟩
  have HB9 := Lib.hid (below_up HB.out hb9)
  clear hb9 HB
  have HB := HB9
  clear HB9
  go_wp2_with fail
  refine (lawTimes_t k h1 h3 y x s1 hy0 hy hx0 hx E9.out w18).mono ?_
  rintro e w19 ⟨rfl, hb9⟩
  have HB9 := Lib.hid (below_up HB.out hb9)
  clear hb9 HB
  have HB := HB9
  clear HB9
  go_wp2_with fail
  refine (lawTimes_t k h1 h3 x y s1 hx0 hx hy0 hy E8.out w19).mono ?_
  rintro e w20 ⟨rfl, hb9⟩
  have HB9 := Lib.hid (below_up HB.out hb9)
  clear hb9 HB
  have HB := HB9
  clear HB9
  go_wp2_with fail
  refine (lawTimes_t k h1 h3 s1 z s3 g4 k4 hz0 hz E10.out w20).mono ?_
  rintro e w21 ⟨rfl, hb9⟩
  have HB9 := Lib.hid (below_up HB.out hb9)
  clear hb9 HB
  have HB := HB9
  clear HB9
  go_wp2_with fail
  refine (lawTimes_t k h1 h3 y z s2 hy0 hy hz0 hz E11.out w21).mono ?_
  rintro e w22 ⟨rfl, hb9⟩
  have HB9 := Lib.hid (below_up HB.out hb9)
  clear hb9 HB
  have HB := HB9
  clear HB9
  go_wp2_with fail
  refine (lawTimes_t k h1 h3 x s2 s3 hx0 hx g5 k5 E12.out w22).mono ?_
  rintro e w23 ⟨rfl, hb9⟩
  have HB9 := Lib.hid (below_up HB.out hb9)
  clear hb9 HB
  have HB := HB9
  clear HB9
  go_wp2_with fail
  refine (lawTimes_t k h1 h3 x y s1 hx0 hx hy0 hy E8.out w23).mono ?_
  rintro e w24 ⟨rfl, hb9⟩
  have HB9 := Lib.hid (below_up HB.out hb9)
  clear hb9 HB
  have HB := HB9
  clear HB9
  go_wp2_with fail
  refine (memb_t k h1 h3 s1 g4 k4 w24).mono ?_
  rintro e w25 ⟨rfl, hb9⟩
  have HB9 := Lib.hid (below_up HB.out hb9)
  clear hb9 HB
  have HB := HB9
  clear HB9
  go_wp2_with fail
  refine (addF_t k h1 h3 m n r1 hm hn E13.out w25).mono ?_
  rintro e w26 ⟨rfl, hb9⟩
  have HB9 := Lib.hid (below_up HB.out hb9)
  clear hb9 HB
  have HB := HB9
  clear HB9
  go_wp2_with fail
  refine (mulF_t k h1 h3 m n r2 hm hn E14.out w26).mono ?_
  rintro e w27 ⟨rfl, hb9⟩
  have HB9 := Lib.hid (below_up HB.out hb9)
  clear hb9 HB
  have HB := HB9
  clear HB9
  go_wp2_with fail
  refine (lawPower_t k h1 h3 x m p1 hx0 hx hm E15.out w27).mono ?_
  rintro e w28 ⟨rfl, hb9⟩
  have HB9 := Lib.hid (below_up HB.out hb9)
  clear hb9 HB
  have HB := HB9
  clear HB9
  go_wp2_with fail
  refine (lawPower_t k h1 h3 x n p2 hx0 hx hn E16.out w28).mono ?_
  rintro e w29 ⟨rfl, hb9⟩
  have HB9 := Lib.hid (below_up HB.out hb9)
  clear hb9 HB
  have HB := HB9
  clear HB9
  go_wp2_with fail
  refine (lawTimes_t k h1 h3 p1 p2 p3 g6 k6 g7 k7 E17.out w29).mono ?_
  rintro e w30 ⟨rfl, hb9⟩
  have HB9 := Lib.hid (below_up HB.out hb9)
  clear hb9 HB
  have HB := HB9
  clear HB9
  go_wp2_with fail
  refine (lawPower_t k h1 h3 x r1 p3 hx0 hx k10 E18.out w30).mono ?_
  rintro e w31 ⟨rfl, hb9⟩
  have HB9 := Lib.hid (below_up HB.out hb9)
  clear hb9 HB
  have HB := HB9
  clear HB9
  go_wp2_with fail
  refine (lawPower_t k h1 h3 x m p1 hx0 hx hm E15.out w31).mono ?_
  rintro e w32 ⟨rfl, hb9⟩
  have HB9 := Lib.hid (below_up HB.out hb9)
  clear hb9 HB
  have HB := HB9
  clear HB9
  go_wp2_with fail
  refine (lawPower_t k h1 h3 p1 n p4 g6 k6 hn E19.out w32).mono ?_
  rintro e w33 ⟨rfl, hb9⟩
  have HB9 := Lib.hid (below_up HB.out hb9)
  clear hb9 HB
  have HB := HB9
  clear HB9
  go_wp2_with fail
  refine (lawPower_t k h1 h3 x r2 p4 hx0 hx k11 E20.out w33).mono ?_
  rintro e w34 ⟨rfl, hb9⟩
  have HB9 := Lib.hid (below_up HB.out hb9)
  clear hb9 HB
  have HB := HB9
  clear HB9
  go_wp2_with fail
  refine (lawTimes_t k h1 h3 x y s1 hx0 hx hy0 hy E8.out w34).mono ?_
  rintro e w35 ⟨rfl, hb9⟩
  have HB9 := Lib.hid (below_up HB.out hb9)
  clear hb9 HB
  have HB := HB9
  clear HB9
  go_wp2_with fail
  refine (lawPower_t k h1 h3 s1 m p5 g4 k4 hm E21.out w35).mono ?_
  rintro e w36 ⟨rfl, hb9⟩
  have HB9 := Lib.hid (below_up HB.out hb9)
  clear hb9 HB
  have HB := HB9
  clear HB9
  go_wp2_with fail
  refine (lawPower_t k h1 h3 x m p1 hx0 hx hm E15.out w36).mono ?_
  rintro e w37 ⟨rfl, hb9⟩
  have HB9 := Lib.hid (below_up HB.out hb9)
  clear hb9 HB
  have HB := HB9
  clear HB9
  go_wp2_with fail
  refine (lawPower_t k h1 h3 y m p6 hy0 hy hm E22.out w37).mono ?_
  rintro e w38 ⟨rfl, hb9⟩
  have HB9 := Lib.hid (below_up HB.out hb9)
  clear hb9 HB
  have HB := HB9
  clear HB9
  go_wp2_with fail
  refine (lawTimes_t k h1 h3 p1 p6 p5 g6 k6 g8 k8 E23.out w38).mono ?_
  rintro e w39 ⟨rfl, hb9⟩
  have HB9 := Lib.hid (below_up HB.out hb9)
  clear hb9 HB
  have HB := HB9
  clear HB9
  go_wp2_with fail
  have hrow := rows2 w39 [.string (T (grp k) x), .string (T (grp k) y)] [.string (T (grp k) m), .string (T (grp k) n)] _ _ rfl rfl 9 9
  refine (product2_t k h1 h3 x y m n p7 hx0 hx hy0 hy hm hn E26.out _ _ _ (Sl.of_bx hrow.2.1) (Sl.of_bx hrow.2.2)).mono ?_
  rintro e w40 ⟨rfl, hb9⟩
  have HB9 := Lib.hid (below_up HB.out (below_up hrow.1 hb9))
  clear hb9 HB hrow
  have HB := HB9
  clear HB9
  go_wp2_with fail
  refine (lawPower_t k h1 h3 x m p1 hx0 hx hm E15.out w40).mono ?_
  rintro e w41 ⟨rfl, hb9⟩
  have HB9 := Lib.hid (below_up HB.out hb9)
  clear hb9 HB
  have HB := HB9
  clear HB9
  go_wp2_with fail
  refine (lawPower_t k h1 h3 y n p8 hy0 hy hn E24.out w41).mono ?_
  rintro e w42 ⟨rfl, hb9⟩
  have HB9 := Lib.hid (below_up HB.out hb9)
  clear hb9 HB
  have HB := HB9
  clear HB9
  go_wp2_with fail
  refine (lawTimes_t k h1 h3 p1 p8 p7 g6 k6 g9 k9 E25.out w42).mono ?_
  rintro e w43 ⟨rfl, hb9⟩
  have HB9 := Lib.hid (below_up HB.out hb9)
  clear hb9 HB
  have HB := HB9
  clear HB9
  go_wp2_with fail
  go_ret
  exact ⟨rfl, HB.out⟩

theorem groupLaw_any (k : Int) (a b c m n : ByteArray) (w : World) : Calls Try.prog 12 #[.int .i64 k, .string a, .string b, .string c, .string m, .string n] w fun e w' => e = .returned (.bool true) ∧ Below w.heap.size w w' := by
  by_cases hk : 1 ≤ k ∧ k ≤ 3
  · obtain ⟨j, rfl⟩ : ∃ j : Nat, k = j := ⟨k.toNat, by omega⟩
    by_cases h : isEl (grp j).q.m (grp j).size a = true ∧ isEl (grp j).q.m (grp j).size b = true ∧ isEl (grp j).q.m (grp j).size c = true ∧ isSc (grp j).q.m (grp j).size m = true ∧ isSc (grp j).q.m (grp j).size n = true
    · obtain ⟨ha, hb, hc, hm, hn⟩ := h
      have fa := isEl_facts ha
      have fb := isEl_facts hb
      have fc := isEl_facts hc
      have fm := isSc_facts hm
      have fn := isSc_facts hn
      rw [T_of fa.1, T_of fb.1, T_of fc.1, T_of fm.1, T_of fn.1]
      exact groupLaw_yes j (by omega) (by omega) _ _ _ _ _ fa.2.1 fa.2.2 fb.2.1 fb.2.2 fc.2.1 fc.2.2 fm.2 fn.2 w
    · exact groupLaw_not j (by omega) (by omega) a b c m n h w
  · exact groupLaw_none k hk a b c m n w

set_option maxRecDepth 100000 in
theorem groupLaw_calls {H : Type} (enc : TypeId × Value → H) (W : World) (base : Nat) {v0 v1 v2 v3 v4 v5 : Value} {d0 d1 d2 d3 d4 d5 : DataW H} {p0 p1 p2 p3 p4 p5 : List MemPlace}
    (h0 : DataW.Trod enc Try.prog W 0 (fun _ => true) true 3 v0 d0 p0) (h1 : DataW.Trod enc Try.prog W 0 (fun _ => true) true 9 v1 d1 p1) (h2 : DataW.Trod enc Try.prog W 0 (fun _ => true) true 9 v2 d2 p2) (h3 : DataW.Trod enc Try.prog W 0 (fun _ => true) true 9 v3 d3 p3) (h4 : DataW.Trod enc Try.prog W 0 (fun _ => true) true 9 v4 d4 p4) (h5 : DataW.Trod enc Try.prog W 0 (fun _ => true) true 9 v5 d5 p5)
    (k0 : Value.okWide Try.prog W .any base 3 v0) (k1 : Value.okWide Try.prog W .any base 9 v1) (k2 : Value.okWide Try.prog W .any base 9 v2) (k3 : Value.okWide Try.prog W .any base 9 v3) (k4 : Value.okWide Try.prog W .any base 9 v4) (k5 : Value.okWide Try.prog W .any base 9 v5)
    (_lt0 : ∀ x ∈ p0, x.block < W.heap.size) (_lt1 : ∀ x ∈ p1, x.block < W.heap.size) (_lt2 : ∀ x ∈ p2, x.block < W.heap.size) (_lt3 : ∀ x ∈ p3, x.block < W.heap.size) (_lt4 : ∀ x ∈ p4, x.block < W.heap.size) (_lt5 : ∀ x ∈ p5, x.block < W.heap.size)
    (_hsz : (DataW.weightsEach Try.prog ([3, 9, 9, 9, 9, 9] ++ Rows.groupLawSpec.plain.varTypes Try.prog) ([d0, d1, d2, d3, d4, d5] ++ [])).all (· ≤ reachBytes) = true) :
    Calls Try.prog 12 #[v0, v1, v2, v3, v4, v5] W fun e w' => e = .returned (.bool true) ∧ Below W.heap.size W w' := by
  obtain ⟨a0, rfl, _, _, hw0⟩ := open_int Try.underlying3 k0 h0
  have hr0 : -9223372036854775808 ≤ a0 ∧ a0 ≤ 9223372036854775807 := by
    simp only [Lit.wf, Bool.and_eq_true, decide_eq_true_eq] at hw0
    have e1 : IntKind.i64.min = -9223372036854775808 := by decide
    have e2 : IntKind.i64.max = 9223372036854775807 := by decide
    omega
  obtain ⟨a1, rfl, _⟩ := Go.ChangeMaps.open_string Try.underlying9 k1 h1
  obtain ⟨a2, rfl, _⟩ := Go.ChangeMaps.open_string Try.underlying9 k2 h2
  obtain ⟨a3, rfl, _⟩ := Go.ChangeMaps.open_string Try.underlying9 k3 h3
  obtain ⟨a4, rfl, _⟩ := Go.ChangeMaps.open_string Try.underlying9 k4 h4
  obtain ⟨a5, rfl, _⟩ := Go.ChangeMaps.open_string Try.underlying9 k5 h5
  exact groupLaw_any a0 a1 a2 a3 a4 a5 W

set_option maxRecDepth 100000 in
theorem groupLaw_lifted (os : Os) (started : os.Started) (H : Type) (enc : TypeId × Value → H) :
    ReturnsInHanded {} Try.checked os 12 .any (Rows.groupLawSpec.pre6 enc Try.prog Try.f12 Rows.groupLawRow.domain false) (Rows.groupLawSpec.post enc Try.prog Try.f12 false true false false) := by
  refine returnsInHanded_of_change_sized (C := Try.checked) law_own started (by kernel_rfl) Try.func12
    (ChangeSpec.witness6 (enc := enc) (C := Try.checked) false ⟨#[], #[.int .i64 0, .string ⟨#[]⟩, .string ⟨#[]⟩, .string ⟨#[]⟩, .string ⟨#[]⟩, .string ⟨#[]⟩], []⟩ 8 (by kernel_rfl) (by kernel_rfl) (by kernel_rfl) (by kernel_rfl)) ?_
  intro W base args ds gs before hval0 hW _ hsz0 _
  have hsz : (DataW.weightsEach Try.prog (Try.f12.params.toList ++ Rows.groupLawSpec.plain.varTypes Try.prog) (ds ++ gs)).all (· ≤ reachBytes) = true := hsz0
  clear hsz0
  have hval : ∀ (j : Nat) t v, Try.f12.params[j]? = some t → args[j]? = some v → Value.okWide Try.prog W .any base t v := hval0
  have hW' := hW
  obtain ⟨p, q, hA0, hV, rfl, _, _⟩ := hW
  have hA : DataW.TrodAll enc Try.prog W 0 (fun _ => true) true Try.f12.params.toList args.toList ds p := hA0
  rw [Try.params12] at hA hval hsz
  obtain ⟨v0, vs0, d0, ds0, p0, q0, hargs, rfl, rfl, h0, r0⟩ := trodAll_cons hA
  obtain ⟨v1, vs1, d1, ds1, p1, q1, rfl, rfl, rfl, h1, r1⟩ := trodAll_cons r0
  obtain ⟨v2, vs2, d2, ds2, p2, q2, rfl, rfl, rfl, h2, r2⟩ := trodAll_cons r1
  obtain ⟨v3, vs3, d3, ds3, p3, q3, rfl, rfl, rfl, h3, r3⟩ := trodAll_cons r2
  obtain ⟨v4, vs4, d4, ds4, p4, q4, rfl, rfl, rfl, h4, r4⟩ := trodAll_cons r3
  obtain ⟨v5, vs5, d5, ds5, p5, q5, rfl, rfl, rfl, h5, r5⟩ := trodAll_cons r4
  obtain ⟨rfl, rfl, rfl⟩ := trodAll_nil r5
  obtain rfl : args = #[v0, v1, v2, v3, v4, v5] := by cases args; simp_all
  obtain ⟨rfl, rfl⟩ := trodVars_none hV
  have lt0 : ∀ x ∈ p0, x.block < W.heap.size := by obtain ⟨m, hm⟩ := h0; exact DataW.trod_lt m _ _ _ hm
  have lt1 : ∀ x ∈ p1, x.block < W.heap.size := by obtain ⟨m, hm⟩ := h1; exact DataW.trod_lt m _ _ _ hm
  have lt2 : ∀ x ∈ p2, x.block < W.heap.size := by obtain ⟨m, hm⟩ := h2; exact DataW.trod_lt m _ _ _ hm
  have lt3 : ∀ x ∈ p3, x.block < W.heap.size := by obtain ⟨m, hm⟩ := h3; exact DataW.trod_lt m _ _ _ hm
  have lt4 : ∀ x ∈ p4, x.block < W.heap.size := by obtain ⟨m, hm⟩ := h4; exact DataW.trod_lt m _ _ _ hm
  have lt5 : ∀ x ∈ p5, x.block < W.heap.size := by obtain ⟨m, hm⟩ := h5; exact DataW.trod_lt m _ _ _ hm
  clear hA0 hval0
  refine (groupLaw_calls enc W base h0 h1 h2 h3 h4 h5 (hval 0 3 v0 rfl rfl) (hval 1 9 v1 rfl rfl) (hval 2 9 v2 rfl rfl) (hval 3 9 v3 rfl rfl) (hval 4 9 v4 rfl rfl) (hval 5 9 v5 rfl rfl) lt0 lt1 lt2 lt3 lt4 lt5 hsz).mono fun e W' ⟨he, bel⟩ => ?_
  subst he
  exact ⟨_, rfl, _, _, _, [], _, [], hW', trodAll_mk1 (shut_bool Try.underlying4 _), (trodAll_cons_mk (Below.trod law_laidOut (by kernel_rfl) (of_decide_eq_true (by kernel_rfl)) h0 bel lt0) (trodAll_cons_mk (Below.trod law_laidOut (by kernel_rfl) (of_decide_eq_true (by kernel_rfl)) h1 bel lt1) (trodAll_cons_mk (Below.trod law_laidOut (by kernel_rfl) (of_decide_eq_true (by kernel_rfl)) h2 bel lt2) (trodAll_cons_mk (Below.trod law_laidOut (by kernel_rfl) (of_decide_eq_true (by kernel_rfl)) h3 bel lt3) (trodAll_cons_mk (Below.trod law_laidOut (by kernel_rfl) (of_decide_eq_true (by kernel_rfl)) h4 bel lt4) (trodAll_cons_mk (Below.trod law_laidOut (by kernel_rfl) (of_decide_eq_true (by kernel_rfl)) h5 bel lt5) trodAll_mk0)))))), rfl, bel.frame _, fun h => by cases h⟩

theorem groupLaw_holds : Rows.GroupLawSaid :=
  OpenClaim.holds_of_wide 12 Try.f12 rfl rfl rfl rfl rfl rfl rfl ⟨rfl, rfl, rfl, rfl, rfl⟩ rfl rfl rfl rfl rfl (by kernel_rfl) Try.func12 (by kernel_rfl)
    (of_decide_eq_true (by kernel_rfl)) (by unfold Func.isWrapper; first | (rw [if_pos (by decide +kernel)]; kernel_rfl) | (rw [if_neg (by decide +kernel)]; exact ⟨rfl, rfl⟩))
    (fun os started H enc _ => groupLaw_lifted os started H enc)
#print axioms groupLaw_holds



end Go.Proofs.Ytdmldnpadojflaa
