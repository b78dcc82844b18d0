/- GroupFinds: a low power is found again; and what is found is one. No condition. -/
import Derived.Test.YtdmldnpadojflaaZLawFinds5

namespace Go.Proofs.Ytdmldnpadojflaa
open Go.ChangeShapes Go.WideShapes Go.ChangeAt Go.RowKit

theorem pm_sq {p x : Nat} (h0 : 0 < x) (h : PM p x 1) : x ^ 2 % p = 1 % p := by
  have h1 : p ∣ x ^ 2 - 1 := by
    obtain ⟨c, rfl⟩ : ∃ c, x = c + 1 := ⟨x - 1, by omega⟩
    have e : (c + 1) ^ 2 - 1 = c * (c + 2) := by
      have : (c + 1) ^ 2 = c * (c + 2) + 1 := by grind
      omega
    rw [e]
    rcases h with ⟨d, h⟩ | ⟨d, h⟩
    · have : (p : Int) ∣ ((c : Nat) : Int) := ⟨d, by omega⟩
      exact Nat.dvd_mul_right_of_dvd (Int.natCast_dvd_natCast.1 this) _
    · have : (p : Int) ∣ ((c + 2 : Nat) : Int) := ⟨d, by omega⟩
      exact Nat.dvd_mul_left_of_dvd (Int.natCast_dvd_natCast.1 this) _
  exact (mod_eq_iff_dvd_sub (Nat.pow_pos h0)).2 h1

/-- Powers of the base that are one element differ by a multiple of the order. -/
theorem order2 {q p m n : Nat} (hqp : IsPrime q) (hpp : IsPrime p) (hp : p = 2 * q + 1) (hq : 1 < q) (hmn : m ≤ n) (h : Lw q p (2 ^ m) = Lw q p (2 ^ n)) : m % q = n % q := by
  have h1 : PM p (2 ^ (n - m)) 1 := by
    have h2 := (Lw_iff (by omega) hp (2 ^ m) (2 ^ n)).1 h
    -- both sides times the opposite of the first
    have h3 := (PM.refl p ((2 ^ m) ^ (p - 2))).mul h2
    have hb := back_ok (step := m) hpp hp hq
    have h4 : (2 ^ m) ^ (p - 2) * 2 ^ n = (2 ^ m) ^ (p - 2) * 2 ^ m * 2 ^ (n - m) := by
      rw [Nat.mul_assoc, ← Nat.pow_add, show m + (n - m) = n by omega]
    rw [h4] at h3
    have h5 := hb.mul (PM.refl p (2 ^ (n - m)))
    rw [Nat.one_mul] at h5
    exact (h5.symm.trans h3.symm).trans hb
  have h6 := pm_sq (Nat.pow_pos (by decide)) h1
  rw [← Nat.pow_mul, Nat.mul_comm, Nat.pow_mul] at h6
  have h7 : (2 ^ 2) ^ q % p = 1 % p := by
    rw [← Nat.pow_mul, show 2 * q = p - 1 by omega]
    exact fermat hpp (not_dvd_small (by decide) (by omega))
  have h8 := pow_gcd _ _ h6 h7
  rcases hqp.2 (Nat.gcd (n - m) q) (Nat.gcd_dvd_right _ _) with hg | hg
  · rw [hg] at h8
    have : 4 % p = 1 % p := h8
    have hp5 : 5 ≤ p := by omega
    rw [Nat.mod_eq_of_lt (by omega), Nat.mod_eq_of_lt (by omega)] at this
    omega
  · have hd : q ∣ n - m := by
      have := Nat.gcd_dvd_left (n - m) q
      rwa [hg] at this
    exact ((mod_eq_iff_dvd_sub hmn).2 hd).symm

theorem log_t (k : Nat) (h1 : 1 ≤ k) (h3 : k ≤ 3) (x most : Nat) (o : Option Nat) (h0 : 0 < x) (hx : x ≤ (grp k).q.m) (hm : most ≤ 1048576) (ho : logF (grp k).q.m (grp k).p.m x most = o) (w : World) :
    Calls Try.prog 41 #[.int .i64 (k : Int), .string (T (grp k) x), .int .i64 (most : Int)] w (Ans (.int .i64 (oV o)) (oE o) w) := by
  have h9 := Log_some k h1 h3 (T (grp k) x) most w
  have hin : 0 ≤ (most : Int) ∧ (most : Int) ≤ 1048576 := by omega
  simp only [lgV, lgE, T_el (grp_ok k h1 h3) (grp_fits k h1 h3) h0 hx, if_true, if_pos hin, Int.toNat_natCast, T_num (grp_ok k h1 h3) hx (grp_fits k h1 h3), ho] at h9
  exact h9

set_option maxRecDepth 100000 in
set_option maxHeartbeats 400000 in
theorem groupFinds_none (k : Int) (hk : ¬ (1 ≤ k ∧ k ≤ 3)) (n : Int) (a : ByteArray) (most : Int) (w : World) : Calls Try.prog 11 #[.int .i64 k, .int .i64 n, .string a, .int .i64 most] w fun e w' => e = .returned (.bool true) ∧ Below w.heap.size w w' := by
  have HB : Hid (Below w.heap.size w w) := Below.refl _ _
  go_enter Try.func11, Try.ntmps11
  go_wp2_with fail
  refine (Base_none k hk w).mono ?_
  rintro e w1 ⟨rfl, hb9⟩
  have HB9 := Lib.hid (below_up HB.out hb9)
  clear hb9 HB
  have HB := HB9
  clear HB9
  go_wp2_with fail
  go_ret
  exact ⟨rfl, HB.out⟩


set_option maxRecDepth 100000 in
set_option maxHeartbeats 400000 in
theorem groupFinds_range (k : Nat) (h1 : 1 ≤ k) (h3 : k ≤ 3) (n : Int) (a : ByteArray) (most : Int) (hr : ¬ (0 ≤ most ∧ most ≤ 1048576 ∧ 0 ≤ n ∧ n ≤ most)) (w : World) : Calls Try.prog 11 #[.int .i64 (k : Int), .int .i64 n, .string a, .int .i64 most] w fun e w' => e = .returned (.bool true) ∧ Below w.heap.size w w' := by
  by_cases c1 : most < 0
  · have d1 : decide (most < 0) = true := decide_eq_true c1
    clear hr
    have HB : Hid (Below w.heap.size w w) := Below.refl _ _
    go_enter Try.func11, Try.ntmps11
    go_wp2_with fail
    refine (base_t k h1 h3 w).mono ?_
    rintro e w1 ⟨rfl, hb9⟩
    have HB9 := Lib.hid (below_up HB.out hb9)
    clear hb9 HB
    have HB := HB9
    clear HB9
    go_wp2_with fail
    go_ret
    exact ⟨rfl, HB.out⟩
  have d1 : decide (most < 0) = false := decide_eq_false c1
  by_cases c2 : most > 1048576
  · have d2 : decide (most > 1048576) = true := decide_eq_true c2
    clear hr
    have HB : Hid (Below w.heap.size w w) := Below.refl _ _
    go_enter Try.func11, Try.ntmps11
    go_wp2_with fail
    refine (base_t k h1 h3 w).mono ?_
    rintro e w1 ⟨rfl, hb9⟩
    have HB9 := Lib.hid (below_up HB.out hb9)
    clear hb9 HB
    have HB := HB9
    clear HB9
    go_wp2_with fail
    go_ret
    exact ⟨rfl, HB.out⟩
  have d2 : decide (most > 1048576) = false := decide_eq_false c2
  by_cases c3 : n < 0
  · have d3 : decide (n < 0) = true := decide_eq_true c3
    clear hr
    have HB : Hid (Below w.heap.size w w) := Below.refl _ _
    go_enter Try.func11, Try.ntmps11
    go_wp2_with fail
    refine (base_t k h1 h3 w).mono ?_
    rintro e w1 ⟨rfl, hb9⟩
    have HB9 := Lib.hid (below_up HB.out hb9)
    clear hb9 HB
    have HB := HB9
    clear HB9
    go_wp2_with fail
    go_ret
    exact ⟨rfl, HB.out⟩
  have d3 : decide (n < 0) = false := decide_eq_false c3
  have d4 : decide (n > most) = true := decide_eq_true (by omega)
  clear hr
  have HB : Hid (Below w.heap.size w w) := Below.refl _ _
  go_enter Try.func11, Try.ntmps11
  go_wp2_with fail
  refine (base_t k h1 h3 w).mono ?_
  rintro e w1 ⟨rfl, hb9⟩
  have HB9 := Lib.hid (below_up HB.out hb9)
  clear hb9 HB
  have HB := HB9
  clear HB9
  go_wp2_with fail
  go_ret
  exact ⟨rfl, HB.out⟩

theorem modI_nat (q n : Nat) : modI q (n : Int) = n % q := by
  unfold modI
  omega


set_option maxRecDepth 100000 in
set_option maxHeartbeats 1000000 in
theorem groupFinds_no (k : Nat) (h1 : 1 ≤ k) (h3 : k ≤ 3) (n most : Nat) (a : ByteArray) (hm : most ≤ 1048576) (hn : n ≤ most) (hba : isEl (grp k).q.m (grp k).size a = false) (w : World) : Calls Try.prog 11 #[.int .i64 (k : Int), .int .i64 (n : Int), .string a, .int .i64 (most : Int)] w fun e w' => e = .returned (.bool true) ∧ Below w.heap.size w w' := by
  have hlg := fun W => Log_some k h1 h3 a most W
  simp only [lgV, lgE, hba, Bool.false_eq_true, if_false] at hlg
  have hmb := fun W => Member_some k h1 h3 a W
  rw [hba] at hmb
  have HLG := Lib.hid hlg
  have HMB := Lib.hid hmb
  clear hba hlg hmb
  have h1q : 1 < (grp k).q.m := by have := (grp_prime_q k h1 h3).1; omega
  have hq0 : 0 < (grp k).q.m := by omega
  have htw := (grp_ok k h1 h3).twice
  have hpp := grp_prime_p k h1 h3
  obtain ⟨kq, hkq⟩ : ∃ r, n % (grp k).q.m = r := ⟨_, rfl⟩
  have hkl : kq < (grp k).q.m := by rw [← hkq]; exact Nat.mod_lt _ hq0
  obtain ⟨x, hxx⟩ : ∃ x, Lw (grp k).q.m (grp k).p.m (2 ^ kq) = x := ⟨_, rfl⟩
  have hx0 : 0 < x := by rw [← hxx]; exact Lw_pos htw (hpp.not_dvd_pow (not_dvd_small (by decide) (by omega)) _)
  have hxq : x ≤ (grp k).q.m := by rw [← hxx]; exact Lw_le htw _
  have hxn : Lw (grp k).q.m (grp k).p.m (2 ^ n) = x := by
    rw [← hxx, ← hkq]
    exact (Lw_eq hq0 htw (pm_pow_mod hpp htw (by decide) (by omega) n)).symm
  obtain ⟨o, ho⟩ : ∃ o, logF (grp k).q.m (grp k).p.m x most = o := ⟨_, rfl⟩
  obtain ⟨f, hf1, hf2, hf3, hf4⟩ : ∃ f, o = some f ∧ f ≤ n ∧ Lw (grp k).q.m (grp k).p.m (2 ^ f) = x ∧ f ≤ most := by
    unfold logF at ho
    cases o with
    | none =>
      have := find_range_none ho n (by omega)
      simp [hxn] at this
    | some f =>
      obtain ⟨g1, g2, g3⟩ := find_range_some ho
      refine ⟨f, rfl, ?_, by simpa using g2, by omega⟩
      rcases Nat.lt_or_ge n f with hc | hc
      · have := g3 n hc
        simp [hxn] at this
      · exact hc
  subst hf1
  have hfq : f % (grp k).q.m = kq := by
    rw [← hkq]
    exact order2 (grp_prime_q k h1 h3) hpp htw h1q hf2 (by rw [hf3, hxn])
  have E1 : Hid (modI (grp k).q.m (n : Int) = kq) := by show _ = _; rw [modI_nat]; exact hkq
  have E2 : Hid (modI (grp k).q.m (f : Int) = kq) := by show _ = _; rw [modI_nat]; exact hfq
  have E3 := Lib.hid hxx
  have E4 := Lib.hid ho
  have HTW := Lib.hid htw
  have HPP := Lib.hid hpp
  clear hkq hxx hxn ho hfq hf3 htw hpp
  have d1 : decide ((most : Int) < 0) = false := decide_eq_false (by omega)
  have d2 : decide ((most : Int) > 1048576) = false := decide_eq_false (by omega)
  have d3 : decide ((n : Int) < 0) = false := decide_eq_false (by omega)
  have d4 : decide ((n : Int) > (most : Int)) = false := decide_eq_false (by omega)
  have d5 : decide ((f : Int) > (n : Int)) = false := decide_eq_false (by omega)
  have d6 : decide ((f : Int) < 0) = false := decide_eq_false (by omega)
  have o1 : oV (some f) = (f : Int) := rfl
  have o2 : oE (some f) = 0 := rfl
  have HB : Hid (Below w.heap.size w w) := Below.refl _ _
  go_enter Try.func11, Try.ntmps11
  go_wp2_with fail
  refine (base_t k h1 h3 w).mono ?_
  rintro e w1 ⟨rfl, hb9⟩
  have HB9 := Lib.hid (below_up HB.out hb9)
  clear hb9 HB
  have HB := HB9
  clear HB9
  go_wp2_with fail
  refine (number_t k h1 h3 (n : Int) kq (by omega) (by omega) E1.out w1).mono ?_
  rintro e w2 ⟨rfl, hb9⟩
  have HB9 := Lib.hid (below_up HB.out hb9)
  clear hb9 HB
  have HB := HB9
  clear HB9
  go_wp2_with fail
  refine (power_t k h1 h3 2 kq x (by decide) h1q hkl E3.out w2).mono ?_
  rintro e w3 ⟨rfl, hb9⟩
  have HB9 := Lib.hid (below_up HB.out hb9)
  clear hb9 HB
  have HB := HB9
  clear HB9
  go_wp2_with fail
  refine (log_t k h1 h3 x most (some f) hx0 hxq hm E4.out w3).mono ?_
  rintro e w4 ⟨rfl, hb9⟩
  have HB9 := Lib.hid (below_up HB.out hb9)
  clear hb9 HB
  have HB := HB9
  clear HB9
  go_wp2_with fail
  refine (number_t k h1 h3 (f : Int) kq (by omega) (by omega) E2.out w4).mono ?_
  rintro e w5 ⟨rfl, hb9⟩
  have HB9 := Lib.hid (below_up HB.out hb9)
  clear hb9 HB
  have HB := HB9
  clear HB9
  go_wp2_with fail
  refine (HLG.out w5).mono ?_
  rintro e w6 ⟨rfl, hb9⟩
  have HB9 := Lib.hid (below_up HB.out hb9)
  clear hb9 HB
  have HB := HB9
  clear HB9
  go_wp2_with fail
  refine (HMB.out w6).mono ?_
  rintro e w7 ⟨rfl, hb9⟩
  have HB9 := Lib.hid (below_up HB.out hb9)
  clear hb9 HB
  have HB := HB9
  clear HB9
  go_wp2_with fail
  go_ret
  exact ⟨rfl, HB.out⟩

set_option maxRecDepth 100000 in
set_option maxHeartbeats 1000000 in
theorem groupFinds_yes (k : Nat) (h1 : 1 ≤ k) (h3 : k ≤ 3) (n most y : Nat) (hm : most ≤ 1048576) (hn : n ≤ most) (hy0 : 0 < y) (hyq : y ≤ (grp k).q.m) (w : World) : Calls Try.prog 11 #[.int .i64 (k : Int), .int .i64 (n : Int), .string (T (grp k) y), .int .i64 (most : Int)] w fun e w' => e = .returned (.bool true) ∧ Below w.heap.size w w' := by
  obtain ⟨oy, hoy⟩ : ∃ o, logF (grp k).q.m (grp k).p.m y most = o := ⟨_, rfl⟩
  have F1 := Lib.hid hoy
  clear hoy
  cases oy with
  | none =>
    have o3 : oV none = 0 := rfl
    have o4 : oE none = 9 := rfl
    have h1q : 1 < (grp k).q.m := by have := (grp_prime_q k h1 h3).1; omega
    have hq0 : 0 < (grp k).q.m := by omega
    have htw := (grp_ok k h1 h3).twice
    have hpp := grp_prime_p k h1 h3
    obtain ⟨kq, hkq⟩ : ∃ r, n % (grp k).q.m = r := ⟨_, rfl⟩
    have hkl : kq < (grp k).q.m := by rw [← hkq]; exact Nat.mod_lt _ hq0
    obtain ⟨x, hxx⟩ : ∃ x, Lw (grp k).q.m (grp k).p.m (2 ^ kq) = x := ⟨_, rfl⟩
    have hx0 : 0 < x := by rw [← hxx]; exact Lw_pos htw (hpp.not_dvd_pow (not_dvd_small (by decide) (by omega)) _)
    have hxq : x ≤ (grp k).q.m := by rw [← hxx]; exact Lw_le htw _
    have hxn : Lw (grp k).q.m (grp k).p.m (2 ^ n) = x := by
      rw [← hxx, ← hkq]
      exact (Lw_eq hq0 htw (pm_pow_mod hpp htw (by decide) (by omega) n)).symm
    obtain ⟨o, ho⟩ : ∃ o, logF (grp k).q.m (grp k).p.m x most = o := ⟨_, rfl⟩
    obtain ⟨f, hf1, hf2, hf3, hf4⟩ : ∃ f, o = some f ∧ f ≤ n ∧ Lw (grp k).q.m (grp k).p.m (2 ^ f) = x ∧ f ≤ most := by
      unfold logF at ho
      cases o with
      | none =>
        have := find_range_none ho n (by omega)
        simp [hxn] at this
      | some f =>
        obtain ⟨g1, g2, g3⟩ := find_range_some ho
        refine ⟨f, rfl, ?_, by simpa using g2, by omega⟩
        rcases Nat.lt_or_ge n f with hc | hc
        · have := g3 n hc
          simp [hxn] at this
        · exact hc
    subst hf1
    have hfq : f % (grp k).q.m = kq := by
      rw [← hkq]
      exact order2 (grp_prime_q k h1 h3) hpp htw h1q hf2 (by rw [hf3, hxn])
    have E1 : Hid (modI (grp k).q.m (n : Int) = kq) := by show _ = _; rw [modI_nat]; exact hkq
    have E2 : Hid (modI (grp k).q.m (f : Int) = kq) := by show _ = _; rw [modI_nat]; exact hfq
    have E3 := Lib.hid hxx
    have E4 := Lib.hid ho
    have HTW := Lib.hid htw
    have HPP := Lib.hid hpp
    clear hkq hxx hxn ho hfq hf3 htw hpp
    have d1 : decide ((most : Int) < 0) = false := decide_eq_false (by omega)
    have d2 : decide ((most : Int) > 1048576) = false := decide_eq_false (by omega)
    have d3 : decide ((n : Int) < 0) = false := decide_eq_false (by omega)
    have d4 : decide ((n : Int) > (most : Int)) = false := decide_eq_false (by omega)
    have d5 : decide ((f : Int) > (n : Int)) = false := decide_eq_false (by omega)
    have d6 : decide ((f : Int) < 0) = false := decide_eq_false (by omega)
    have o1 : oV (some f) = (f : Int) := rfl
    have o2 : oE (some f) = 0 := rfl
    have HB : Hid (Below w.heap.size w w) := Below.refl _ _
    go_enter Try.func11, Try.ntmps11
    go_wp2_with fail
    refine (base_t k h1 h3 w).mono ?_
    rintro e w1 ⟨rfl, hb9⟩
    have HB9 := Lib.hid (below_up HB.out hb9)
    clear hb9 HB
    have HB := HB9
    clear HB9
    go_wp2_with fail
    refine (number_t k h1 h3 (n : Int) kq (by omega) (by omega) E1.out w1).mono ?_
    rintro e w2 ⟨rfl, hb9⟩
    have HB9 := Lib.hid (below_up HB.out hb9)
    clear hb9 HB
    have HB := HB9
    clear HB9
    go_wp2_with fail
    refine (power_t k h1 h3 2 kq x (by decide) h1q hkl E3.out w2).mono ?_
    rintro e w3 ⟨rfl, hb9⟩
    have HB9 := Lib.hid (below_up HB.out hb9)
    clear hb9 HB
    have HB := HB9
    clear HB9
    go_wp2_with fail
    refine (log_t k h1 h3 x most (some f) hx0 hxq hm E4.out w3).mono ?_
    rintro e w4 ⟨rfl, hb9⟩
    have HB9 := Lib.hid (below_up HB.out hb9)
    clear hb9 HB
    have HB := HB9
    clear HB9
    go_wp2_with fail
    refine (number_t k h1 h3 (f : Int) kq (by omega) (by omega) E2.out w4).mono ?_
    rintro e w5 ⟨rfl, hb9⟩
    have HB9 := Lib.hid (below_up HB.out hb9)
    clear hb9 HB
    have HB := HB9
    clear HB9
    go_wp2_with fail
    refine (log_t k h1 h3 y most none hy0 hyq hm F1.out w5).mono ?_
    rintro e w6 ⟨rfl, hb9⟩
    have HB9 := Lib.hid (below_up HB.out hb9)
    clear hb9 HB
    have HB := HB9
    clear HB9
    go_wp2_with fail
    go_ret
    exact ⟨rfl, HB.out⟩
  | some g =>
    have o3 : oV (some g) = (g : Int) := rfl
    have o4 : oE (some g) = 0 := rfl
    have hg := F1.out
    unfold logF at hg
    obtain ⟨g1, g2, _⟩ := find_range_some hg
    have g3 : Lw (grp k).q.m (grp k).p.m (2 ^ g) = y := by simpa using g2
    have g4 : Lw (grp k).q.m (grp k).p.m (2 ^ (g % (grp k).q.m)) = y := by
      rw [← g3]
      have h9 := (grp_prime_q k h1 h3).1
      have h8 := (grp_ok k h1 h3).twice
      exact Lw_eq (by omega) h8 (pm_pow_mod (grp_prime_p k h1 h3) h8 (by decide) (by omega) g)
    obtain ⟨gq, hgq⟩ : ∃ r, g % (grp k).q.m = r := ⟨_, rfl⟩
    have hgl : gq < (grp k).q.m := by rw [← hgq]; exact Nat.mod_lt _ (by have := (grp_prime_q k h1 h3).1; omega)
    have F2 : Hid (modI (grp k).q.m (g : Int) = gq) := by show _ = _; rw [modI_nat]; exact hgq
    have F3 : Hid (Lw (grp k).q.m (grp k).p.m (2 ^ gq) = y) := by show _ = _; rw [← hgq]; exact g4
    have hgm : g ≤ most := by omega
    have d7 : decide ((g : Int) ≤ (most : Int)) = true := decide_eq_true (by omega)
    clear hg g1 g2 g3 g4 hgq
    have h1q : 1 < (grp k).q.m := by have := (grp_prime_q k h1 h3).1; omega
    have hq0 : 0 < (grp k).q.m := by omega
    have htw := (grp_ok k h1 h3).twice
    have hpp := grp_prime_p k h1 h3
    obtain ⟨kq, hkq⟩ : ∃ r, n % (grp k).q.m = r := ⟨_, rfl⟩
    have hkl : kq < (grp k).q.m := by rw [← hkq]; exact Nat.mod_lt _ hq0
    obtain ⟨x, hxx⟩ : ∃ x, Lw (grp k).q.m (grp k).p.m (2 ^ kq) = x := ⟨_, rfl⟩
    have hx0 : 0 < x := by rw [← hxx]; exact Lw_pos htw (hpp.not_dvd_pow (not_dvd_small (by decide) (by omega)) _)
    have hxq : x ≤ (grp k).q.m := by rw [← hxx]; exact Lw_le htw _
    have hxn : Lw (grp k).q.m (grp k).p.m (2 ^ n) = x := by
      rw [← hxx, ← hkq]
      exact (Lw_eq hq0 htw (pm_pow_mod hpp htw (by decide) (by omega) n)).symm
    obtain ⟨o, ho⟩ : ∃ o, logF (grp k).q.m (grp k).p.m x most = o := ⟨_, rfl⟩
    obtain ⟨f, hf1, hf2, hf3, hf4⟩ : ∃ f, o = some f ∧ f ≤ n ∧ Lw (grp k).q.m (grp k).p.m (2 ^ f) = x ∧ f ≤ most := by
      unfold logF at ho
      cases o with
      | none =>
        have := find_range_none ho n (by omega)
        simp [hxn] at this
      | some f =>
        obtain ⟨g1, g2, g3⟩ := find_range_some ho
        refine ⟨f, rfl, ?_, by simpa using g2, by omega⟩
        rcases Nat.lt_or_ge n f with hc | hc
        · have := g3 n hc
          simp [hxn] at this
        · exact hc
    subst hf1
    have hfq : f % (grp k).q.m = kq := by
      rw [← hkq]
      exact order2 (grp_prime_q k h1 h3) hpp htw h1q hf2 (by rw [hf3, hxn])
    have E1 : Hid (modI (grp k).q.m (n : Int) = kq) := by show _ = _; rw [modI_nat]; exact hkq
    have E2 : Hid (modI (grp k).q.m (f : Int) = kq) := by show _ = _; rw [modI_nat]; exact hfq
    have E3 := Lib.hid hxx
    have E4 := Lib.hid ho
    have HTW := Lib.hid htw
    have HPP := Lib.hid hpp
    clear hkq hxx hxn ho hfq hf3 htw hpp
    have d1 : decide ((most : Int) < 0) = false := decide_eq_false (by omega)
    have d2 : decide ((most : Int) > 1048576) = false := decide_eq_false (by omega)
    have d3 : decide ((n : Int) < 0) = false := decide_eq_false (by omega)
    have d4 : decide ((n : Int) > (most : Int)) = false := decide_eq_false (by omega)
    have d5 : decide ((f : Int) > (n : Int)) = false := decide_eq_false (by omega)
    have d6 : decide ((f : Int) < 0) = false := decide_eq_false (by omega)
    have o1 : oV (some f) = (f : Int) := rfl
    have o2 : oE (some f) = 0 := rfl
    have HB : Hid (Below w.heap.size w w) := Below.refl _ _
    go_enter Try.func11, Try.ntmps11
    go_wp2_with fail
    refine (base_t k h1 h3 w).mono ?_
    rintro e w1 ⟨rfl, hb9⟩
    have HB9 := Lib.hid (below_up HB.out hb9)
    clear hb9 HB
    have HB := HB9
    clear HB9
    go_wp2_with fail
    refine (number_t k h1 h3 (n : Int) kq (by omega) (by omega) E1.out w1).mono ?_
    rintro e w2 ⟨rfl, hb9⟩
    have HB9 := Lib.hid (below_up HB.out hb9)
    clear hb9 HB
    have HB := HB9
    clear HB9
    go_wp2_with fail
    refine (power_t k h1 h3 2 kq x (by decide) h1q hkl E3.out w2).mono ?_
    rintro e w3 ⟨rfl, hb9⟩
    have HB9 := Lib.hid (below_up HB.out hb9)
    clear hb9 HB
    have HB := HB9
    clear HB9
    go_wp2_with fail
    refine (log_t k h1 h3 x most (some f) hx0 hxq hm E4.out w3).mono ?_
    rintro e w4 ⟨rfl, hb9⟩
    have HB9 := Lib.hid (below_up HB.out hb9)
    clear hb9 HB
    have HB := HB9
    clear HB9
    go_wp2_with fail
    refine (number_t k h1 h3 (f : Int) kq (by omega) (by omega) E2.out w4).mono ?_
    rintro e w5 ⟨rfl, hb9⟩
    have HB9 := Lib.hid (below_up HB.out hb9)
    clear hb9 HB
    have HB := HB9
    clear HB9
    go_wp2_with fail
    refine (log_t k h1 h3 y most (some g) hy0 hyq hm F1.out w5).mono ?_
    rintro e w6 ⟨rfl, hb9⟩
    have HB9 := Lib.hid (below_up HB.out hb9)
    clear hb9 HB
    have HB := HB9
    clear HB9
    go_wp2_with fail
    refine (number_t k h1 h3 (g : Int) gq (by omega) (by omega) F2.out w6).mono ?_
    rintro e w7 ⟨rfl, hb9⟩
    have HB9 := Lib.hid (below_up HB.out hb9)
    clear hb9 HB
    have HB := HB9
    clear HB9
    go_wp2_with fail
    refine (power_t k h1 h3 2 gq y (by decide) h1q hgl F3.out w7).mono ?_
    rintro e w8 ⟨rfl, hb9⟩
    have HB9 := Lib.hid (below_up HB.out hb9)
    clear hb9 HB
    have HB := HB9
    clear HB9
    go_wp2_with fail
    go_ret
    exact ⟨rfl, HB.out⟩

theorem groupFinds_any (k n : Int) (a : ByteArray) (most : Int) (w : World) : Calls Try.prog 11 #[.int .i64 k, .int .i64 n, .string a, .int .i64 most] w fun e w' => e = .returned (.bool true) ∧ Below w.heap.size w w' := by
  by_cases hk : 1 ≤ k ∧ k ≤ 3
  · obtain ⟨j, rfl⟩ : ∃ j : Nat, k = j := ⟨k.toNat, by omega⟩
    by_cases hr : 0 ≤ most ∧ most ≤ 1048576 ∧ 0 ≤ n ∧ n ≤ most
    · obtain ⟨m, rfl⟩ : ∃ m : Nat, most = m := ⟨most.toNat, by omega⟩
      obtain ⟨i, rfl⟩ : ∃ i : Nat, n = i := ⟨n.toNat, by omega⟩
      cases hba : isEl (grp j).q.m (grp j).size a with
      | false => exact groupFinds_no j (by omega) (by omega) i m a (by omega) (by omega) hba w
      | true =>
        have fa := isEl_facts hba
        rw [T_of fa.1]
        exact groupFinds_yes j (by omega) (by omega) i m _ (by omega) (by omega) fa.2.1 fa.2.2 w
    · exact groupFinds_range j (by omega) (by omega) n a most hr w
  · exact groupFinds_none k hk n a most w

set_option maxRecDepth 100000 in
theorem groupFinds_calls {H : Type} (enc : TypeId × Value → H) (W : World) (base : Nat) {v0 v1 v2 v3 : Value} {d0 d1 d2 d3 : DataW H} {p0 p1 p2 p3 : List MemPlace}
    (h0 : DataW.Trod enc Try.prog W 0 (fun _ => true) true 3 v0 d0 p0) (h1 : DataW.Trod enc Try.prog W 0 (fun _ => true) true 3 v1 d1 p1) (h2 : DataW.Trod enc Try.prog W 0 (fun _ => true) true 9 v2 d2 p2) (h3 : DataW.Trod enc Try.prog W 0 (fun _ => true) true 3 v3 d3 p3)
    (k0 : Value.okWide Try.prog W .any base 3 v0) (k1 : Value.okWide Try.prog W .any base 3 v1) (k2 : Value.okWide Try.prog W .any base 9 v2) (k3 : Value.okWide Try.prog W .any base 3 v3)
    (_lt0 : ∀ x ∈ p0, x.block < W.heap.size) (_lt1 : ∀ x ∈ p1, x.block < W.heap.size) (_lt2 : ∀ x ∈ p2, x.block < W.heap.size) (_lt3 : ∀ x ∈ p3, x.block < W.heap.size)
    (_hsz : (DataW.weightsEach Try.prog ([3, 3, 9, 3] ++ Rows.groupFindsSpec.plain.varTypes Try.prog) ([d0, d1, d2, d3] ++ [])).all (· ≤ reachBytes) = true) :
    Calls Try.prog 11 #[v0, v1, v2, v3] W fun e w' => e = .returned (.bool true) ∧ Below W.heap.size W w' := by
  obtain ⟨a0, rfl, _, _, hw0⟩ := open_int Try.underlying3 k0 h0
  have hr0 : -9223372036854775808 ≤ a0 ∧ a0 ≤ 9223372036854775807 := by
    simp only [Lit.wf, Bool.and_eq_true, decide_eq_true_eq] at hw0
    have e1 : IntKind.i64.min = -9223372036854775808 := by decide
    have e2 : IntKind.i64.max = 9223372036854775807 := by decide
    omega
  obtain ⟨a1, rfl, _, _, hw1⟩ := open_int Try.underlying3 k1 h1
  have hr1 : -9223372036854775808 ≤ a1 ∧ a1 ≤ 9223372036854775807 := by
    simp only [Lit.wf, Bool.and_eq_true, decide_eq_true_eq] at hw1
    have e1 : IntKind.i64.min = -9223372036854775808 := by decide
    have e2 : IntKind.i64.max = 9223372036854775807 := by decide
    omega
  obtain ⟨a2, rfl, _⟩ := Go.ChangeMaps.open_string Try.underlying9 k2 h2
  obtain ⟨a3, rfl, _, _, hw3⟩ := open_int Try.underlying3 k3 h3
  have hr3 : -9223372036854775808 ≤ a3 ∧ a3 ≤ 9223372036854775807 := by
    simp only [Lit.wf, Bool.and_eq_true, decide_eq_true_eq] at hw3
    have e1 : IntKind.i64.min = -9223372036854775808 := by decide
    have e2 : IntKind.i64.max = 9223372036854775807 := by decide
    omega
  exact groupFinds_any a0 a1 a2 a3 W

set_option maxRecDepth 100000 in
theorem groupFinds_lifted (os : Os) (started : os.Started) (H : Type) (enc : TypeId × Value → H) :
    ReturnsInHanded {} Try.checked os 11 .any (Rows.groupFindsSpec.pre6 enc Try.prog Try.f11 Rows.groupFindsRow.domain false) (Rows.groupFindsSpec.post enc Try.prog Try.f11 false true false false) := by
  refine returnsInHanded_of_change_sized (C := Try.checked) law_own started (by kernel_rfl) Try.func11
    (ChangeSpec.witness6 (enc := enc) (C := Try.checked) false ⟨#[], #[.int .i64 0, .int .i64 0, .string ⟨#[]⟩, .int .i64 0], []⟩ 8 (by kernel_rfl) (by kernel_rfl) (by kernel_rfl) (by kernel_rfl)) ?_
  intro W base args ds gs before hval0 hW _ hsz0 _
  have hsz : (DataW.weightsEach Try.prog (Try.f11.params.toList ++ Rows.groupFindsSpec.plain.varTypes Try.prog) (ds ++ gs)).all (· ≤ reachBytes) = true := hsz0
  clear hsz0
  have hval : ∀ (j : Nat) t v, Try.f11.params[j]? = some t → args[j]? = some v → Value.okWide Try.prog W .any base t v := hval0
  have hW' := hW
  obtain ⟨p, q, hA0, hV, rfl, _, _⟩ := hW
  have hA : DataW.TrodAll enc Try.prog W 0 (fun _ => true) true Try.f11.params.toList args.toList ds p := hA0
  rw [Try.params11] at hA hval hsz
  obtain ⟨v0, vs0, d0, ds0, p0, q0, hargs, rfl, rfl, h0, r0⟩ := trodAll_cons hA
  obtain ⟨v1, vs1, d1, ds1, p1, q1, rfl, rfl, rfl, h1, r1⟩ := trodAll_cons r0
  obtain ⟨v2, vs2, d2, ds2, p2, q2, rfl, rfl, rfl, h2, r2⟩ := trodAll_cons r1
  obtain ⟨v3, vs3, d3, ds3, p3, q3, rfl, rfl, rfl, h3, r3⟩ := trodAll_cons r2
  obtain ⟨rfl, rfl, rfl⟩ := trodAll_nil r3
  obtain rfl : args = #[v0, v1, v2, v3] := by cases args; simp_all
  obtain ⟨rfl, rfl⟩ := trodVars_none hV
  have lt0 : ∀ x ∈ p0, x.block < W.heap.size := by obtain ⟨m, hm⟩ := h0; exact DataW.trod_lt m _ _ _ hm
  have lt1 : ∀ x ∈ p1, x.block < W.heap.size := by obtain ⟨m, hm⟩ := h1; exact DataW.trod_lt m _ _ _ hm
  have lt2 : ∀ x ∈ p2, x.block < W.heap.size := by obtain ⟨m, hm⟩ := h2; exact DataW.trod_lt m _ _ _ hm
  have lt3 : ∀ x ∈ p3, x.block < W.heap.size := by obtain ⟨m, hm⟩ := h3; exact DataW.trod_lt m _ _ _ hm
  clear hA0 hval0
  refine (groupFinds_calls enc W base h0 h1 h2 h3 (hval 0 3 v0 rfl rfl) (hval 1 3 v1 rfl rfl) (hval 2 9 v2 rfl rfl) (hval 3 3 v3 rfl rfl) lt0 lt1 lt2 lt3 hsz).mono fun e W' ⟨he, bel⟩ => ?_
  subst he
  exact ⟨_, rfl, _, _, _, [], _, [], hW', trodAll_mk1 (shut_bool Try.underlying4 _), (trodAll_cons_mk (Below.trod law_laidOut (by kernel_rfl) (of_decide_eq_true (by kernel_rfl)) h0 bel lt0) (trodAll_cons_mk (Below.trod law_laidOut (by kernel_rfl) (of_decide_eq_true (by kernel_rfl)) h1 bel lt1) (trodAll_cons_mk (Below.trod law_laidOut (by kernel_rfl) (of_decide_eq_true (by kernel_rfl)) h2 bel lt2) (trodAll_cons_mk (Below.trod law_laidOut (by kernel_rfl) (of_decide_eq_true (by kernel_rfl)) h3 bel lt3) trodAll_mk0)))), rfl, bel.frame _, fun h => by cases h⟩

theorem groupFinds_holds : Rows.GroupFindsSaid :=
  OpenClaim.holds_of_wide 11 Try.f11 rfl rfl rfl rfl rfl rfl rfl ⟨rfl, rfl, rfl, rfl, rfl⟩ rfl rfl rfl rfl rfl (by kernel_rfl) Try.func11 (by kernel_rfl)
    (of_decide_eq_true (by kernel_rfl)) (by unfold Func.isWrapper; first | (rw [if_pos (by decide +kernel)]; kernel_rfl) | (rw [if_neg (by decide +kernel)]; exact ⟨rfl, rfl⟩))
    (fun os started H enc _ => groupFinds_lifted os started H enc)
#print axioms groupFinds_holds



end Go.Proofs.Ytdmldnpadojflaa
