/- GroupLaw: products of elements, and powers that add up. No condition. -/
import Derived.Test.YtdmldnpadojflaaGrpElems
import Derived.Test.YtdmldnpadojflaaLawElems
namespace Go.Proofs.Ytdmldnpadojflaa
open Go.ChangeShapes Go.WideShapes Go.ChangeAt Go.RowKit


theorem rows2 (w : World) (c1 c2 : List Value) (a1 a2 : Array Value) (e1 : a1 = c1.toArray) (e2 : a2 = c2.toArray) (t1 t2 : TypeId) :
    Below w.heap.size w ((w.alloc (.cells a1 t1)).alloc (.cells a2 t2)) ∧ Bx ((w.alloc (.cells a1 t1)).alloc (.cells a2 t2)) w.heap.size t1 c1 ∧ Bx ((w.alloc (.cells a1 t1)).alloc (.cells a2 t2)) (w.heap.size + 1) t2 c2 := by
  have b1 : Below w.heap.size w (w.alloc (.cells a1 t1)) := (Below.refl _ _).alloc (Nat.le_refl _) _
  have b2 : Below (w.alloc (.cells a1 t1)).heap.size (w.alloc (.cells a1 t1)) ((w.alloc (.cells a1 t1)).alloc (.cells a2 t2)) := (Below.refl _ _).alloc (Nat.le_refl _) _
  refine ⟨below_up b1 b2, (Bx.new w _ _ _ e1).up b2, ?_⟩
  have h := Bx.new (w.alloc (.cells a1 t1)) t2 c2 _ e2
  rwa [World.size_alloc] at h

theorem base_t (k : Nat) (h1 : 1 ≤ k) (h3 : k ≤ 3) (w : World) : Calls Try.prog 19 #[.int .i64 (k : Int)] w (Ans (.string (T (grp k) 2)) 0 w) := Base_some k h1 h3 w

theorem product2_t (k : Nat) (h1 : 1 ≤ k) (h3 : k ≤ 3) (x y m n r : Nat) (hx0 : 0 < x) (hx : x ≤ (grp k).q.m) (hy0 : 0 < y) (hy : y ≤ (grp k).q.m) (hm : m < (grp k).q.m) (hn : n < (grp k).q.m) (hr : Lw (grp k).q.m (grp k).p.m (x ^ m * y ^ n) = r)
    (aa an : Option Addr) (w : World) (hA : Sl w w.heap.size aa [.string (T (grp k) x), .string (T (grp k) y)]) (hN : Sl w w.heap.size an [.string (T (grp k) m), .string (T (grp k) n)]) :
    Calls Try.prog 21 #[.int .i64 (k : Int), .slice aa 2 2, .slice an 2 2] w (Ans (.string (T (grp k) r)) 0 w) := by
  have ok := grp_ok k h1 h3
  have fit := grp_fits k h1 h3
  have h := Product_some k h1 h3 [T (grp k) x, T (grp k) y] [T (grp k) m, T (grp k) n] aa an 2 2 2 2 rfl rfl w hA hN
  have e1 : proV (grp k) [T (grp k) x, T (grp k) y] [T (grp k) m, T (grp k) n] = T (grp k) r := by
    unfold proV
    rw [if_neg (by simp), if_neg (by simp)]
    simp only [prodV, T_el ok fit hx0 hx, T_el ok fit hy0 hy, T_sc ok fit hm, T_sc ok fit hn, T_num ok hx fit, T_num ok hy fit, T_num ok (Nat.le_of_lt hm) fit, T_num ok (Nat.le_of_lt hn) fit, Nat.one_mul, Bool.true_eq_false, if_false]
    exact congrArg (textS · _) hr
  have e2 : proE (grp k) [T (grp k) x, T (grp k) y] [T (grp k) m, T (grp k) n] = 0 := by
    unfold proE
    rw [if_neg (by simp), if_neg (by simp)]
    simp only [prodE, T_el ok fit hx0 hx, T_el ok fit hy0 hy, T_sc ok fit hm, T_sc ok fit hn, Bool.true_eq_false, if_false]
  rwa [e1, e2] at h

set_option maxRecDepth 100000 in
set_option maxHeartbeats 400000 in
theorem groupLaw_none (k : Int) (hk : ¬ (1 ≤ k ∧ k ≤ 3)) (a b c m n : ByteArray) (w : World) : Calls Try.prog 12 #[.int .i64 k, .string a, .string b, .string c, .string m, .string n] w fun e w' => e = .returned (.bool true) ∧ Below w.heap.size w w' := by
  have HB : Hid (Below w.heap.size w w) := Below.refl _ _
  go_enter Try.func12, Try.ntmps12
  go_wp2_with fail
  refine (Base_none k hk w).mono ?_
  rintro e w1 ⟨rfl, hb9⟩
  have HB9 := Lib.hid (below_up HB.out hb9)
  clear hb9 HB
  have HB := HB9
  clear HB9
  go_wp2_with fail
  go_ret
  exact ⟨rfl, HB.out⟩


set_option maxRecDepth 100000 in
set_option maxHeartbeats 1000000 in
theorem groupLaw_not (k : Nat) (h1 : 1 ≤ k) (h3 : k ≤ 3) (a b c m n : ByteArray)
    (h : ¬ (isEl (grp k).q.m (grp k).size a = true ∧ isEl (grp k).q.m (grp k).size b = true ∧ isEl (grp k).q.m (grp k).size c = true ∧ isSc (grp k).q.m (grp k).size m = true ∧ isSc (grp k).q.m (grp k).size n = true)) (w : World) :
    Calls Try.prog 12 #[.int .i64 (k : Int), .string a, .string b, .string c, .string m, .string n] w fun e w' => e = .returned (.bool true) ∧ Below w.heap.size w w' := by
  have h2q : 2 ≤ (grp k).q.m := (grp_prime_q k h1 h3).1
  obtain ⟨ba, hba⟩ : ∃ x, isEl (grp k).q.m (grp k).size a = x := ⟨_, rfl⟩
  obtain ⟨bb, hbb⟩ : ∃ x, isEl (grp k).q.m (grp k).size b = x := ⟨_, rfl⟩
  obtain ⟨bc, hbc⟩ : ∃ x, isEl (grp k).q.m (grp k).size c = x := ⟨_, rfl⟩
  obtain ⟨bm, hbm⟩ : ∃ x, isSc (grp k).q.m (grp k).size m = x := ⟨_, rfl⟩
  obtain ⟨bn, hbn⟩ : ∃ x, isSc (grp k).q.m (grp k).size n = x := ⟨_, rfl⟩
  rw [hba, hbb, hbc, hbm, hbn] at h
  have HBA := Lib.hid hba
  have HBB := Lib.hid hbb
  have HBC := Lib.hid hbc
  have HBM := Lib.hid hbm
  have HBN := Lib.hid hbn
  clear hba hbb hbc hbm hbn
  have HB : Hid (Below w.heap.size w w) := Below.refl _ _
  go_enter Try.func12, Try.ntmps12
  go_wp2_with fail
  refine (base_t k h1 h3 w).mono ?_
  rintro e w1 ⟨rfl, hb9⟩
  have HB9 := Lib.hid (below_up HB.out hb9)
  clear hb9 HB
  have HB := HB9
  clear HB9
  go_wp2_with fail
  refine (memb_t k h1 h3 2 (by decide) h2q w1).mono ?_
  rintro e w2 ⟨rfl, hb9⟩
  have HB9 := Lib.hid (below_up HB.out hb9)
  clear hb9 HB
  have HB := HB9
  clear HB9
  go_wp2_with fail
  refine ((HBA.out ▸ Member_some k h1 h3 a w2)).mono ?_
  rintro e w3 ⟨rfl, hb9⟩
  have HB9 := Lib.hid (below_up HB.out hb9)
  clear hb9 HB
  have HB := HB9
  clear HB9
  cases ba
  · go_wp2_with fail
    go_ret
    exact ⟨rfl, HB.out⟩
  · go_wp2_with fail
    refine ((HBB.out ▸ Member_some k h1 h3 b w3)).mono ?_
    rintro e w4 ⟨rfl, hb9⟩
    have HB9 := Lib.hid (below_up HB.out hb9)
    clear hb9 HB
    have HB := HB9
    clear HB9
    cases bb
    · go_wp2_with fail
      go_ret
      exact ⟨rfl, HB.out⟩
    · go_wp2_with fail
      refine ((HBC.out ▸ Member_some k h1 h3 c w4)).mono ?_
      rintro e w5 ⟨rfl, hb9⟩
      have HB9 := Lib.hid (below_up HB.out hb9)
      clear hb9 HB
      have HB := HB9
      clear HB9
      cases bc
      · go_wp2_with fail
        go_ret
        exact ⟨rfl, HB.out⟩
      · go_wp2_with fail
        refine ((HBM.out ▸ Scalar_some k h1 h3 m w5)).mono ?_
        rintro e w6 ⟨rfl, hb9⟩
        have HB9 := Lib.hid (below_up HB.out hb9)
        clear hb9 HB
        have HB := HB9
        clear HB9
        cases bm
        · go_wp2_with fail
          go_ret
          exact ⟨rfl, HB.out⟩
        · go_wp2_with fail
          refine ((HBN.out ▸ Scalar_some k h1 h3 n w6)).mono ?_
          rintro e w7 ⟨rfl, hb9⟩
          have HB9 := Lib.hid (below_up HB.out hb9)
          clear hb9 HB
          have HB := HB9
          clear HB9
          cases bn
          · go_wp2_with fail
            go_ret
            exact ⟨rfl, HB.out⟩
          · simp at h

theorem modI_last {q l : Nat} (h1 : 1 < q) (h : q - 1 = l) : modI q (-1) = l := by
  unfold modI
  have : (-1 : Int) % (q : Int) = (q : Int) - 1 := by
    rw [Int.emod_eq_add_self_emod, Int.emod_eq_of_lt (by omega) (by omega)]
    omega
  rw [this]
  omega

set_option maxRecDepth 100000 in
set_option maxHeartbeats 4000000 in
theorem groupLaw_yes (k : Nat) (h1 : 1 ≤ k) (h3 : k ≤ 3) (x y z m n : Nat) (hx0 : 0 < x) (hx : x ≤ (grp k).q.m) (hy0 : 0 < y) (hy : y ≤ (grp k).q.m) (hz0 : 0 < z) (hz : z ≤ (grp k).q.m) (hm : m < (grp k).q.m) (hn : n < (grp k).q.m) (w : World) :
    Calls Try.prog 12 #[.int .i64 (k : Int), .string (T (grp k) x), .string (T (grp k) y), .string (T (grp k) z), .string (T (grp k) m), .string (T (grp k) n)] w fun e w' => e = .returned (.bool true) ∧ Below w.heap.size w w' := by
  have h2q : 2 ≤ (grp k).q.m := (grp_prime_q k h1 h3).1
  have hq0 : 0 < (grp k).q.m := by omega
  have hpp := grp_prime_p k h1 h3
  have htw := (grp_ok k h1 h3).twice
  obtain ⟨q, hq⟩ : ∃ q, (grp k).q.m = q := ⟨_, rfl⟩
  obtain ⟨p, hp⟩ : ∃ p, (grp k).p.m = p := ⟨_, rfl⟩
  have HF : Hid (2 ≤ q ∧ IsPrime p ∧ p = 2 * q + 1 ∧ x ≤ q ∧ y ≤ q ∧ z ≤ q ∧ m < q ∧ n < q) := by
    rw [← hq, ← hp]
    exact ⟨h2q, hpp, htw, hx, hy, hz, hm, hn⟩
  have HG9 : Hid (∃ u1 v1 v2 s1 s2 s3 r1 r2 p1 p2 p3 p4 p5 p6 p7 p8 l1, q - 1 = l1 ∧ Lw q p (x ^ 0) = u1 ∧ Lw q p (x ^ (p - 2)) = v1 ∧ Lw q p (x * v1) = u1 ∧ Lw q p (x * u1) = x ∧ Lw q p (x ^ 1) = x ∧ Lw q p (x ^ l1) = v2 ∧ Lw q p (v2 * x) = u1
      ∧ Lw q p (x * y) = s1 ∧ Lw q p (y * x) = s1 ∧ Lw q p (s1 * z) = s3 ∧ Lw q p (y * z) = s2 ∧ Lw q p (x * s2) = s3 ∧ (m + n) % q = r1 ∧ m * n % q = r2 ∧ Lw q p (x ^ m) = p1 ∧ Lw q p (x ^ n) = p2 ∧ Lw q p (p1 * p2) = p3 ∧ Lw q p (x ^ r1) = p3
      ∧ Lw q p (p1 ^ n) = p4 ∧ Lw q p (x ^ r2) = p4 ∧ Lw q p (s1 ^ m) = p5 ∧ Lw q p (y ^ m) = p6 ∧ Lw q p (p1 * p6) = p5 ∧ Lw q p (y ^ n) = p8 ∧ Lw q p (p1 * p8) = p7 ∧ Lw q p (x ^ m * y ^ n) = p7
      ∧ (0 < u1 ∧ 0 < v1 ∧ 0 < v2 ∧ 0 < s1 ∧ 0 < s2 ∧ 0 < p1 ∧ 0 < p2 ∧ 0 < p6 ∧ 0 < p8) ∧ (u1 ≤ q ∧ v1 ≤ q ∧ v2 ≤ q ∧ s1 ≤ q ∧ s2 ≤ q ∧ p1 ≤ q ∧ p2 ≤ q ∧ p6 ≤ q ∧ p8 ≤ q) ∧ r1 < q ∧ r2 < q ∧ l1 < q) := by
    obtain ⟨f2q, fpp, ftw, fx, fy, fz, fm, fn⟩ := HF.out
    have f0 : 0 < q := by omega
    have dx : ¬ p ∣ x := not_dvd_small hx0 (by omega)
    have dy : ¬ p ∣ y := not_dvd_small hy0 (by omega)
    have dz : ¬ p ∣ z := not_dvd_small hz0 (by omega)
    have L := fun v => Lw_pm (q := q) ftw v
    have R := fun v => PM.refl p v
    have E := fun {u v : Nat} (h : PM p u v) => Lw_eq f0 ftw h
    refine ⟨_, _, _, _, _, _, _, _, _, _, _, _, _, _, _, _, _, rfl, rfl, rfl, ?_, ?_, ?_, rfl, ?_, rfl, ?_, rfl, rfl, ?_, rfl, rfl, rfl, rfl, rfl, ?_, rfl, ?_, rfl, rfl, ?_, rfl, rfl, ?_, ⟨?_, ?_, ?_, ?_, ?_, ?_, ?_, ?_, ?_⟩, ⟨?_, ?_, ?_, ?_, ?_, ?_, ?_, ?_, ?_⟩, ?_, ?_, ?_⟩
    · refine E (((R x).mul (L (x ^ (p - 2)))).trans ?_)
      rw [Nat.mul_comm, ← Nat.pow_succ, show (p - 2).succ = q * 2 by omega, Nat.pow_mul, Nat.pow_zero]
      have := (pm_euler fpp ftw hx0 (by omega)).pow 2
      rwa [Nat.one_pow] at this
    · have h9 := E ((R x).mul (L (x ^ 0)))
      rw [h9, Nat.pow_zero, Nat.mul_one, Lw_fix ftw fx]
    · rw [Nat.pow_one, Lw_fix ftw fx]
    · refine E (((L (x ^ (q - 1))).mul (R x)).trans ?_)
      rw [← Nat.pow_succ, show (q - 1).succ = q by omega, Nat.pow_zero]
      exact pm_euler fpp ftw hx0 (by omega)
    · rw [Nat.mul_comm]
    · refine E (((R x).mul (L (y * z))).trans ?_)
      rw [← Nat.mul_assoc]
      exact ((L (x * y)).mul (R z)).symm
    · refine E ((pm_pow_mod fpp ftw hx0 (by omega) (m + n)).trans ?_)
      rw [Nat.pow_add]
      exact ((L (x ^ m)).mul (L (x ^ n))).symm
    · refine E ((pm_pow_mod fpp ftw hx0 (by omega) (m * n)).trans ?_)
      rw [Nat.pow_mul]
      exact ((L (x ^ m)).pow n).symm
    · refine E (((L (x ^ m)).mul (L (y ^ m))).trans ?_)
      rw [← Nat.mul_pow]
      exact ((L (x * y)).pow m).symm
    · exact E ((L (x ^ m)).mul (L (y ^ n))).symm
    · exact Lw_pos ftw (fpp.not_dvd_pow dx _)
    · exact Lw_pos ftw (fpp.not_dvd_pow dx _)
    · exact Lw_pos ftw (fpp.not_dvd_pow dx _)
    · exact Lw_pos ftw (fpp.not_dvd_mul dx dy)
    · exact Lw_pos ftw (fpp.not_dvd_mul dy dz)
    · exact Lw_pos ftw (fpp.not_dvd_pow dx _)
    · exact Lw_pos ftw (fpp.not_dvd_pow dx _)
    · exact Lw_pos ftw (fpp.not_dvd_pow dy _)
    · exact Lw_pos ftw (fpp.not_dvd_pow dy _)
    all_goals first | exact Lw_le ftw _ | exact Nat.mod_lt _ f0 | omega
  rw [← hq, ← hp] at HG9
  clear hq hp HF hpp htw q p
  obtain ⟨u1, v1, v2, s1, s2, s3, r1, r2, p1, p2, p3, p4, p5, p6, p7, p8, l1, e0, e1, e2, e3, e4, e5, e6, e7, e8, e9, e10, e11, e12, e13, e14, e15, e16, e17, e18, e19, e20, e21, e22, e23, e24, e25, e26, ⟨g1, g2, g3, g4, g5, g6, g7, g8, g9⟩, ⟨k1, k2, k3, k4, k5, k6, k7, k8, k9⟩, k10, k11, k12⟩ := HG9.out
  clear HG9
  have E0 := Lib.hid e0
  have E1 := Lib.hid e1
  have E2 := Lib.hid e2
  have E3 := Lib.hid e3
  have E4 := Lib.hid e4
  have E5 := Lib.hid e5
  have E6 := Lib.hid e6
  have E7 := Lib.hid e7
  have E8 := Lib.hid e8
  have E9 := Lib.hid e9
  have E10 := Lib.hid e10
  have E11 := Lib.hid e11
  have E12 := Lib.hid e12
  have E13 := Lib.hid e13
  have E14 := Lib.hid e14
  have E15 := Lib.hid e15
  have E16 := Lib.hid e16
  have E17 := Lib.hid e17
  have E18 := Lib.hid e18
  have E19 := Lib.hid e19
  have E20 := Lib.hid e20
  have E21 := Lib.hid e21
  have E22 := Lib.hid e22
  have E23 := Lib.hid e23
  have E24 := Lib.hid e24
  have E25 := Lib.hid e25
  have E26 := Lib.hid e26
  clear e0 e1 e2 e3 e4 e5 e6 e7 e8 e9 e10 e11 e12 e13 e14 e15 e16 e17 e18 e19 e20 e21 e22 e23 e24 e25 e26
  have h1q : 1 < (grp k).q.m := h2q
  have HB : Hid (Below w.heap.size w w) := Below.refl _ _
  go_enter Try.func12, Try.ntmps12
  go_wp2_with fail
  refine (base_t k h1 h3 w).mono ?_
  rintro e w1 ⟨rfl, hb9⟩
  have HB9 := Lib.hid (below_up HB.out hb9)
  clear hb9 HB
  have HB := HB9
  clear HB9
  go_wp2_with fail
  refine (memb_t k h1 h3 2 (by decide) h2q w1).mono ?_
  rintro e w2 ⟨rfl, hb9⟩
  have HB9 := Lib.hid (below_up HB.out hb9)
  clear hb9 HB
  have HB := HB9
  clear HB9
  go_wp2_with fail
  refine (memb_t k h1 h3 x hx0 hx w2).mono ?_
  rintro e w3 ⟨rfl, hb9⟩
  have HB9 := Lib.hid (below_up HB.out hb9)
  clear hb9 HB
  have HB := HB9
  clear HB9
  go_wp2_with fail
  refine (memb_t k h1 h3 y hy0 hy w3).mono ?_
  rintro e w4 ⟨rfl, hb9⟩
  have HB9 := Lib.hid (below_up HB.out hb9)
  clear hb9 HB
  have HB := HB9
  clear HB9
  go_wp2_with fail
  refine (memb_t k h1 h3 z hz0 hz w4).mono ?_
  rintro e w5 ⟨rfl, hb9⟩
  have HB9 := Lib.hid (below_up HB.out hb9)
  clear hb9 HB
  have HB := HB9
  clear HB9
  go_wp2_with fail
  refine (scal_t k h1 h3 m hm w5).mono ?_
  rintro e w6 ⟨rfl, hb9⟩
  have HB9 := Lib.hid (below_up HB.out hb9)
  clear hb9 HB
  have HB := HB9
  clear HB9
  go_wp2_with fail
  refine (scal_t k h1 h3 n hn w6).mono ?_
  rintro e w7 ⟨rfl, hb9⟩
  have HB9 := Lib.hid (below_up HB.out hb9)
  clear hb9 HB
  have HB := HB9
  clear HB9
  go_wp2_with fail
  refine (number_t k h1 h3 0 0 (by decide) (by decide) (by unfold modI; rw [Int.zero_emod]; rfl) w7).mono ?_
  rintro e w8 ⟨rfl, hb9⟩
  have HB9 := Lib.hid (below_up HB.out hb9)
  clear hb9 HB
  have HB := HB9
  clear HB9
  go_wp2_with fail
  refine (number_t k h1 h3 1 1 (by decide) (by decide) (by unfold modI; rw [Int.emod_eq_of_lt (by decide) (by omega)]; rfl) w8).mono ?_
  rintro e w9 ⟨rfl, hb9⟩
  have HB9 := Lib.hid (below_up HB.out hb9)
  clear hb9 HB
  have HB := HB9
  clear HB9
  go_wp2_with fail
  refine (number_t k h1 h3 (-1) l1 (by decide) (by decide) (modI_last h1q E0.out) w9).mono ?_
  rintro e w10 ⟨rfl, hb9⟩
  have HB9 := Lib.hid (below_up HB.out hb9)
  clear hb9 HB
  have HB := HB9
  clear HB9
  go_wp2_with fail
  refine (lawPower_t k h1 h3 x 0 u1 hx0 hx hq0 E1.out w10).mono ?_
  rintro e w11 ⟨rfl, hb9⟩
  have HB9 := Lib.hid (below_up HB.out hb9)
  clear hb9 HB
  have HB := HB9
  clear HB9
  go_wp2_with fail
  refine (under_t k h1 h3 x v1 hx0 hx E2.out w11).mono ?_
  rintro e w12 ⟨rfl, hb9⟩
  have HB9 := Lib.hid (below_up HB.out hb9)
  clear hb9 HB
  have HB := HB9
  clear HB9
  go_wp2_with fail
  refine (lawTimes_t k h1 h3 x v1 u1 hx0 hx g2 k2 E3.out w12).mono ?_
  rintro e w13 ⟨rfl, hb9⟩
  have HB9 := Lib.hid (below_up HB.out hb9)
  clear hb9 HB
  have HB := HB9
  clear HB9
  go_wp2_with fail
  refine (lawTimes_t k h1 h3 x u1 x hx0 hx g1 k1 E4.out w13).mono ?_
  rintro e w14 ⟨rfl, hb9⟩
  have HB9 := Lib.hid (below_up HB.out hb9)
  clear hb9 HB
  have HB := HB9
  clear HB9
  go_wp2_with fail
  refine (lawPower_t k h1 h3 x 1 x hx0 hx h1q E5.out w14).mono ?_
  rintro e w15 ⟨rfl, hb9⟩
  have HB9 := Lib.hid (below_up HB.out hb9)
  clear hb9 HB
  have HB := HB9
  clear HB9
  go_wp2_with fail
  refine (lawPower_t k h1 h3 x l1 v2 hx0 hx k12 E6.out w15).mono ?_
  rintro e w16 ⟨rfl, hb9⟩
  have HB9 := Lib.hid (below_up HB.out hb9)
  clear hb9 HB
  have HB := HB9
  clear HB9
  go_wp2_with fail
  refine (lawTimes_t k h1 h3 v2 x u1 g3 k3 hx0 hx E7.out w16).mono ?_
  rintro e w17 ⟨rfl, hb9⟩
  have HB9 := Lib.hid (below_up HB.out hb9)
  clear hb9 HB
  have HB := HB9
  clear HB9
  go_wp2_with fail
  refine (lawTimes_t k h1 h3 x y s1 hx0 hx hy0 hy E8.out w17).mono ?_
  rintro e w18 ⟨rfl, hb9⟩
  have HB9 := Lib.hid (below_up HB.out hb9)
  clear hb9 HB
  have HB := HB9
  clear HB9
  go_wp2_with fail
  refine (lawTimes_t k h1 h3 y x s1 hy0 hy hx0 hx E9.out w18).mono ?_
  rintro e w19 ⟨rfl, hb9⟩
  have HB9 := Lib.hid (below_up HB.out hb9)
  clear hb9 HB
  have HB := HB9
  clear HB9
  go_wp2_with fail
  refine (lawTimes_t k h1 h3 x y s1 hx0 hx hy0 hy E8.out w19).mono ?_
  rintro e w20 ⟨rfl, hb9⟩
  have HB9 := Lib.hid (below_up HB.out hb9)
  clear hb9 HB
  have HB := HB9
  clear HB9
  go_wp2_with fail
  refine (lawTimes_t k h1 h3 s1 z s3 g4 k4 hz0 hz E10.out w20).mono ?_
  rintro e w21 ⟨rfl, hb9⟩
  have HB9 := Lib.hid (below_up HB.out hb9)
  clear hb9 HB
  have HB := HB9
  clear HB9
  go_wp2_with fail
  refine (lawTimes_t k h1 h3 y z s2 hy0 hy hz0 hz E11.out w21).mono ?_
  rintro e w22 ⟨rfl, hb9⟩
  have HB9 := Lib.hid (below_up HB.out hb9)
  clear hb9 HB
  have HB := HB9
  clear HB9
  go_wp2_with fail
  refine (lawTimes_t k h1 h3 x s2 s3 hx0 hx g5 k5 E12.out w22).mono ?_
  rintro e w23 ⟨rfl, hb9⟩
  have HB9 := Lib.hid (below_up HB.out hb9)
  clear hb9 HB
  have HB := HB9
  clear HB9
  go_wp2_with fail
  refine (lawTimes_t k h1 h3 x y s1 hx0 hx hy0 hy E8.out w23).mono ?_
  rintro e w24 ⟨rfl, hb9⟩
  have HB9 := Lib.hid (below_up HB.out hb9)
  clear hb9 HB
  have HB := HB9
  clear HB9
  go_wp2_with fail
  refine (memb_t k h1 h3 s1 g4 k4 w24).mono ?_
  rintro e w25 ⟨rfl, hb9⟩
  have HB9 := Lib.hid (below_up HB.out hb9)
  clear hb9 HB
  have HB := HB9
  clear HB9
  go_wp2_with fail
  refine (addF_t k h1 h3 m n r1 hm hn E13.out w25).mono ?_
  rintro e w26 ⟨rfl, hb9⟩
  have HB9 := Lib.hid (below_up HB.out hb9)
  clear hb9 HB
  have HB := HB9
  clear HB9
  go_wp2_with fail
  refine (mulF_t k h1 h3 m n r2 hm hn E14.out w26).mono ?_
  rintro e w27 ⟨rfl, hb9⟩
  have HB9 := Lib.hid (below_up HB.out hb9)
  clear hb9 HB
  have HB := HB9
  clear HB9
  go_wp2_with fail
  refine (lawPower_t k h1 h3 x m p1 hx0 hx hm E15.out w27).mono ?_
  rintro e w28 ⟨rfl, hb9⟩
  have HB9 := Lib.hid (below_up HB.out hb9)
  clear hb9 HB
  have HB := HB9
  clear HB9
  go_wp2_with fail
  refine (lawPower_t k h1 h3 x n p2 hx0 hx hn E16.out w28).mono ?_
  rintro e w29 ⟨rfl, hb9⟩
  have HB9 := Lib.hid (below_up HB.out hb9)
  clear hb9 HB
  have HB := HB9
  clear HB9
  go_wp2_with fail
  refine (lawTimes_t k h1 h3 p1 p2 p3 g6 k6 g7 k7 E17.out w29).mono ?_
  rintro e w30 ⟨rfl, hb9⟩
  have HB9 := Lib.hid (below_up HB.out hb9)
  clear hb9 HB
  have HB := HB9
  clear HB9
  go_wp2_with fail
  refine (lawPower_t k h1 h3 x r1 p3 hx0 hx k10 E18.out w30).mono ?_
  rintro e w31 ⟨rfl, hb9⟩
  have HB9 := Lib.hid (below_up HB.out hb9)
  clear hb9 HB
  have HB := HB9
  clear HB9
  go_wp2_with fail
  refine (lawPower_t k h1 h3 x m p1 hx0 hx hm E15.out w31).mono ?_
  rintro e w32 ⟨rfl, hb9⟩
  have HB9 := Lib.hid (below_up HB.out hb9)
  clear hb9 HB
  have HB := HB9
  clear HB9
  go_wp2_with fail
  refine (lawPower_t k h1 h3 p1 n p4 g6 k6 hn E19.out w32).mono ?_
  rintro e w33 ⟨rfl, hb9⟩
  have HB9 := Lib.hid (below_up HB.out hb9)
  clear hb9 HB
  have HB := HB9
  clear HB9
  go_wp2_with fail
  refine (lawPower_t k h1 h3 x r2 p4 hx0 hx k11 E20.out w33).mono ?_
  rintro e w34 ⟨rfl, hb9⟩
  have HB9 := Lib.hid (below_up HB.out hb9)
  clear hb9 HB
  have HB := HB9
  clear HB9
  go_wp2_with fail
  refine (lawTimes_t k h1 h3 x y s1 hx0 hx hy0 hy E8.out w34).mono ?_
  rintro e w35 ⟨rfl, hb9⟩
  have HB9 := Lib.hid (below_up HB.out hb9)
  clear hb9 HB
  have HB := HB9
  clear HB9
  go_wp2_with fail
  refine (lawPower_t k h1 h3 s1 m p5 g4 k4 hm E21.out w35).mono ?_
  rintro e w36 ⟨rfl, hb9⟩
  have HB9 := Lib.hid (below_up HB.out hb9)
  clear hb9 HB
  have HB := HB9
  clear HB9
  go_wp2_with fail
  refine (lawPower_t k h1 h3 x m p1 hx0 hx hm E15.out w36).mono ?_
  rintro e w37 ⟨rfl, hb9⟩
  have HB9 := Lib.hid (below_up HB.out hb9)
  clear hb9 HB
  have HB := HB9
  clear HB9
  go_wp2_with fail
  refine (lawPower_t k h1 h3 y m p6 hy0 hy hm E22.out w37).mono ?_
  rintro e w38 ⟨rfl, hb9⟩
  have HB9 := Lib.hid (below_up HB.out hb9)
  clear hb9 HB
  have HB := HB9
  clear HB9
  go_wp2_with fail
  refine (lawTimes_t k h1 h3 p1 p6 p5 g6 k6 g8 k8 E23.out w38).mono ?_
  rintro e w39 ⟨rfl, hb9⟩
  have HB9 := Lib.hid (below_up HB.out hb9)
  clear hb9 HB
  have HB := HB9
  clear HB9
  go_wp2_with fail
  have hrow := rows2 w39 [.string (T (grp k) x), .string (T (grp k) y)] [.string (T (grp k) m), .string (T (grp k) n)] _ _ rfl rfl 9 9
  refine (product2_t k h1 h3 x y m n p7 hx0 hx hy0 hy hm hn E26.out _ _ _ (Sl.of_bx hrow.2.1) (Sl.of_bx hrow.2.2)).mono ?_
  rintro e w40 ⟨rfl, hb9⟩
  have HB9 := Lib.hid (below_up HB.out (below_up hrow.1 hb9))
  clear hb9 HB hrow
  have HB := HB9
  clear HB9
  go_wp2_with fail
  refine (lawPower_t k h1 h3 x m p1 hx0 hx hm E15.out w40).mono ?_
  rintro e w41 ⟨rfl, hb9⟩
  have HB9 := Lib.hid (below_up HB.out hb9)
  clear hb9 HB
  have HB := HB9
  clear HB9
  go_wp2_with fail
  refine (lawPower_t k h1 h3 y n p8 hy0 hy hn E24.out w41).mono ?_
  rintro e w42 ⟨rfl, hb9⟩
  have HB9 := Lib.hid (below_up HB.out hb9)
  clear hb9 HB
  have HB := HB9
  clear HB9
  go_wp2_with fail
  refine (lawTimes_t k h1 h3 p1 p8 p7 g6 k6 g9 k9 E25.out w42).mono ?_
  rintro e w43 ⟨rfl, hb9⟩
  have HB9 := Lib.hid (below_up HB.out hb9)
  clear hb9 HB
  have HB := HB9
  clear HB9
  go_wp2_with fail
  go_ret
  exact ⟨rfl, HB.out⟩

theorem groupLaw_any (k : Int) (a b c m n : ByteArray) (w : World) : Calls Try.prog 12 #[.int .i64 k, .string a, .string b, .string c, .string m, .string n] w fun e w' => e = .returned (.bool true) ∧ Below w.heap.size w w' := by
  by_cases hk : 1 ≤ k ∧ k ≤ 3
  · obtain ⟨j, rfl⟩ : ∃ j : Nat, k = j := ⟨k.toNat, by omega⟩
    by_cases h : isEl (grp j).q.m (grp j).size a = true ∧ isEl (grp j).q.m (grp j).size b = true ∧ isEl (grp j).q.m (grp j).size c = true ∧ isSc (grp j).q.m (grp j).size m = true ∧ isSc (grp j).q.m (grp j).size n = true
    · obtain ⟨ha, hb, hc, hm, hn⟩ := h
      have fa := isEl_facts ha
      have fb := isEl_facts hb
      have fc := isEl_facts hc
      have fm := isSc_facts hm
      have fn := isSc_facts hn
      rw [T_of fa.1, T_of fb.1, T_of fc.1, T_of fm.1, T_of fn.1]
      exact groupLaw_yes j (by omega) (by omega) _ _ _ _ _ fa.2.1 fa.2.2 fb.2.1 fb.2.2 fc.2.1 fc.2.2 fm.2 fn.2 w
    · exact groupLaw_not j (by omega) (by omega) a b c m n h w
  · exact groupLaw_none k hk a b c m n w

set_option maxRecDepth 100000 in
theorem groupLaw_calls {H : Type} (enc : TypeId × Value → H) (W : World) (base : Nat) {v0 v1 v2 v3 v4 v5 : Value} {d0 d1 d2 d3 d4 d5 : DataW H} {p0 p1 p2 p3 p4 p5 : List MemPlace}
    (h0 : DataW.Trod enc Try.prog W 0 (fun _ => true) true 3 v0 d0 p0) (h1 : DataW.Trod enc Try.prog W 0 (fun _ => true) true 9 v1 d1 p1) (h2 : DataW.Trod enc Try.prog W 0 (fun _ => true) true 9 v2 d2 p2) (h3 : DataW.Trod enc Try.prog W 0 (fun _ => true) true 9 v3 d3 p3) (h4 : DataW.Trod enc Try.prog W 0 (fun _ => true) true 9 v4 d4 p4) (h5 : DataW.Trod enc Try.prog W 0 (fun _ => true) true 9 v5 d5 p5)
    (k0 : Value.okWide Try.prog W .any base 3 v0) (k1 : Value.okWide Try.prog W .any base 9 v1) (k2 : Value.okWide Try.prog W .any base 9 v2) (k3 : Value.okWide Try.prog W .any base 9 v3) (k4 : Value.okWide Try.prog W .any base 9 v4) (k5 : Value.okWide Try.prog W .any base 9 v5)
    (_lt0 : ∀ x ∈ p0, x.block < W.heap.size) (_lt1 : ∀ x ∈ p1, x.block < W.heap.size) (_lt2 : ∀ x ∈ p2, x.block < W.heap.size) (_lt3 : ∀ x ∈ p3, x.block < W.heap.size) (_lt4 : ∀ x ∈ p4, x.block < W.heap.size) (_lt5 : ∀ x ∈ p5, x.block < W.heap.size)
    (_hsz : (DataW.weightsEach Try.prog ([3, 9, 9, 9, 9, 9] ++ Rows.groupLawSpec.plain.varTypes Try.prog) ([d0, d1, d2, d3, d4, d5] ++ [])).all (· ≤ reachBytes) = true) :
    Calls Try.prog 12 #[v0, v1, v2, v3, v4, v5] W fun e w' => e = .returned (.bool true) ∧ Below W.heap.size W w' := by
  obtain ⟨a0, rfl, _, _, hw0⟩ := open_int Try.underlying3 k0 h0
  have hr0 : -9223372036854775808 ≤ a0 ∧ a0 ≤ 9223372036854775807 := by
    simp only [Lit.wf, Bool.and_eq_true, decide_eq_true_eq] at hw0
    have e1 : IntKind.i64.min = -9223372036854775808 := by decide
    have e2 : IntKind.i64.max = 9223372036854775807 := by decide
    omega
  obtain ⟨a1, rfl, _⟩ := Go.ChangeMaps.open_string Try.underlying9 k1 h1
  obtain ⟨a2, rfl, _⟩ := Go.ChangeMaps.open_string Try.underlying9 k2 h2
  obtain ⟨a3, rfl, _⟩ := Go.ChangeMaps.open_string Try.underlying9 k3 h3
  obtain ⟨a4, rfl, _⟩ := Go.ChangeMaps.open_string Try.underlying9 k4 h4
  obtain ⟨a5, rfl, _⟩ := Go.ChangeMaps.open_string Try.underlying9 k5 h5
  exact groupLaw_any a0 a1 a2 a3 a4 a5 W

set_option maxRecDepth 100000 in
theorem groupLaw_lifted (os : Os) (started : os.Started) (H : Type) (enc : TypeId × Value → H) :
    ReturnsInHanded {} Try.checked os 12 .any (Rows.groupLawSpec.pre6 enc Try.prog Try.f12 Rows.groupLawRow.domain false) (Rows.groupLawSpec.post enc Try.prog Try.f12 false true false false) := by
  refine returnsInHanded_of_change_sized (C := Try.checked) law_own started (by kernel_rfl) Try.func12
    (ChangeSpec.witness6 (enc := enc) (C := Try.checked) false ⟨#[], #[.int .i64 0, .string ⟨#[]⟩, .string ⟨#[]⟩, .string ⟨#[]⟩, .string ⟨#[]⟩, .string ⟨#[]⟩], []⟩ 8 (by kernel_rfl) (by kernel_rfl) (by kernel_rfl) (by kernel_rfl)) ?_
  intro W base args ds gs before hval0 hW _ hsz0 _
  have hsz : (DataW.weightsEach Try.prog (Try.f12.params.toList ++ Rows.groupLawSpec.plain.varTypes Try.prog) (ds ++ gs)).all (· ≤ reachBytes) = true := hsz0
  clear hsz0
  have hval : ∀ (j : Nat) t v, Try.f12.params[j]? = some t → args[j]? = some v → Value.okWide Try.prog W .any base t v := hval0
  have hW' := hW
  obtain ⟨p, q, hA0, hV, rfl, _, _⟩ := hW
  have hA : DataW.TrodAll enc Try.prog W 0 (fun _ => true) true Try.f12.params.toList args.toList ds p := hA0
  rw [Try.params12] at hA hval hsz
  obtain ⟨v0, vs0, d0, ds0, p0, q0, hargs, rfl, rfl, h0, r0⟩ := trodAll_cons hA
  obtain ⟨v1, vs1, d1, ds1, p1, q1, rfl, rfl, rfl, h1, r1⟩ := trodAll_cons r0
  obtain ⟨v2, vs2, d2, ds2, p2, q2, rfl, rfl, rfl, h2, r2⟩ := trodAll_cons r1
  obtain ⟨v3, vs3, d3, ds3, p3, q3, rfl, rfl, rfl, h3, r3⟩ := trodAll_cons r2
  obtain ⟨v4, vs4, d4, ds4, p4, q4, rfl, rfl, rfl, h4, r4⟩ := trodAll_cons r3
  obtain ⟨v5, vs5, d5, ds5, p5, q5, rfl, rfl, rfl, h5, r5⟩ := trodAll_cons r4
  obtain ⟨rfl, rfl, rfl⟩ := trodAll_nil r5
  obtain rfl : args = #[v0, v1, v2, v3, v4, v5] := by cases args; simp_all
  obtain ⟨rfl, rfl⟩ := trodVars_none hV
  have lt0 : ∀ x ∈ p0, x.block < W.heap.size := by obtain ⟨m, hm⟩ := h0; exact DataW.trod_lt m _ _ _ hm
  have lt1 : ∀ x ∈ p1, x.block < W.heap.size := by obtain ⟨m, hm⟩ := h1; exact DataW.trod_lt m _ _ _ hm
  have lt2 : ∀ x ∈ p2, x.block < W.heap.size := by obtain ⟨m, hm⟩ := h2; exact DataW.trod_lt m _ _ _ hm
  have lt3 : ∀ x ∈ p3, x.block < W.heap.size := by obtain ⟨m, hm⟩ := h3; exact DataW.trod_lt m _ _ _ hm
  have lt4 : ∀ x ∈ p4, x.block < W.heap.size := by obtain ⟨m, hm⟩ := h4; exact DataW.trod_lt m _ _ _ hm
  have lt5 : ∀ x ∈ p5, x.block < W.heap.size := by obtain ⟨m, hm⟩ := h5; exact DataW.trod_lt m _ _ _ hm
  clear hA0 hval0
  refine (groupLaw_calls enc W base h0 h1 h2 h3 h4 h5 (hval 0 3 v0 rfl rfl) (hval 1 9 v1 rfl rfl) (hval 2 9 v2 rfl rfl) (hval 3 9 v3 rfl rfl) (hval 4 9 v4 rfl rfl) (hval 5 9 v5 rfl rfl) lt0 lt1 lt2 lt3 lt4 lt5 hsz).mono fun e W' ⟨he, bel⟩ => ?_
  subst he
  exact ⟨_, rfl, _, _, _, [], _, [], hW', trodAll_mk1 (shut_bool Try.underlying4 _), (trodAll_cons_mk (Below.trod law_laidOut (by kernel_rfl) (of_decide_eq_true (by kernel_rfl)) h0 bel lt0) (trodAll_cons_mk (Below.trod law_laidOut (by kernel_rfl) (of_decide_eq_true (by kernel_rfl)) h1 bel lt1) (trodAll_cons_mk (Below.trod law_laidOut (by kernel_rfl) (of_decide_eq_true (by kernel_rfl)) h2 bel lt2) (trodAll_cons_mk (Below.trod law_laidOut (by kernel_rfl) (of_decide_eq_true (by kernel_rfl)) h3 bel lt3) (trodAll_cons_mk (Below.trod law_laidOut (by kernel_rfl) (of_decide_eq_true (by kernel_rfl)) h4 bel lt4) (trodAll_cons_mk (Below.trod law_laidOut (by kernel_rfl) (of_decide_eq_true (by kernel_rfl)) h5 bel lt5) trodAll_mk0)))))), rfl, bel.frame _, fun h => by cases h⟩

theorem groupLaw_holds : Rows.GroupLawSaid :=
  OpenClaim.holds_of_wide 12 Try.f12 rfl rfl rfl rfl rfl rfl rfl ⟨rfl, rfl, rfl, rfl, rfl⟩ rfl rfl rfl rfl rfl (by kernel_rfl) Try.func12 (by kernel_rfl)
    (of_decide_eq_true (by kernel_rfl)) (by unfold Func.isWrapper; first | (rw [if_pos (by decide +kernel)]; kernel_rfl) | (rw [if_neg (by decide +kernel)]; exact ⟨rfl, rfl⟩))
    (fun os started H enc _ => groupLaw_lifted os started H enc)
#print axioms groupLaw_holds



end Go.Proofs.Ytdmldnpadojflaa
