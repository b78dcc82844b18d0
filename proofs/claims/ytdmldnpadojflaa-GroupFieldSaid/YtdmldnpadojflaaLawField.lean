/- GroupField: the scalars are a field. No condition. -/
import Derived.Test.YtdmldnpadojflaaGrpTexts
import Derived.Test.YtdmldnpadojflaaLawElems
namespace Go.Proofs.Ytdmldnpadojflaa
open Go.ChangeShapes Go.WideShapes Go.ChangeAt Go.RowKit


set_option maxRecDepth 100000 in
set_option maxHeartbeats 400000 in
theorem groupField_none (k : Int) (hk : ¬ (1 ≤ k ∧ k ≤ 3)) (a b c : ByteArray) (w : World) : Calls Try.prog 9 #[.int .i64 k, .string a, .string b, .string c] w fun e w' => e = .returned (.bool true) ∧ Below w.heap.size w w' := by
  have HB : Hid (Below w.heap.size w w) := Below.refl _ _
  go_enter Try.func9, Try.ntmps9
  go_wp2_with fail
  refine (Scalar_none k hk a w).mono ?_
  rintro e w1 ⟨rfl, hb9⟩
  have HB9 := Lib.hid (below_up HB.out hb9)
  clear hb9 HB
  have HB := HB9
  clear HB9
  go_wp2_with fail
  refine (Sizes_none k hk w1).mono ?_
  rintro e w2 ⟨rfl, hb9⟩
  have HB9 := Lib.hid (below_up HB.out hb9)
  clear hb9 HB
  have HB := HB9
  clear HB9
  go_wp2_with fail
  refine (Number_none k hk 0 w2).mono ?_
  rintro e w3 ⟨rfl, hb9⟩
  have HB9 := Lib.hid (below_up HB.out hb9)
  clear hb9 HB
  have HB := HB9
  clear HB9
  go_wp2_with fail
  go_ret
  exact ⟨rfl, HB.out⟩

theorem grp_size_pos (k : Nat) (h1 : 1 ≤ k) (h3 : k ≤ 3) : 0 < (grp k).size := by
  obtain rfl | rfl | rfl : k = 1 ∨ k = 2 ∨ k = 3 := by omega
  all_goals decide


set_option maxRecDepth 100000 in
set_option maxHeartbeats 400000 in
theorem groupField_not (k : Nat) (h1 : 1 ≤ k) (h3 : k ≤ 3) (a b c : ByteArray) (h : ¬ (isSc (grp k).q.m (grp k).size a = true ∧ isSc (grp k).q.m (grp k).size b = true ∧ isSc (grp k).q.m (grp k).size c = true)) (w : World) :
    Calls Try.prog 9 #[.int .i64 (k : Int), .string a, .string b, .string c] w fun e w' => e = .returned (.bool true) ∧ Below w.heap.size w w' := by
  have HSC : Hid (∀ W, Calls Try.prog 29 #[.int .i64 (k : Int), .string (T (grp k) 0)] W fun e w' => e = .returned (.bool true) ∧ Below W.heap.size W w') := fun W => by
    have h9 := Scalar_some k h1 h3 (T (grp k) 0) W
    rwa [T_sc (grp_ok k h1 h3) (grp_fits k h1 h3) (grp_ok k h1 h3).q.pos] at h9
  have hpos : 0 < (grp k).size := grp_size_pos k h1 h3
  have hts : (((T (grp k) 0).size : Int) == ((grp k).size : Int)) = true := by rw [T_size]; simp
  obtain ⟨ba, hba⟩ : ∃ x, isSc (grp k).q.m (grp k).size a = x := ⟨_, rfl⟩
  obtain ⟨bb, hbb⟩ : ∃ x, isSc (grp k).q.m (grp k).size b = x := ⟨_, rfl⟩
  obtain ⟨bc, hbc⟩ : ∃ x, isSc (grp k).q.m (grp k).size c = x := ⟨_, rfl⟩
  rw [hba, hbb, hbc] at h
  have HBA := Lib.hid hba
  have HBB := Lib.hid hbb
  have HBC := Lib.hid hbc
  clear hba hbb hbc
  cases ba
  · clear h
    have HB : Hid (Below w.heap.size w w) := Below.refl _ _
    go_enter Try.func9, Try.ntmps9
    go_wp2_with fail
    refine ((HBA.out ▸ Scalar_some k h1 h3 a w)).mono ?_
    rintro e w1 ⟨rfl, hb9⟩
    have HB9 := Lib.hid (below_up HB.out hb9)
    clear hb9 HB
    have HB := HB9
    clear HB9
    go_wp2_with fail
    refine (Sizes_some k h1 h3 w1).mono ?_
    rintro e v2 ⟨rfl, hb9⟩
    have HB9 := Lib.hid (below_up HB.out hb9)
    clear hb9 HB
    have HB := HB9
    clear HB9
    go_wp2_with fail
    refine (number_t k h1 h3 0 0 (by decide) (by decide) (by unfold modI; rw [Int.zero_emod]; rfl) v2).mono ?_
    rintro e v3 ⟨rfl, hb9⟩
    have HB9 := Lib.hid (below_up HB.out hb9)
    clear hb9 HB
    have HB := HB9
    clear HB9
    go_wp2_with fail
    refine (HSC.out v3).mono ?_
    rintro e v4 ⟨rfl, hb9⟩
    have HB9 := Lib.hid (below_up HB.out hb9)
    clear hb9 HB
    have HB := HB9
    clear HB9
    go_wp2_with fail
    go_ret
    exact ⟨rfl, HB.out⟩
  · cases bb
    · clear h
      have HB : Hid (Below w.heap.size w w) := Below.refl _ _
      go_enter Try.func9, Try.ntmps9
      go_wp2_with fail
      refine ((HBA.out ▸ Scalar_some k h1 h3 a w)).mono ?_
      rintro e w1 ⟨rfl, hb9⟩
      have HB9 := Lib.hid (below_up HB.out hb9)
      clear hb9 HB
      have HB := HB9
      clear HB9
      go_wp2_with fail
      refine ((HBB.out ▸ Scalar_some k h1 h3 b w1)).mono ?_
      rintro e w2 ⟨rfl, hb9⟩
      have HB9 := Lib.hid (below_up HB.out hb9)
      clear hb9 HB
      have HB := HB9
      clear HB9
      go_wp2_with fail
      refine (Sizes_some k h1 h3 w2).mono ?_
      rintro e v2 ⟨rfl, hb9⟩
      have HB9 := Lib.hid (below_up HB.out hb9)
      clear hb9 HB
      have HB := HB9
      clear HB9
      go_wp2_with fail
      refine (number_t k h1 h3 0 0 (by decide) (by decide) (by unfold modI; rw [Int.zero_emod]; rfl) v2).mono ?_
      rintro e v3 ⟨rfl, hb9⟩
      have HB9 := Lib.hid (below_up HB.out hb9)
      clear hb9 HB
      have HB := HB9
      clear HB9
      go_wp2_with fail
      refine (HSC.out v3).mono ?_
      rintro e v4 ⟨rfl, hb9⟩
      have HB9 := Lib.hid (below_up HB.out hb9)
      clear hb9 HB
      have HB := HB9
      clear HB9
      go_wp2_with fail
      go_ret
      exact ⟨rfl, HB.out⟩
    · cases bc
      · clear h
        have HB : Hid (Below w.heap.size w w) := Below.refl _ _
        go_enter Try.func9, Try.ntmps9
        go_wp2_with fail
        refine ((HBA.out ▸ Scalar_some k h1 h3 a w)).mono ?_
        rintro e w1 ⟨rfl, hb9⟩
        have HB9 := Lib.hid (below_up HB.out hb9)
        clear hb9 HB
        have HB := HB9
        clear HB9
        go_wp2_with fail
        refine ((HBB.out ▸ Scalar_some k h1 h3 b w1)).mono ?_
        rintro e w2 ⟨rfl, hb9⟩
        have HB9 := Lib.hid (below_up HB.out hb9)
        clear hb9 HB
        have HB := HB9
        clear HB9
        go_wp2_with fail
        refine ((HBC.out ▸ Scalar_some k h1 h3 c w2)).mono ?_
        rintro e w3 ⟨rfl, hb9⟩
        have HB9 := Lib.hid (below_up HB.out hb9)
        clear hb9 HB
        have HB := HB9
        clear HB9
        go_wp2_with fail
        refine (Sizes_some k h1 h3 w3).mono ?_
        rintro e v2 ⟨rfl, hb9⟩
        have HB9 := Lib.hid (below_up HB.out hb9)
        clear hb9 HB
        have HB := HB9
        clear HB9
        go_wp2_with fail
        refine (number_t k h1 h3 0 0 (by decide) (by decide) (by unfold modI; rw [Int.zero_emod]; rfl) v2).mono ?_
        rintro e v3 ⟨rfl, hb9⟩
        have HB9 := Lib.hid (below_up HB.out hb9)
        clear hb9 HB
        have HB := HB9
        clear HB9
        go_wp2_with fail
        refine (HSC.out v3).mono ?_
        rintro e v4 ⟨rfl, hb9⟩
        have HB9 := Lib.hid (below_up HB.out hb9)
        clear hb9 HB
        have HB := HB9
        clear HB9
        go_wp2_with fail
        go_ret
        exact ⟨rfl, HB.out⟩
      · exact absurd ⟨rfl, rfl, rfl⟩ h

theorem scal_t (k : Nat) (h1 : 1 ≤ k) (h3 : k ≤ 3) (x : Nat) (hx : x < (grp k).q.m) (w : World) : Calls Try.prog 29 #[.int .i64 (k : Int), .string (T (grp k) x)] w fun e w' => e = .returned (.bool true) ∧ Below w.heap.size w w' := by
  have h9 := Scalar_some k h1 h3 (T (grp k) x) w
  rwa [T_sc (grp_ok k h1 h3) (grp_fits k h1 h3) hx] at h9


set_option maxRecDepth 100000 in
set_option maxHeartbeats 2000000 in
theorem groupField_zero (k : Nat) (h1 : 1 ≤ k) (h3 : k ≤ 3) (y z : Nat) (hy : y < (grp k).q.m) (hz : z < (grp k).q.m) (w : World) :
    Calls Try.prog 9 #[.int .i64 (k : Int), .string (T (grp k) 0), .string (T (grp k) y), .string (T (grp k) z)] w fun e w' => e = .returned (.bool true) ∧ Below w.heap.size w w' := by
  obtain ⟨x, hx0⟩ : ∃ x, x = 0 := ⟨0, rfl⟩
  rw [← hx0]
  have hx : x < (grp k).q.m := by rw [hx0]; exact (grp_ok k h1 h3).q.pos
  have hq0 : 0 < (grp k).q.m := (grp_ok k h1 h3).q.pos
  have hqp := grp_prime_q k h1 h3
  have hq1 : 1 < (grp k).q.m := by have := hqp.1; omega
  obtain ⟨q, hq⟩ : ∃ q, (grp k).q.m = q := ⟨_, rfl⟩
  have hlt : ∀ n r, n % q = r → r < q := fun n r h => by rw [← h, ← hq]; exact Nat.mod_lt _ hq0
  obtain ⟨r1, e1⟩ : ∃ r, (x + y) % q = r := ⟨_, rfl⟩
  have e2 : (y + x) % q = r1 := by rw [Nat.add_comm, e1]
  obtain ⟨r2, e3⟩ : ∃ r, x * y % q = r := ⟨_, rfl⟩
  have e4 : y * x % q = r2 := by rw [Nat.mul_comm, e3]
  obtain ⟨r3, e5⟩ : ∃ r, (r1 + z) % q = r := ⟨_, rfl⟩
  obtain ⟨r4, e6⟩ : ∃ r, (y + z) % q = r := ⟨_, rfl⟩
  have e7 : (x + r4) % q = r3 := by rw [← e6, ← e5, ← e1, Nat.add_mod_mod, Nat.mod_add_mod, Nat.add_assoc]
  obtain ⟨r5, e8⟩ : ∃ r, r2 * z % q = r := ⟨_, rfl⟩
  obtain ⟨r6, e9⟩ : ∃ r, y * z % q = r := ⟨_, rfl⟩
  have e10 : x * r6 % q = r5 := by rw [← e9, ← e8, ← e3, Nat.mul_mod_mod, Nat.mod_mul_mod, Nat.mul_assoc]
  obtain ⟨r7, e11⟩ : ∃ r, x * r4 % q = r := ⟨_, rfl⟩
  obtain ⟨r8, e12⟩ : ∃ r, x * z % q = r := ⟨_, rfl⟩
  have e13 : (r2 + r8) % q = r7 := by rw [← e12, ← e11, ← e3, ← e6, Nat.mul_mod_mod, Nat.mod_add_mod, Nat.add_mod_mod, Nat.mul_add]
  have e14 : (r1 + (q - y)) % q = x := by
    rw [← e1, Nat.mod_add_mod, show x + y + (q - y) = x + q by have := hy; omega, Nat.add_mod_right, Nat.mod_eq_of_lt (by omega)]
  have l1 := hlt _ _ e1
  have l2 := hlt _ _ e3
  have l4 := hlt _ _ e6
  have l6 := hlt _ _ e9
  have l8 := hlt _ _ e12
  rw [← hq] at e1 e2 e3 e4 e5 e6 e7 e8 e9 e10 e11 e12 e13 e14 l1 l2 l4 l6 l8
  have E1 := Lib.hid e1
  have E2 := Lib.hid e2
  have E3 := Lib.hid e3
  have E4 := Lib.hid e4
  have E5 := Lib.hid e5
  have E6 := Lib.hid e6
  have E7 := Lib.hid e7
  have E8 := Lib.hid e8
  have E9 := Lib.hid e9
  have E10 := Lib.hid e10
  have E11 := Lib.hid e11
  have E12 := Lib.hid e12
  have E13 := Lib.hid e13
  have E14 := Lib.hid e14
  have HQ := Lib.hid hq
  have HQ1 := Lib.hid hq1
  have HQP := Lib.hid hqp
  clear e1 e2 e3 e4 e5 e6 e7 e8 e9 e10 e11 e12 e13 e14 hlt hq hq1 hqp
  have HX0 := Lib.hid hx0
  clear hx0
  have HB : Hid (Below w.heap.size w w) := Below.refl _ _
  go_enter Try.func9, Try.ntmps9
  go_wp2_with fail
  refine (scal_t k h1 h3 x hx w).mono ?_
  rintro e w1 ⟨rfl, hb9⟩
  have HB9 := Lib.hid (below_up HB.out hb9)
  clear hb9 HB
  have HB := HB9
  clear HB9
  go_wp2_with fail
  refine (scal_t k h1 h3 y hy w1).mono ?_
  rintro e w2 ⟨rfl, hb9⟩
  have HB9 := Lib.hid (below_up HB.out hb9)
  clear hb9 HB
  have HB := HB9
  clear HB9
  go_wp2_with fail
  refine (scal_t k h1 h3 z hz w2).mono ?_
  rintro e w3 ⟨rfl, hb9⟩
  have HB9 := Lib.hid (below_up HB.out hb9)
  clear hb9 HB
  have HB := HB9
  clear HB9
  go_wp2_with fail
  refine (lawAdd_t k h1 h3 x y r1 hx hy E1.out w3).mono ?_
  rintro e w4 ⟨rfl, hb9⟩
  have HB9 := Lib.hid (below_up HB.out hb9)
  clear hb9 HB
  have HB := HB9
  clear HB9
  go_wp2_with fail
  refine (lawAdd_t k h1 h3 y x r1 hy hx E2.out w4).mono ?_
  rintro e w5 ⟨rfl, hb9⟩
  have HB9 := Lib.hid (below_up HB.out hb9)
  clear hb9 HB
  have HB := HB9
  clear HB9
  go_wp2_with fail
  refine (lawMul_t k h1 h3 x y r2 hx hy E3.out w5).mono ?_
  rintro e w6 ⟨rfl, hb9⟩
  have HB9 := Lib.hid (below_up HB.out hb9)
  clear hb9 HB
  have HB := HB9
  clear HB9
  go_wp2_with fail
  refine (lawMul_t k h1 h3 y x r2 hy hx E4.out w6).mono ?_
  rintro e w7 ⟨rfl, hb9⟩
  have HB9 := Lib.hid (below_up HB.out hb9)
  clear hb9 HB
  have HB := HB9
  clear HB9
  go_wp2_with fail
  refine (lawAdd_t k h1 h3 x y r1 hx hy E1.out w7).mono ?_
  rintro e w8 ⟨rfl, hb9⟩
  have HB9 := Lib.hid (below_up HB.out hb9)
  clear hb9 HB
  have HB := HB9
  clear HB9
  go_wp2_with fail
  refine (lawAdd_t k h1 h3 r1 z r3 l1 hz E5.out w8).mono ?_
  rintro e w9 ⟨rfl, hb9⟩
  have HB9 := Lib.hid (below_up HB.out hb9)
  clear hb9 HB
  have HB := HB9
  clear HB9
  go_wp2_with fail
  refine (lawAdd_t k h1 h3 y z r4 hy hz E6.out w9).mono ?_
  rintro e w10 ⟨rfl, hb9⟩
  have HB9 := Lib.hid (below_up HB.out hb9)
  clear hb9 HB
  have HB := HB9
  clear HB9
  go_wp2_with fail
  refine (lawAdd_t k h1 h3 x r4 r3 hx l4 E7.out w10).mono ?_
  rintro e w11 ⟨rfl, hb9⟩
  have HB9 := Lib.hid (below_up HB.out hb9)
  clear hb9 HB
  have HB := HB9
  clear HB9
  go_wp2_with fail
  refine (lawMul_t k h1 h3 x y r2 hx hy E3.out w11).mono ?_
  rintro e w12 ⟨rfl, hb9⟩
  have HB9 := Lib.hid (below_up HB.out hb9)
  clear hb9 HB
  have HB := HB9
  clear HB9
  go_wp2_with fail
  refine (lawMul_t k h1 h3 r2 z r5 l2 hz E8.out w12).mono ?_
  rintro e w13 ⟨rfl, hb9⟩
  have HB9 := Lib.hid (below_up HB.out hb9)
  clear hb9 HB
  have HB := HB9
  clear HB9
  go_wp2_with fail
  refine (lawMul_t k h1 h3 y z r6 hy hz E9.out w13).mono ?_
  rintro e w14 ⟨rfl, hb9⟩
  have HB9 := Lib.hid (below_up HB.out hb9)
  clear hb9 HB
  have HB := HB9
  clear HB9
  go_wp2_with fail
  refine (lawMul_t k h1 h3 x r6 r5 hx l6 E10.out w14).mono ?_
  rintro e w15 ⟨rfl, hb9⟩
  have HB9 := Lib.hid (below_up HB.out hb9)
  clear hb9 HB
  have HB := HB9
  clear HB9
  go_wp2_with fail
  refine (lawAdd_t k h1 h3 y z r4 hy hz E6.out w15).mono ?_
  rintro e w16 ⟨rfl, hb9⟩
  have HB9 := Lib.hid (below_up HB.out hb9)
  clear hb9 HB
  have HB := HB9
  clear HB9
  go_wp2_with fail
  refine (lawMul_t k h1 h3 x r4 r7 hx l4 E11.out w16).mono ?_
  rintro e w17 ⟨rfl, hb9⟩
  have HB9 := Lib.hid (below_up HB.out hb9)
  clear hb9 HB
  have HB := HB9
  clear HB9
  go_wp2_with fail
  refine (lawMul_t k h1 h3 x y r2 hx hy E3.out w17).mono ?_
  rintro e w18 ⟨rfl, hb9⟩
  have HB9 := Lib.hid (below_up HB.out hb9)
  clear hb9 HB
  have HB := HB9
  clear HB9
  go_wp2_with fail
  refine (lawMul_t k h1 h3 x z r8 hx hz E12.out w18).mono ?_
  rintro e w19 ⟨rfl, hb9⟩
  have HB9 := Lib.hid (below_up HB.out hb9)
  clear hb9 HB
  have HB := HB9
  clear HB9
  go_wp2_with fail
  refine (lawAdd_t k h1 h3 r2 r8 r7 l2 l8 E13.out w19).mono ?_
  rintro e w20 ⟨rfl, hb9⟩
  have HB9 := Lib.hid (below_up HB.out hb9)
  clear hb9 HB
  have HB := HB9
  clear HB9
  go_wp2_with fail
  refine (lawAdd_t k h1 h3 x y r1 hx hy E1.out w20).mono ?_
  rintro e w21 ⟨rfl, hb9⟩
  have HB9 := Lib.hid (below_up HB.out hb9)
  clear hb9 HB
  have HB := HB9
  clear HB9
  go_wp2_with fail
  refine (sub_t k h1 h3 r1 y x l1 hy E14.out w21).mono ?_
  rintro e w22 ⟨rfl, hb9⟩
  have HB9 := Lib.hid (below_up HB.out hb9)
  clear hb9 HB
  have HB := HB9
  clear HB9
  go_wp2_with fail
  refine (number_t k h1 h3 1 1 (by decide) (by decide) (by unfold modI; rw [Int.emod_eq_of_lt (by decide) (by have := HQ1.out; omega)]; rfl) w22).mono ?_
  rintro e w23 ⟨rfl, hb9⟩
  have HB9 := Lib.hid (below_up HB.out hb9)
  clear hb9 HB
  have HB := HB9
  clear HB9
  go_wp2_with fail
  obtain rfl := HX0.out
  refine (inv_zero_t k h1 h3 w23).mono ?_
  rintro e w24 ⟨rfl, hb9⟩
  have HB9 := Lib.hid (below_up HB.out hb9)
  clear hb9 HB
  have HB := HB9
  clear HB9
  go_wp2_with fail
  refine (number_t k h1 h3 0 0 (by decide) (by decide) (by unfold modI; rw [Int.zero_emod]; rfl) w24).mono ?_
  rintro e w25 ⟨rfl, hb9⟩
  have HB9 := Lib.hid (below_up HB.out hb9)
  clear hb9 HB
  have HB := HB9
  clear HB9
  go_wp2_with fail
  go_ret
  exact ⟨rfl, HB.out⟩

set_option maxRecDepth 100000 in
set_option maxHeartbeats 2000000 in
theorem groupField_pos (k : Nat) (h1 : 1 ≤ k) (h3 : k ≤ 3) (x y z : Nat) (hx0 : 0 < x) (hx : x < (grp k).q.m) (hy : y < (grp k).q.m) (hz : z < (grp k).q.m) (w : World) :
    Calls Try.prog 9 #[.int .i64 (k : Int), .string (T (grp k) x), .string (T (grp k) y), .string (T (grp k) z)] w fun e w' => e = .returned (.bool true) ∧ Below w.heap.size w w' := by
  have hq0 : 0 < (grp k).q.m := (grp_ok k h1 h3).q.pos
  have hqp := grp_prime_q k h1 h3
  have hq1 : 1 < (grp k).q.m := by have := hqp.1; omega
  obtain ⟨q, hq⟩ : ∃ q, (grp k).q.m = q := ⟨_, rfl⟩
  have hlt : ∀ n r, n % q = r → r < q := fun n r h => by rw [← h, ← hq]; exact Nat.mod_lt _ hq0
  obtain ⟨r1, e1⟩ : ∃ r, (x + y) % q = r := ⟨_, rfl⟩
  have e2 : (y + x) % q = r1 := by rw [Nat.add_comm, e1]
  obtain ⟨r2, e3⟩ : ∃ r, x * y % q = r := ⟨_, rfl⟩
  have e4 : y * x % q = r2 := by rw [Nat.mul_comm, e3]
  obtain ⟨r3, e5⟩ : ∃ r, (r1 + z) % q = r := ⟨_, rfl⟩
  obtain ⟨r4, e6⟩ : ∃ r, (y + z) % q = r := ⟨_, rfl⟩
  have e7 : (x + r4) % q = r3 := by rw [← e6, ← e5, ← e1, Nat.add_mod_mod, Nat.mod_add_mod, Nat.add_assoc]
  obtain ⟨r5, e8⟩ : ∃ r, r2 * z % q = r := ⟨_, rfl⟩
  obtain ⟨r6, e9⟩ : ∃ r, y * z % q = r := ⟨_, rfl⟩
  have e10 : x * r6 % q = r5 := by rw [← e9, ← e8, ← e3, Nat.mul_mod_mod, Nat.mod_mul_mod, Nat.mul_assoc]
  obtain ⟨r7, e11⟩ : ∃ r, x * r4 % q = r := ⟨_, rfl⟩
  obtain ⟨r8, e12⟩ : ∃ r, x * z % q = r := ⟨_, rfl⟩
  have e13 : (r2 + r8) % q = r7 := by rw [← e12, ← e11, ← e3, ← e6, Nat.mul_mod_mod, Nat.mod_add_mod, Nat.add_mod_mod, Nat.mul_add]
  have e14 : (r1 + (q - y)) % q = x := by
    rw [← e1, Nat.mod_add_mod, show x + y + (q - y) = x + q by have := hy; omega, Nat.add_mod_right, Nat.mod_eq_of_lt (by omega)]
  have l1 := hlt _ _ e1
  have l2 := hlt _ _ e3
  have l4 := hlt _ _ e6
  have l6 := hlt _ _ e9
  have l8 := hlt _ _ e12
  rw [← hq] at e1 e2 e3 e4 e5 e6 e7 e8 e9 e10 e11 e12 e13 e14 l1 l2 l4 l6 l8
  have E1 := Lib.hid e1
  have E2 := Lib.hid e2
  have E3 := Lib.hid e3
  have E4 := Lib.hid e4
  have E5 := Lib.hid e5
  have E6 := Lib.hid e6
  have E7 := Lib.hid e7
  have E8 := Lib.hid e8
  have E9 := Lib.hid e9
  have E10 := Lib.hid e10
  have E11 := Lib.hid e11
  have E12 := Lib.hid e12
  have E13 := Lib.hid e13
  have E14 := Lib.hid e14
  have HQ := Lib.hid hq
  have HQ1 := Lib.hid hq1
  have HQP := Lib.hid hqp
  clear e1 e2 e3 e4 e5 e6 e7 e8 e9 e10 e11 e12 e13 e14 hlt hq hq1 hqp
  obtain ⟨r9, e15⟩ : ∃ r, x ^ ((grp k).q.m - 2) % (grp k).q.m = r := ⟨_, rfl⟩
  have l9 : r9 < (grp k).q.m := by rw [← e15]; exact Nat.mod_lt _ hq0
  have e16 : x * r9 % (grp k).q.m = 1 := by
    rw [← e15, Nat.mul_mod_mod, Nat.mul_comm, ← Nat.pow_succ, show ((grp k).q.m - 2).succ = (grp k).q.m - 1 by have := HQ1.out; omega]
    rw [fermat HQP.out (fun h => by have := Nat.le_of_dvd hx0 h; omega)]
    exact Nat.mod_eq_of_lt HQ1.out
  have hne : (T (grp k) 1).toList.isEmpty = false := by
    rw [ByteArray.toList_eq]
    cases h : (T (grp k) 1).data.toList.isEmpty with
    | false => rfl
    | true =>
      rw [List.isEmpty_iff] at h
      have h9 : (T (grp k) 1).size = 0 := by
        show (T (grp k) 1).data.size = 0
        rw [← Array.length_toList, h]
        rfl
      rw [T_size] at h9
      have := grp_size_pos k h1 h3
      omega
  have E15 := Lib.hid e15
  have E16 := Lib.hid e16
  clear e15 e16
  have HB : Hid (Below w.heap.size w w) := Below.refl _ _
  go_enter Try.func9, Try.ntmps9
  go_wp2_with fail
  refine (scal_t k h1 h3 x hx w).mono ?_
  rintro e w1 ⟨rfl, hb9⟩
  have HB9 := Lib.hid (below_up HB.out hb9)
  clear hb9 HB
  have HB := HB9
  clear HB9
  go_wp2_with fail
  refine (scal_t k h1 h3 y hy w1).mono ?_
  rintro e w2 ⟨rfl, hb9⟩
  have HB9 := Lib.hid (below_up HB.out hb9)
  clear hb9 HB
  have HB := HB9
  clear HB9
  go_wp2_with fail
  refine (scal_t k h1 h3 z hz w2).mono ?_
  rintro e w3 ⟨rfl, hb9⟩
  have HB9 := Lib.hid (below_up HB.out hb9)
  clear hb9 HB
  have HB := HB9
  clear HB9
  go_wp2_with fail
  refine (lawAdd_t k h1 h3 x y r1 hx hy E1.out w3).mono ?_
  rintro e w4 ⟨rfl, hb9⟩
  have HB9 := Lib.hid (below_up HB.out hb9)
  clear hb9 HB
  have HB := HB9
  clear HB9
  go_wp2_with fail
  refine (lawAdd_t k h1 h3 y x r1 hy hx E2.out w4).mono ?_
  rintro e w5 ⟨rfl, hb9⟩
  have HB9 := Lib.hid (below_up HB.out hb9)
  clear hb9 HB
  have HB := HB9
  clear HB9
  go_wp2_with fail
  refine (lawMul_t k h1 h3 x y r2 hx hy E3.out w5).mono ?_
  rintro e w6 ⟨rfl, hb9⟩
  have HB9 := Lib.hid (below_up HB.out hb9)
  clear hb9 HB
  have HB := HB9
  clear HB9
  go_wp2_with fail
  refine (lawMul_t k h1 h3 y x r2 hy hx E4.out w6).mono ?_
  rintro e w7 ⟨rfl, hb9⟩
  have HB9 := Lib.hid (below_up HB.out hb9)
  clear hb9 HB
  have HB := HB9
  clear HB9
  go_wp2_with fail
  refine (lawAdd_t k h1 h3 x y r1 hx hy E1.out w7).mono ?_
  rintro e w8 ⟨rfl, hb9⟩
  have HB9 := Lib.hid (below_up HB.out hb9)
  clear hb9 HB
  have HB := HB9
  clear HB9
  go_wp2_with fail
  refine (lawAdd_t k h1 h3 r1 z r3 l1 hz E5.out w8).mono ?_
  rintro e w9 ⟨rfl, hb9⟩
  have HB9 := Lib.hid (below_up HB.out hb9)
  clear hb9 HB
  have HB := HB9
  clear HB9
  go_wp2_with fail
  refine (lawAdd_t k h1 h3 y z r4 hy hz E6.out w9).mono ?_
  rintro e w10 ⟨rfl, hb9⟩
  have HB9 := Lib.hid (below_up HB.out hb9)
  clear hb9 HB
  have HB := HB9
  clear HB9
  go_wp2_with fail
  refine (lawAdd_t k h1 h3 x r4 r3 hx l4 E7.out w10).mono ?_
  rintro e w11 ⟨rfl, hb9⟩
  have HB9 := Lib.hid (below_up HB.out hb9)
  clear hb9 HB
  have HB := HB9
  clear HB9
  go_wp2_with fail
  refine (lawMul_t k h1 h3 x y r2 hx hy E3.out w11).mono ?_
  rintro e w12 ⟨rfl, hb9⟩
  have HB9 := Lib.hid (below_up HB.out hb9)
  clear hb9 HB
  have HB := HB9
  clear HB9
  go_wp2_with fail
  refine (lawMul_t k h1 h3 r2 z r5 l2 hz E8.out w12).mono ?_
  rintro e w13 ⟨rfl, hb9⟩
  have HB9 := Lib.hid (below_up HB.out hb9)
  clear hb9 HB
  have HB := HB9
  clear HB9
  go_wp2_with fail
  refine (lawMul_t k h1 h3 y z r6 hy hz E9.out w13).mono ?_
  rintro e w14 ⟨rfl, hb9⟩
  have HB9 := Lib.hid (below_up HB.out hb9)
  clear hb9 HB
  have HB := HB9
  clear HB9
  go_wp2_with fail
  refine (lawMul_t k h1 h3 x r6 r5 hx l6 E10.out w14).mono ?_
  rintro e w15 ⟨rfl, hb9⟩
  have HB9 := Lib.hid (below_up HB.out hb9)
  clear hb9 HB
  have HB := HB9
  clear HB9
  go_wp2_with fail
  refine (lawAdd_t k h1 h3 y z r4 hy hz E6.out w15).mono ?_
  rintro e w16 ⟨rfl, hb9⟩
  have HB9 := Lib.hid (below_up HB.out hb9)
  clear hb9 HB
  have HB := HB9
  clear HB9
  go_wp2_with fail
  refine (lawMul_t k h1 h3 x r4 r7 hx l4 E11.out w16).mono ?_
  rintro e w17 ⟨rfl, hb9⟩
  have HB9 := Lib.hid (below_up HB.out hb9)
  clear hb9 HB
  have HB := HB9
  clear HB9
  go_wp2_with fail
  refine (lawMul_t k h1 h3 x y r2 hx hy E3.out w17).mono ?_
  rintro e w18 ⟨rfl, hb9⟩
  have HB9 := Lib.hid (below_up HB.out hb9)
  clear hb9 HB
  have HB := HB9
  clear HB9
  go_wp2_with fail
  refine (lawMul_t k h1 h3 x z r8 hx hz E12.out w18).mono ?_
  rintro e w19 ⟨rfl, hb9⟩
  have HB9 := Lib.hid (below_up HB.out hb9)
  clear hb9 HB
  have HB := HB9
  clear HB9
  go_wp2_with fail
  refine (lawAdd_t k h1 h3 r2 r8 r7 l2 l8 E13.out w19).mono ?_
  rintro e w20 ⟨rfl, hb9⟩
  have HB9 := Lib.hid (below_up HB.out hb9)
  clear hb9 HB
  have HB := HB9
  clear HB9
  go_wp2_with fail
  refine (lawAdd_t k h1 h3 x y r1 hx hy E1.out w20).mono ?_
  rintro e w21 ⟨rfl, hb9⟩
  have HB9 := Lib.hid (below_up HB.out hb9)
  clear hb9 HB
  have HB := HB9
  clear HB9
  go_wp2_with fail
  refine (sub_t k h1 h3 r1 y x l1 hy E14.out w21).mono ?_
  rintro e w22 ⟨rfl, hb9⟩
  have HB9 := Lib.hid (below_up HB.out hb9)
  clear hb9 HB
  have HB := HB9
  clear HB9
  go_wp2_with fail
  refine (number_t k h1 h3 1 1 (by decide) (by decide) (by unfold modI; rw [Int.emod_eq_of_lt (by decide) (by have := HQ1.out; omega)]; rfl) w22).mono ?_
  rintro e w23 ⟨rfl, hb9⟩
  have HB9 := Lib.hid (below_up HB.out hb9)
  clear hb9 HB
  have HB := HB9
  clear HB9
  go_wp2_with fail
  refine (inv_t k h1 h3 x r9 hx0 hx E15.out w23).mono ?_
  rintro e w24 ⟨rfl, hb9⟩
  have HB9 := Lib.hid (below_up HB.out hb9)
  clear hb9 HB
  have HB := HB9
  clear HB9
  go_wp2_with fail
  refine (lawMul_t k h1 h3 x r9 1 hx l9 E16.out w24).mono ?_
  rintro e w25 ⟨rfl, hb9⟩
  have HB9 := Lib.hid (below_up HB.out hb9)
  clear hb9 HB
  have HB := HB9
  clear HB9
  go_wp2_with fail
  go_ret
  exact ⟨rfl, HB.out⟩

theorem groupField_any (k : Int) (a b c : ByteArray) (w : World) : Calls Try.prog 9 #[.int .i64 k, .string a, .string b, .string c] w fun e w' => e = .returned (.bool true) ∧ Below w.heap.size w w' := by
  by_cases hk : 1 ≤ k ∧ k ≤ 3
  · obtain ⟨j, rfl⟩ : ∃ j : Nat, k = j := ⟨k.toNat, by omega⟩
    by_cases h : isSc (grp j).q.m (grp j).size a = true ∧ isSc (grp j).q.m (grp j).size b = true ∧ isSc (grp j).q.m (grp j).size c = true
    · obtain ⟨ha, hb, hc⟩ := h
      have fa := isSc_facts ha
      have fb := isSc_facts hb
      have fc := isSc_facts hc
      rw [T_of fa.1, T_of fb.1, T_of fc.1]
      rcases Nat.eq_zero_or_pos (numOf a) with h0 | h0
      · rw [h0]
        exact groupField_zero j (by omega) (by omega) _ _ fb.2 fc.2 w
      · exact groupField_pos j (by omega) (by omega) _ _ _ h0 fa.2 fb.2 fc.2 w
    · exact groupField_not j (by omega) (by omega) a b c h w
  · exact groupField_none k hk a b c w

set_option maxRecDepth 100000 in
theorem groupField_calls {H : Type} (enc : TypeId × Value → H) (W : World) (base : Nat) {v0 v1 v2 v3 : Value} {d0 d1 d2 d3 : DataW H} {p0 p1 p2 p3 : List MemPlace}
    (h0 : DataW.Trod enc Try.prog W 0 (fun _ => true) true 3 v0 d0 p0) (h1 : DataW.Trod enc Try.prog W 0 (fun _ => true) true 9 v1 d1 p1) (h2 : DataW.Trod enc Try.prog W 0 (fun _ => true) true 9 v2 d2 p2) (h3 : DataW.Trod enc Try.prog W 0 (fun _ => true) true 9 v3 d3 p3)
    (k0 : Value.okWide Try.prog W .any base 3 v0) (k1 : Value.okWide Try.prog W .any base 9 v1) (k2 : Value.okWide Try.prog W .any base 9 v2) (k3 : Value.okWide Try.prog W .any base 9 v3)
    (_lt0 : ∀ x ∈ p0, x.block < W.heap.size) (_lt1 : ∀ x ∈ p1, x.block < W.heap.size) (_lt2 : ∀ x ∈ p2, x.block < W.heap.size) (_lt3 : ∀ x ∈ p3, x.block < W.heap.size)
    (_hsz : (DataW.weightsEach Try.prog ([3, 9, 9, 9] ++ Rows.groupFieldSpec.plain.varTypes Try.prog) ([d0, d1, d2, d3] ++ [])).all (· ≤ reachBytes) = true) :
    Calls Try.prog 9 #[v0, v1, v2, v3] W fun e w' => e = .returned (.bool true) ∧ Below W.heap.size W w' := by
  obtain ⟨a, rfl, _, _, _⟩ := open_int Try.underlying3 k0 h0
  obtain ⟨s, rfl, _⟩ := Go.ChangeMaps.open_string Try.underlying9 k1 h1
  obtain ⟨n, rfl, _⟩ := Go.ChangeMaps.open_string Try.underlying9 k2 h2
  obtain ⟨m, rfl, _⟩ := Go.ChangeMaps.open_string Try.underlying9 k3 h3
  exact groupField_any a s n m W

set_option maxRecDepth 100000 in
theorem groupField_lifted (os : Os) (started : os.Started) (H : Type) (enc : TypeId × Value → H) :
    ReturnsInHanded {} Try.checked os 9 .any (Rows.groupFieldSpec.pre6 enc Try.prog Try.f9 Rows.groupFieldRow.domain false) (Rows.groupFieldSpec.post enc Try.prog Try.f9 false true false false) := by
  refine returnsInHanded_of_change_sized (C := Try.checked) law_own started (by kernel_rfl) Try.func9
    (ChangeSpec.witness6 (enc := enc) (C := Try.checked) false ⟨#[], #[.int .i64 0, .string ⟨#[]⟩, .string ⟨#[]⟩, .string ⟨#[]⟩], []⟩ 8 (by kernel_rfl) (by kernel_rfl) (by kernel_rfl) (by kernel_rfl)) ?_
  intro W base args ds gs before hval0 hW _ hsz0 _
  have hsz : (DataW.weightsEach Try.prog (Try.f9.params.toList ++ Rows.groupFieldSpec.plain.varTypes Try.prog) (ds ++ gs)).all (· ≤ reachBytes) = true := hsz0
  clear hsz0
  have hval : ∀ (j : Nat) t v, Try.f9.params[j]? = some t → args[j]? = some v → Value.okWide Try.prog W .any base t v := hval0
  have hW' := hW
  obtain ⟨p, q, hA0, hV, rfl, _, _⟩ := hW
  have hA : DataW.TrodAll enc Try.prog W 0 (fun _ => true) true Try.f9.params.toList args.toList ds p := hA0
  rw [Try.params9] at hA hval hsz
  obtain ⟨v0, vs0, d0, ds0, p0, q0, hargs, rfl, rfl, h0, r0⟩ := trodAll_cons hA
  obtain ⟨v1, vs1, d1, ds1, p1, q1, rfl, rfl, rfl, h1, r1⟩ := trodAll_cons r0
  obtain ⟨v2, vs2, d2, ds2, p2, q2, rfl, rfl, rfl, h2, r2⟩ := trodAll_cons r1
  obtain ⟨v3, vs3, d3, ds3, p3, q3, rfl, rfl, rfl, h3, r3⟩ := trodAll_cons r2
  obtain ⟨rfl, rfl, rfl⟩ := trodAll_nil r3
  obtain rfl : args = #[v0, v1, v2, v3] := by cases args; simp_all
  obtain ⟨rfl, rfl⟩ := trodVars_none hV
  have lt0 : ∀ x ∈ p0, x.block < W.heap.size := by obtain ⟨m, hm⟩ := h0; exact DataW.trod_lt m _ _ _ hm
  have lt1 : ∀ x ∈ p1, x.block < W.heap.size := by obtain ⟨m, hm⟩ := h1; exact DataW.trod_lt m _ _ _ hm
  have lt2 : ∀ x ∈ p2, x.block < W.heap.size := by obtain ⟨m, hm⟩ := h2; exact DataW.trod_lt m _ _ _ hm
  have lt3 : ∀ x ∈ p3, x.block < W.heap.size := by obtain ⟨m, hm⟩ := h3; exact DataW.trod_lt m _ _ _ hm
  clear hA0 hval0
  refine (groupField_calls enc W base h0 h1 h2 h3 (hval 0 3 v0 rfl rfl) (hval 1 9 v1 rfl rfl) (hval 2 9 v2 rfl rfl) (hval 3 9 v3 rfl rfl) lt0 lt1 lt2 lt3 hsz).mono fun e W' ⟨he, bel⟩ => ?_
  subst he
  exact ⟨_, rfl, _, _, _, [], _, [], hW', trodAll_mk1 (shut_bool Try.underlying4 _), (trodAll_cons_mk (Below.trod law_laidOut (by kernel_rfl) (of_decide_eq_true (by kernel_rfl)) h0 bel lt0) (trodAll_cons_mk (Below.trod law_laidOut (by kernel_rfl) (of_decide_eq_true (by kernel_rfl)) h1 bel lt1) (trodAll_cons_mk (Below.trod law_laidOut (by kernel_rfl) (of_decide_eq_true (by kernel_rfl)) h2 bel lt2) (trodAll_cons_mk (Below.trod law_laidOut (by kernel_rfl) (of_decide_eq_true (by kernel_rfl)) h3 bel lt3) trodAll_mk0)))), rfl, bel.frame _, fun h => by cases h⟩

theorem groupField_holds : Rows.GroupFieldSaid :=
  OpenClaim.holds_of_wide 9 Try.f9 rfl rfl rfl rfl rfl rfl rfl ⟨rfl, rfl, rfl, rfl, rfl⟩ rfl rfl rfl rfl rfl (by kernel_rfl) Try.func9 (by kernel_rfl)
    (of_decide_eq_true (by kernel_rfl)) (by unfold Func.isWrapper; first | (rw [if_pos (by decide +kernel)]; kernel_rfl) | (rw [if_neg (by decide +kernel)]; exact ⟨rfl, rfl⟩))
    (fun os started H enc _ => groupField_lifted os started H enc)
#print axioms groupField_holds



end Go.Proofs.Ytdmldnpadojflaa
